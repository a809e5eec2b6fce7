/- PRINTED BY sy.py: each call computes what the plain function of its number tells. -/
import Derived.Test.YtefjbhogpgihaaaW2
namespace Go.Proofs.Ytefjbhogpgihaaa
open Go Go.SX Go.RowKit
set_option maxRecDepth 100000
set_option linter.unusedVariables false
attribute [local irreducible] WPK RW RD Ret SX.Fin SX.Any opK RoundBeg RoundEnd RangeEnd Rounds
theorem c75 {w1 w : World} {M I : Nat → Prop} {F : List It} (p0 : T_api_Node) (p1 : Int) (A1 : Option Addr) (u1 : Nat) (A2 : Option Addr) (u2 : Nat) (A3 : Option Addr) (u3 : Nat) (hc1 : (p0.Pairs.length ≤ u1 ∧ u1 ≤ 9223372036854775807)) (e1 : Elems rp_T_api_Pair I w A1 p0.Pairs) (hc2 : (p0.Keys.length ≤ u2 ∧ u2 ≤ 9223372036854775807)) (e2 : Elems (Rp.slice (Rp.int .u8)) I w A2 p0.Keys) (hc3 : (p0.Kids.length ≤ u3 ∧ u3 ≤ 9223372036854775807)) (e3 : Elems (Rp.int .i64) I w A3 p0.Kids) (s : St w1 M I (F) w) {r : (T_api_Node × (List Int) × T_api_Node)} (hf : g75 p0 p1 = some r) :
   Ret Try.prog 75 [.agg #[.bool p0.Leaf, .slice A1 p0.Pairs.length u1, .slice A2 p0.Keys.length u2, .slice A3 p0.Kids.length u3], .int .i64 p1] w fun v wz => ∀ X : Value → World → Prop, (∀ (I' : Nat → Prop) (A4 : Option Addr) (u4 : Nat) (A5 : Option Addr) (u5 : Nat) (A6 : Option Addr) (u6 : Nat) (A7 : Option Addr) (u7 : Nat) (A8 : Option Addr) (u8 : Nat) (A9 : Option Addr) (u9 : Nat) (A10 : Option Addr) (u10 : Nat) (w' : World), St w1 M I' (F) w' → Kp I w I' w' → (r.1.Pairs.length ≤ u4 ∧ u4 ≤ 9223372036854775807) → Elems rp_T_api_Pair I' w' A4 r.1.Pairs → (r.1.Keys.length ≤ u5 ∧ u5 ≤ 9223372036854775807) → Elems (Rp.slice (Rp.int .u8)) I' w' A5 r.1.Keys → (r.1.Kids.length ≤ u6 ∧ u6 ≤ 9223372036854775807) → Elems (Rp.int .i64) I' w' A6 r.1.Kids → (r.2.1.length ≤ u7 ∧ u7 ≤ 9223372036854775807) → Elems (Rp.int .u8) I' w' A7 r.2.1 → (r.2.2.Pairs.length ≤ u8 ∧ u8 ≤ 9223372036854775807) → Elems rp_T_api_Pair I' w' A8 r.2.2.Pairs → (r.2.2.Keys.length ≤ u9 ∧ u9 ≤ 9223372036854775807) → Elems (Rp.slice (Rp.int .u8)) I' w' A9 r.2.2.Keys → (r.2.2.Kids.length ≤ u10 ∧ u10 ≤ 9223372036854775807) → Elems (Rp.int .i64) I' w' A10 r.2.2.Kids → X (.tuple #[.agg #[.bool r.1.Leaf, .slice A4 r.1.Pairs.length u4, .slice A5 r.1.Keys.length u5, .slice A6 r.1.Kids.length u6], .slice A7 r.2.1.length u7, .agg #[.bool r.2.2.Leaf, .slice A8 r.2.2.Pairs.length u8, .slice A9 r.2.2.Keys.length u9, .slice A10 r.2.2.Kids.length u10]]) w') → X v wz := by
 have kk : Kp I w I w := Kp.refl
 unfold g75 at hf
 refine Ret.of Try.func75 rfl ?_
 refine WPK.seq ?_
 refine WPK.region ?_
 refine RW.op (by kernel_rfl) (OK.new hT (f := fun b => .pointer (some ⟨b, 0, none⟩)) (cs := [.bool p0.Leaf, .slice A1 p0.Pairs.length u1, .slice A2 p0.Keys.length u2, .slice A3 p0.Kids.length u3]) (e := 26) (c := .tt) s (by kernel_rfl) trivial ?_)
 clear s
 rintro w2 b1 s k1 -
 replace e1 := e1.st k1
 replace e2 := e2.st k1
 replace e3 := e3.st k1
 replace kk := kk.trans k1
 refine RW.op (by kernel_rfl) (OK.new hT (f := fun b => .pointer (some ⟨b, 0, none⟩)) (cs := [.bool false, .slice none 0 0, .slice none 0 0, .slice none 0 0]) (e := 26) (c := .tt) s (by kernel_rfl) trivial ?_)
 clear s
 rintro w3 b2 s k2 -
 replace e1 := e1.st k2
 replace e2 := e2.st k2
 replace e3 := e3.st k2
 replace kk := kk.trans k2
 refine RW.seg hT 1 [] [] [.slice none 0 0] [] (by kernel_rfl) (trivial) ?_
 refine RW.op (by kernel_rfl) (OK.new hT (f := fun b => .pointer (some ⟨b, 0, none⟩)) (cs := [.bool false, .slice none 0 0, .slice none 0 0, .slice none 0 0]) (e := 26) (c := .tt) s (by kernel_rfl) trivial ?_)
 clear s
 rintro w4 b3 s k3 -
 replace e1 := e1.st k3
 replace e2 := e2.st k3
 replace e3 := e3.st k3
 replace kk := kk.trans k3
 refine RW.nil ?_
 refine WPK.seq ?_
 refine WPK.seq ?_
 refine WPK.region ?_
 refine RW.seg hT 2 [.bool p0.Leaf] [] [.pointer (some ⟨b1, 0, none⟩), .bool p0.Leaf] [.cell ⟨b1, 0, none⟩ (.bool p0.Leaf)] (by kernel_rfl) (s.cell (i := 2) (off := 0) rfl rfl) ?_
 refine RW.nil ?_
 by_cases h1 : p0.Leaf = true
 have hf := iteT h1 hf
 refine WPK.condT (Eq.trans (b := .bool p0.Leaf) (by kernel_rfl) (b_t h1)) ?_
 refine WPK.seq ?_
 have e1S1 := e1
 have e2S1 := e2
 have e3S1 := e3
 have kS1 : Kp I w4 I w4 := Kp.refl
 refine WPK.drawM (fun w' => ∃ I' : Nat → Prop, St w1 M I' ((.blk b1 (.cells #[.bool p0.Leaf, .slice A1 p0.Pairs.length u1, .slice A2 p0.Keys.length u2, .slice A3 p0.Kids.length u3] 26 (0, 0))) :: F) w' ∧ Kp I w4 I' w') 20 [0, 1, 0, 0, 15, 31, 0, 64, 0, 448, 960, 1984, 0, 4096, 0, 28672, 61440, 63, 135167, 524287] (by kernel_rfl) (by kernel_rfl) ?_
 intro ht1 w5 hd1
 have k4 := Kp.dr s hd1
 replace s := s.dr hd1
 replace e1 := e1.st k4
 replace e2 := e2.st k4
 replace e3 := e3.st k4
 replace kk := kk.trans k4
 replace kS1 := kS1.trans k4
 obtain ⟨h2, hf⟩ := iteS hf
 obtain ⟨y1, hy1, hf⟩ := bindS hf
 obtain ⟨u11, h3, hc4, e4, q1, q2⟩ := slS0m hc1 e1 hy1 h2
 obtain ⟨x1, hx1, hf⟩ := bindS hf
 obtain ⟨h4, hx1⟩ := getS hx1
 obtain ⟨b4, o1, rfl⟩ := Elems.opn e1 hx1
 obtain ⟨cs1, hr1, ha1, hb1⟩ := Elems.getI e1S1 hx1
 obtain ⟨cs2, cs3, rfl, hr2, hr3⟩ := hr1
 obtain ⟨A11, u12, rfl, q3, q4, e5⟩ := hr2
 have hc5 := And.intro q3 q4
 obtain ⟨A12, u13, rfl, q5, q6, e6⟩ := hr3
 have hc6 := And.intro q5 q6
 have e5S1 := e5
 replace e5 := e5.st kS1
 have e6S1 := e6
 replace e6 := e6.st kS1
 obtain ⟨y2, hy2, hf⟩ := bindS hf
 obtain ⟨A13, u14, h5, hc7, e7, q7, q8, q9⟩ := slS (size := 2) rfl hc1 e1 hy2
 refine RD.segM hT ht1 (by kernel_rfl) [0, 1, 2, 3, 4, 5, 6, 7, 8, 9, 10, 11, 12, 13, 14, 15, 16] [.slice (some ⟨b4, o1, none⟩) p0.Pairs.length u1, .slice (some ⟨b4, o1, none⟩) p0.Pairs.length u1, .slice A11 x1.Key.length u12, .slice (some ⟨b4, o1, none⟩) p0.Pairs.length u1] [(14, .slice (some ⟨b4, o1, none⟩) y1.length u11), (25, .slice A13 y2.length u14)] [.pointer (some ⟨b1, 1, none⟩), .slice (some ⟨b4, o1, none⟩) p0.Pairs.length u1, .int .i64 p1, .int .i64 p1, .slice (some ⟨b4, o1, none⟩) y1.length u11, .agg #[.bool true, .slice (some ⟨b4, o1, none⟩) y1.length u11, .slice none 0 0, .slice none 0 0], .pointer (some ⟨b1, 1, none⟩), .slice (some ⟨b4, o1, none⟩) p0.Pairs.length u1, .int .i64 p1, .pointer (some ⟨b4, o1 + p1.toNat * 2, none⟩), .pointer (some ⟨b4, o1 + p1.toNat * 2, none⟩), .slice A11 x1.Key.length u12, .pointer (some ⟨b1, 1, none⟩), .slice (some ⟨b4, o1, none⟩) p0.Pairs.length u1, .int .i64 p1, .slice A13 y2.length u14, .agg #[.bool true, .slice A13 y2.length u14, .slice none 0 0, .slice none 0 0]] [.cell ⟨b1, 1, none⟩ (.slice (some ⟨b4, o1, none⟩) p0.Pairs.length u1), .both (.cut 0 p1 p1 u1) (.veq (.slice (some ⟨b4, o1, none⟩) p1.toNat p1.toNat) (.slice (some ⟨b4, o1, none⟩) y1.length u11)), .cell ⟨b1, 1, none⟩ (.slice (some ⟨b4, o1, none⟩) p0.Pairs.length u1), .idx p1 p0.Pairs.length, .cell ⟨b4, o1 + p1.toNat * 2, none⟩ (.slice A11 x1.Key.length u12), .cell ⟨b1, 1, none⟩ (.slice (some ⟨b4, o1, none⟩) p0.Pairs.length u1), .both (.cut p1 (p0.Pairs.length : Int) u1 u1) (.veq (.slice (cutA (some ⟨b4, o1, none⟩) p1.toNat u1 2) (p0.Pairs.length - p1.toNat) (u1 - p1.toNat)) (.slice A13 y2.length u14))] (by kernel_rfl) (by rintro w' ⟨I', s, k⟩; have e1 := e1S1.st k; have e2 := e2S1.st k; have e3 := e3S1.st k; have e5 := e5S1.st k; have e6 := e6S1.st k; have ha1 := ha1.st k hb1; exact ⟨s.cell (i := 0) (off := 1) rfl rfl, ⟨⟨Int.le_refl _, h3⟩, sl_eq rfl q1 q2⟩, s.cell (i := 0) (off := 1) rfl rfl, h4, ha1 0 _ rfl, s.cell (i := 0) (off := 1) rfl rfl, ⟨⟨by omega, by omega, by omega, by omega⟩, sl_eq q7 q8 q9⟩⟩) ⟨_, s.pick [2] 3 rfl, kS1⟩ ?_
 refine RD.op (i := 17) rfl (by kernel_rfl) (by kernel_rfl) (OK.store hT (i := 1) (b := b2) (off := 0) (n := 4) (vs := [.bool true, .slice (some ⟨b4, o1, none⟩) y1.length u11, .slice none 0 0, .slice none 0 0]) (cs := [.bool false, .slice none 0 0, .slice none 0 0, .slice none 0 0]) (e := 26) s (by kernel_rfl) rfl rfl (flat_ok rfl) (Nat.le_of_ble_eq_true rfl) ?_)
 clear s
 rintro w6 s k5 -
 replace e1 := e1.st k5
 replace e2 := e2.st k5
 replace e3 := e3.st k5
 replace e4 := e4.st k5
 replace e5 := e5.st k5
 replace e7 := e7.st k5
 replace kk := kk.trans k5
 replace kS1 := kS1.trans k5
 refine ⟨fun _ => ⟨_, s.pick [2] 3 rfl, kS1⟩, RD.fold ?_⟩
 refine RD.segM hT ht1 (by kernel_rfl) [18] [] [] [.slice A11 x1.Key.length u12] [] (by kernel_rfl) (fun _ _ => trivial) ⟨_, s.pick [2] 3 rfl, kS1⟩ ?_
 refine RD.op (i := 19) rfl (by kernel_rfl) (by kernel_rfl) (OK.store hT (i := 0) (b := b3) (off := 0) (n := 4) (vs := [.bool true, .slice A13 y2.length u14, .slice none 0 0, .slice none 0 0]) (cs := [.bool false, .slice none 0 0, .slice none 0 0, .slice none 0 0]) (e := 26) s (by kernel_rfl) rfl rfl (flat_ok rfl) (Nat.le_of_ble_eq_true rfl) ?_)
 clear s
 rintro w7 s k6 -
 replace e1 := e1.st k6
 replace e2 := e2.st k6
 replace e3 := e3.st k6
 replace e5 := e5.st k6
 replace e4 := e4.st k6
 replace e7 := e7.st k6
 replace kk := kk.trans k6
 replace kS1 := kS1.trans k6
 refine ⟨fun _ => ⟨_, s.pick [2] 3 rfl, kS1⟩, RD.fold ?_⟩
 refine RD.done (by kernel_rfl) ?_
 refine WPK.ret (?_)
 obtain rfl := someS hf
 refine Fin.of (rs := [.cell 4 26, .tmp 5, .cell 6 26]) hT [.agg #[.bool true, .slice (some ⟨b4, o1, none⟩) y1.length u11, .slice none 0 0, .slice none 0 0], .agg #[.bool true, .slice A13 y2.length u14, .slice none 0 0, .slice none 0 0]] (.tuple #[.agg #[.bool true, .slice (some ⟨b4, o1, none⟩) y1.length u11, .slice none 0 0, .slice none 0 0], .slice A11 x1.Key.length u12, .agg #[.bool true, .slice A13 y2.length u14, .slice none 0 0, .slice none 0 0]]) [.cells ⟨b2, 0, none⟩ [.bool true, .slice (some ⟨b4, o1, none⟩) y1.length u11, .slice none 0 0, .slice none 0 0] 4, .cells ⟨b3, 0, none⟩ [.bool true, .slice A13 y2.length u14, .slice none 0 0, .slice none 0 0] 4] rfl (by kernel_rfl) (⟨s.cells (i := 1) rfl rfl rfl, s.cells (i := 0) rfl rfl rfl⟩) ?_
 replace s := s.pick [] 3 rfl
 exact fun X h => vc rfl (h I (some ⟨b4, o1, none⟩) u11 none 0 none 0 A11 u12 A13 u14 none 0 none 0 _ s kk hc4 e4 nil_hc Elems.nil nil_hc Elems.nil hc5 e5 hc7 e7 nil_hc Elems.nil nil_hc Elems.nil)
 have hf := iteF h1 hf
 refine WPK.condF (Eq.trans (b := .bool p0.Leaf) (by kernel_rfl) (b_f h1)) ?_
 refine WPK.skip ?_
 refine WPK.seq ?_
 have e1S2 := e1
 have e2S2 := e2
 have e3S2 := e3
 have kS2 : Kp I w4 I w4 := Kp.refl
 refine WPK.drawM (fun w' => ∃ I' : Nat → Prop, St w1 M I' ((.blk b3 (.cells #[.bool false, .slice none 0 0, .slice none 0 0, .slice none 0 0] 26 (0, 0))) :: (.blk b2 (.cells #[.bool false, .slice none 0 0, .slice none 0 0, .slice none 0 0] 26 (0, 0))) :: (.blk b1 (.cells #[.bool p0.Leaf, .slice A1 p0.Pairs.length u1, .slice A2 p0.Keys.length u2, .slice A3 p0.Kids.length u3] 26 (0, 0))) :: F) w' ∧ Kp I w4 I' w') 14 [0, 1, 0, 0, 15, 0, 32, 0, 128, 0, 512, 2016, 4095, 0, 16383] (by kernel_rfl) (by kernel_rfl) ?_
 intro ht2 w8 hd2
 have k7 := Kp.dr s hd2
 replace s := s.dr hd2
 replace e1 := e1.st k7
 replace e2 := e2.st k7
 replace e3 := e3.st k7
 replace kk := kk.trans k7
 replace kS2 := kS2.trans k7
 obtain ⟨h6, hf⟩ := iteS hf
 obtain ⟨y3, hy3, hf⟩ := bindS hf
 obtain ⟨u15, h7, hc8, e8, q10, q11⟩ := slS0m hc2 e2 hy3 h6
 obtain ⟨h8, hf⟩ := iteS hf
 obtain ⟨y4, hy4, hf⟩ := bindS hf
 obtain ⟨u16, h9, hc9, e9, q12, q13⟩ := slS0m hc3 e3 hy4 h8
 refine RD.segM hT ht2 (by kernel_rfl) [0, 1, 2, 3, 4, 5, 6, 7, 8, 9, 10, 11, 12] [.slice A2 p0.Keys.length u2, .slice A3 p0.Kids.length u3] [(31, .slice A2 y3.length u15), (38, .slice A3 y4.length u16)] [.pointer (some ⟨b1, 2, none⟩), .slice A2 p0.Keys.length u2, .int .i64 p1, .int .i64 p1, .slice A2 y3.length u15, .pointer (some ⟨b1, 3, none⟩), .slice A3 p0.Kids.length u3, .int .i64 p1, .int .i64 (IntKind.i64.wrap (p1 + 1)), .int .i64 p1, .int .i64 (IntKind.i64.wrap (p1 + 1)), .slice A3 y4.length u16, .agg #[.bool false, .slice none 0 0, .slice A2 y3.length u15, .slice A3 y4.length u16]] [.cell ⟨b1, 2, none⟩ (.slice A2 p0.Keys.length u2), .both (.cut 0 p1 p1 u2) (.veq (.slice A2 p1.toNat p1.toNat) (.slice A2 y3.length u15)), .cell ⟨b1, 3, none⟩ (.slice A3 p0.Kids.length u3), .both (.cut 0 (IntKind.i64.wrap (p1 + 1)) (IntKind.i64.wrap (p1 + 1)) u3) (.veq (.slice A3 (IntKind.i64.wrap (p1 + 1)).toNat (IntKind.i64.wrap (p1 + 1)).toNat) (.slice A3 y4.length u16))] (by kernel_rfl) (by rintro w' ⟨I', s, k⟩; have e1 := e1S2.st k; have e2 := e2S2.st k; have e3 := e3S2.st k; exact ⟨s.cell (i := 2) (off := 2) rfl rfl, ⟨⟨Int.le_refl _, h7⟩, sl_eq rfl q10 q11⟩, s.cell (i := 2) (off := 3) rfl rfl, ⟨⟨Int.le_refl _, h9⟩, sl_eq rfl q12 q13⟩⟩) ⟨_, s.pick [0, 1, 2] 3 rfl, kS2⟩ ?_
 refine RD.op (i := 13) rfl (by kernel_rfl) (by kernel_rfl) (OK.new hT (f := fun b => .pointer (some ⟨b, 0, none⟩)) (cs := [.bool false, .slice none 0 0, .slice none 0 0, .slice none 0 0]) (e := 26) (c := .tt) s (by kernel_rfl) trivial ?_)
 clear s
 rintro w9 b5 s k8 -
 replace e1 := e1.st k8
 replace e2 := e2.st k8
 replace e3 := e3.st k8
 replace e8 := e8.st k8
 replace e9 := e9.st k8
 replace kk := kk.trans k8
 replace kS2 := kS2.trans k8
 refine ⟨fun _ => ⟨_, s.pick [1, 2, 3] 4 rfl, kS2⟩, RD.fold ?_⟩
 refine RD.op (i := 14) rfl (by kernel_rfl) (by kernel_rfl) (OK.store hT (i := 0) (b := b5) (off := 0) (n := 4) (vs := [.bool false, .slice none 0 0, .slice A2 y3.length u15, .slice A3 y4.length u16]) (cs := [.bool false, .slice none 0 0, .slice none 0 0, .slice none 0 0]) (e := 26) s (by kernel_rfl) rfl rfl (flat_ok rfl) (Nat.le_of_ble_eq_true rfl) ?_)
 clear s
 rintro w10 s k9 -
 replace e1 := e1.st k9
 replace e2 := e2.st k9
 replace e3 := e3.st k9
 replace e8 := e8.st k9
 replace e9 := e9.st k9
 replace kk := kk.trans k9
 replace kS2 := kS2.trans k9
 refine ⟨fun h => absurd h (by decide), RD.fold ?_⟩
 refine RD.done (by kernel_rfl) ?_
 refine WPK.seq ?_
 have e1S3 := e1
 have e2S3 := e2
 have e3S3 := e3
 have e8S3 := e8
 have e9S3 := e9
 have kS3 : Kp I w10 I w10 := Kp.refl
 refine WPK.drawM (fun w' => ∃ I' : Nat → Prop, St w1 M I' ((.blk b5 (.cells #[.bool false, .slice none 0 0, .slice A2 y3.length u15, .slice A3 y4.length u16] 26 (0, 0))) :: (.blk b1 (.cells #[.bool p0.Leaf, .slice A1 p0.Pairs.length u1, .slice A2 p0.Keys.length u2, .slice A3 p0.Kids.length u3] 26 (0, 0))) :: F) w' ∧ Kp I w10 I' w') 20 [0, 0, 2, 0, 14, 30, 0, 64, 0, 256, 960, 0, 2048, 0, 8192, 30720, 65472, 1, 131135, 524287] (by kernel_rfl) (by kernel_rfl) ?_
 intro ht3 w11 hd3
 have k10 := Kp.dr s hd3
 replace s := s.dr hd3
 replace e1 := e1.st k10
 replace e2 := e2.st k10
 replace e3 := e3.st k10
 replace e8 := e8.st k10
 replace e9 := e9.st k10
 replace kk := kk.trans k10
 replace kS3 := kS3.trans k10
 obtain ⟨x2, hx2, hf⟩ := bindS hf
 obtain ⟨h10, hx2⟩ := getS hx2
 obtain ⟨b6, o2, rfl⟩ := Elems.opn e2 hx2
 obtain ⟨cs4, hr4, ha2, hb2⟩ := Elems.getI e2S3 hx2
 obtain ⟨A14, u17, rfl, q14, q15, e10⟩ := hr4
 have hc10 := And.intro q14 q15
 have e10S3 := e10
 replace e10 := e10.st kS3
 obtain ⟨y5, hy5, hf⟩ := bindS hf
 obtain ⟨A15, u18, h11, hc11, e11, q16, q17, q18⟩ := slS (size := 1) rfl hc2 e2 hy5
 obtain ⟨y6, hy6, hf⟩ := bindS hf
 obtain ⟨A16, u19, h12, hc12, e12, q19, q20, q21⟩ := slS (size := 1) rfl hc3 e3 hy6
 refine RD.segM hT ht3 (by kernel_rfl) [0, 1, 2, 3, 4, 5, 6, 7, 8, 9, 10, 11, 12, 13, 14, 15, 16] [.agg #[.bool false, .slice none 0 0, .slice (some ⟨b6, o2, none⟩) y3.length u15, .slice A3 y4.length u16], .slice (some ⟨b6, o2, none⟩) p0.Keys.length u2, .slice A14 x2.length u17, .slice (some ⟨b6, o2, none⟩) p0.Keys.length u2, .slice A3 p0.Kids.length u3] [(50, .slice A15 y5.length u18), (55, .slice A16 y6.length u19)] [.agg #[.bool false, .slice none 0 0, .slice (some ⟨b6, o2, none⟩) y3.length u15, .slice A3 y4.length u16], .pointer (some ⟨b1, 2, none⟩), .slice (some ⟨b6, o2, none⟩) p0.Keys.length u2, .int .i64 p1, .pointer (some ⟨b6, o2 + p1.toNat * 1, none⟩), .slice A14 x2.length u17, .pointer (some ⟨b1, 2, none⟩), .slice (some ⟨b6, o2, none⟩) p0.Keys.length u2, .int .i64 p1, .int .i64 (IntKind.i64.wrap (p1 + 1)), .slice A15 y5.length u18, .pointer (some ⟨b1, 3, none⟩), .slice A3 p0.Kids.length u3, .int .i64 p1, .int .i64 (IntKind.i64.wrap (p1 + 1)), .slice A16 y6.length u19, .agg #[.bool false, .slice none 0 0, .slice A15 y5.length u18, .slice A16 y6.length u19]] [.cells ⟨b5, 0, none⟩ [.bool false, .slice none 0 0, .slice (some ⟨b6, o2, none⟩) y3.length u15, .slice A3 y4.length u16] 4, .cell ⟨b1, 2, none⟩ (.slice (some ⟨b6, o2, none⟩) p0.Keys.length u2), .idx p1 p0.Keys.length, .cell ⟨b6, o2 + p1.toNat * 1, none⟩ (.slice A14 x2.length u17), .cell ⟨b1, 2, none⟩ (.slice (some ⟨b6, o2, none⟩) p0.Keys.length u2), .both (.cut (IntKind.i64.wrap (p1 + 1)) (p0.Keys.length : Int) u2 u2) (.veq (.slice (cutA (some ⟨b6, o2, none⟩) (IntKind.i64.wrap (p1 + 1)).toNat u2 1) (p0.Keys.length - (IntKind.i64.wrap (p1 + 1)).toNat) (u2 - (IntKind.i64.wrap (p1 + 1)).toNat)) (.slice A15 y5.length u18)), .cell ⟨b1, 3, none⟩ (.slice A3 p0.Kids.length u3), .both (.cut (IntKind.i64.wrap (p1 + 1)) (p0.Kids.length : Int) u3 u3) (.veq (.slice (cutA A3 (IntKind.i64.wrap (p1 + 1)).toNat u3 1) (p0.Kids.length - (IntKind.i64.wrap (p1 + 1)).toNat) (u3 - (IntKind.i64.wrap (p1 + 1)).toNat)) (.slice A16 y6.length u19))] (by kernel_rfl) (by rintro w' ⟨I', s, k⟩; have e1 := e1S3.st k; have e2 := e2S3.st k; have e3 := e3S3.st k; have e8 := e8S3.st k; have e9 := e9S3.st k; have e10 := e10S3.st k; have ha2 := ha2.st k hb2; exact ⟨s.cells (i := 0) rfl rfl rfl, s.cell (i := 1) (off := 2) rfl rfl, h10, ha2 0 _ rfl, s.cell (i := 1) (off := 2) rfl rfl, ⟨⟨by omega, by omega, by omega, by omega⟩, sl_eq q16 q17 q18⟩, s.cell (i := 1) (off := 3) rfl rfl, ⟨⟨by omega, by omega, by omega, by omega⟩, sl_eq q19 q20 q21⟩⟩) ⟨_, s.pick [0, 3] 4 rfl, kS3⟩ ?_
 refine RD.op (i := 17) rfl (by kernel_rfl) (by kernel_rfl) (OK.store hT (i := 2) (b := b2) (off := 0) (n := 4) (vs := [.bool false, .slice none 0 0, .slice (some ⟨b6, o2, none⟩) y3.length u15, .slice A3 y4.length u16]) (cs := [.bool false, .slice none 0 0, .slice none 0 0, .slice none 0 0]) (e := 26) s (by kernel_rfl) rfl rfl (flat_ok rfl) (Nat.le_of_ble_eq_true rfl) ?_)
 clear s
 rintro w12 s k11 -
 replace e1 := e1.st k11
 replace e2 := e2.st k11
 replace e3 := e3.st k11
 replace e8 := e8.st k11
 replace e9 := e9.st k11
 replace e10 := e10.st k11
 replace e11 := e11.st k11
 replace e12 := e12.st k11
 replace kk := kk.trans k11
 replace kS3 := kS3.trans k11
 refine ⟨fun _ => ⟨_, s.pick [0, 3] 4 rfl, kS3⟩, RD.fold ?_⟩
 refine RD.segM hT ht3 (by kernel_rfl) [18] [] [] [.slice A14 x2.length u17] [] (by kernel_rfl) (fun _ _ => trivial) ⟨_, s.pick [0, 3] 4 rfl, kS3⟩ ?_
 refine RD.op (i := 19) rfl (by kernel_rfl) (by kernel_rfl) (OK.store hT (i := 1) (b := b3) (off := 0) (n := 4) (vs := [.bool false, .slice none 0 0, .slice A15 y5.length u18, .slice A16 y6.length u19]) (cs := [.bool false, .slice none 0 0, .slice none 0 0, .slice none 0 0]) (e := 26) s (by kernel_rfl) rfl rfl (flat_ok rfl) (Nat.le_of_ble_eq_true rfl) ?_)
 clear s
 rintro w13 s k12 -
 replace e1 := e1.st k12
 replace e2 := e2.st k12
 replace e3 := e3.st k12
 replace e10 := e10.st k12
 replace e8 := e8.st k12
 replace e9 := e9.st k12
 replace e11 := e11.st k12
 replace e12 := e12.st k12
 replace kk := kk.trans k12
 replace kS3 := kS3.trans k12
 refine ⟨fun _ => ⟨_, s.pick [0, 3] 4 rfl, kS3⟩, RD.fold ?_⟩
 refine RD.done (by kernel_rfl) ?_
 refine WPK.ret (?_)
 obtain rfl := someS hf
 refine Fin.of (rs := [.cell 4 26, .tmp 5, .cell 6 26]) hT [.agg #[.bool false, .slice none 0 0, .slice (some ⟨b6, o2, none⟩) y3.length u15, .slice A3 y4.length u16], .agg #[.bool false, .slice none 0 0, .slice A15 y5.length u18, .slice A16 y6.length u19]] (.tuple #[.agg #[.bool false, .slice none 0 0, .slice (some ⟨b6, o2, none⟩) y3.length u15, .slice A3 y4.length u16], .slice A14 x2.length u17, .agg #[.bool false, .slice none 0 0, .slice A15 y5.length u18, .slice A16 y6.length u19]]) [.cells ⟨b2, 0, none⟩ [.bool false, .slice none 0 0, .slice (some ⟨b6, o2, none⟩) y3.length u15, .slice A3 y4.length u16] 4, .cells ⟨b3, 0, none⟩ [.bool false, .slice none 0 0, .slice A15 y5.length u18, .slice A16 y6.length u19] 4] rfl (by kernel_rfl) (⟨s.cells (i := 2) rfl rfl rfl, s.cells (i := 1) rfl rfl rfl⟩) ?_
 replace s := s.pick [] 4 rfl
 exact fun X h => vc rfl (h I none 0 (some ⟨b6, o2, none⟩) u15 A3 u16 A14 u17 none 0 A15 u18 A16 u19 _ s kk nil_hc Elems.nil hc8 e8 hc9 e9 hc10 e10 nil_hc Elems.nil hc11 e11 hc12 e12)
theorem c76 {w1 w : World} {M I : Nat → Prop} {F : List It} (p0 : Int) (p1 : Int) (s : St w1 M I (F) w) {r : Int} (hf : g76 p0 p1 = some r) :
   Ret Try.prog 76 [.int .i64 p0, .int .i64 p1] w fun v wz => ∀ X : Value → World → Prop, (∀ (I' : Nat → Prop) (w' : World), St w1 M I' (F) w' → Kp I w I' w' → X (.int .i64 r) w') → X v wz := by
 have kk : Kp I w I w := Kp.refl
 unfold g76 at hf
 refine Ret.of Try.func76 rfl ?_
 refine WPK.seq ?_
 refine WPK.region ?_
 refine RW.seg hT 1 [] [] [.int .i64 0] [] (by kernel_rfl) (trivial) ?_
 refine RW.nil ?_
 refine WPK.seq ?_
 refine WPK.region ?_
 obtain ⟨x1, hx1, hf⟩ := bindS hf
 refine RW.seg hT 8 [] [(4, .int .i64 x1)] [.int .i64 p0, .int .i64 p1, .int .i64 (IntKind.i64.wrap (p0 - p1)), .int .i64 p1, .int .i64 p0, .int .i64 (IntKind.i64.wrap (p1 - p0)), .int .i64 (if IntKind.i64.wrap (p1 - p0) > IntKind.i64.wrap (p0 - p1) then IntKind.i64.wrap (p1 - p0) else IntKind.i64.wrap (p0 - p1)), .int .i64 x1] [.veq (.int .i64 (if IntKind.i64.wrap (p1 - p0) > IntKind.i64.wrap (p0 - p1) then IntKind.i64.wrap (p1 - p0) else IntKind.i64.wrap (p0 - p1))) (.int .i64 x1)] (by kernel_rfl) (int_v (someS hx1)) ?_
 refine RW.nil ?_
 refine WPK.ret (?_)
 obtain rfl := someS hf
 refine Fin.of (rs := [.tmp 4]) hT [] (.int .i64 x1) [] rfl (by kernel_rfl) (trivial) ?_
 exact fun X h => vc rfl (h I _ s kk)
theorem c59 {w1 w : World} {M I : Nat → Prop} {F : List It} (p0 : (List Int)) (A1 : Option Addr) (u1 : Nat) (hc1 : (p0.length ≤ u1 ∧ u1 ≤ 9223372036854775807)) (e1 : Elems (Rp.int .i64) I w A1 p0) (s : St w1 M I (F) w) {r : (List Int)} (hf : g59 p0 = some r) :
   Ret Try.prog 59 [.slice A1 p0.length u1] w fun v wz => ∀ X : Value → World → Prop, (∀ (I' : Nat → Prop) (A2 : Option Addr) (n1 : Nat) (u2 : Nat) (cl1 : List Value) (w' : World), St w1 M I' ((.sl (.slice A2 n1 u2) 3 1 n1 cl1) :: F) w' → Kp I w I' w' → n1 = r.length → RepL (Rp.int .i64) I' w' cl1 r → X (.slice A2 n1 u2) w') → X v wz := by
 have kk : Kp I w I w := Kp.refl
 unfold g59 at hf
 refine Ret.of Try.func59 rfl ?_
 refine WPK.seq ?_
 refine WPK.region ?_
 refine RW.seg hT 1 [] [] [.slice none 0 0] [] (by kernel_rfl) (trivial) ?_
 refine RW.nil ?_
 refine WPK.seq ?_
 refine WPK.seq ?_
 refine WPK.region ?_
 refine RW.seg hT 1 [] [] [.slice A1 p0.length u1] [] (by kernel_rfl) (trivial) ?_
 rcases A1 with _ | a1
 have hx1 : p0 = [] := Elems.none_nil e1
 replace hf : (some ([] : List Int)) = some r := by simpa [hx1, appI, List.length_nil] using hf
 refine RW.seg hT 1 [] [] [.bool true] [] (by kernel_rfl) (trivial) ?_
 refine RW.nil ?_
 refine WPK.condT (by kernel_rfl) ?_
 refine WPK.seq ?_
 refine WPK.region ?_
 refine RW.seg hT 1 [] [] [.slice none 0 0] [] (by kernel_rfl) (trivial) ?_
 refine RW.nil ?_
 refine WPK.ret (?_)
 obtain rfl := someS hf
 refine Fin.of (rs := [.tmp 2]) hT [] (.slice none 0 0) [] rfl (by kernel_rfl) (trivial) ?_
 replace s := s.pushNil 3 1
 exact fun X h => vc rfl (h I none 0 0 [] _ s kk rfl (RepL.nil (r := (Rp.int .i64))))
 refine RW.seg hT 1 [] [] [.bool false] [] (by kernel_rfl) (trivial) ?_
 refine RW.nil ?_
 refine WPK.condF (by kernel_rfl) ?_
 refine WPK.skip ?_
 refine WPK.seq ?_
 refine WPK.region ?_
 refine RW.op (by kernel_rfl) (OK.new hT (f := fun b => .slice (some ⟨b, 0, none⟩) 0 0) (cs := []) (e := 3) (c := .tt) s (by kernel_rfl) trivial ?_)
 clear s
 rintro w2 b1 s k1 -
 replace e1 := e1.st k1
 replace kk := kk.trans k1
 have rp1 : RepL (Rp.int .i64) I w2 [] ([] : List Int) := RepL.nil
 replace s : St w1 M I ((.sl (.slice (some ⟨b1, 0, none⟩) 0 0) 3 1 0 []) :: F) w2 := s.blkSl (i := 0) (n := 0) (c := 0) (size := 1) rfl rfl (Nat.le_refl _) (by decide)
 refine RW.seg hT 1 [] [] [.slice (some a1) p0.length u1] [] (by kernel_rfl) (trivial) ?_
 obtain ⟨nw1, hs1, rq1⟩ := Elems.src e1
 obtain ⟨x1, hx2, hf⟩ := bindS hf
 refine RW.op (by kernel_rfl) (OK.app hT (r := (Rp.int .i64)) (i := 0) (t := 24) (e := 3) (size := 1) (bytes := 8) (c := 0) (n := 0) (m := p0.length) s (by kernel_rfl) rfl rfl rfl rfl rfl (by decide) rfl rfl rfl rfl rp1 hs1 rq1 flat_int rfl hx2 ?_)
 clear s
 rintro A3 u3 cl2 w3 s k2 rp2
 replace e1 := e1.st k2
 replace rp1 := rp1.st k2
 replace kk := kk.trans k2
 refine RW.seg hT 1 [] [] [.slice A3 x1.length u3] [] (by kernel_rfl) (trivial) ?_
 refine RW.nil ?_
 refine WPK.ret (?_)
 obtain rfl := someS hf
 refine Fin.of (rs := [.tmp 2]) hT [] (.slice A3 x1.length u3) [] rfl (by kernel_rfl) (trivial) ?_
 exact fun X h => vc rfl (h I A3 x1.length u3 cl2 _ s kk rfl rp2)
theorem c95 {w1 w : World} {M I : Nat → Prop} {F : List It} (p0 : (List (List Int))) (A1 : Option Addr) (u1 : Nat) (hc1 : (p0.length ≤ u1 ∧ u1 ≤ 9223372036854775807)) (e1 : Elems (Rp.slice (Rp.int .u8)) I w A1 p0) (s : St w1 M I (F) w) {r : (List Int)} (hf : g95 p0 = some r) :
   Ret Try.prog 95 [.slice A1 p0.length u1] w fun v wz => ∀ X : Value → World → Prop, (∀ (I' : Nat → Prop) (A2 : Option Addr) (n1 : Nat) (u2 : Nat) (cl1 : List Value) (w' : World), St w1 M I' ((.sl (.slice A2 n1 u2) 5 1 n1 cl1) :: F) w' → Kp I w I' w' → n1 = r.length → RepL (Rp.int .u8) I' w' cl1 r → X (.slice A2 n1 u2) w') → X v wz := by
 have kk : Kp I w I w := Kp.refl
 unfold g95 at hf
 refine Ret.of Try.func95 rfl ?_
 refine WPK.seq ?_
 refine WPK.region ?_
 refine RW.seg hT 1 [] [] [.slice none 0 0] [] (by kernel_rfl) (trivial) ?_
 refine RW.nil ?_
 refine WPK.seq ?_
 refine WPK.region ?_
 refine RW.seg hT 1 [] [] [.int .i64 0] [] (by kernel_rfl) (trivial) ?_
 refine RW.nil ?_
 refine WPK.seq ?_
 refine WPK.seq ?_
 refine WPK.region ?_
 refine RW.seg hT 3 [] [] [.slice A1 p0.length u1, .int .i64 (p0.length : Int), .int .i64 0] [] (by kernel_rfl) (trivial) ?_
 refine RW.nil ?_
 refine WPK.block ?_
 refine WPK.loop' (J := fun n2 D1 ds wz => ∀ X : Kont, (∀ (x1 : Int) (x2 : Int), g95_l1 p0 n2 x1 x2 = some r → X [.slice A1 p0.length u1, (gd D1 1), .slice none 0 0, .int .i64 x1, (gd D1 4), (gd D1 5), undef, (gd D1 7), undef, .slice A1 p0.length u1, .int .i64 (p0.length : Int), .int .i64 x2, (gd D1 12), (gd D1 13), (gd D1 14), (gd D1 15), (gd D1 16), (gd D1 17), (gd D1 18), (gd D1 19), (gd D1 20), undef, (gd D1 22), undef, undef, undef, undef, undef, undef, undef, undef, undef, undef, undef, undef, undef] [] w) → X D1 ds wz) FUEL (fun X h => kc (by kernel_rfl) rfl (h 0 0 hf)) (fun _ _ _ hJ => hJ (fun _ _ _ => False) (by intro x1 x2 hf; exact noneS hf)) ?_
 intro X1 hX1
 refine fun n2 D1 _ _ hJ => hJ (X1 n2) ?_
 intro x1 x2 hf
 refine hX1 _ _ _ _ ?_
 replace hf : g95_l1B p0 (g95_l1 p0 n2) x1 x2 = some r := hf
 generalize hrec1 : g95_l1 p0 n2 = rec1 at hf
 unfold g95_l1B at hf
 refine WPK.seq ?_
 refine WPK.region ?_
 refine RW.seg hT 1 [] [] [.bool (decide (x2 < (p0.length : Int)))] [] (by kernel_rfl) (trivial) ?_
 refine RW.nil ?_
 refine WPK.seq ?_
 by_cases h1 : x2 < (p0.length : Int)
 have hf := iteT h1 hf
 refine WPK.condT (Eq.trans (b := .bool (decide (x2 < (p0.length : Int)))) (by kernel_rfl) (bo_t h1)) ?_
 refine WPK.skip ?_
 refine WPK.seq ?_
 refine WPK.block ?_
 refine WPK.seq ?_
 refine WPK.region ?_
 obtain ⟨x3, hx1, hf⟩ := bindS hf
 obtain ⟨h2, hx1⟩ := getS hx1
 obtain ⟨b1, o1, rfl⟩ := Elems.opn e1 hx1
 obtain ⟨cs1, hr1, ha1⟩ := Elems.get e1 hx1
 obtain ⟨A3, u3, rfl, q1, q2, e2⟩ := hr1
 have hc2 := And.intro q1 q2
 refine RW.seg hT 3 [.slice A3 x3.length u3] [] [.pointer (some ⟨b1, o1 + x2.toNat * 1, none⟩), .slice A3 x3.length u3, .slice A3 x3.length u3] [.idx x2 p0.length, .cell ⟨b1, o1 + x2.toNat * 1, none⟩ (.slice A3 x3.length u3)] (by kernel_rfl) (⟨h2, ha1 0 _ rfl⟩) ?_
 refine RW.nil ?_
 refine WPK.seq ?_
 refine WPK.region ?_
 refine RW.seg hT 5 [] [] [.int .i64 x1, .slice A3 x3.length u3, .int .i64 (x3.length : Int), .int .i64 (IntKind.i64.wrap (x1 + (x3.length : Int))), .int .i64 (IntKind.i64.wrap (x1 + (x3.length : Int)))] [] (by kernel_rfl) (trivial) ?_
 refine RW.nil ?_
 refine WPK.seq ?_
 refine WPK.region ?_
 refine RW.seg hT 2 [] [] [.int .i64 (IntKind.i64.wrap (x1 + (x3.length : Int))), .bool (decide ((IntKind.i64.wrap (x1 + (x3.length : Int))) < 0))] [] (by kernel_rfl) (trivial) ?_
 refine RW.nil ?_
 by_cases h3 : (IntKind.i64.wrap (x1 + (x3.length : Int))) < 0
 have hf := iteT h3 hf
 refine WPK.condT (Eq.trans (b := .bool (decide ((IntKind.i64.wrap (x1 + (x3.length : Int))) < 0))) (by kernel_rfl) (bo_t h3)) ?_
 refine WPK.region ?_
 exact noneS hf
 have hf := iteF h3 hf
 refine WPK.condF (Eq.trans (b := .bool (decide ((IntKind.i64.wrap (x1 + (x3.length : Int))) < 0))) (by kernel_rfl) (bo_f h3)) ?_
 refine WPK.skip ?_
 refine WPK.region ?_
 refine RW.seg hT 2 [] [] [.int .i64 (IntKind.i64.wrap (x2 + 1)), .int .i64 (IntKind.i64.wrap (x2 + 1))] [] (by kernel_rfl) (trivial) ?_
 refine RW.nil ?_
 subst hrec1
 exact ⟨n2, Nat.le_refl _, fun X h => kc (by kernel_rfl) rfl (h (IntKind.i64.wrap (x1 + (x3.length : Int))) (IntKind.i64.wrap (x2 + 1)) hf)⟩
 have hf := iteF h1 hf
 refine WPK.condF (Eq.trans (b := .bool (decide (x2 < (p0.length : Int)))) (by kernel_rfl) (bo_f h1)) ?_
 refine WPK.exit (blockQ.same ?_)
 refine WPK.seq ?_
 refine WPK.region ?_
 refine RW.seg hT 1 [] [] [.int .i64 x1] [] (by kernel_rfl) (trivial) ?_
 refine RW.op (by kernel_rfl) (OK.inl (args := [.slice none 0 0, .int .i64 x1]) en111 (by kernel_rfl) ?_)
 intro R1 hR1
 refine Ret.of Try.func111 rfl ?_
 refine WPK.seq ?_
 refine WPK.region ?_
 refine RW.seg hT 1 [] [] [.slice none 0 0] [] (by kernel_rfl) (trivial) ?_
 refine RW.nil ?_
 refine WPK.seq ?_
 refine WPK.seq ?_
 refine WPK.region ?_
 refine RW.seg hT 2 [] [] [.int .i64 x1, .bool (decide (x1 < 0))] [] (by kernel_rfl) (trivial) ?_
 refine RW.nil ?_
 by_cases h4 : x1 < 0
 have hf := iteT h4 hf
 refine WPK.condT (Eq.trans (b := .bool (decide (x1 < 0))) (by kernel_rfl) (bo_t h4)) ?_
 refine WPK.region ?_
 exact noneS hf
 have hf := iteF h4 hf
 refine WPK.condF (Eq.trans (b := .bool (decide (x1 < 0))) (by kernel_rfl) (bo_f h4)) ?_
 refine WPK.skip ?_
 refine WPK.seq ?_
 refine WPK.cut' (Kn fun D2 ds wz => ∀ X : Kont, (∀ (I1 : Nat → Prop) (x4 : (List Int)) (A4 : Option Addr) (n3 : Nat) (u4 : Nat) (cl2 : List Value) (w' : World), g95_j2 p0 x4 = some r → St w1 M I1 ((.sl (.slice A4 n3 u4) 5 1 n3 cl2) :: F) w' → Kp I w I1 w' → n3 = x4.length → RepL (Rp.int .u8) I1 w' cl2 x4 → Elems (Rp.slice (Rp.int .u8)) I1 w' A1 p0 → X [.slice A4 n3 u4, (gd D2 1), (gd D2 2), (gd D2 3), .slice none 0 0, (gd D2 5), (gd D2 6), (gd D2 7), (gd D2 8), (gd D2 9), (gd D2 10), (gd D2 11), (gd D2 12), (gd D2 13), (gd D2 14), (gd D2 15), (gd D2 16), (gd D2 17), (gd D2 18), (gd D2 19), (gd D2 20), (gd D2 21), (gd D2 22), (gd D2 23), (gd D2 24), (gd D2 25), undef] [] w') → X D2 ds wz) ?_ ?_
 intro X2 hX2
 refine fun D2 _ _ hJ => hJ X2 ?_
 clear s
 intro I1 x4 A4 n3 u4 cl2 w2 hf s kk hn1 rp1 e1
 refine hX2 _ _ _ ?_
 unfold g95_j2 at hf
 refine WPK.seq ?_
 refine WPK.region ?_
 refine RW.seg hT 2 [] [] [.slice A4 n3 u4, .slice A4 n3 u4] [] (by kernel_rfl) (trivial) ?_
 refine RW.nil ?_
 refine WPK.ret (?_)
 refine Fin.of (rs := [.tmp 4]) hT [] (.slice A4 n3 u4) [] rfl (by kernel_rfl) (trivial) ?_
 refine hR1 _ _ ?_
 refine RW.seg hT 1 [] [] [.slice A4 n3 u4] [] (by kernel_rfl) (trivial) ?_
 refine RW.nil ?_
 refine WPK.seq ?_
 refine WPK.seq ?_
 refine WPK.region ?_
 refine RW.seg hT 3 [] [] [.slice A1 p0.length u1, .int .i64 (p0.length : Int), .int .i64 0] [] (by kernel_rfl) (trivial) ?_
 refine RW.nil ?_
 refine WPK.block ?_
 refine WPK.loop' (J := fun n4 D3 ds wz => ∀ X : Kont, (∀ (I2 : Nat → Prop) (x5 : (List Int)) (x6 : Int) (A5 : Option Addr) (n5 : Nat) (u5 : Nat) (cl3 : List Value) (w' : World), g95_l3 p0 n4 x5 x6 = some r → St w1 M I2 ((.sl (.slice A5 n5 u5) 5 1 n5 cl3) :: F) w' → Kp I w I2 w' → n5 = x5.length → RepL (Rp.int .u8) I2 w' cl3 x5 → Elems (Rp.slice (Rp.int .u8)) I2 w' A1 p0 → X [(gd D3 0), (gd D3 1), .slice none 0 0, (gd D3 3), (gd D3 4), (gd D3 5), .slice A5 n5 u5, (gd D3 7), (gd D3 8), (gd D3 9), (gd D3 10), (gd D3 11), (gd D3 12), (gd D3 13), (gd D3 14), (gd D3 15), (gd D3 16), (gd D3 17), (gd D3 18), (gd D3 19), (gd D3 20), (gd D3 21), (gd D3 22), (gd D3 23), (gd D3 24), .slice A1 p0.length u1, .int .i64 (p0.length : Int), .int .i64 x6, (gd D3 28), (gd D3 29), (gd D3 30), (gd D3 31), (gd D3 32), (gd D3 33), (gd D3 34), undef] [] w') → X D3 ds wz) FUEL (fun X h => kc (by kernel_rfl) rfl (h I1 x4 0 A4 n3 u4 cl2 _ hf s kk hn1 rp1 e1)) (fun _ _ _ hJ => hJ (fun _ _ _ => False) (by intro I2 x5 x6 A5 n5 u5 cl3 w3 hf s kk hn2 rp2 e1; exact noneS hf)) ?_
 intro X3 hX3
 refine fun n4 D3 _ _ hJ => hJ (X3 n4) ?_
 clear s
 intro I2 x5 x6 A5 n5 u5 cl3 w3 hf s kk hn2 rp2 e1
 refine hX3 _ _ _ _ ?_
 replace hf : g95_l3B p0 (g95_l3 p0 n4) x5 x6 = some r := hf
 generalize hrec2 : g95_l3 p0 n4 = rec2 at hf
 unfold g95_l3B at hf
 refine WPK.seq ?_
 refine WPK.region ?_
 refine RW.seg hT 1 [] [] [.bool (decide (x6 < (p0.length : Int)))] [] (by kernel_rfl) (trivial) ?_
 refine RW.nil ?_
 refine WPK.seq ?_
 by_cases h5 : x6 < (p0.length : Int)
 have hf := iteT h5 hf
 refine WPK.condT (Eq.trans (b := .bool (decide (x6 < (p0.length : Int)))) (by kernel_rfl) (bo_t h5)) ?_
 refine WPK.skip ?_
 refine WPK.seq ?_
 refine WPK.block ?_
 refine WPK.seq ?_
 refine WPK.region ?_
 obtain ⟨x7, hx2, hf⟩ := bindS hf
 obtain ⟨h6, hx2⟩ := getS hx2
 obtain ⟨b2, o2, rfl⟩ := Elems.opn e1 hx2
 obtain ⟨cs2, hr2, ha2⟩ := Elems.get e1 hx2
 obtain ⟨A6, u6, rfl, q3, q4, e3⟩ := hr2
 have hc3 := And.intro q3 q4
 refine RW.seg hT 3 [.slice A6 x7.length u6] [] [.pointer (some ⟨b2, o2 + x6.toNat * 1, none⟩), .slice A6 x7.length u6, .slice A6 x7.length u6] [.idx x6 p0.length, .cell ⟨b2, o2 + x6.toNat * 1, none⟩ (.slice A6 x7.length u6)] (by kernel_rfl) (⟨h6, ha2 0 _ rfl⟩) ?_
 refine RW.nil ?_
 refine WPK.region ?_
 refine RW.seg hT 2 [] [] [.slice A5 n5 u5, .slice A6 x7.length u6] [] (by kernel_rfl) (trivial) ?_
 obtain ⟨nw1, hs1, rq1⟩ := Elems.src e3
 obtain ⟨x8, hx3, hf⟩ := bindS hf
 refine RW.op (by kernel_rfl) (OK.app hT (r := (Rp.int .u8)) (i := 0) (t := 27) (e := 5) (size := 1) (bytes := 1) (c := u5) (n := n5) (m := x7.length) s (by kernel_rfl) rfl rfl rfl rfl rfl (by decide) rfl rfl hn2 rfl rp2 hs1 rq1 flat_int rfl hx3 ?_)
 clear s
 rintro A7 u7 cl4 w4 s k1 rp3
 replace e3 := e3.st k1
 replace e1 := e1.st k1
 replace rp2 := rp2.st k1
 replace kk := kk.trans k1
 refine RW.seg hT 1 [] [] [.slice A7 x8.length u7] [] (by kernel_rfl) (trivial) ?_
 refine RW.nil ?_
 refine WPK.region ?_
 refine RW.seg hT 2 [] [] [.int .i64 (IntKind.i64.wrap (x6 + 1)), .int .i64 (IntKind.i64.wrap (x6 + 1))] [] (by kernel_rfl) (trivial) ?_
 refine RW.nil ?_
 subst hrec2
 exact ⟨n4, Nat.le_refl _, fun X h => kc (by kernel_rfl) rfl (h I2 x8 (IntKind.i64.wrap (x6 + 1)) A7 x8.length u7 cl4 _ hf s kk rfl rp3 e1)⟩
 have hf := iteF h5 hf
 refine WPK.condF (Eq.trans (b := .bool (decide (x6 < (p0.length : Int)))) (by kernel_rfl) (bo_f h5)) ?_
 refine WPK.exit (blockQ.same ?_)
 refine WPK.seq ?_
 refine WPK.region ?_
 refine RW.seg hT 2 [] [] [.slice A5 n5 u5, .slice A5 n5 u5] [] (by kernel_rfl) (trivial) ?_
 refine RW.nil ?_
 refine WPK.ret (?_)
 obtain rfl := someS hf
 refine Fin.of (rs := [.tmp 2]) hT [] (.slice A5 n5 u5) [] rfl (by kernel_rfl) (trivial) ?_
 exact fun X h => vc rfl (h I2 A5 n5 u5 cl3 _ s kk hn2 rp2)
 refine WPK.seq ?_
 refine WPK.region ?_
 refine RW.seg hT 2 [] [] [.int .i64 x1, .slice none 0 0] [] (by kernel_rfl) (trivial) ?_
 refine RW.op (by kernel_rfl) (OK.cap hT (t := 27) (e := 5) (A := none) (n := 0) (c := 0) (by kernel_rfl) rfl rfl ?_)
 refine RW.seg hT 5 [] [] [.slice none 0 0, .int .i64 0, .int .i64 0, .int .i64 (IntKind.i64.wrap (x1 - 0)), .int .i64 (IntKind.i64.wrap (x1 - 0))] [] (by kernel_rfl) (trivial) ?_
 refine RW.nil ?_
 refine WPK.seq ?_
 refine WPK.region ?_
 refine RW.seg hT 2 [] [] [.int .i64 (IntKind.i64.wrap (x1 - 0)), .bool (decide ((IntKind.i64.wrap (x1 - 0)) > 0))] [] (by kernel_rfl) (trivial) ?_
 refine RW.nil ?_
 by_cases h7 : (IntKind.i64.wrap (x1 - 0)) > 0
 have hf := iteT h7 hf
 refine WPK.condT (Eq.trans (b := .bool (decide ((IntKind.i64.wrap (x1 - 0)) > 0))) (by kernel_rfl) (bo_t h7)) ?_
 refine WPK.region ?_
 refine RW.seg hT 2 [] [] [.slice none 0 0, .slice none 0 0] [] (by kernel_rfl) (trivial) ?_
 refine RW.op (by kernel_rfl) (OK.cap hT (t := 27) (e := 5) (A := none) (n := 0) (c := 0) (by kernel_rfl) rfl rfl ?_)
 refine RW.seg hT 2 [] [(20, .slice none 0 0)] [.slice none 0 0, .int .i64 (IntKind.i64.wrap (x1 - 0))] [.both (.cut 0 0 0 0) (.veq (.slice none (0 : Int).toNat 0) (.slice none 0 0))] (by kernel_rfl) (⟨⟨by decide, by decide, by decide, by decide⟩, rfl⟩) ?_
 replace s := s.pushNil 5 1
 obtain ⟨x9, hx4, hf⟩ := bindS hf
 refine RW.op (by kernel_rfl) (OK.appZ hT (r := (Rp.int .u8)) (i := 0) (t := 27) (tn := 3) (e := 5) (bytes := 1) (c := 0) (n := 0) (x := 0) (kn := .i64) s (by kernel_rfl) rfl rfl rfl rfl rfl rfl rfl rfl rfl rfl rfl (RepL.nil (r := (Rp.int .u8))) flat_int (fun _ _ => rfl) hx4 ?_)
 clear s
 rintro A8 u8 cl5 w5 s k2 rp4
 replace e1 := e1.st k2
 replace kk := kk.trans k2
 refine RW.seg hT 2 [] [] [.slice none 0 0, .int .i64 0] [] (by kernel_rfl) (trivial) ?_
 obtain ⟨h8, hf⟩ := iteS hf
 have hc4 := row_hc (s.at (i := 0) rfl)
 have hb1 : (0 : Int).toNat ≤ x9.length := by have hnn := (rfl : x9.length = x9.length); omega
 refine RW.seg hT 1 [] [] [.slice A8 (0 : Int).toNat u8] [.cut 0 0 u8 u8] (by kernel_rfl) (⟨Int.le_refl _, h8.1, by omega, Int.le_refl _⟩) ?_
 obtain ⟨s', rp5, hn3⟩ := St.shrinkA s (i := 0) (h := (0 : Int).toNat) rfl rfl rfl rp4 hb1
 replace s := s'; clear s'
 refine RW.seg hT 1 [] [] [.slice A8 ((0 : Int).toNat) u8] [] (by kernel_rfl) (trivial) ?_
 refine RW.nil ?_
 exact fun X h => kc (by kernel_rfl) rfl (h I (List.take ((0 : Int).toNat) x9) A8 ((0 : Int).toNat) u8 (cl5.take ((0 : Int).toNat * 1)) _ hf s kk hn3 rp5 e1)
 have hf := iteF h7 hf
 refine WPK.condF (Eq.trans (b := .bool (decide ((IntKind.i64.wrap (x1 - 0)) > 0))) (by kernel_rfl) (bo_f h7)) ?_
 refine WPK.skip ?_
 replace s := s.pushNil 5 1
 exact fun X h => kc (by kernel_rfl) rfl (h I ([] : List Int) none 0 0 [] _ hf s kk rfl (RepL.nil (r := (Rp.int .u8))) e1)
theorem c60 {w1 w : World} {M I : Nat → Prop} {F : List It} (p0 : (List Int)) (A1 : Option Addr) (u1 : Nat) (hc1 : (p0.length ≤ u1 ∧ u1 ≤ 9223372036854775807)) (e1 : Elems (Rp.int .u8) I w A1 p0) (s : St w1 M I (F) w) {r : (List Int)} (hf : g60 p0 = some r) :
   Ret Try.prog 60 [.slice A1 p0.length u1] w fun v wz => ∀ X : Value → World → Prop, (∀ (I' : Nat → Prop) (A2 : Option Addr) (n1 : Nat) (u2 : Nat) (cl1 : List Value) (w' : World), St w1 M I' ((.sl (.slice A2 n1 u2) 5 1 n1 cl1) :: F) w' → Kp I w I' w' → n1 = r.length → RepL (Rp.int .u8) I' w' cl1 r → X (.slice A2 n1 u2) w') → X v wz := by
 have kk : Kp I w I w := Kp.refl
 unfold g60 at hf
 refine Ret.of Try.func60 rfl ?_
 refine WPK.seq ?_
 refine WPK.region ?_
 refine RW.seg hT 1 [] [] [.slice none 0 0] [] (by kernel_rfl) (trivial) ?_
 refine RW.nil ?_
 refine WPK.seq ?_
 refine WPK.region ?_
 refine RW.op (by kernel_rfl) (OK.new hT (f := fun b => .slice (some ⟨b, 0, none⟩) 0 0) (cs := []) (e := 5) (c := .tt) s (by kernel_rfl) trivial ?_)
 clear s
 rintro w2 b1 s k1 -
 replace e1 := e1.st k1
 replace kk := kk.trans k1
 have rp1 : RepL (Rp.int .u8) I w2 [] ([] : List Int) := RepL.nil
 replace s : St w1 M I ((.sl (.slice (some ⟨b1, 0, none⟩) 0 0) 5 1 0 []) :: F) w2 := s.blkSl (i := 0) (n := 0) (c := 0) (size := 1) rfl rfl (Nat.le_refl _) (by decide)
 refine RW.seg hT 1 [] [] [.slice A1 p0.length u1] [] (by kernel_rfl) (trivial) ?_
 obtain ⟨I1, s', k2, hc2, e2⟩ := St.give s (i := 0) rfl rfl rp1
 replace s := s'; clear s'
 replace e1 := e1.st k2
 replace kk := kk.trans k2
 refine RW.op (by kernel_rfl) (OK.new hT (f := fun b => .slice (some ⟨b, 0, none⟩) 2 2) (cs := [.slice (some ⟨b1, 0, none⟩) (([] : List Int).length) 0, .slice A1 p0.length u1]) (e := 27) (c := .tt) s (by kernel_rfl) trivial ?_)
 clear s
 rintro w3 b2 s k3 -
 replace e1 := e1.st k3
 replace e2 := e2.st k3
 replace kk := kk.trans k3
 have rp2 : RepL (Rp.slice (Rp.int .u8)) I1 w3 [.slice (some ⟨b1, 0, none⟩) (([] : List Int).length) 0, .slice A1 p0.length u1] ([([] : List Int), p0] : List (List Int)) := RepL.cons (c := [.slice (some ⟨b1, 0, none⟩) (([] : List Int).length) 0]) (d := [.slice A1 p0.length u1]) (⟨_, _, rfl, hc2.1, hc2.2, e2⟩) (RepL.cons (c := [.slice A1 p0.length u1]) (d := []) (⟨_, _, rfl, hc1.1, hc1.2, e1⟩) (RepL.nil))
 replace s : St w1 M I1 ((.sl (.slice (some ⟨b2, 0, none⟩) 2 2) 27 1 2 [.slice (some ⟨b1, 0, none⟩) (([] : List Int).length) 0, .slice A1 p0.length u1]) :: F) w3 := s.blkSl (i := 0) (n := 2) (c := 2) (size := 1) rfl rfl (Nat.le_refl _) (by decide)
 have sa1 := s
 obtain ⟨hc3, e3⟩ := St.lend s (i := 0) rfl rfl rp2
 have k4 := Kp.shut (I := I1) (w := w3) (p := .sl (.slice (some ⟨b2, 0, none⟩) 2 2) 27 1 2 [.slice (some ⟨b1, 0, none⟩) (([] : List Int).length) 0, .slice A1 p0.length u1])
 replace s := s.shut 0 rfl
 obtain ⟨x1, hx1, hf⟩ := bindS hf
 refine RW.op (by kernel_rfl) (OK.call' en95 (by kernel_rfl) (c95 (F := F) ([([] : List Int), p0] : List (List Int)) (some ⟨b2, 0, none⟩) 2 hc3 e3 s hx1) ?_)
 intro X1 hX1
 refine fun _ _ hJ => hJ X1 ?_
 clear s
 intro I2 A3 n2 u3 cl2 w4 s k5 hn1 rp3
 refine hX1 _ _ ?_
 have s' := St.back sa1 (i := 0) rfl s k5
 replace k5 := Kp.back sa1 (i := 0) rfl k5
 replace s := s'; clear s'
 obtain ⟨I3, s, k5⟩ : ∃ I : Nat → Prop, St w1 M I ((.sl (.slice (some ⟨b2, 0, none⟩) 2 2) 27 1 2 [.slice (some ⟨b1, 0, none⟩) (([] : List Int).length) 0, .slice A1 p0.length u1]) :: (.sl (.slice A3 n2 u3) 5 1 n2 cl2) :: F) w4 ∧ Kp _ _ I _ := ⟨_, s, k5⟩
 replace rp3 := RepL.free (I' := I3) (w' := w4) free_int rp3
 replace e1 := e1.st k5
 replace e2 := e2.st k5
 replace rp2 := rp2.st k5
 replace kk := kk.trans k5
 refine RW.seg hT 1 [] [] [.slice A3 n2 u3] [] (by kernel_rfl) (trivial) ?_
 refine RW.nil ?_
 refine WPK.ret (?_)
 obtain rfl := someS hf
 refine Fin.of (rs := [.tmp 2]) hT [] (.slice A3 n2 u3) [] rfl (by kernel_rfl) (trivial) ?_
 replace s := s.pick [1] 2 rfl
 exact fun X h => vc rfl (h I3 A3 n2 u3 cl2 _ s kk hn1 rp3)
theorem c57 {w1 w : World} {M I : Nat → Prop} {F : List It} (p0 : T_api_Pair) (A1 : Option Addr) (u1 : Nat) (A2 : Option Addr) (u2 : Nat) (hc1 : (p0.Key.length ≤ u1 ∧ u1 ≤ 9223372036854775807)) (e1 : Elems (Rp.int .u8) I w A1 p0.Key) (hc2 : (p0.Val.length ≤ u2 ∧ u2 ≤ 9223372036854775807)) (e2 : Elems (Rp.int .u8) I w A2 p0.Val) (s : St w1 M I (F) w) {r : T_api_Pair} (hf : g57 p0 = some r) :
   Ret Try.prog 57 [.agg #[.slice A1 p0.Key.length u1, .slice A2 p0.Val.length u2]] w fun v wz => ∀ X : Value → World → Prop, (∀ (I' : Nat → Prop) (A3 : Option Addr) (n1 : Nat) (u3 : Nat) (cl1 : List Value) (A4 : Option Addr) (n2 : Nat) (u4 : Nat) (cl2 : List Value) (w' : World), St w1 M I' ((.sl (.slice A3 n1 u3) 5 1 n1 cl1) :: (.sl (.slice A4 n2 u4) 5 1 n2 cl2) :: F) w' → Kp I w I' w' → n1 = r.Key.length → RepL (Rp.int .u8) I' w' cl1 r.Key → n2 = r.Val.length → RepL (Rp.int .u8) I' w' cl2 r.Val → X (.agg #[.slice A3 n1 u3, .slice A4 n2 u4]) w') → X v wz := by
 have kk : Kp I w I w := Kp.refl
 unfold g57 at hf
 refine Ret.of Try.func57 rfl ?_
 refine WPK.seq ?_
 refine WPK.region ?_
 refine RW.op (by kernel_rfl) (OK.new hT (f := fun b => .pointer (some ⟨b, 0, none⟩)) (cs := [.slice A1 p0.Key.length u1, .slice A2 p0.Val.length u2]) (e := 48) (c := .tt) s (by kernel_rfl) trivial ?_)
 clear s
 rintro w2 b1 s k1 -
 replace e1 := e1.st k1
 replace e2 := e2.st k1
 replace kk := kk.trans k1
 refine RW.op (by kernel_rfl) (OK.new hT (f := fun b => .pointer (some ⟨b, 0, none⟩)) (cs := [.slice none 0 0, .slice none 0 0]) (e := 48) (c := .tt) s (by kernel_rfl) trivial ?_)
 clear s
 rintro w3 b2 s k2 -
 replace e1 := e1.st k2
 replace e2 := e2.st k2
 replace kk := kk.trans k2
 refine RW.nil ?_
 refine WPK.seq ?_
 have e1S1 := e1
 have e2S1 := e2
 have kS1 : Kp I w3 I w3 := Kp.refl
 refine WPK.drawM (fun w' => ∃ I' : Nat → Prop, St w1 M I' ((.blk b2 (.cells #[.slice none 0 0, .slice none 0 0] 48 (0, 0))) :: (.blk b1 (.cells #[.slice A1 p0.Key.length u1, .slice A2 p0.Val.length u2] 48 (0, 0))) :: F) w' ∧ Kp I w3 I' w') 7 [0, 1, 3, 0, 8, 31, 63, 127] (by kernel_rfl) (by kernel_rfl) ?_
 intro ht1 w4 hd1
 have k3 := Kp.dr s hd1
 replace s := s.dr hd1
 replace e1 := e1.st k3
 replace e2 := e2.st k3
 replace kk := kk.trans k3
 replace kS1 := kS1.trans k3
 refine RD.segM hT ht1 (by kernel_rfl) [0, 1, 3, 4] [.slice A1 p0.Key.length u1, .slice A2 p0.Val.length u2] [] [.pointer (some ⟨b1, 0, none⟩), .slice A1 p0.Key.length u1, .pointer (some ⟨b1, 1, none⟩), .slice A2 p0.Val.length u2] [.cell ⟨b1, 0, none⟩ (.slice A1 p0.Key.length u1), .cell ⟨b1, 1, none⟩ (.slice A2 p0.Val.length u2)] (by kernel_rfl) (by rintro w' ⟨I', s, k⟩; have e1 := e1S1.st k; have e2 := e2S1.st k; exact ⟨s.cell (i := 1) (off := 0) rfl rfl, s.cell (i := 1) (off := 1) rfl rfl⟩) ⟨_, s.pick [0, 1] 2 rfl, kS1⟩ ?_
 obtain ⟨x1, hx1, hf⟩ := bindS hf
 refine RD.op (i := 2) rfl (by kernel_rfl) (by kernel_rfl) (OK.call' en60 (by kernel_rfl) (c60 (F := (.blk b2 (.cells #[.slice none 0 0, .slice none 0 0] 48 (0, 0))) :: (.blk b1 (.cells #[.slice A1 p0.Key.length u1, .slice A2 p0.Val.length u2] 48 (0, 0))) :: F) p0.Key A1 u1 hc1 e1 s hx1) ?_)
 intro X1 hX1
 refine fun _ _ hJ => hJ X1 ?_
 clear s
 intro I1 A5 n3 u5 cl3 w5 s k4 hn1 rp1
 refine hX1 _ _ ?_
 replace e1 := e1.st k4
 replace e2 := e2.st k4
 replace kk := kk.trans k4
 replace kS1 := kS1.trans k4
 refine ⟨fun _ => ⟨_, s.pick [1, 2] 3 rfl, kS1⟩, RD.fold ?_⟩
 obtain ⟨x2, hx2, hf⟩ := bindS hf
 refine RD.op (i := 5) rfl (by kernel_rfl) (by kernel_rfl) (OK.call' en60 (by kernel_rfl) (c60 (F := (.sl (.slice A5 n3 u5) 5 1 n3 cl3) :: (.blk b2 (.cells #[.slice none 0 0, .slice none 0 0] 48 (0, 0))) :: (.blk b1 (.cells #[.slice A1 p0.Key.length u1, .slice A2 p0.Val.length u2] 48 (0, 0))) :: F) p0.Val A2 u2 hc2 e2 s hx2) ?_)
 intro X2 hX2
 refine fun _ _ hJ => hJ X2 ?_
 clear s
 intro I2 A6 n4 u6 cl4 w6 s k5 hn2 rp2
 refine hX2 _ _ ?_
 replace e1 := e1.st k5
 replace e2 := e2.st k5
 replace rp1 := rp1.st k5
 replace kk := kk.trans k5
 replace kS1 := kS1.trans k5
 refine ⟨fun _ => ⟨_, s.pick [2, 3] 4 rfl, kS1⟩, RD.fold ?_⟩
 refine RD.segM hT ht1 (by kernel_rfl) [6] [] [] [.agg #[.slice A5 n3 u5, .slice A6 n4 u6]] [] (by kernel_rfl) (fun _ _ => trivial) ⟨_, s.pick [2, 3] 4 rfl, kS1⟩ ?_
 refine RD.op (i := 7) rfl (by kernel_rfl) (by kernel_rfl) (OK.store hT (i := 2) (b := b2) (off := 0) (n := 2) (vs := [.slice A5 n3 u5, .slice A6 n4 u6]) (cs := [.slice none 0 0, .slice none 0 0]) (e := 48) s (by kernel_rfl) rfl rfl (flat_ok rfl) (Nat.le_of_ble_eq_true rfl) ?_)
 clear s
 rintro w7 s k6 -
 replace e1 := e1.st k6
 replace e2 := e2.st k6
 replace rp2 := rp2.st k6
 replace rp1 := rp1.st k6
 replace kk := kk.trans k6
 replace kS1 := kS1.trans k6
 refine ⟨fun h => absurd h (by decide), RD.fold ?_⟩
 refine RD.done (by kernel_rfl) ?_
 refine WPK.ret (?_)
 obtain rfl := someS hf
 refine Fin.of (rs := [.cell 2 48]) hT [.agg #[.slice A5 n3 u5, .slice A6 n4 u6]] (.agg #[.slice A5 n3 u5, .slice A6 n4 u6]) [.cells ⟨b2, 0, none⟩ [.slice A5 n3 u5, .slice A6 n4 u6] 2] rfl (by kernel_rfl) (s.cells (i := 2) rfl rfl rfl) ?_
 replace s := s.pick [1, 0] 4 rfl
 exact fun X h => vc rfl (h I2 A5 n3 u5 cl3 A6 n4 u6 cl4 _ s kk hn1 rp1 hn2 rp2)
theorem c25 {w1 w : World} {M I : Nat → Prop} {F : List It} (p0 : T_api_Node) (A1 : Option Addr) (u1 : Nat) (A2 : Option Addr) (u2 : Nat) (A3 : Option Addr) (u3 : Nat) (hc1 : (p0.Pairs.length ≤ u1 ∧ u1 ≤ 9223372036854775807)) (e1 : Elems rp_T_api_Pair I w A1 p0.Pairs) (hc2 : (p0.Keys.length ≤ u2 ∧ u2 ≤ 9223372036854775807)) (e2 : Elems (Rp.slice (Rp.int .u8)) I w A2 p0.Keys) (hc3 : (p0.Kids.length ≤ u3 ∧ u3 ≤ 9223372036854775807)) (e3 : Elems (Rp.int .i64) I w A3 p0.Kids) (s : St w1 M I (F) w) {r : T_api_Node} (hf : g25 p0 = some r) :
   Ret Try.prog 25 [.agg #[.bool p0.Leaf, .slice A1 p0.Pairs.length u1, .slice A2 p0.Keys.length u2, .slice A3 p0.Kids.length u3]] w fun v wz => ∀ X : Value → World → Prop, (∀ (I' : Nat → Prop) (A4 : Option Addr) (n1 : Nat) (u4 : Nat) (cl1 : List Value) (A5 : Option Addr) (n2 : Nat) (u5 : Nat) (cl2 : List Value) (A6 : Option Addr) (n3 : Nat) (u6 : Nat) (cl3 : List Value) (w' : World), St w1 M I' ((.sl (.slice A4 n1 u4) 48 2 n1 cl1) :: (.sl (.slice A5 n2 u5) 27 1 n2 cl2) :: (.sl (.slice A6 n3 u6) 3 1 n3 cl3) :: F) w' → Kp I w I' w' → n1 = r.Pairs.length → RepL rp_T_api_Pair I' w' cl1 r.Pairs → n2 = r.Keys.length → RepL (Rp.slice (Rp.int .u8)) I' w' cl2 r.Keys → n3 = r.Kids.length → RepL (Rp.int .i64) I' w' cl3 r.Kids → X (.agg #[.bool r.Leaf, .slice A4 n1 u4, .slice A5 n2 u5, .slice A6 n3 u6]) w') → X v wz := by
 have kk : Kp I w I w := Kp.refl
 unfold g25 at hf
 refine Ret.of Try.func25 rfl ?_
 refine WPK.seq ?_
 refine WPK.region ?_
 refine RW.op (by kernel_rfl) (OK.new hT (f := fun b => .pointer (some ⟨b, 0, none⟩)) (cs := [.bool p0.Leaf, .slice A1 p0.Pairs.length u1, .slice A2 p0.Keys.length u2, .slice A3 p0.Kids.length u3]) (e := 26) (c := .tt) s (by kernel_rfl) trivial ?_)
 clear s
 rintro w2 b1 s k1 -
 replace e1 := e1.st k1
 replace e2 := e2.st k1
 replace e3 := e3.st k1
 replace kk := kk.trans k1
 refine RW.op (by kernel_rfl) (OK.new hT (f := fun b => .pointer (some ⟨b, 0, none⟩)) (cs := [.bool false, .slice none 0 0, .slice none 0 0, .slice none 0 0]) (e := 26) (c := .tt) s (by kernel_rfl) trivial ?_)
 clear s
 rintro w3 b2 s k2 -
 replace e1 := e1.st k2
 replace e2 := e2.st k2
 replace e3 := e3.st k2
 replace kk := kk.trans k2
 refine RW.nil ?_
 refine WPK.seq ?_
 refine WPK.cut' (Kn fun D1 ds wz => ∀ X : Kont, (∀ (I1 : Nat → Prop) (x1 : (List Int)) (b3 : Nat) (A7 : Option Addr) (n4 : Nat) (u7 : Nat) (cl4 : List Value) (w' : World), g25_j1 p0 x1 = some r → St w1 M I1 ((.blk b3 (.cells #[.bool p0.Leaf, .slice none 0 0, .slice none 0 0, .slice A7 n4 u7] 26 (0, 0))) :: (.sl (.slice A7 n4 u7) 3 1 n4 cl4) :: (.blk b2 (.cells #[.bool false, .slice none 0 0, .slice none 0 0, .slice none 0 0] 26 (0, 0))) :: (.blk b1 (.cells #[.bool p0.Leaf, .slice A1 p0.Pairs.length u1, .slice A2 p0.Keys.length u2, .slice A3 p0.Kids.length u3] 26 (0, 0))) :: F) w' → Kp I w I1 w' → n4 = x1.length → RepL (Rp.int .i64) I1 w' cl4 x1 → Elems rp_T_api_Pair I1 w' A1 p0.Pairs → Elems (Rp.slice (Rp.int .u8)) I1 w' A2 p0.Keys → Elems (Rp.int .i64) I1 w' A3 p0.Kids → X [(gd D1 0), .pointer (some ⟨b1, 0, none⟩), .pointer (some ⟨b2, 0, none⟩), .pointer (some ⟨b3, 0, none⟩), (gd D1 4), undef, (gd D1 6), undef, (gd D1 8), (gd D1 9), (gd D1 10), (gd D1 11), (gd D1 12), (gd D1 13), undef, undef, undef, undef, undef, undef, undef, undef, undef, undef, undef, undef, undef, undef, undef, undef, undef, undef, undef, undef, undef, undef, undef, undef, undef, undef, undef, undef, undef, undef, undef] [] w') → X D1 ds wz) ?_ ?_
 intro X1 hX1
 refine fun D1 _ _ hJ => hJ X1 ?_
 clear s
 intro I1 x1 b3 A7 n4 u7 cl4 w4 hf s kk hn1 rp1 e1 e2 e3
 refine hX1 _ _ _ ?_
 unfold g25_j1 at hf
 refine WPK.seq ?_
 refine WPK.seq ?_
 refine WPK.region ?_
 refine RW.seg hT 4 [.slice A1 p0.Pairs.length u1] [] [.pointer (some ⟨b1, 1, none⟩), .slice A1 p0.Pairs.length u1, .int .i64 (p0.Pairs.length : Int), .int .i64 0] [.cell ⟨b1, 1, none⟩ (.slice A1 p0.Pairs.length u1)] (by kernel_rfl) (s.cell (i := 3) (off := 1) rfl rfl) ?_
 refine RW.nil ?_
 refine WPK.block ?_
 replace s := s.pushNil 48 2
 replace s := s.pick [1, 2, 3, 4, 0] 5 rfl
 refine WPK.loop' (J := fun n5 D2 ds wz => ∀ X : Kont, (∀ (I2 : Nat → Prop) (x2 : Int) (x3 : (List T_api_Pair)) (A8 : Option Addr) (u8 : Nat) (cl5 : List Value) (w' : World), g25_l2 p0 x1 n5 x2 x3 = some r → St w1 M I2 ((.blk b3 (.cells #[.bool p0.Leaf, .slice A8 x3.length u8, .slice none 0 0, .slice A7 n4 u7] 26 (0, 0))) :: (.sl (.slice A7 n4 u7) 3 1 n4 cl4) :: (.blk b2 (.cells #[.bool false, .slice none 0 0, .slice none 0 0, .slice none 0 0] 26 (0, 0))) :: (.blk b1 (.cells #[.bool p0.Leaf, .slice A1 p0.Pairs.length u1, .slice A2 p0.Keys.length u2, .slice A3 p0.Kids.length u3] 26 (0, 0))) :: (.sl (.slice A8 x3.length u8) 48 2 x3.length cl5) :: F) w' → Kp I w I2 w' → Elems rp_T_api_Pair I2 w' A1 p0.Pairs → RepL rp_T_api_Pair I2 w' cl5 x3 → Elems (Rp.slice (Rp.int .u8)) I2 w' A2 p0.Keys → Elems (Rp.int .i64) I2 w' A3 p0.Kids → RepL (Rp.int .i64) I2 w' cl4 x1 → X [(gd D2 0), .pointer (some ⟨b1, 0, none⟩), .pointer (some ⟨b2, 0, none⟩), .pointer (some ⟨b3, 0, none⟩), (gd D2 4), (gd D2 5), (gd D2 6), undef, (gd D2 8), (gd D2 9), (gd D2 10), (gd D2 11), (gd D2 12), (gd D2 13), (gd D2 14), .slice A1 p0.Pairs.length u1, .int .i64 (p0.Pairs.length : Int), .int .i64 x2, (gd D2 18), (gd D2 19), (gd D2 20), (gd D2 21), (gd D2 22), (gd D2 23), (gd D2 24), (gd D2 25), (gd D2 26), (gd D2 27), (gd D2 28), undef, undef, undef, undef, undef, undef, undef, undef, undef, undef, undef, undef, undef, undef, undef, undef] [] w') → X D2 ds wz) FUEL (fun X h => kc (by kernel_rfl) rfl (h I1 0 ([] : List T_api_Pair) none 0 [] _ hf s kk e1 (RepL.nil (r := rp_T_api_Pair)) e2 e3 rp1)) (fun _ _ _ hJ => hJ (fun _ _ _ => False) (by intro I2 x2 x3 A8 u8 cl5 w5 hf s kk e1 rp2 e2 e3 rp1; exact noneS hf)) ?_
 intro X2 hX2
 refine fun n5 D2 _ _ hJ => hJ (X2 n5) ?_
 clear s
 intro I2 x2 x3 A8 u8 cl5 w5 hf s kk e1 rp2 e2 e3 rp1
 refine hX2 _ _ _ _ ?_
 replace hf : g25_l2B p0 x1 (g25_l2 p0 x1 n5) x2 x3 = some r := hf
 generalize hrec1 : g25_l2 p0 x1 n5 = rec1 at hf
 unfold g25_l2B at hf
 refine WPK.seq ?_
 refine WPK.region ?_
 refine RW.seg hT 1 [] [] [.bool (decide (x2 < (p0.Pairs.length : Int)))] [] (by kernel_rfl) (trivial) ?_
 refine RW.nil ?_
 refine WPK.seq ?_
 by_cases h1 : x2 < (p0.Pairs.length : Int)
 have hf := iteT h1 hf
 refine WPK.condT (Eq.trans (b := .bool (decide (x2 < (p0.Pairs.length : Int)))) (by kernel_rfl) (bo_t h1)) ?_
 refine WPK.skip ?_
 refine WPK.seq ?_
 refine WPK.block ?_
 refine WPK.seq ?_
 refine WPK.region ?_
 obtain ⟨x4, hx1, hf⟩ := bindS hf
 obtain ⟨h2, hx1⟩ := getS hx1
 obtain ⟨b4, o1, rfl⟩ := Elems.opn e1 hx1
 obtain ⟨cs1, hr1, ha1⟩ := Elems.get e1 hx1
 obtain ⟨cs2, cs3, rfl, hr2, hr3⟩ := hr1
 obtain ⟨A9, u9, rfl, q1, q2, e4⟩ := hr2
 have hc4 := And.intro q1 q2
 obtain ⟨A10, u10, rfl, q3, q4, e5⟩ := hr3
 have hc5 := And.intro q3 q4
 refine RW.seg hT 2 [.agg #[.slice A9 x4.Key.length u9, .slice A10 x4.Val.length u10]] [] [.pointer (some ⟨b4, o1 + x2.toNat * 2, none⟩), .agg #[.slice A9 x4.Key.length u9, .slice A10 x4.Val.length u10]] [.idx x2 p0.Pairs.length, .cells ⟨b4, o1 + x2.toNat * 2, none⟩ [.slice A9 x4.Key.length u9, .slice A10 x4.Val.length u10] 2] (by kernel_rfl) (⟨h2, at_cells ha1 (off := 0) rfl rfl⟩) ?_
 refine RW.op (by kernel_rfl) (OK.new hT (f := fun b => .pointer (some ⟨b, 0, none⟩)) (cs := [.slice none 0 0, .slice none 0 0]) (e := 48) (c := .tt) s (by kernel_rfl) trivial ?_)
 clear s
 rintro w6 b5 s k3 -
 replace e1 := e1.st k3
 replace e4 := e4.st k3
 replace e5 := e5.st k3
 replace e2 := e2.st k3
 replace e3 := e3.st k3
 replace rp1 := rp1.st k3
 replace rp2 := rp2.st k3
 replace kk := kk.trans k3
 refine RW.op (by kernel_rfl) (OK.store hT (i := 0) (b := b5) (off := 0) (n := 2) (vs := [.slice A9 x4.Key.length u9, .slice A10 x4.Val.length u10]) (cs := [.slice none 0 0, .slice none 0 0]) (e := 48) s (by kernel_rfl) rfl rfl (flat_ok rfl) (Nat.le_of_ble_eq_true rfl) ?_)
 clear s
 rintro w7 s k4 -
 replace e1 := e1.st k4
 replace e4 := e4.st k4
 replace e5 := e5.st k4
 replace e2 := e2.st k4
 replace e3 := e3.st k4
 replace rp1 := rp1.st k4
 replace rp2 := rp2.st k4
 replace kk := kk.trans k4
 refine RW.nil ?_
 have e1S1 := e1
 have e4S1 := e4
 have e5S1 := e5
 have e2S1 := e2
 have e3S1 := e3
 have rp1S1 := rp1
 have rp2S1 := rp2
 have kS1 : Kp I2 w7 I2 w7 := Kp.refl
 refine WPK.drawM (fun w' => ∃ I' : Nat → Prop, St w1 M I' ((.blk b5 (.cells #[.slice A9 x4.Key.length u9, .slice A10 x4.Val.length u10] 48 (0, 0))) :: (.blk b3 (.cells #[.bool p0.Leaf, .slice A8 x3.length u8, .slice none 0 0, .slice A7 n4 u7] 26 (0, 0))) :: (.sl (.slice A7 n4 u7) 3 1 n4 cl4) :: (.blk b2 (.cells #[.bool false, .slice none 0 0, .slice none 0 0, .slice none 0 0] 26 (0, 0))) :: (.blk b1 (.cells #[.bool p0.Leaf, .slice (some ⟨b4, o1, none⟩) p0.Pairs.length u1, .slice A2 p0.Keys.length u2, .slice A3 p0.Kids.length u3] 26 (0, 0))) :: (.sl (.slice A8 x3.length u8) 48 2 x3.length cl5) :: F) w' ∧ Kp I2 w7 I' w') 5 [0, 1, 0, 4, 12, 31, 63, 127] (by kernel_rfl) (by kernel_rfl) ?_
 intro ht1 w8 hd1
 have k5 := Kp.dr s hd1
 replace s := s.dr hd1
 replace e1 := e1.st k5
 replace e4 := e4.st k5
 replace e5 := e5.st k5
 replace e2 := e2.st k5
 replace e3 := e3.st k5
 replace rp1 := rp1.st k5
 replace rp2 := rp2.st k5
 replace kk := kk.trans k5
 replace kS1 := kS1.trans k5
 refine RD.segM hT ht1 (by kernel_rfl) [0, 1, 2] [.slice A8 x3.length u8, .agg #[.slice A9 x4.Key.length u9, .slice A10 x4.Val.length u10]] [] [.pointer (some ⟨b3, 1, none⟩), .slice A8 x3.length u8, .agg #[.slice A9 x4.Key.length u9, .slice A10 x4.Val.length u10]] [.cell ⟨b3, 1, none⟩ (.slice A8 x3.length u8), .cells ⟨b5, 0, none⟩ [.slice A9 x4.Key.length u9, .slice A10 x4.Val.length u10] 2] (by kernel_rfl) (by rintro w' ⟨I', s, k⟩; have e1 := e1S1.st k; have e4 := e4S1.st k; have e5 := e5S1.st k; have e2 := e2S1.st k; have e3 := e3S1.st k; have rp1 := rp1S1.st k; have rp2 := rp2S1.st k; exact ⟨s.cell (i := 1) (off := 1) rfl rfl, s.cells (i := 0) rfl rfl rfl⟩) ⟨_, s.pick [0, 1, 2, 3, 4, 5] 6 rfl, kS1⟩ ?_
 obtain ⟨x5, hx2, hf⟩ := bindS hf
 refine RD.op (i := 3) rfl (by kernel_rfl) (by kernel_rfl) (OK.call' en57 (by kernel_rfl) (c57 (F := (.blk b5 (.cells #[.slice A9 x4.Key.length u9, .slice A10 x4.Val.length u10] 48 (0, 0))) :: (.blk b3 (.cells #[.bool p0.Leaf, .slice A8 x3.length u8, .slice none 0 0, .slice A7 n4 u7] 26 (0, 0))) :: (.sl (.slice A7 n4 u7) 3 1 n4 cl4) :: (.blk b2 (.cells #[.bool false, .slice none 0 0, .slice none 0 0, .slice none 0 0] 26 (0, 0))) :: (.blk b1 (.cells #[.bool p0.Leaf, .slice (some ⟨b4, o1, none⟩) p0.Pairs.length u1, .slice A2 p0.Keys.length u2, .slice A3 p0.Kids.length u3] 26 (0, 0))) :: (.sl (.slice A8 x3.length u8) 48 2 x3.length cl5) :: F) x4 A9 u9 A10 u10 hc4 e4 hc5 e5 s hx2) ?_)
 intro X3 hX3
 refine fun _ _ hJ => hJ X3 ?_
 clear s
 intro I3 A11 n6 u11 cl6 A12 n7 u12 cl7 w9 s k6 hn2 rp3 hn3 rp4
 refine hX3 _ _ ?_
 replace e1 := e1.st k6
 replace e4 := e4.st k6
 replace e5 := e5.st k6
 replace e2 := e2.st k6
 replace e3 := e3.st k6
 replace rp1 := rp1.st k6
 replace rp2 := rp2.st k6
 replace kk := kk.trans k6
 replace kS1 := kS1.trans k6
 refine ⟨fun _ => ⟨_, s.pick [2, 3, 4, 5, 6, 7] 8 rfl, kS1⟩, RD.fold ?_⟩
 rw [hn2] at s
 try rw [hn2]
 obtain ⟨I4, s', k7, hc6, e6⟩ := St.give s (i := 0) rfl rfl rp3
 replace s := s'; clear s'
 replace e1 := e1.st k7
 replace e4 := e4.st k7
 replace e5 := e5.st k7
 replace e2 := e2.st k7
 replace e3 := e3.st k7
 replace rp4 := rp4.st k7
 replace rp1 := rp1.st k7
 replace rp2 := rp2.st k7
 replace kk := kk.trans k7
 replace kS1 := kS1.trans k7
 rw [hn3] at s
 try rw [hn3]
 obtain ⟨I5, s', k8, hc7, e7⟩ := St.give s (i := 0) rfl rfl rp4
 replace s := s'; clear s'
 replace e1 := e1.st k8
 replace e4 := e4.st k8
 replace e5 := e5.st k8
 replace e6 := e6.st k8
 replace e2 := e2.st k8
 replace e3 := e3.st k8
 replace rp1 := rp1.st k8
 replace rp2 := rp2.st k8
 replace kk := kk.trans k8
 replace kS1 := kS1.trans k8
 refine RD.op (i := 4) rfl (by kernel_rfl) (by kernel_rfl) (OK.new hT (f := fun b => .slice (some ⟨b, 0, none⟩) 1 1) (cs := [.slice A11 x5.Key.length u11, .slice A12 x5.Val.length u12]) (e := 48) (c := .tt) s (by kernel_rfl) trivial ?_)
 clear s
 rintro w10 b6 s k9 -
 replace e1 := e1.st k9
 replace e4 := e4.st k9
 replace e5 := e5.st k9
 replace e6 := e6.st k9
 replace e7 := e7.st k9
 replace e2 := e2.st k9
 replace e3 := e3.st k9
 replace rp1 := rp1.st k9
 replace rp2 := rp2.st k9
 replace kk := kk.trans k9
 replace kS1 := kS1.trans k9
 have rp5 : RepL rp_T_api_Pair I5 w10 [.slice A11 x5.Key.length u11, .slice A12 x5.Val.length u12] ([x5] : List T_api_Pair) := RepL.cons (c := [.slice A11 x5.Key.length u11, .slice A12 x5.Val.length u12]) (d := []) (⟨[.slice A11 x5.Key.length u11], [.slice A12 x5.Val.length u12], rfl, ⟨_, _, rfl, hc6.1, hc6.2, e6⟩, ⟨_, _, rfl, hc7.1, hc7.2, e7⟩⟩) (RepL.nil)
 replace s : St w1 M I5 ((.sl (.slice (some ⟨b6, 0, none⟩) 1 1) 48 2 1 [.slice A11 x5.Key.length u11, .slice A12 x5.Val.length u12]) :: (.blk b5 (.cells #[.slice A9 x4.Key.length u9, .slice A10 x4.Val.length u10] 48 (0, 0))) :: (.blk b3 (.cells #[.bool p0.Leaf, .slice A8 x3.length u8, .slice none 0 0, .slice A7 n4 u7] 26 (0, 0))) :: (.sl (.slice A7 n4 u7) 3 1 n4 cl4) :: (.blk b2 (.cells #[.bool false, .slice none 0 0, .slice none 0 0, .slice none 0 0] 26 (0, 0))) :: (.blk b1 (.cells #[.bool p0.Leaf, .slice (some ⟨b4, o1, none⟩) p0.Pairs.length u1, .slice A2 p0.Keys.length u2, .slice A3 p0.Kids.length u3] 26 (0, 0))) :: (.sl (.slice A8 x3.length u8) 48 2 x3.length cl5) :: F) w10 := s.blkSl (i := 0) (n := 1) (c := 1) (size := 2) rfl rfl (Nat.le_refl _) (by decide)
 refine ⟨fun _ => ⟨_, s.pick [1, 2, 3, 4, 5, 6] 7 rfl, kS1⟩, RD.fold ?_⟩
 have hs1 := St.src s (i := 0) rfl rfl rp5
 have rq1 := rp5
 obtain ⟨x6, hx3, hf⟩ := bindS hf
 refine RD.op (i := 5) rfl (by kernel_rfl) (by kernel_rfl) (OK.app hT (r := rp_T_api_Pair) (i := 6) (t := 22) (e := 48) (size := 2) (bytes := 48) (c := u8) (n := x3.length) (m := 1) s (by kernel_rfl) rfl rfl rfl rfl rfl (by decide) rfl rfl rfl rfl rp2 hs1 rq1 (flat_iso (flat_pair flat_slice flat_slice)) rfl hx3 ?_)
 clear s
 rintro A13 u13 cl8 w11 s k10 rp6
 replace e1 := e1.st k10
 replace e4 := e4.st k10
 replace e5 := e5.st k10
 replace e6 := e6.st k10
 replace e7 := e7.st k10
 replace e2 := e2.st k10
 replace e3 := e3.st k10
 replace rp5 := rp5.st k10
 replace rp1 := rp1.st k10
 replace rp2 := rp2.st k10
 replace kk := kk.trans k10
 replace kS1 := kS1.trans k10
 refine ⟨fun h => absurd h (by decide), RD.fold ?_⟩
 refine RD.op (i := 6) rfl (by kernel_rfl) (by kernel_rfl) (OK.pure hT (ld := undef) (v := .pointer (some ⟨b3, 1, none⟩)) (c := .tt) (by kernel_rfl) (trivial) ?_)
 refine ⟨fun h => absurd h (by decide), RD.fold ?_⟩
 refine RD.op (i := 7) rfl (by kernel_rfl) (by kernel_rfl) (OK.store hT (i := 2) (b := b3) (off := 1) (n := 1) (vs := [.slice A13 x6.length u13]) (cs := [.bool p0.Leaf, (.slice A8 x3.length u8), .slice none 0 0, .slice A7 n4 u7]) (e := 26) s (by kernel_rfl) rfl rfl (flat_ok rfl) (Nat.le_of_ble_eq_true rfl) ?_)
 clear s
 rintro w12 s k11 -
 replace e1 := e1.st k11
 replace e4 := e4.st k11
 replace e5 := e5.st k11
 replace e6 := e6.st k11
 replace e7 := e7.st k11
 replace e2 := e2.st k11
 replace e3 := e3.st k11
 replace rp5 := rp5.st k11
 replace rp1 := rp1.st k11
 replace rp6 := rp6.st k11
 replace kk := kk.trans k11
 replace kS1 := kS1.trans k11
 refine ⟨fun h => absurd h (by decide), RD.fold ?_⟩
 refine RD.done (by kernel_rfl) ?_
 refine WPK.region ?_
 refine RW.seg hT 2 [] [] [.int .i64 (IntKind.i64.wrap (x2 + 1)), .int .i64 (IntKind.i64.wrap (x2 + 1))] [] (by kernel_rfl) (trivial) ?_
 refine RW.nil ?_
 subst hrec1
 replace s := s.pick [2, 3, 4, 5, 6] 7 rfl
 exact ⟨n5, Nat.le_refl _, fun X h => kc (by kernel_rfl) rfl (h I5 (IntKind.i64.wrap (x2 + 1)) x6 A13 u13 cl8 _ hf s kk e1 rp6 e2 e3 rp1)⟩
 have hf := iteF h1 hf
 refine WPK.condF (Eq.trans (b := .bool (decide (x2 < (p0.Pairs.length : Int)))) (by kernel_rfl) (bo_f h1)) ?_
 refine WPK.exit (blockQ.same ?_)
 refine WPK.seq ?_
 refine WPK.seq ?_
 refine WPK.region ?_
 refine RW.seg hT 4 [.slice A2 p0.Keys.length u2] [] [.pointer (some ⟨b1, 2, none⟩), .slice A2 p0.Keys.length u2, .int .i64 (p0.Keys.length : Int), .int .i64 0] [.cell ⟨b1, 2, none⟩ (.slice A2 p0.Keys.length u2)] (by kernel_rfl) (s.cell (i := 3) (off := 2) rfl rfl) ?_
 refine RW.nil ?_
 refine WPK.block ?_
 replace s := s.pushNil 27 1
 replace s := s.pick [1, 2, 3, 5, 0] 6 rfl
 refine WPK.loop' (J := fun n8 D3 ds wz => ∀ X : Kont, (∀ (I6 : Nat → Prop) (x7 : Int) (x8 : (List (List Int))) (A14 : Option Addr) (u14 : Nat) (cl9 : List Value) (w' : World), g25_l3 p0 x1 x3 n8 x7 x8 = some r → St w1 M I6 ((.blk b3 (.cells #[.bool p0.Leaf, .slice A8 x3.length u8, .slice A14 x8.length u14, .slice A7 n4 u7] 26 (0, 0))) :: (.sl (.slice A7 n4 u7) 3 1 n4 cl4) :: (.blk b2 (.cells #[.bool false, .slice none 0 0, .slice none 0 0, .slice none 0 0] 26 (0, 0))) :: (.sl (.slice A8 x3.length u8) 48 2 x3.length cl5) :: (.sl (.slice A14 x8.length u14) 27 1 x8.length cl9) :: F) w' → Kp I w I6 w' → Elems (Rp.slice (Rp.int .u8)) I6 w' A2 p0.Keys → RepL (Rp.slice (Rp.int .u8)) I6 w' cl9 x8 → RepL (Rp.int .i64) I6 w' cl4 x1 → RepL rp_T_api_Pair I6 w' cl5 x3 → X [(gd D3 0), (gd D3 1), .pointer (some ⟨b2, 0, none⟩), .pointer (some ⟨b3, 0, none⟩), (gd D3 4), (gd D3 5), (gd D3 6), (gd D3 7), (gd D3 8), (gd D3 9), (gd D3 10), (gd D3 11), (gd D3 12), (gd D3 13), (gd D3 14), (gd D3 15), (gd D3 16), (gd D3 17), (gd D3 18), (gd D3 19), (gd D3 20), (gd D3 21), (gd D3 22), (gd D3 23), (gd D3 24), (gd D3 25), (gd D3 26), (gd D3 27), (gd D3 28), (gd D3 29), .slice A2 p0.Keys.length u2, .int .i64 (p0.Keys.length : Int), .int .i64 x7, (gd D3 33), (gd D3 34), (gd D3 35), (gd D3 36), (gd D3 37), (gd D3 38), (gd D3 39), (gd D3 40), (gd D3 41), (gd D3 42), (gd D3 43), undef] [] w') → X D3 ds wz) FUEL (fun X h => kc (by kernel_rfl) rfl (h I2 0 ([] : List (List Int)) none 0 [] _ hf s kk e2 (RepL.nil (r := (Rp.slice (Rp.int .u8)))) rp1 rp2)) (fun _ _ _ hJ => hJ (fun _ _ _ => False) (by intro I6 x7 x8 A14 u14 cl9 w13 hf s kk e2 rp7 rp1 rp2; exact noneS hf)) ?_
 intro X4 hX4
 refine fun n8 D3 _ _ hJ => hJ (X4 n8) ?_
 clear s
 intro I6 x7 x8 A14 u14 cl9 w13 hf s kk e2 rp7 rp1 rp2
 refine hX4 _ _ _ _ ?_
 replace hf : g25_l3B p0 x1 x3 (g25_l3 p0 x1 x3 n8) x7 x8 = some r := hf
 generalize hrec2 : g25_l3 p0 x1 x3 n8 = rec2 at hf
 unfold g25_l3B at hf
 refine WPK.seq ?_
 refine WPK.region ?_
 refine RW.seg hT 1 [] [] [.bool (decide (x7 < (p0.Keys.length : Int)))] [] (by kernel_rfl) (trivial) ?_
 refine RW.nil ?_
 refine WPK.seq ?_
 by_cases h3 : x7 < (p0.Keys.length : Int)
 have hf := iteT h3 hf
 refine WPK.condT (Eq.trans (b := .bool (decide (x7 < (p0.Keys.length : Int)))) (by kernel_rfl) (bo_t h3)) ?_
 refine WPK.skip ?_
 refine WPK.seq ?_
 refine WPK.block ?_
 refine WPK.seq ?_
 refine WPK.region ?_
 obtain ⟨x9, hx4, hf⟩ := bindS hf
 obtain ⟨h4, hx4⟩ := getS hx4
 obtain ⟨b7, o2, rfl⟩ := Elems.opn e2 hx4
 obtain ⟨cs4, hr4, ha2⟩ := Elems.get e2 hx4
 obtain ⟨A15, u15, rfl, q5, q6, e8⟩ := hr4
 have hc8 := And.intro q5 q6
 refine RW.seg hT 3 [.slice A15 x9.length u15] [] [.pointer (some ⟨b7, o2 + x7.toNat * 1, none⟩), .slice A15 x9.length u15, .slice A15 x9.length u15] [.idx x7 p0.Keys.length, .cell ⟨b7, o2 + x7.toNat * 1, none⟩ (.slice A15 x9.length u15)] (by kernel_rfl) (⟨h4, ha2 0 _ rfl⟩) ?_
 refine RW.nil ?_
 have e8S2 := e8
 have e2S2 := e2
 have rp1S2 := rp1
 have rp2S2 := rp2
 have rp7S2 := rp7
 have kS2 : Kp I6 w13 I6 w13 := Kp.refl
 refine WPK.drawM (fun w' => ∃ I' : Nat → Prop, St w1 M I' ((.blk b3 (.cells #[.bool p0.Leaf, .slice A8 x3.length u8, .slice A14 x8.length u14, .slice A7 n4 u7] 26 (0, 0))) :: (.sl (.slice A7 n4 u7) 3 1 n4 cl4) :: (.blk b2 (.cells #[.bool false, .slice none 0 0, .slice none 0 0, .slice none 0 0] 26 (0, 0))) :: (.sl (.slice A8 x3.length u8) 48 2 x3.length cl5) :: (.sl (.slice A14 x8.length u14) 27 1 x8.length cl9) :: F) w' ∧ Kp I6 w13 I' w') 5 [0, 1, 0, 4, 12, 31, 63, 127] (by kernel_rfl) (by kernel_rfl) ?_
 intro ht2 w14 hd2
 have k12 := Kp.dr s hd2
 replace s := s.dr hd2
 replace e8 := e8.st k12
 replace e2 := e2.st k12
 replace rp1 := rp1.st k12
 replace rp2 := rp2.st k12
 replace rp7 := rp7.st k12
 replace kk := kk.trans k12
 replace kS2 := kS2.trans k12
 refine RD.segM hT ht2 (by kernel_rfl) [0, 1, 2] [.slice A14 x8.length u14] [] [.pointer (some ⟨b3, 2, none⟩), .slice A14 x8.length u14, .slice A15 x9.length u15] [.cell ⟨b3, 2, none⟩ (.slice A14 x8.length u14)] (by kernel_rfl) (by rintro w' ⟨I', s, k⟩; have e8 := e8S2.st k; have e2 := e2S2.st k; have rp1 := rp1S2.st k; have rp2 := rp2S2.st k; have rp7 := rp7S2.st k; exact s.cell (i := 0) (off := 2) rfl rfl) ⟨_, s.pick [0, 1, 2, 3, 4] 5 rfl, kS2⟩ ?_
 obtain ⟨x10, hx5, hf⟩ := bindS hf
 refine RD.op (i := 3) rfl (by kernel_rfl) (by kernel_rfl) (OK.call' en60 (by kernel_rfl) (c60 (F := (.blk b3 (.cells #[.bool p0.Leaf, .slice A8 x3.length u8, .slice A14 x8.length u14, .slice A7 n4 u7] 26 (0, 0))) :: (.sl (.slice A7 n4 u7) 3 1 n4 cl4) :: (.blk b2 (.cells #[.bool false, .slice none 0 0, .slice none 0 0, .slice none 0 0] 26 (0, 0))) :: (.sl (.slice A8 x3.length u8) 48 2 x3.length cl5) :: (.sl (.slice A14 x8.length u14) 27 1 x8.length cl9) :: F) x9 A15 u15 hc8 e8 s hx5) ?_)
 intro X5 hX5
 refine fun _ _ hJ => hJ X5 ?_
 clear s
 intro I7 A16 n9 u16 cl10 w15 s k13 hn4 rp8
 refine hX5 _ _ ?_
 replace e8 := e8.st k13
 replace e2 := e2.st k13
 replace rp1 := rp1.st k13
 replace rp2 := rp2.st k13
 replace rp7 := rp7.st k13
 replace kk := kk.trans k13
 replace kS2 := kS2.trans k13
 refine ⟨fun _ => ⟨_, s.pick [1, 2, 3, 4, 5] 6 rfl, kS2⟩, RD.fold ?_⟩
 rw [hn4] at s
 try rw [hn4]
 obtain ⟨I8, s', k14, hc9, e9⟩ := St.give s (i := 0) rfl rfl rp8
 replace s := s'; clear s'
 replace e8 := e8.st k14
 replace e2 := e2.st k14
 replace rp1 := rp1.st k14
 replace rp2 := rp2.st k14
 replace rp7 := rp7.st k14
 replace kk := kk.trans k14
 replace kS2 := kS2.trans k14
 refine RD.op (i := 4) rfl (by kernel_rfl) (by kernel_rfl) (OK.new hT (f := fun b => .slice (some ⟨b, 0, none⟩) 1 1) (cs := [.slice A16 x10.length u16]) (e := 27) (c := .tt) s (by kernel_rfl) trivial ?_)
 clear s
 rintro w16 b8 s k15 -
 replace e8 := e8.st k15
 replace e2 := e2.st k15
 replace e9 := e9.st k15
 replace rp1 := rp1.st k15
 replace rp2 := rp2.st k15
 replace rp7 := rp7.st k15
 replace kk := kk.trans k15
 replace kS2 := kS2.trans k15
 have rp9 : RepL (Rp.slice (Rp.int .u8)) I8 w16 [.slice A16 x10.length u16] ([x10] : List (List Int)) := RepL.cons (c := [.slice A16 x10.length u16]) (d := []) (⟨_, _, rfl, hc9.1, hc9.2, e9⟩) (RepL.nil)
 replace s : St w1 M I8 ((.sl (.slice (some ⟨b8, 0, none⟩) 1 1) 27 1 1 [.slice A16 x10.length u16]) :: (.blk b3 (.cells #[.bool p0.Leaf, .slice A8 x3.length u8, .slice A14 x8.length u14, .slice A7 n4 u7] 26 (0, 0))) :: (.sl (.slice A7 n4 u7) 3 1 n4 cl4) :: (.blk b2 (.cells #[.bool false, .slice none 0 0, .slice none 0 0, .slice none 0 0] 26 (0, 0))) :: (.sl (.slice A8 x3.length u8) 48 2 x3.length cl5) :: (.sl (.slice A14 x8.length u14) 27 1 x8.length cl9) :: F) w16 := s.blkSl (i := 0) (n := 1) (c := 1) (size := 1) rfl rfl (Nat.le_refl _) (by decide)
 refine ⟨fun _ => ⟨_, s.pick [1, 2, 3, 4, 5] 6 rfl, kS2⟩, RD.fold ?_⟩
 have hs2 := St.src s (i := 0) rfl rfl rp9
 have rq2 := rp9
 obtain ⟨x11, hx6, hf⟩ := bindS hf
 refine RD.op (i := 5) rfl (by kernel_rfl) (by kernel_rfl) (OK.app hT (r := (Rp.slice (Rp.int .u8))) (i := 5) (t := 23) (e := 27) (size := 1) (bytes := 24) (c := u14) (n := x8.length) (m := 1) s (by kernel_rfl) rfl rfl rfl rfl rfl (by decide) rfl rfl rfl rfl rp7 hs2 rq2 flat_slice rfl hx6 ?_)
 clear s
 rintro A17 u17 cl11 w17 s k16 rp10
 replace e8 := e8.st k16
 replace e2 := e2.st k16
 replace e9 := e9.st k16
 replace rp9 := rp9.st k16
 replace rp1 := rp1.st k16
 replace rp2 := rp2.st k16
 replace rp7 := rp7.st k16
 replace kk := kk.trans k16
 replace kS2 := kS2.trans k16
 refine ⟨fun h => absurd h (by decide), RD.fold ?_⟩
 refine RD.op (i := 6) rfl (by kernel_rfl) (by kernel_rfl) (OK.pure hT (ld := undef) (v := .pointer (some ⟨b3, 2, none⟩)) (c := .tt) (by kernel_rfl) (trivial) ?_)
 refine ⟨fun h => absurd h (by decide), RD.fold ?_⟩
 refine RD.op (i := 7) rfl (by kernel_rfl) (by kernel_rfl) (OK.store hT (i := 1) (b := b3) (off := 2) (n := 1) (vs := [.slice A17 x11.length u17]) (cs := [.bool p0.Leaf, .slice A8 x3.length u8, (.slice A14 x8.length u14), .slice A7 n4 u7]) (e := 26) s (by kernel_rfl) rfl rfl (flat_ok rfl) (Nat.le_of_ble_eq_true rfl) ?_)
 clear s
 rintro w18 s k17 -
 replace e8 := e8.st k17
 replace e2 := e2.st k17
 replace e9 := e9.st k17
 replace rp9 := rp9.st k17
 replace rp1 := rp1.st k17
 replace rp2 := rp2.st k17
 replace rp10 := rp10.st k17
 replace kk := kk.trans k17
 replace kS2 := kS2.trans k17
 refine ⟨fun h => absurd h (by decide), RD.fold ?_⟩
 refine RD.done (by kernel_rfl) ?_
 refine WPK.region ?_
 refine RW.seg hT 2 [] [] [.int .i64 (IntKind.i64.wrap (x7 + 1)), .int .i64 (IntKind.i64.wrap (x7 + 1))] [] (by kernel_rfl) (trivial) ?_
 refine RW.nil ?_
 subst hrec2
 replace s := s.pick [1, 2, 3, 4, 5] 6 rfl
 exact ⟨n8, Nat.le_refl _, fun X h => kc (by kernel_rfl) rfl (h I8 (IntKind.i64.wrap (x7 + 1)) x11 A17 u17 cl11 _ hf s kk e2 rp10 rp1 rp2)⟩
 have hf := iteF h3 hf
 refine WPK.condF (Eq.trans (b := .bool (decide (x7 < (p0.Keys.length : Int)))) (by kernel_rfl) (bo_f h3)) ?_
 refine WPK.exit (blockQ.same ?_)
 refine WPK.seq ?_
 refine WPK.region ?_
 refine RW.seg hT 1 [.agg #[.bool p0.Leaf, .slice A8 x3.length u8, .slice A14 x8.length u14, .slice A7 n4 u7]] [] [.agg #[.bool p0.Leaf, .slice A8 x3.length u8, .slice A14 x8.length u14, .slice A7 n4 u7]] [.cells ⟨b3, 0, none⟩ [.bool p0.Leaf, .slice A8 x3.length u8, .slice A14 x8.length u14, .slice A7 n4 u7] 4] (by kernel_rfl) (s.cells (i := 0) rfl rfl rfl) ?_
 refine RW.op (by kernel_rfl) (OK.store hT (i := 2) (b := b2) (off := 0) (n := 4) (vs := [.bool p0.Leaf, .slice A8 x3.length u8, .slice A14 x8.length u14, .slice A7 n4 u7]) (cs := [.bool false, .slice none 0 0, .slice none 0 0, .slice none 0 0]) (e := 26) s (by kernel_rfl) rfl rfl (flat_ok rfl) (Nat.le_of_ble_eq_true rfl) ?_)
 clear s
 rintro w19 s k18 -
 replace e2 := e2.st k18
 replace rp1 := rp1.st k18
 replace rp2 := rp2.st k18
 replace rp7 := rp7.st k18
 replace kk := kk.trans k18
 refine RW.nil ?_
 refine WPK.ret (?_)
 obtain rfl := someS hf
 refine Fin.of (rs := [.cell 2 26]) hT [.agg #[.bool p0.Leaf, .slice A8 x3.length u8, .slice A14 x8.length u14, .slice A7 n4 u7]] (.agg #[.bool p0.Leaf, .slice A8 x3.length u8, .slice A14 x8.length u14, .slice A7 n4 u7]) [.cells ⟨b2, 0, none⟩ [.bool p0.Leaf, .slice A8 x3.length u8, .slice A14 x8.length u14, .slice A7 n4 u7] 4] rfl (by kernel_rfl) (s.cells (i := 2) rfl rfl rfl) ?_
 replace s := s.pick [3, 4, 1] 5 rfl
 exact fun X h => vc rfl (h I6 A8 x3.length u8 cl5 A14 x8.length u14 cl9 A7 n4 u7 cl4 _ s kk rfl rp2 rfl rp7 hn1 rp1)
 have e1S3 := e1
 have e2S3 := e2
 have e3S3 := e3
 have kS3 : Kp I w3 I w3 := Kp.refl
 refine WPK.drawM (fun w' => ∃ I' : Nat → Prop, St w1 M I' ((.blk b2 (.cells #[.bool false, .slice none 0 0, .slice none 0 0, .slice none 0 0] 26 (0, 0))) :: (.blk b1 (.cells #[.bool p0.Leaf, .slice A1 p0.Pairs.length u1, .slice A2 p0.Keys.length u2, .slice A3 p0.Kids.length u3] 26 (0, 0))) :: F) w' ∧ Kp I w3 I' w') 7 [0, 1, 0, 4, 12, 31, 0, 127] (by kernel_rfl) (by kernel_rfl) ?_
 intro ht3 w20 hd3
 have k19 := Kp.dr s hd3
 replace s := s.dr hd3
 replace e1 := e1.st k19
 replace e2 := e2.st k19
 replace e3 := e3.st k19
 replace kk := kk.trans k19
 replace kS3 := kS3.trans k19
 refine RD.segM hT ht3 (by kernel_rfl) [0, 1, 2, 3] [.bool p0.Leaf, .slice A3 p0.Kids.length u3] [] [.pointer (some ⟨b1, 0, none⟩), .bool p0.Leaf, .pointer (some ⟨b1, 3, none⟩), .slice A3 p0.Kids.length u3] [.cell ⟨b1, 0, none⟩ (.bool p0.Leaf), .cell ⟨b1, 3, none⟩ (.slice A3 p0.Kids.length u3)] (by kernel_rfl) (by rintro w' ⟨I', s, k⟩; have e1 := e1S3.st k; have e2 := e2S3.st k; have e3 := e3S3.st k; exact ⟨s.cell (i := 1) (off := 0) rfl rfl, s.cell (i := 1) (off := 3) rfl rfl⟩) ⟨_, s.pick [0, 1] 2 rfl, kS3⟩ ?_
 obtain ⟨x12, hx7, hf⟩ := bindS hf
 refine RD.ways [4, 6] (by kernel_rfl) (List.forall_mem_cons.2 ⟨?_, List.forall_mem_cons.2 ⟨?_, fun _ h => nomatch h⟩⟩)
 refine RWay.op rfl (by kernel_rfl) (OK.call' en59 (by kernel_rfl) (c59 (F := (.blk b2 (.cells #[.bool false, .slice none 0 0, .slice none 0 0, .slice none 0 0] 26 (0, 0))) :: (.blk b1 (.cells #[.bool p0.Leaf, .slice A1 p0.Pairs.length u1, .slice A2 p0.Keys.length u2, .slice A3 p0.Kids.length u3] 26 (0, 0))) :: F) p0.Kids A3 u3 hc3 e3 s hx7) ?_)
 intro X6 hX6
 refine fun _ _ hJ => hJ X6 ?_
 clear s
 intro I9 A18 n10 u18 cl12 w21 s k20 hn5 rp11
 refine hX6 _ _ ?_
 replace e1 := e1.st k20
 replace e2 := e2.st k20
 replace e3 := e3.st k20
 replace kk := kk.trans k20
 replace kS3 := kS3.trans k20
 refine ⟨fun _ => ⟨_, s.pick [1, 2] 3 rfl, kS3⟩, RD.fold ?_⟩
 refine RD.segM hT ht3 (by kernel_rfl) [5] [] [] [.agg #[.bool p0.Leaf, .slice none 0 0, .slice none 0 0, .slice A18 n10 u18]] [] (by kernel_rfl) (fun _ _ => trivial) ⟨_, s.pick [1, 2] 3 rfl, kS3⟩ ?_
 refine RD.op (i := 6) rfl (by kernel_rfl) (by kernel_rfl) (OK.new hT (f := fun b => .pointer (some ⟨b, 0, none⟩)) (cs := [.bool false, .slice none 0 0, .slice none 0 0, .slice none 0 0]) (e := 26) (c := .tt) s (by kernel_rfl) trivial ?_)
 clear s
 rintro w22 b9 s k21 -
 replace e1 := e1.st k21
 replace e2 := e2.st k21
 replace e3 := e3.st k21
 replace rp11 := rp11.st k21
 replace kk := kk.trans k21
 replace kS3 := kS3.trans k21
 refine ⟨fun _ => ⟨_, s.pick [2, 3] 4 rfl, kS3⟩, RD.fold ?_⟩
 refine RD.op (i := 7) rfl (by kernel_rfl) (by kernel_rfl) (OK.store hT (i := 0) (b := b9) (off := 0) (n := 4) (vs := [.bool p0.Leaf, .slice none 0 0, .slice none 0 0, .slice A18 n10 u18]) (cs := [.bool false, .slice none 0 0, .slice none 0 0, .slice none 0 0]) (e := 26) s (by kernel_rfl) rfl rfl (flat_ok rfl) (Nat.le_of_ble_eq_true rfl) ?_)
 clear s
 rintro w23 s k22 -
 replace e1 := e1.st k22
 replace e2 := e2.st k22
 replace e3 := e3.st k22
 replace rp11 := rp11.st k22
 replace kk := kk.trans k22
 replace kS3 := kS3.trans k22
 refine ⟨fun h => absurd h (by decide), RD.fold ?_⟩
 refine RD.done (by kernel_rfl) ?_
 exact fun X h => kc (by kernel_rfl) rfl (h I9 x12 b9 A18 n10 u18 cl12 _ hf s kk hn5 rp11 e1 e2 e3)
 refine RWay.op rfl (by kernel_rfl) (OK.new hT (f := fun b => .pointer (some ⟨b, 0, none⟩)) (cs := [.bool false, .slice none 0 0, .slice none 0 0, .slice none 0 0]) (e := 26) (c := .tt) s (by kernel_rfl) trivial ?_)
 clear s
 rintro w22 b9 s k21 -
 replace e1 := e1.st k21
 replace e2 := e2.st k21
 replace e3 := e3.st k21
 replace kk := kk.trans k21
 replace kS3 := kS3.trans k21
 refine ⟨fun _ => ⟨_, s.pick [1, 2] 3 rfl, kS3⟩, RD.fold ?_⟩
 refine RD.op (i := 4) rfl (by kernel_rfl) (by kernel_rfl) (OK.call' en59 (by kernel_rfl) (c59 (F := (.blk b9 (.cells #[.bool false, .slice none 0 0, .slice none 0 0, .slice none 0 0] 26 (0, 0))) :: (.blk b2 (.cells #[.bool false, .slice none 0 0, .slice none 0 0, .slice none 0 0] 26 (0, 0))) :: (.blk b1 (.cells #[.bool p0.Leaf, .slice A1 p0.Pairs.length u1, .slice A2 p0.Keys.length u2, .slice A3 p0.Kids.length u3] 26 (0, 0))) :: F) p0.Kids A3 u3 hc3 e3 s hx7) ?_)
 intro X7 hX7
 refine fun _ _ hJ => hJ X7 ?_
 clear s
 intro I10 A19 n11 u19 cl13 w24 s k23 hn6 rp12
 refine hX7 _ _ ?_
 replace e1 := e1.st k23
 replace e2 := e2.st k23
 replace e3 := e3.st k23
 replace kk := kk.trans k23
 replace kS3 := kS3.trans k23
 refine ⟨fun _ => ⟨_, s.pick [2, 3] 4 rfl, kS3⟩, RD.fold ?_⟩
 refine RD.segM hT ht3 (by kernel_rfl) [5] [] [] [.agg #[.bool p0.Leaf, .slice none 0 0, .slice none 0 0, .slice A19 n11 u19]] [] (by kernel_rfl) (fun _ _ => trivial) ⟨_, s.pick [2, 3] 4 rfl, kS3⟩ ?_
 refine RD.op (i := 7) rfl (by kernel_rfl) (by kernel_rfl) (OK.store hT (i := 1) (b := b9) (off := 0) (n := 4) (vs := [.bool p0.Leaf, .slice none 0 0, .slice none 0 0, .slice A19 n11 u19]) (cs := [.bool false, .slice none 0 0, .slice none 0 0, .slice none 0 0]) (e := 26) s (by kernel_rfl) rfl rfl (flat_ok rfl) (Nat.le_of_ble_eq_true rfl) ?_)
 clear s
 rintro w25 s k24 -
 replace e1 := e1.st k24
 replace e2 := e2.st k24
 replace e3 := e3.st k24
 replace rp12 := rp12.st k24
 replace kk := kk.trans k24
 replace kS3 := kS3.trans k24
 refine ⟨fun h => absurd h (by decide), RD.fold ?_⟩
 refine RD.done (by kernel_rfl) ?_
 replace s := s.pick [1, 0, 2, 3] 4 rfl
 exact fun X h => kc (by kernel_rfl) rfl (h I10 x12 b9 A19 n11 u19 cl13 _ hf s kk hn6 rp12 e1 e2 e3)
theorem c35 {w1 w : World} {M I : Nat → Prop} {F : List It} (p0 : T_api_Node) (A1 : Option Addr) (u1 : Nat) (A2 : Option Addr) (u2 : Nat) (A3 : Option Addr) (u3 : Nat) (hc1 : (p0.Pairs.length ≤ u1 ∧ u1 ≤ 9223372036854775807)) (e1 : Elems rp_T_api_Pair I w A1 p0.Pairs) (hc2 : (p0.Keys.length ≤ u2 ∧ u2 ≤ 9223372036854775807)) (e2 : Elems (Rp.slice (Rp.int .u8)) I w A2 p0.Keys) (hc3 : (p0.Kids.length ≤ u3 ∧ u3 ≤ 9223372036854775807)) (e3 : Elems (Rp.int .i64) I w A3 p0.Kids) (s : St w1 M I (F) w) {r : (T_api_Node × (List Int) × T_api_Node × Int)} (hf : g35 p0 = some r) :
   Ret Try.prog 35 [.agg #[.bool p0.Leaf, .slice A1 p0.Pairs.length u1, .slice A2 p0.Keys.length u2, .slice A3 p0.Kids.length u3]] w fun v wz => ∀ X : Value → World → Prop, (∀ (I' : Nat → Prop) (A4 : Option Addr) (u4 : Nat) (A5 : Option Addr) (u5 : Nat) (A6 : Option Addr) (u6 : Nat) (A7 : Option Addr) (u7 : Nat) (A8 : Option Addr) (u8 : Nat) (A9 : Option Addr) (u9 : Nat) (A10 : Option Addr) (u10 : Nat) (w' : World), St w1 M I' (F) w' → Kp I w I' w' → (r.1.Pairs.length ≤ u4 ∧ u4 ≤ 9223372036854775807) → Elems rp_T_api_Pair I' w' A4 r.1.Pairs → (r.1.Keys.length ≤ u5 ∧ u5 ≤ 9223372036854775807) → Elems (Rp.slice (Rp.int .u8)) I' w' A5 r.1.Keys → (r.1.Kids.length ≤ u6 ∧ u6 ≤ 9223372036854775807) → Elems (Rp.int .i64) I' w' A6 r.1.Kids → (r.2.1.length ≤ u7 ∧ u7 ≤ 9223372036854775807) → Elems (Rp.int .u8) I' w' A7 r.2.1 → (r.2.2.1.Pairs.length ≤ u8 ∧ u8 ≤ 9223372036854775807) → Elems rp_T_api_Pair I' w' A8 r.2.2.1.Pairs → (r.2.2.1.Keys.length ≤ u9 ∧ u9 ≤ 9223372036854775807) → Elems (Rp.slice (Rp.int .u8)) I' w' A9 r.2.2.1.Keys → (r.2.2.1.Kids.length ≤ u10 ∧ u10 ≤ 9223372036854775807) → Elems (Rp.int .i64) I' w' A10 r.2.2.1.Kids → X (.tuple #[.agg #[.bool r.1.Leaf, .slice A4 r.1.Pairs.length u4, .slice A5 r.1.Keys.length u5, .slice A6 r.1.Kids.length u6], .slice A7 r.2.1.length u7, .agg #[.bool r.2.2.1.Leaf, .slice A8 r.2.2.1.Pairs.length u8, .slice A9 r.2.2.1.Keys.length u9, .slice A10 r.2.2.1.Kids.length u10], .int .i64 r.2.2.2]) w') → X v wz := by
 have kk : Kp I w I w := Kp.refl
 unfold g35 at hf
 refine Ret.of Try.func35 rfl ?_
 refine WPK.seq ?_
 refine WPK.region ?_
 refine RW.op (by kernel_rfl) (OK.new hT (f := fun b => .pointer (some ⟨b, 0, none⟩)) (cs := [.bool p0.Leaf, .slice A1 p0.Pairs.length u1, .slice A2 p0.Keys.length u2, .slice A3 p0.Kids.length u3]) (e := 26) (c := .tt) s (by kernel_rfl) trivial ?_)
 clear s
 rintro w2 b1 s k1 -
 replace e1 := e1.st k1
 replace e2 := e2.st k1
 replace e3 := e3.st k1
 replace kk := kk.trans k1
 refine RW.op (by kernel_rfl) (OK.new hT (f := fun b => .pointer (some ⟨b, 0, none⟩)) (cs := [.bool false, .slice none 0 0, .slice none 0 0, .slice none 0 0]) (e := 26) (c := .tt) s (by kernel_rfl) trivial ?_)
 clear s
 rintro w3 b2 s k2 -
 replace e1 := e1.st k2
 replace e2 := e2.st k2
 replace e3 := e3.st k2
 replace kk := kk.trans k2
 refine RW.seg hT 1 [] [] [.slice none 0 0] [] (by kernel_rfl) (trivial) ?_
 refine RW.op (by kernel_rfl) (OK.new hT (f := fun b => .pointer (some ⟨b, 0, none⟩)) (cs := [.bool false, .slice none 0 0, .slice none 0 0, .slice none 0 0]) (e := 26) (c := .tt) s (by kernel_rfl) trivial ?_)
 clear s
 rintro w4 b3 s k3 -
 replace e1 := e1.st k3
 replace e2 := e2.st k3
 replace e3 := e3.st k3
 replace kk := kk.trans k3
 refine RW.seg hT 1 [] [] [.int .i64 0] [] (by kernel_rfl) (trivial) ?_
 refine RW.nil ?_
 refine WPK.seq ?_
 refine WPK.seq ?_
 refine WPK.region ?_
 refine RW.seg hT 1 [.agg #[.bool p0.Leaf, .slice A1 p0.Pairs.length u1, .slice A2 p0.Keys.length u2, .slice A3 p0.Kids.length u3]] [] [.agg #[.bool p0.Leaf, .slice A1 p0.Pairs.length u1, .slice A2 p0.Keys.length u2, .slice A3 p0.Kids.length u3]] [.cells ⟨b1, 0, none⟩ [.bool p0.Leaf, .slice A1 p0.Pairs.length u1, .slice A2 p0.Keys.length u2, .slice A3 p0.Kids.length u3] 4] (by kernel_rfl) (s.cells (i := 2) rfl rfl rfl) ?_
 obtain ⟨x1, hx1, hf⟩ := bindS hf
 refine RW.op (by kernel_rfl) (OK.call' en50 (by kernel_rfl) (c50 (F := (.blk b3 (.cells #[.bool false, .slice none 0 0, .slice none 0 0, .slice none 0 0] 26 (0, 0))) :: (.blk b2 (.cells #[.bool false, .slice none 0 0, .slice none 0 0, .slice none 0 0] 26 (0, 0))) :: (.blk b1 (.cells #[.bool p0.Leaf, .slice A1 p0.Pairs.length u1, .slice A2 p0.Keys.length u2, .slice A3 p0.Kids.length u3] 26 (0, 0))) :: F) p0 A1 u1 A2 u2 A3 u3 hc1 e1 hc2 e2 hc3 e3 s hx1) ?_)
 intro X1 hX1
 refine fun _ _ hJ => hJ X1 ?_
 clear s
 intro I1 w5 s k4
 refine hX1 _ _ ?_
 replace e1 := e1.st k4
 replace e2 := e2.st k4
 replace e3 := e3.st k4
 replace kk := kk.trans k4
 refine RW.seg hT 1 [] [(19, .bool (decide (¬ (x1 = true))))] [.bool (decide (¬ (x1 = true)))] [.veq (.bool (!x1)) (.bool (decide (¬ (x1 = true))))] (by kernel_rfl) (not_b) ?_
 refine RW.nil ?_
 by_cases h1 : ¬ (x1 = true)
 have hf := iteT h1 hf
 refine WPK.condT (Eq.trans (b := .bool (decide (¬ (x1 = true)))) (by kernel_rfl) (bo_t h1)) ?_
 refine WPK.seq ?_
 refine WPK.region ?_
 refine RW.seg hT 2 [] [] [.agg #[.bool false, .slice none 0 0, .slice none 0 0, .slice none 0 0], .agg #[.bool false, .slice none 0 0, .slice none 0 0, .slice none 0 0]] [] (by kernel_rfl) (trivial) ?_
 refine RW.op (by kernel_rfl) (OK.store hT (i := 1) (b := b2) (off := 0) (n := 4) (vs := [.bool false, .slice none 0 0, .slice none 0 0, .slice none 0 0]) (cs := [.bool false, .slice none 0 0, .slice none 0 0, .slice none 0 0]) (e := 26) s (by kernel_rfl) rfl rfl (flat_ok rfl) (Nat.le_of_ble_eq_true rfl) ?_)
 clear s
 rintro w6 s k5 -
 replace e1 := e1.st k5
 replace e2 := e2.st k5
 replace e3 := e3.st k5
 replace kk := kk.trans k5
 refine RW.seg hT 1 [] [] [.slice none 0 0] [] (by kernel_rfl) (trivial) ?_
 refine RW.op (by kernel_rfl) (OK.store hT (i := 0) (b := b3) (off := 0) (n := 4) (vs := [.bool false, .slice none 0 0, .slice none 0 0, .slice none 0 0]) (cs := [.bool false, .slice none 0 0, .slice none 0 0, .slice none 0 0]) (e := 26) s (by kernel_rfl) rfl rfl (flat_ok rfl) (Nat.le_of_ble_eq_true rfl) ?_)
 clear s
 rintro w7 s k6 -
 replace e1 := e1.st k6
 replace e2 := e2.st k6
 replace e3 := e3.st k6
 replace kk := kk.trans k6
 refine RW.seg hT 1 [] [] [.int .i64 100] [] (by kernel_rfl) (trivial) ?_
 refine RW.nil ?_
 refine WPK.ret (?_)
 obtain rfl := someS hf
 refine Fin.of (rs := [.cell 2 26, .tmp 3, .cell 4 26, .tmp 5]) hT [.agg #[.bool false, .slice none 0 0, .slice none 0 0, .slice none 0 0], .agg #[.bool false, .slice none 0 0, .slice none 0 0, .slice none 0 0]] (.tuple #[.agg #[.bool false, .slice none 0 0, .slice none 0 0, .slice none 0 0], .slice none 0 0, .agg #[.bool false, .slice none 0 0, .slice none 0 0, .slice none 0 0], .int .i64 100]) [.cells ⟨b2, 0, none⟩ [.bool false, .slice none 0 0, .slice none 0 0, .slice none 0 0] 4, .cells ⟨b3, 0, none⟩ [.bool false, .slice none 0 0, .slice none 0 0, .slice none 0 0] 4] rfl (by kernel_rfl) (⟨s.cells (i := 1) rfl rfl rfl, s.cells (i := 0) rfl rfl rfl⟩) ?_
 replace s := s.pick [] 3 rfl
 exact fun X h => vc rfl (h I1 none 0 none 0 none 0 none 0 none 0 none 0 none 0 _ s kk nil_hc Elems.nil nil_hc Elems.nil nil_hc Elems.nil nil_hc Elems.nil nil_hc Elems.nil nil_hc Elems.nil nil_hc Elems.nil)
 have hf := iteF h1 hf
 refine WPK.condF (Eq.trans (b := .bool (decide (¬ (x1 = true)))) (by kernel_rfl) (bo_f h1)) ?_
 refine WPK.skip ?_
 refine WPK.seq ?_
 refine WPK.region ?_
 refine RW.seg hT 1 [.agg #[.bool p0.Leaf, .slice A1 p0.Pairs.length u1, .slice A2 p0.Keys.length u2, .slice A3 p0.Kids.length u3]] [] [.agg #[.bool p0.Leaf, .slice A1 p0.Pairs.length u1, .slice A2 p0.Keys.length u2, .slice A3 p0.Kids.length u3]] [.cells ⟨b1, 0, none⟩ [.bool p0.Leaf, .slice A1 p0.Pairs.length u1, .slice A2 p0.Keys.length u2, .slice A3 p0.Kids.length u3] 4] (by kernel_rfl) (s.cells (i := 2) rfl rfl rfl) ?_
 obtain ⟨x2, hx2, hf⟩ := bindS hf
 refine RW.op (by kernel_rfl) (OK.call' en66 (by kernel_rfl) (c66 (F := (.blk b3 (.cells #[.bool false, .slice none 0 0, .slice none 0 0, .slice none 0 0] 26 (0, 0))) :: (.blk b2 (.cells #[.bool false, .slice none 0 0, .slice none 0 0, .slice none 0 0] 26 (0, 0))) :: (.blk b1 (.cells #[.bool p0.Leaf, .slice A1 p0.Pairs.length u1, .slice A2 p0.Keys.length u2, .slice A3 p0.Kids.length u3] 26 (0, 0))) :: F) p0 A1 u1 A2 u2 A3 u3 hc1 e1 hc2 e2 hc3 e3 s hx2) ?_)
 intro X2 hX2
 refine fun _ _ hJ => hJ X2 ?_
 clear s
 intro I2 w8 s k7
 refine hX2 _ _ ?_
 replace e1 := e1.st k7
 replace e2 := e2.st k7
 replace e3 := e3.st k7
 replace kk := kk.trans k7
 refine RW.seg hT 1 [] [] [.int .i64 x2] [] (by kernel_rfl) (trivial) ?_
 refine RW.nil ?_
 refine WPK.seq ?_
 refine WPK.cut' (Kn fun D1 ds wz => ∀ X : Kont, (∀ (x3 : Int), g35_j1 p0 x3 = some r → X [(gd D1 0), .pointer (some ⟨b1, 0, none⟩), .pointer (some ⟨b2, 0, none⟩), .slice none 0 0, .pointer (some ⟨b3, 0, none⟩), .int .i64 0, .int .i64 x3, undef, undef, undef, undef, (gd D1 11), undef, undef, undef, undef, undef, (gd D1 17), (gd D1 18), (gd D1 19), (gd D1 20), (gd D1 21), (gd D1 22), (gd D1 23), (gd D1 24), (gd D1 25), (gd D1 26), (gd D1 27), (gd D1 28), undef, undef, undef, undef, undef, undef, undef, undef, undef, undef, undef, undef, undef, undef, undef, undef, undef, undef, undef, undef, undef, undef, undef, undef, undef, undef, undef, undef, undef, undef, undef, undef, undef, undef, undef, undef, undef, undef, undef, undef, undef, undef] [] w8) → X D1 ds wz) ?_ ?_
 intro X3 hX3
 refine fun D1 _ _ hJ => hJ X3 ?_
 intro x3 hf
 refine hX3 _ _ _ ?_
 unfold g35_j1 at hf
 refine WPK.seq ?_
 refine WPK.region ?_
 refine RW.seg hT 2 [] [] [.int .i64 0, .int .i64 0] [] (by kernel_rfl) (trivial) ?_
 refine RW.nil ?_
 refine WPK.seq ?_
 refine WPK.seq ?_
 refine WPK.region ?_
 refine RW.seg hT 1 [] [] [.int .i64 1] [] (by kernel_rfl) (trivial) ?_
 refine RW.nil ?_
 refine WPK.block ?_
 refine WPK.loop' (J := fun n1 D2 ds wz => ∀ X : Kont, (∀ (I3 : Nat → Prop) (x4 : Int) (x5 : Int) (x6 : Int) (w' : World), g35_l2 p0 x3 n1 x4 x5 x6 = some r → St w1 M I3 ((.blk b3 (.cells #[.bool false, .slice none 0 0, .slice none 0 0, .slice none 0 0] 26 (0, 0))) :: (.blk b2 (.cells #[.bool false, .slice none 0 0, .slice none 0 0, .slice none 0 0] 26 (0, 0))) :: (.blk b1 (.cells #[.bool p0.Leaf, .slice A1 p0.Pairs.length u1, .slice A2 p0.Keys.length u2, .slice A3 p0.Kids.length u3] 26 (0, 0))) :: F) w' → Kp I w I3 w' → Elems rp_T_api_Pair I3 w' A1 p0.Pairs → Elems (Rp.slice (Rp.int .u8)) I3 w' A2 p0.Keys → Elems (Rp.int .i64) I3 w' A3 p0.Kids → X [(gd D2 0), .pointer (some ⟨b1, 0, none⟩), .pointer (some ⟨b2, 0, none⟩), .slice none 0 0, .pointer (some ⟨b3, 0, none⟩), .int .i64 0, .int .i64 x3, .int .i64 x4, .int .i64 x5, .int .i64 x6, (gd D2 10), (gd D2 11), (gd D2 12), (gd D2 13), undef, undef, undef, (gd D2 17), (gd D2 18), (gd D2 19), (gd D2 20), (gd D2 21), (gd D2 22), (gd D2 23), (gd D2 24), (gd D2 25), (gd D2 26), (gd D2 27), (gd D2 28), (gd D2 29), (gd D2 30), (gd D2 31), (gd D2 32), (gd D2 33), (gd D2 34), (gd D2 35), (gd D2 36), (gd D2 37), (gd D2 38), (gd D2 39), (gd D2 40), (gd D2 41), (gd D2 42), (gd D2 43), (gd D2 44), (gd D2 45), (gd D2 46), (gd D2 47), (gd D2 48), (gd D2 49), (gd D2 50), (gd D2 51), (gd D2 52), (gd D2 53), (gd D2 54), undef, undef, undef, undef, undef, undef, undef, undef, undef, undef, undef, undef, undef, undef, undef, undef] [] w') → X D2 ds wz) FUEL (fun X h => kc (by kernel_rfl) rfl (h I2 0 0 1 _ hf s kk e1 e2 e3)) (fun _ _ _ hJ => hJ (fun _ _ _ => False) (by intro I3 x4 x5 x6 w9 hf s kk e1 e2 e3; exact noneS hf)) ?_
 intro X4 hX4
 refine fun n1 D2 _ _ hJ => hJ (X4 n1) ?_
 clear s
 intro I3 x4 x5 x6 w9 hf s kk e1 e2 e3
 refine hX4 _ _ _ _ ?_
 replace hf : g35_l2B p0 x3 (g35_l2 p0 x3 n1) x4 x5 x6 = some r := hf
 generalize hrec1 : g35_l2 p0 x3 n1 = rec1 at hf
 unfold g35_l2B at hf
 refine WPK.seq ?_
 refine WPK.seq ?_
 refine WPK.region ?_
 refine RW.seg hT 3 [] [] [.int .i64 x6, .int .i64 x3, .bool (decide (x6 < x3))] [] (by kernel_rfl) (trivial) ?_
 refine RW.nil ?_
 by_cases h2 : x6 < x3
 have hf := iteT h2 hf
 refine WPK.condT (Eq.trans (b := .bool (decide (x6 < x3))) (by kernel_rfl) (bo_t h2)) ?_
 refine WPK.skip ?_
 refine WPK.seq ?_
 refine WPK.block ?_
 refine WPK.seq ?_
 refine WPK.region ?_
 refine RW.seg hT 2 [.agg #[.bool p0.Leaf, .slice A1 p0.Pairs.length u1, .slice A2 p0.Keys.length u2, .slice A3 p0.Kids.length u3]] [] [.agg #[.bool p0.Leaf, .slice A1 p0.Pairs.length u1, .slice A2 p0.Keys.length u2, .slice A3 p0.Kids.length u3], .int .i64 x6] [.cells ⟨b1, 0, none⟩ [.bool p0.Leaf, .slice A1 p0.Pairs.length u1, .slice A2 p0.Keys.length u2, .slice A3 p0.Kids.length u3] 4] (by kernel_rfl) (s.cells (i := 2) rfl rfl rfl) ?_
 obtain ⟨x7, hx3, hf⟩ := bindS hf
 refine RW.op (by kernel_rfl) (OK.call' en75 (by kernel_rfl) (c75 (F := (.blk b3 (.cells #[.bool false, .slice none 0 0, .slice none 0 0, .slice none 0 0] 26 (0, 0))) :: (.blk b2 (.cells #[.bool false, .slice none 0 0, .slice none 0 0, .slice none 0 0] 26 (0, 0))) :: (.blk b1 (.cells #[.bool p0.Leaf, .slice A1 p0.Pairs.length u1, .slice A2 p0.Keys.length u2, .slice A3 p0.Kids.length u3] 26 (0, 0))) :: F) p0 x6 A1 u1 A2 u2 A3 u3 hc1 e1 hc2 e2 hc3 e3 s hx3) ?_)
 intro X5 hX5
 refine fun _ _ hJ => hJ X5 ?_
 clear s
 intro I4 A11 u11 A12 u12 A13 u13 A14 u14 A15 u15 A16 u16 A17 u17 w10 s k8 hc4 e4 hc5 e5 hc6 e6 hc7 e7 hc8 e8 hc9 e9 hc10 e10
 refine hX5 _ _ ?_
 replace e1 := e1.st k8
 replace e2 := e2.st k8
 replace e3 := e3.st k8
 replace kk := kk.trans k8
 refine RW.seg hT 4 [] [] [.tuple #[.agg #[.bool x7.1.Leaf, .slice A11 x7.1.Pairs.length u11, .slice A12 x7.1.Keys.length u12, .slice A13 x7.1.Kids.length u13], .slice A14 x7.2.1.length u14, .agg #[.bool x7.2.2.Leaf, .slice A15 x7.2.2.Pairs.length u15, .slice A16 x7.2.2.Keys.length u16, .slice A17 x7.2.2.Kids.length u17]], .agg #[.bool x7.1.Leaf, .slice A11 x7.1.Pairs.length u11, .slice A12 x7.1.Keys.length u12, .slice A13 x7.1.Kids.length u13], .slice A14 x7.2.1.length u14, .agg #[.bool x7.2.2.Leaf, .slice A15 x7.2.2.Pairs.length u15, .slice A16 x7.2.2.Keys.length u16, .slice A17 x7.2.2.Kids.length u17]] [] (by kernel_rfl) (trivial) ?_
 refine RW.op (by kernel_rfl) (OK.new hT (f := fun b => .pointer (some ⟨b, 0, none⟩)) (cs := [.bool false, .slice none 0 0, .slice none 0 0, .slice none 0 0]) (e := 26) (c := .tt) s (by kernel_rfl) trivial ?_)
 clear s
 rintro w11 b4 s k9 -
 replace e4 := e4.st k9
 replace e5 := e5.st k9
 replace e6 := e6.st k9
 replace e7 := e7.st k9
 replace e8 := e8.st k9
 replace e9 := e9.st k9
 replace e10 := e10.st k9
 replace e1 := e1.st k9
 replace e2 := e2.st k9
 replace e3 := e3.st k9
 replace kk := kk.trans k9
 refine RW.op (by kernel_rfl) (OK.new hT (f := fun b => .pointer (some ⟨b, 0, none⟩)) (cs := [.bool false, .slice none 0 0, .slice none 0 0, .slice none 0 0]) (e := 26) (c := .tt) s (by kernel_rfl) trivial ?_)
 clear s
 rintro w12 b5 s k10 -
 replace e4 := e4.st k10
 replace e5 := e5.st k10
 replace e6 := e6.st k10
 replace e7 := e7.st k10
 replace e8 := e8.st k10
 replace e9 := e9.st k10
 replace e10 := e10.st k10
 replace e1 := e1.st k10
 replace e2 := e2.st k10
 replace e3 := e3.st k10
 replace kk := kk.trans k10
 refine RW.op (by kernel_rfl) (OK.store hT (i := 1) (b := b4) (off := 0) (n := 4) (vs := [.bool x7.1.Leaf, .slice A11 x7.1.Pairs.length u11, .slice A12 x7.1.Keys.length u12, .slice A13 x7.1.Kids.length u13]) (cs := [.bool false, .slice none 0 0, .slice none 0 0, .slice none 0 0]) (e := 26) s (by kernel_rfl) rfl rfl (flat_ok rfl) (Nat.le_of_ble_eq_true rfl) ?_)
 clear s
 rintro w13 s k11 -
 replace e4 := e4.st k11
 replace e5 := e5.st k11
 replace e6 := e6.st k11
 replace e7 := e7.st k11
 replace e8 := e8.st k11
 replace e9 := e9.st k11
 replace e10 := e10.st k11
 replace e1 := e1.st k11
 replace e2 := e2.st k11
 replace e3 := e3.st k11
 replace kk := kk.trans k11
 refine RW.seg hT 1 [] [] [.slice A14 x7.2.1.length u14] [] (by kernel_rfl) (trivial) ?_
 refine RW.op (by kernel_rfl) (OK.store hT (i := 0) (b := b5) (off := 0) (n := 4) (vs := [.bool x7.2.2.Leaf, .slice A15 x7.2.2.Pairs.length u15, .slice A16 x7.2.2.Keys.length u16, .slice A17 x7.2.2.Kids.length u17]) (cs := [.bool false, .slice none 0 0, .slice none 0 0, .slice none 0 0]) (e := 26) s (by kernel_rfl) rfl rfl (flat_ok rfl) (Nat.le_of_ble_eq_true rfl) ?_)
 clear s
 rintro w14 s k12 -
 replace e7 := e7.st k12
 replace e4 := e4.st k12
 replace e5 := e5.st k12
 replace e6 := e6.st k12
 replace e8 := e8.st k12
 replace e9 := e9.st k12
 replace e10 := e10.st k12
 replace e1 := e1.st k12
 replace e2 := e2.st k12
 replace e3 := e3.st k12
 replace kk := kk.trans k12
 refine RW.nil ?_
 refine WPK.seq ?_
 have e7S1 := e7
 have e4S1 := e4
 have e5S1 := e5
 have e6S1 := e6
 have e8S1 := e8
 have e9S1 := e9
 have e10S1 := e10
 have e1S1 := e1
 have e2S1 := e2
 have e3S1 := e3
 have kS1 : Kp I4 w14 I4 w14 := Kp.refl
 refine WPK.drawM (fun w' => ∃ I' : Nat → Prop, St w1 M I' ((.blk b5 (.cells #[.bool x7.2.2.Leaf, .slice A15 x7.2.2.Pairs.length u15, .slice A16 x7.2.2.Keys.length u16, .slice A17 x7.2.2.Kids.length u17] 26 (0, 0))) :: (.blk b4 (.cells #[.bool x7.1.Leaf, .slice A11 x7.1.Pairs.length u11, .slice A12 x7.1.Keys.length u12, .slice A13 x7.1.Kids.length u13] 26 (0, 0))) :: (.blk b3 (.cells #[.bool false, .slice none 0 0, .slice none 0 0, .slice none 0 0] 26 (0, 0))) :: (.blk b2 (.cells #[.bool false, .slice none 0 0, .slice none 0 0, .slice none 0 0] 26 (0, 0))) :: (.blk b1 (.cells #[.bool p0.Leaf, .slice A1 p0.Pairs.length u1, .slice A2 p0.Keys.length u2, .slice A3 p0.Kids.length u3] 26 (0, 0))) :: F) w' ∧ Kp I4 w14 I' w') 6 [0, 1, 0, 7, 15, 31] (by kernel_rfl) (by kernel_rfl) ?_
 intro ht1 w15 hd1
 have k13 := Kp.dr s hd1
 replace s := s.dr hd1
 replace e7 := e7.st k13
 replace e4 := e4.st k13
 replace e5 := e5.st k13
 replace e6 := e6.st k13
 replace e8 := e8.st k13
 replace e9 := e9.st k13
 replace e10 := e10.st k13
 replace e1 := e1.st k13
 replace e2 := e2.st k13
 replace e3 := e3.st k13
 replace kk := kk.trans k13
 replace kS1 := kS1.trans k13
 refine RD.segM hT ht1 (by kernel_rfl) [0, 2] [.agg #[.bool x7.1.Leaf, .slice A11 x7.1.Pairs.length u11, .slice A12 x7.1.Keys.length u12, .slice A13 x7.1.Kids.length u13], .agg #[.bool x7.2.2.Leaf, .slice A15 x7.2.2.Pairs.length u15, .slice A16 x7.2.2.Keys.length u16, .slice A17 x7.2.2.Kids.length u17]] [] [.agg #[.bool x7.1.Leaf, .slice A11 x7.1.Pairs.length u11, .slice A12 x7.1.Keys.length u12, .slice A13 x7.1.Kids.length u13], .agg #[.bool x7.2.2.Leaf, .slice A15 x7.2.2.Pairs.length u15, .slice A16 x7.2.2.Keys.length u16, .slice A17 x7.2.2.Kids.length u17]] [.cells ⟨b4, 0, none⟩ [.bool x7.1.Leaf, .slice A11 x7.1.Pairs.length u11, .slice A12 x7.1.Keys.length u12, .slice A13 x7.1.Kids.length u13] 4, .cells ⟨b5, 0, none⟩ [.bool x7.2.2.Leaf, .slice A15 x7.2.2.Pairs.length u15, .slice A16 x7.2.2.Keys.length u16, .slice A17 x7.2.2.Kids.length u17] 4] (by kernel_rfl) (by rintro w' ⟨I', s, k⟩; have e7 := e7S1.st k; have e4 := e4S1.st k; have e5 := e5S1.st k; have e6 := e6S1.st k; have e8 := e8S1.st k; have e9 := e9S1.st k; have e10 := e10S1.st k; have e1 := e1S1.st k; have e2 := e2S1.st k; have e3 := e3S1.st k; exact ⟨s.cells (i := 1) rfl rfl rfl, s.cells (i := 0) rfl rfl rfl⟩) ⟨_, s.pick [0, 1, 2, 3, 4] 5 rfl, kS1⟩ ?_
 obtain ⟨x8, hx4, hf⟩ := bindS hf
 refine RD.op (i := 1) rfl (by kernel_rfl) (by kernel_rfl) (OK.call' en52 (by kernel_rfl) (c52 (F := (.blk b5 (.cells #[.bool x7.2.2.Leaf, .slice A15 x7.2.2.Pairs.length u15, .slice A16 x7.2.2.Keys.length u16, .slice A17 x7.2.2.Kids.length u17] 26 (0, 0))) :: (.blk b4 (.cells #[.bool x7.1.Leaf, .slice A11 x7.1.Pairs.length u11, .slice A12 x7.1.Keys.length u12, .slice A13 x7.1.Kids.length u13] 26 (0, 0))) :: (.blk b3 (.cells #[.bool false, .slice none 0 0, .slice none 0 0, .slice none 0 0] 26 (0, 0))) :: (.blk b2 (.cells #[.bool false, .slice none 0 0, .slice none 0 0, .slice none 0 0] 26 (0, 0))) :: (.blk b1 (.cells #[.bool p0.Leaf, .slice A1 p0.Pairs.length u1, .slice A2 p0.Keys.length u2, .slice A3 p0.Kids.length u3] 26 (0, 0))) :: F) x7.1 A11 u11 A12 u12 A13 u13 hc4 e4 hc5 e5 hc6 e6 s hx4) ?_)
 intro X6 hX6
 refine fun _ _ hJ => hJ X6 ?_
 clear s
 intro I5 w16 s k14
 refine hX6 _ _ ?_
 replace e7 := e7.st k14
 replace e4 := e4.st k14
 replace e5 := e5.st k14
 replace e6 := e6.st k14
 replace e8 := e8.st k14
 replace e9 := e9.st k14
 replace e10 := e10.st k14
 replace e1 := e1.st k14
 replace e2 := e2.st k14
 replace e3 := e3.st k14
 replace kk := kk.trans k14
 replace kS1 := kS1.trans k14
 refine ⟨fun _ => ⟨_, s.pick [0, 1, 2, 3, 4] 5 rfl, kS1⟩, RD.fold ?_⟩
 obtain ⟨x9, hx5, hf⟩ := bindS hf
 refine RD.op (i := 3) rfl (by kernel_rfl) (by kernel_rfl) (OK.call' en52 (by kernel_rfl) (c52 (F := (.blk b5 (.cells #[.bool x7.2.2.Leaf, .slice A15 x7.2.2.Pairs.length u15, .slice A16 x7.2.2.Keys.length u16, .slice A17 x7.2.2.Kids.length u17] 26 (0, 0))) :: (.blk b4 (.cells #[.bool x7.1.Leaf, .slice A11 x7.1.Pairs.length u11, .slice A12 x7.1.Keys.length u12, .slice A13 x7.1.Kids.length u13] 26 (0, 0))) :: (.blk b3 (.cells #[.bool false, .slice none 0 0, .slice none 0 0, .slice none 0 0] 26 (0, 0))) :: (.blk b2 (.cells #[.bool false, .slice none 0 0, .slice none 0 0, .slice none 0 0] 26 (0, 0))) :: (.blk b1 (.cells #[.bool p0.Leaf, .slice A1 p0.Pairs.length u1, .slice A2 p0.Keys.length u2, .slice A3 p0.Kids.length u3] 26 (0, 0))) :: F) x7.2.2 A15 u15 A16 u16 A17 u17 hc8 e8 hc9 e9 hc10 e10 s hx5) ?_)
 intro X7 hX7
 refine fun _ _ hJ => hJ X7 ?_
 clear s
 intro I6 w17 s k15
 refine hX7 _ _ ?_
 replace e7 := e7.st k15
 replace e4 := e4.st k15
 replace e5 := e5.st k15
 replace e6 := e6.st k15
 replace e8 := e8.st k15
 replace e9 := e9.st k15
 replace e10 := e10.st k15
 replace e1 := e1.st k15
 replace e2 := e2.st k15
 replace e3 := e3.st k15
 replace kk := kk.trans k15
 replace kS1 := kS1.trans k15
 refine ⟨fun _ => ⟨_, s.pick [0, 1, 2, 3, 4] 5 rfl, kS1⟩, RD.fold ?_⟩
 obtain ⟨x10, hx6, hf⟩ := bindS hf
 refine RD.op (i := 4) rfl (by kernel_rfl) (by kernel_rfl) (OK.call' en76 (by kernel_rfl) (c76 (F := (.blk b5 (.cells #[.bool x7.2.2.Leaf, .slice A15 x7.2.2.Pairs.length u15, .slice A16 x7.2.2.Keys.length u16, .slice A17 x7.2.2.Kids.length u17] 26 (0, 0))) :: (.blk b4 (.cells #[.bool x7.1.Leaf, .slice A11 x7.1.Pairs.length u11, .slice A12 x7.1.Keys.length u12, .slice A13 x7.1.Kids.length u13] 26 (0, 0))) :: (.blk b3 (.cells #[.bool false, .slice none 0 0, .slice none 0 0, .slice none 0 0] 26 (0, 0))) :: (.blk b2 (.cells #[.bool false, .slice none 0 0, .slice none 0 0, .slice none 0 0] 26 (0, 0))) :: (.blk b1 (.cells #[.bool p0.Leaf, .slice A1 p0.Pairs.length u1, .slice A2 p0.Keys.length u2, .slice A3 p0.Kids.length u3] 26 (0, 0))) :: F) x8 x9 s hx6) ?_)
 intro X8 hX8
 refine fun _ _ hJ => hJ X8 ?_
 clear s
 intro I7 w18 s k16
 refine hX8 _ _ ?_
 replace e7 := e7.st k16
 replace e4 := e4.st k16
 replace e5 := e5.st k16
 replace e6 := e6.st k16
 replace e8 := e8.st k16
 replace e9 := e9.st k16
 replace e10 := e10.st k16
 replace e1 := e1.st k16
 replace e2 := e2.st k16
 replace e3 := e3.st k16
 replace kk := kk.trans k16
 replace kS1 := kS1.trans k16
 refine ⟨fun _ => ⟨_, s.pick [0, 1, 2, 3, 4] 5 rfl, kS1⟩, RD.fold ?_⟩
 refine RD.segM hT ht1 (by kernel_rfl) [5] [] [] [.int .i64 x10] [] (by kernel_rfl) (fun _ _ => trivial) ⟨_, s.pick [0, 1, 2, 3, 4] 5 rfl, kS1⟩ ?_
 refine RD.done (by kernel_rfl) ?_
 refine WPK.seq ?_
 refine WPK.cut' (Kn fun D3 ds wz => ∀ X : Kont, (∀ (x11 : Bool) (x12 : Bool), g35_j3 x4 x5 x6 rec1 x10 x11 x12 = some r → X [(gd D3 0), .pointer (some ⟨b1, 0, none⟩), .pointer (some ⟨b2, 0, none⟩), .slice none 0 0, .pointer (some ⟨b3, 0, none⟩), .int .i64 0, .int .i64 x3, .int .i64 x4, .int .i64 x5, .int .i64 x6, .pointer (some ⟨b4, 0, none⟩), (gd D3 11), .pointer (some ⟨b5, 0, none⟩), .int .i64 x10, undef, undef, undef, (gd D3 17), (gd D3 18), (gd D3 19), (gd D3 20), (gd D3 21), (gd D3 22), (gd D3 23), (gd D3 24), (gd D3 25), (gd D3 26), (gd D3 27), (gd D3 28), .int .i64 x6, .int .i64 x3, .bool (decide (x6 < x3)), (gd D2 32), (gd D2 33), .tuple #[.agg #[.bool x7.1.Leaf, .slice A11 x7.1.Pairs.length u11, .slice A12 x7.1.Keys.length u12, .slice A13 x7.1.Kids.length u13], .slice A14 x7.2.1.length u14, .agg #[.bool x7.2.2.Leaf, .slice A15 x7.2.2.Pairs.length u15, .slice A16 x7.2.2.Keys.length u16, .slice A17 x7.2.2.Kids.length u17]], .agg #[.bool p0.Leaf, .slice A1 p0.Pairs.length u1, .slice A2 p0.Keys.length u2, .slice A3 p0.Kids.length u3], .int .i64 x6, .tuple #[.agg #[.bool x7.1.Leaf, .slice A11 x7.1.Pairs.length u11, .slice A12 x7.1.Keys.length u12, .slice A13 x7.1.Kids.length u13], .slice A14 x7.2.1.length u14, .agg #[.bool x7.2.2.Leaf, .slice A15 x7.2.2.Pairs.length u15, .slice A16 x7.2.2.Keys.length u16, .slice A17 x7.2.2.Kids.length u17]], .agg #[.bool x7.1.Leaf, .slice A11 x7.1.Pairs.length u11, .slice A12 x7.1.Keys.length u12, .slice A13 x7.1.Kids.length u13], .slice A14 x7.2.1.length u14, .agg #[.bool x7.2.2.Leaf, .slice A15 x7.2.2.Pairs.length u15, .slice A16 x7.2.2.Keys.length u16, .slice A17 x7.2.2.Kids.length u17], .agg #[.bool x7.1.Leaf, .slice A11 x7.1.Pairs.length u11, .slice A12 x7.1.Keys.length u12, .slice A13 x7.1.Kids.length u13], .int .i64 x8, .agg #[.bool x7.2.2.Leaf, .slice A15 x7.2.2.Pairs.length u15, .slice A16 x7.2.2.Keys.length u16, .slice A17 x7.2.2.Kids.length u17], .int .i64 x9, .int .i64 x10, .int .i64 x5, .bool (decide (x5 = 0)), .bool x11, (gd D3 49), (gd D3 50), (gd D3 51), .bool x12, (gd D2 53), (gd D2 54), undef, undef, undef, undef, undef, undef, undef, undef, undef, undef, undef, undef, undef, undef, undef, undef] [] w18) → X D3 ds wz) ?_ ?_
 intro X9 hX9
 refine fun D3 _ _ hJ => hJ X9 ?_
 intro x11 x12 hf
 refine hX9 _ _ _ ?_
 unfold g35_j3 at hf
 by_cases h3 : x12 = true
 have hf := iteT h3 hf
 refine WPK.condT (Eq.trans (b := .bool x12) (by kernel_rfl) (b_t h3)) ?_
 refine WPK.region ?_
 refine RW.seg hT 4 [] [] [.int .i64 x10, .int .i64 x6, .int .i64 x10, .int .i64 x6] [] (by kernel_rfl) (trivial) ?_
 refine RW.nil ?_
 refine WPK.region ?_
 refine RW.seg hT 3 [] [] [.int .i64 x6, .int .i64 (IntKind.i64.wrap (x6 + 1)), .int .i64 (IntKind.i64.wrap (x6 + 1))] [] (by kernel_rfl) (trivial) ?_
 refine RW.nil ?_
 subst hrec1
 replace s := s.pick [2, 3, 4] 5 rfl
 exact ⟨n1, Nat.le_refl _, fun X h => kc (by kernel_rfl) rfl (h I7 x10 x6 (IntKind.i64.wrap (x6 + 1)) _ hf s kk e1 e2 e3)⟩
 have hf := iteF h3 hf
 refine WPK.condF (Eq.trans (b := .bool x12) (by kernel_rfl) (b_f h3)) ?_
 refine WPK.skip ?_
 refine WPK.region ?_
 refine RW.seg hT 3 [] [] [.int .i64 x6, .int .i64 (IntKind.i64.wrap (x6 + 1)), .int .i64 (IntKind.i64.wrap (x6 + 1))] [] (by kernel_rfl) (trivial) ?_
 refine RW.nil ?_
 subst hrec1
 replace s := s.pick [2, 3, 4] 5 rfl
 exact ⟨n1, Nat.le_refl _, fun X h => kc (by kernel_rfl) rfl (h I7 x4 x5 (IntKind.i64.wrap (x6 + 1)) _ hf s kk e1 e2 e3)⟩
 refine WPK.region ?_
 refine RW.seg hT 2 [] [(47, .bool (decide (x5 = 0)))] [.int .i64 x5, .bool (decide (x5 = 0))] [.veq (.bool (x5 == 0)) (.bool (decide (x5 = 0)))] (by kernel_rfl) (eq_v) ?_
 by_cases h4 : x5 = 0
 have hf := iteT h4 hf
 refine RW.seg hT 5 [] [(48, .bool true)] [.bool true, undef, undef, undef, .bool true] [.veq (.bool (decide (x5 = 0))) (.bool true)] (by kernel_rfl) (bo_t h4) ?_
 refine RW.nil ?_
 exact fun X h => kc (by kernel_rfl) rfl (h true true hf)
 have hf := iteF h4 hf
 refine RW.seg hT 5 [] [(48, .bool false)] [.bool false, .int .i64 x10, .int .i64 x4, .bool (decide (x10 < x4)), .bool (decide (x10 < x4))] [.veq (.bool (decide (x5 = 0))) (.bool false)] (by kernel_rfl) (bo_f h4) ?_
 refine RW.nil ?_
 exact fun X h => kc (by kernel_rfl) rfl (h false (decide (x10 < x4)) hf)
 have hf := iteF h2 hf
 refine WPK.condF (Eq.trans (b := .bool (decide (x6 < x3))) (by kernel_rfl) (bo_f h2)) ?_
 refine WPK.exit (blockQ.same ?_)
 refine WPK.seq ?_
 refine WPK.seq ?_
 refine WPK.region ?_
 refine RW.seg hT 2 [] [(56, .bool (decide (x5 = 0)))] [.int .i64 x5, .bool (decide (x5 = 0))] [.veq (.bool (x5 == 0)) (.bool (decide (x5 = 0)))] (by kernel_rfl) (eq_v) ?_
 refine RW.nil ?_
 by_cases h5 : x5 = 0
 have hf := iteT h5 hf
 refine WPK.condT (Eq.trans (b := .bool (decide (x5 = 0))) (by kernel_rfl) (bo_t h5)) ?_
 refine WPK.seq ?_
 refine WPK.region ?_
 refine RW.seg hT 2 [] [] [.agg #[.bool false, .slice none 0 0, .slice none 0 0, .slice none 0 0], .agg #[.bool false, .slice none 0 0, .slice none 0 0, .slice none 0 0]] [] (by kernel_rfl) (trivial) ?_
 refine RW.op (by kernel_rfl) (OK.store hT (i := 1) (b := b2) (off := 0) (n := 4) (vs := [.bool false, .slice none 0 0, .slice none 0 0, .slice none 0 0]) (cs := [.bool false, .slice none 0 0, .slice none 0 0, .slice none 0 0]) (e := 26) s (by kernel_rfl) rfl rfl (flat_ok rfl) (Nat.le_of_ble_eq_true rfl) ?_)
 clear s
 rintro w19 s k17 -
 replace e1 := e1.st k17
 replace e2 := e2.st k17
 replace e3 := e3.st k17
 replace kk := kk.trans k17
 refine RW.seg hT 1 [] [] [.slice none 0 0] [] (by kernel_rfl) (trivial) ?_
 refine RW.op (by kernel_rfl) (OK.store hT (i := 0) (b := b3) (off := 0) (n := 4) (vs := [.bool false, .slice none 0 0, .slice none 0 0, .slice none 0 0]) (cs := [.bool false, .slice none 0 0, .slice none 0 0, .slice none 0 0]) (e := 26) s (by kernel_rfl) rfl rfl (flat_ok rfl) (Nat.le_of_ble_eq_true rfl) ?_)
 clear s
 rintro w20 s k18 -
 replace e1 := e1.st k18
 replace e2 := e2.st k18
 replace e3 := e3.st k18
 replace kk := kk.trans k18
 refine RW.seg hT 1 [] [] [.int .i64 4] [] (by kernel_rfl) (trivial) ?_
 refine RW.nil ?_
 refine WPK.ret (?_)
 obtain rfl := someS hf
 refine Fin.of (rs := [.cell 2 26, .tmp 3, .cell 4 26, .tmp 5]) hT [.agg #[.bool false, .slice none 0 0, .slice none 0 0, .slice none 0 0], .agg #[.bool false, .slice none 0 0, .slice none 0 0, .slice none 0 0]] (.tuple #[.agg #[.bool false, .slice none 0 0, .slice none 0 0, .slice none 0 0], .slice none 0 0, .agg #[.bool false, .slice none 0 0, .slice none 0 0, .slice none 0 0], .int .i64 4]) [.cells ⟨b2, 0, none⟩ [.bool false, .slice none 0 0, .slice none 0 0, .slice none 0 0] 4, .cells ⟨b3, 0, none⟩ [.bool false, .slice none 0 0, .slice none 0 0, .slice none 0 0] 4] rfl (by kernel_rfl) (⟨s.cells (i := 1) rfl rfl rfl, s.cells (i := 0) rfl rfl rfl⟩) ?_
 replace s := s.pick [] 3 rfl
 exact fun X h => vc rfl (h I3 none 0 none 0 none 0 none 0 none 0 none 0 none 0 _ s kk nil_hc Elems.nil nil_hc Elems.nil nil_hc Elems.nil nil_hc Elems.nil nil_hc Elems.nil nil_hc Elems.nil nil_hc Elems.nil)
 have hf := iteF h5 hf
 refine WPK.condF (Eq.trans (b := .bool (decide (x5 = 0))) (by kernel_rfl) (bo_f h5)) ?_
 refine WPK.skip ?_
 refine WPK.seq ?_
 refine WPK.region ?_
 refine RW.seg hT 1 [.agg #[.bool p0.Leaf, .slice A1 p0.Pairs.length u1, .slice A2 p0.Keys.length u2, .slice A3 p0.Kids.length u3]] [] [.agg #[.bool p0.Leaf, .slice A1 p0.Pairs.length u1, .slice A2 p0.Keys.length u2, .slice A3 p0.Kids.length u3]] [.cells ⟨b1, 0, none⟩ [.bool p0.Leaf, .slice A1 p0.Pairs.length u1, .slice A2 p0.Keys.length u2, .slice A3 p0.Kids.length u3] 4] (by kernel_rfl) (s.cells (i := 2) rfl rfl rfl) ?_
 obtain ⟨x13, hx7, hf⟩ := bindS hf
 refine RW.op (by kernel_rfl) (OK.call' en25 (by kernel_rfl) (c25 (F := (.blk b3 (.cells #[.bool false, .slice none 0 0, .slice none 0 0, .slice none 0 0] 26 (0, 0))) :: (.blk b2 (.cells #[.bool false, .slice none 0 0, .slice none 0 0, .slice none 0 0] 26 (0, 0))) :: (.blk b1 (.cells #[.bool p0.Leaf, .slice A1 p0.Pairs.length u1, .slice A2 p0.Keys.length u2, .slice A3 p0.Kids.length u3] 26 (0, 0))) :: F) p0 A1 u1 A2 u2 A3 u3 hc1 e1 hc2 e2 hc3 e3 s hx7) ?_)
 intro X10 hX10
 refine fun _ _ hJ => hJ X10 ?_
 clear s
 intro I8 A18 n2 u18 cl1 A19 n3 u19 cl2 A20 n4 u20 cl3 w21 s k19 hn1 rp1 hn2 rp2 hn3 rp3
 refine hX10 _ _ ?_
 replace e1 := e1.st k19
 replace e2 := e2.st k19
 replace e3 := e3.st k19
 replace kk := kk.trans k19
 rw [hn1] at s
 try rw [hn1]
 obtain ⟨I9, s', k20, hc11, e11⟩ := St.give s (i := 0) rfl rfl rp1
 replace s := s'; clear s'
 replace e1 := e1.st k20
 replace e2 := e2.st k20
 replace e3 := e3.st k20
 replace rp2 := rp2.st k20
 replace rp3 := rp3.st k20
 replace kk := kk.trans k20
 rw [hn2] at s
 try rw [hn2]
 obtain ⟨I10, s', k21, hc12, e12⟩ := St.give s (i := 0) rfl rfl rp2
 replace s := s'; clear s'
 replace e1 := e1.st k21
 replace e2 := e2.st k21
 replace e3 := e3.st k21
 replace e11 := e11.st k21
 replace rp3 := rp3.st k21
 replace kk := kk.trans k21
 rw [hn3] at s
 try rw [hn3]
 obtain ⟨I11, s', k22, hc13, e13⟩ := St.give s (i := 0) rfl rfl rp3
 replace s := s'; clear s'
 replace e1 := e1.st k22
 replace e2 := e2.st k22
 replace e3 := e3.st k22
 replace e11 := e11.st k22
 replace e12 := e12.st k22
 replace kk := kk.trans k22
 refine RW.seg hT 1 [] [] [.int .i64 x5] [] (by kernel_rfl) (trivial) ?_
 obtain ⟨x14, hx8, hf⟩ := bindS hf
 refine RW.op (by kernel_rfl) (OK.call' en75 (by kernel_rfl) (c75 (F := (.blk b3 (.cells #[.bool false, .slice none 0 0, .slice none 0 0, .slice none 0 0] 26 (0, 0))) :: (.blk b2 (.cells #[.bool false, .slice none 0 0, .slice none 0 0, .slice none 0 0] 26 (0, 0))) :: (.blk b1 (.cells #[.bool p0.Leaf, .slice A1 p0.Pairs.length u1, .slice A2 p0.Keys.length u2, .slice A3 p0.Kids.length u3] 26 (0, 0))) :: F) x13 x5 A18 u18 A19 u19 A20 u20 hc11 e11 hc12 e12 hc13 e13 s hx8) ?_)
 intro X11 hX11
 refine fun _ _ hJ => hJ X11 ?_
 clear s
 intro I12 A21 u21 A22 u22 A23 u23 A24 u24 A25 u25 A26 u26 A27 u27 w22 s k23 hc14 e14 hc15 e15 hc16 e16 hc17 e17 hc18 e18 hc19 e19 hc20 e20
 refine hX11 _ _ ?_
 replace e1 := e1.st k23
 replace e2 := e2.st k23
 replace e3 := e3.st k23
 replace e11 := e11.st k23
 replace e12 := e12.st k23
 replace e13 := e13.st k23
 replace kk := kk.trans k23
 refine RW.seg hT 4 [] [] [.tuple #[.agg #[.bool x14.1.Leaf, .slice A21 x14.1.Pairs.length u21, .slice A22 x14.1.Keys.length u22, .slice A23 x14.1.Kids.length u23], .slice A24 x14.2.1.length u24, .agg #[.bool x14.2.2.Leaf, .slice A25 x14.2.2.Pairs.length u25, .slice A26 x14.2.2.Keys.length u26, .slice A27 x14.2.2.Kids.length u27]], .agg #[.bool x14.1.Leaf, .slice A21 x14.1.Pairs.length u21, .slice A22 x14.1.Keys.length u22, .slice A23 x14.1.Kids.length u23], .slice A24 x14.2.1.length u24, .agg #[.bool x14.2.2.Leaf, .slice A25 x14.2.2.Pairs.length u25, .slice A26 x14.2.2.Keys.length u26, .slice A27 x14.2.2.Kids.length u27]] [] (by kernel_rfl) (trivial) ?_
 refine RW.op (by kernel_rfl) (OK.new hT (f := fun b => .pointer (some ⟨b, 0, none⟩)) (cs := [.bool false, .slice none 0 0, .slice none 0 0, .slice none 0 0]) (e := 26) (c := .tt) s (by kernel_rfl) trivial ?_)
 clear s
 rintro w23 b6 s k24 -
 replace e14 := e14.st k24
 replace e15 := e15.st k24
 replace e16 := e16.st k24
 replace e17 := e17.st k24
 replace e18 := e18.st k24
 replace e19 := e19.st k24
 replace e20 := e20.st k24
 replace e1 := e1.st k24
 replace e2 := e2.st k24
 replace e3 := e3.st k24
 replace e11 := e11.st k24
 replace e12 := e12.st k24
 replace e13 := e13.st k24
 replace kk := kk.trans k24
 refine RW.op (by kernel_rfl) (OK.new hT (f := fun b => .pointer (some ⟨b, 0, none⟩)) (cs := [.bool false, .slice none 0 0, .slice none 0 0, .slice none 0 0]) (e := 26) (c := .tt) s (by kernel_rfl) trivial ?_)
 clear s
 rintro w24 b7 s k25 -
 replace e14 := e14.st k25
 replace e15 := e15.st k25
 replace e16 := e16.st k25
 replace e17 := e17.st k25
 replace e18 := e18.st k25
 replace e19 := e19.st k25
 replace e20 := e20.st k25
 replace e1 := e1.st k25
 replace e2 := e2.st k25
 replace e3 := e3.st k25
 replace e11 := e11.st k25
 replace e12 := e12.st k25
 replace e13 := e13.st k25
 replace kk := kk.trans k25
 refine RW.op (by kernel_rfl) (OK.store hT (i := 1) (b := b6) (off := 0) (n := 4) (vs := [.bool x14.1.Leaf, .slice A21 x14.1.Pairs.length u21, .slice A22 x14.1.Keys.length u22, .slice A23 x14.1.Kids.length u23]) (cs := [.bool false, .slice none 0 0, .slice none 0 0, .slice none 0 0]) (e := 26) s (by kernel_rfl) rfl rfl (flat_ok rfl) (Nat.le_of_ble_eq_true rfl) ?_)
 clear s
 rintro w25 s k26 -
 replace e14 := e14.st k26
 replace e15 := e15.st k26
 replace e16 := e16.st k26
 replace e17 := e17.st k26
 replace e18 := e18.st k26
 replace e19 := e19.st k26
 replace e20 := e20.st k26
 replace e1 := e1.st k26
 replace e2 := e2.st k26
 replace e3 := e3.st k26
 replace e11 := e11.st k26
 replace e12 := e12.st k26
 replace e13 := e13.st k26
 replace kk := kk.trans k26
 refine RW.seg hT 1 [] [] [.slice A24 x14.2.1.length u24] [] (by kernel_rfl) (trivial) ?_
 refine RW.op (by kernel_rfl) (OK.store hT (i := 0) (b := b7) (off := 0) (n := 4) (vs := [.bool x14.2.2.Leaf, .slice A25 x14.2.2.Pairs.length u25, .slice A26 x14.2.2.Keys.length u26, .slice A27 x14.2.2.Kids.length u27]) (cs := [.bool false, .slice none 0 0, .slice none 0 0, .slice none 0 0]) (e := 26) s (by kernel_rfl) rfl rfl (flat_ok rfl) (Nat.le_of_ble_eq_true rfl) ?_)
 clear s
 rintro w26 s k27 -
 replace e17 := e17.st k27
 replace e14 := e14.st k27
 replace e15 := e15.st k27
 replace e16 := e16.st k27
 replace e18 := e18.st k27
 replace e19 := e19.st k27
 replace e20 := e20.st k27
 replace e1 := e1.st k27
 replace e2 := e2.st k27
 replace e3 := e3.st k27
 replace e11 := e11.st k27
 replace e12 := e12.st k27
 replace e13 := e13.st k27
 replace kk := kk.trans k27
 refine RW.nil ?_
 refine WPK.seq ?_
 have e17S2 := e17
 have e14S2 := e14
 have e15S2 := e15
 have e16S2 := e16
 have e18S2 := e18
 have e19S2 := e19
 have e20S2 := e20
 have e1S2 := e1
 have e2S2 := e2
 have e3S2 := e3
 have e11S2 := e11
 have e12S2 := e12
 have e13S2 := e13
 have kS2 : Kp I12 w26 I12 w26 := Kp.refl
 refine WPK.drawM (fun w' => ∃ I' : Nat → Prop, St w1 M I' ((.blk b7 (.cells #[.bool x14.2.2.Leaf, .slice A25 x14.2.2.Pairs.length u25, .slice A26 x14.2.2.Keys.length u26, .slice A27 x14.2.2.Kids.length u27] 26 (0, 0))) :: (.blk b6 (.cells #[.bool x14.1.Leaf, .slice A21 x14.1.Pairs.length u21, .slice A22 x14.1.Keys.length u22, .slice A23 x14.1.Kids.length u23] 26 (0, 0))) :: (.blk b1 (.cells #[.bool p0.Leaf, .slice A1 p0.Pairs.length u1, .slice A2 p0.Keys.length u2, .slice A3 p0.Kids.length u3] 26 (0, 0))) :: F) w' ∧ Kp I12 w26 I' w') 8 [0, 0, 2, 0, 7, 23, 63, 127] (by kernel_rfl) (by kernel_rfl) ?_
 intro ht2 w27 hd2
 have k28 := Kp.dr s hd2
 replace s := s.dr hd2
 replace e17 := e17.st k28
 replace e14 := e14.st k28
 replace e15 := e15.st k28
 replace e16 := e16.st k28
 replace e18 := e18.st k28
 replace e19 := e19.st k28
 replace e20 := e20.st k28
 replace e1 := e1.st k28
 replace e2 := e2.st k28
 replace e3 := e3.st k28
 replace e11 := e11.st k28
 replace e12 := e12.st k28
 replace e13 := e13.st k28
 replace kk := kk.trans k28
 replace kS2 := kS2.trans k28
 refine RD.segM hT ht2 (by kernel_rfl) [0, 1, 3] [.agg #[.bool x14.1.Leaf, .slice A21 x14.1.Pairs.length u21, .slice A22 x14.1.Keys.length u22, .slice A23 x14.1.Kids.length u23], .agg #[.bool x14.2.2.Leaf, .slice A25 x14.2.2.Pairs.length u25, .slice A26 x14.2.2.Keys.length u26, .slice A27 x14.2.2.Kids.length u27]] [] [.agg #[.bool x14.1.Leaf, .slice A21 x14.1.Pairs.length u21, .slice A22 x14.1.Keys.length u22, .slice A23 x14.1.Kids.length u23], .slice A24 x14.2.1.length u24, .agg #[.bool x14.2.2.Leaf, .slice A25 x14.2.2.Pairs.length u25, .slice A26 x14.2.2.Keys.length u26, .slice A27 x14.2.2.Kids.length u27]] [.cells ⟨b6, 0, none⟩ [.bool x14.1.Leaf, .slice A21 x14.1.Pairs.length u21, .slice A22 x14.1.Keys.length u22, .slice A23 x14.1.Kids.length u23] 4, .cells ⟨b7, 0, none⟩ [.bool x14.2.2.Leaf, .slice A25 x14.2.2.Pairs.length u25, .slice A26 x14.2.2.Keys.length u26, .slice A27 x14.2.2.Kids.length u27] 4] (by kernel_rfl) (by rintro w' ⟨I', s, k⟩; have e17 := e17S2.st k; have e14 := e14S2.st k; have e15 := e15S2.st k; have e16 := e16S2.st k; have e18 := e18S2.st k; have e19 := e19S2.st k; have e20 := e20S2.st k; have e1 := e1S2.st k; have e2 := e2S2.st k; have e3 := e3S2.st k; have e11 := e11S2.st k; have e12 := e12S2.st k; have e13 := e13S2.st k; exact ⟨s.cells (i := 1) rfl rfl rfl, s.cells (i := 0) rfl rfl rfl⟩) ⟨_, s.pick [0, 1, 4] 5 rfl, kS2⟩ ?_
 obtain ⟨x15, hx9, hf⟩ := bindS hf
 refine RD.op (i := 2) rfl (by kernel_rfl) (by kernel_rfl) (OK.call' en60 (by kernel_rfl) (c60 (F := (.blk b7 (.cells #[.bool x14.2.2.Leaf, .slice A25 x14.2.2.Pairs.length u25, .slice A26 x14.2.2.Keys.length u26, .slice A27 x14.2.2.Kids.length u27] 26 (0, 0))) :: (.blk b6 (.cells #[.bool x14.1.Leaf, .slice A21 x14.1.Pairs.length u21, .slice A22 x14.1.Keys.length u22, .slice A23 x14.1.Kids.length u23] 26 (0, 0))) :: (.blk b3 (.cells #[.bool false, .slice none 0 0, .slice none 0 0, .slice none 0 0] 26 (0, 0))) :: (.blk b2 (.cells #[.bool false, .slice none 0 0, .slice none 0 0, .slice none 0 0] 26 (0, 0))) :: (.blk b1 (.cells #[.bool p0.Leaf, .slice A1 p0.Pairs.length u1, .slice A2 p0.Keys.length u2, .slice A3 p0.Kids.length u3] 26 (0, 0))) :: F) x14.2.1 A24 u24 hc17 e17 s hx9) ?_)
 intro X12 hX12
 refine fun _ _ hJ => hJ X12 ?_
 clear s
 intro I13 A28 n5 u28 cl4 w28 s k29 hn4 rp4
 refine hX12 _ _ ?_
 replace e17 := e17.st k29
 replace e14 := e14.st k29
 replace e15 := e15.st k29
 replace e16 := e16.st k29
 replace e18 := e18.st k29
 replace e19 := e19.st k29
 replace e20 := e20.st k29
 replace e1 := e1.st k29
 replace e2 := e2.st k29
 replace e3 := e3.st k29
 replace e11 := e11.st k29
 replace e12 := e12.st k29
 replace e13 := e13.st k29
 replace kk := kk.trans k29
 replace kS2 := kS2.trans k29
 rw [hn4] at s
 try rw [hn4]
 obtain ⟨I14, s', k30, hc21, e21⟩ := St.give s (i := 0) rfl rfl rp4
 replace s := s'; clear s'
 replace e17 := e17.st k30
 replace e14 := e14.st k30
 replace e15 := e15.st k30
 replace e16 := e16.st k30
 replace e18 := e18.st k30
 replace e19 := e19.st k30
 replace e20 := e20.st k30
 replace e1 := e1.st k30
 replace e2 := e2.st k30
 replace e3 := e3.st k30
 replace e11 := e11.st k30
 replace e12 := e12.st k30
 replace e13 := e13.st k30
 replace kk := kk.trans k30
 replace kS2 := kS2.trans k30
 refine ⟨fun _ => ⟨_, s.pick [0, 1, 4] 5 rfl, kS2⟩, RD.fold ?_⟩
 refine RD.op (i := 4) rfl (by kernel_rfl) (by kernel_rfl) (OK.store hT (i := 3) (b := b2) (off := 0) (n := 4) (vs := [.bool x14.1.Leaf, .slice A21 x14.1.Pairs.length u21, .slice A22 x14.1.Keys.length u22, .slice A23 x14.1.Kids.length u23]) (cs := [.bool false, .slice none 0 0, .slice none 0 0, .slice none 0 0]) (e := 26) s (by kernel_rfl) rfl rfl (flat_ok rfl) (Nat.le_of_ble_eq_true rfl) ?_)
 clear s
 rintro w29 s k31 -
 replace e17 := e17.st k31
 replace e14 := e14.st k31
 replace e15 := e15.st k31
 replace e16 := e16.st k31
 replace e18 := e18.st k31
 replace e19 := e19.st k31
 replace e20 := e20.st k31
 replace e1 := e1.st k31
 replace e2 := e2.st k31
 replace e3 := e3.st k31
 replace e11 := e11.st k31
 replace e12 := e12.st k31
 replace e13 := e13.st k31
 replace e21 := e21.st k31
 replace kk := kk.trans k31
 replace kS2 := kS2.trans k31
 refine ⟨fun _ => ⟨_, s.pick [0, 1, 4] 5 rfl, kS2⟩, RD.fold ?_⟩
 refine RD.segM hT ht2 (by kernel_rfl) [5] [] [] [.slice A28 x15.length u28] [] (by kernel_rfl) (fun _ _ => trivial) ⟨_, s.pick [0, 1, 4] 5 rfl, kS2⟩ ?_
 refine RD.op (i := 6) rfl (by kernel_rfl) (by kernel_rfl) (OK.store hT (i := 2) (b := b3) (off := 0) (n := 4) (vs := [.bool x14.2.2.Leaf, .slice A25 x14.2.2.Pairs.length u25, .slice A26 x14.2.2.Keys.length u26, .slice A27 x14.2.2.Kids.length u27]) (cs := [.bool false, .slice none 0 0, .slice none 0 0, .slice none 0 0]) (e := 26) s (by kernel_rfl) rfl rfl (flat_ok rfl) (Nat.le_of_ble_eq_true rfl) ?_)
 clear s
 rintro w30 s k32 -
 replace e21 := e21.st k32
 replace e17 := e17.st k32
 replace e14 := e14.st k32
 replace e15 := e15.st k32
 replace e16 := e16.st k32
 replace e18 := e18.st k32
 replace e19 := e19.st k32
 replace e20 := e20.st k32
 replace e1 := e1.st k32
 replace e2 := e2.st k32
 replace e3 := e3.st k32
 replace e11 := e11.st k32
 replace e12 := e12.st k32
 replace e13 := e13.st k32
 replace kk := kk.trans k32
 replace kS2 := kS2.trans k32
 refine ⟨fun _ => ⟨_, s.pick [0, 1, 4] 5 rfl, kS2⟩, RD.fold ?_⟩
 refine RD.segM hT ht2 (by kernel_rfl) [7] [] [] [.int .i64 0] [] (by kernel_rfl) (fun _ _ => trivial) ⟨_, s.pick [0, 1, 4] 5 rfl, kS2⟩ ?_
 refine RD.done (by kernel_rfl) ?_
 refine WPK.ret (?_)
 obtain rfl := someS hf
 refine Fin.of (rs := [.cell 2 26, .tmp 3, .cell 4 26, .tmp 5]) hT [.agg #[.bool x14.1.Leaf, .slice A21 x14.1.Pairs.length u21, .slice A22 x14.1.Keys.length u22, .slice A23 x14.1.Kids.length u23], .agg #[.bool x14.2.2.Leaf, .slice A25 x14.2.2.Pairs.length u25, .slice A26 x14.2.2.Keys.length u26, .slice A27 x14.2.2.Kids.length u27]] (.tuple #[.agg #[.bool x14.1.Leaf, .slice A21 x14.1.Pairs.length u21, .slice A22 x14.1.Keys.length u22, .slice A23 x14.1.Kids.length u23], .slice A28 x15.length u28, .agg #[.bool x14.2.2.Leaf, .slice A25 x14.2.2.Pairs.length u25, .slice A26 x14.2.2.Keys.length u26, .slice A27 x14.2.2.Kids.length u27], .int .i64 0]) [.cells ⟨b2, 0, none⟩ [.bool x14.1.Leaf, .slice A21 x14.1.Pairs.length u21, .slice A22 x14.1.Keys.length u22, .slice A23 x14.1.Kids.length u23] 4, .cells ⟨b3, 0, none⟩ [.bool x14.2.2.Leaf, .slice A25 x14.2.2.Pairs.length u25, .slice A26 x14.2.2.Keys.length u26, .slice A27 x14.2.2.Kids.length u27] 4] rfl (by kernel_rfl) (⟨s.cells (i := 3) rfl rfl rfl, s.cells (i := 2) rfl rfl rfl⟩) ?_
 replace s := s.pick [] 5 rfl
 exact fun X h => vc rfl (h I14 A21 u21 A22 u22 A23 u23 A28 u28 A25 u25 A26 u26 A27 u27 _ s kk hc14 e14 hc15 e15 hc16 e16 hc21 e21 hc18 e18 hc19 e19 hc20 e20)
 refine WPK.seq ?_
 refine WPK.region ?_
 refine RW.seg hT 3 [.bool p0.Leaf] [(26, .bool (decide (¬ (p0.Leaf = true))))] [.pointer (some ⟨b1, 0, none⟩), .bool p0.Leaf, .bool (decide (¬ (p0.Leaf = true)))] [.cell ⟨b1, 0, none⟩ (.bool p0.Leaf), .veq (.bool (!p0.Leaf)) (.bool (decide (¬ (p0.Leaf = true))))] (by kernel_rfl) (⟨s.cell (i := 2) (off := 0) rfl rfl, not_b⟩) ?_
 refine RW.nil ?_
 by_cases h6 : ¬ (p0.Leaf = true)
 have hf := iteT h6 hf
 refine WPK.condT (Eq.trans (b := .bool (decide (¬ (p0.Leaf = true)))) (by kernel_rfl) (bo_t h6)) ?_
 refine WPK.region ?_
 refine RW.seg hT 3 [] [] [.int .i64 x2, .int .i64 (IntKind.i64.wrap (x2 - 1)), .int .i64 (IntKind.i64.wrap (x2 - 1))] [] (by kernel_rfl) (trivial) ?_
 refine RW.nil ?_
 exact fun X h => kc (by kernel_rfl) rfl (h (IntKind.i64.wrap (x2 - 1)) hf)
 have hf := iteF h6 hf
 refine WPK.condF (Eq.trans (b := .bool (decide (¬ (p0.Leaf = true)))) (by kernel_rfl) (bo_f h6)) ?_
 refine WPK.skip ?_
 exact fun X h => kc (by kernel_rfl) rfl (h x2 hf)
theorem c54 {w1 w : World} {M I : Nat → Prop} {F : List It} (p0 : (List Int)) (A1 : Option Addr) (u1 : Nat) (hc1 : (p0.length ≤ u1 ∧ u1 ≤ 9223372036854775807)) (e1 : Elems (Rp.int .u8) I w A1 p0) (s : St w1 M I (F) w) {r : Bool} (hf : g54 p0 = some r) :
   Ret Try.prog 54 [.slice A1 p0.length u1] w fun v wz => ∀ X : Value → World → Prop, (∀ (I' : Nat → Prop) (w' : World), St w1 M I' (F) w' → Kp I w I' w' → X (.bool r) w') → X v wz := by
 have kk : Kp I w I w := Kp.refl
 unfold g54 at hf
 refine Ret.of Try.func54 rfl ?_
 refine WPK.seq ?_
 refine WPK.region ?_
 refine RW.seg hT 1 [] [] [.bool false] [] (by kernel_rfl) (trivial) ?_
 refine RW.nil ?_
 refine WPK.seq ?_
 refine WPK.region ?_
 refine RW.seg hT 3 [] [] [.slice A1 p0.length u1, .int .i64 (p0.length : Int), .bool (decide ((p0.length : Int) ≥ 1))] [] (by kernel_rfl) (trivial) ?_
 by_cases h1 : (p0.length : Int) ≥ 1
 have hf := iteT h1 hf
 refine RW.seg hT 6 [] [(6, .bool true)] [.bool true, .slice A1 p0.length u1, .int .i64 (p0.length : Int), .bool (decide ((p0.length : Int) ≤ 25)), .bool (decide ((p0.length : Int) ≤ 25)), .bool (decide ((p0.length : Int) ≤ 25))] [.veq (.bool (decide ((p0.length : Int) ≥ 1))) (.bool true)] (by kernel_rfl) (bo_t h1) ?_
 refine RW.nil ?_
 refine WPK.ret (?_)
 obtain rfl := someS hf
 refine Fin.of (rs := [.tmp 2]) hT [] (.bool (decide ((p0.length : Int) ≤ 25))) [] rfl (by kernel_rfl) (trivial) ?_
 exact fun X h => vc rfl (h I _ s kk)
 have hf := iteF h1 hf
 refine RW.seg hT 6 [] [(6, .bool false)] [.bool false, undef, undef, undef, .bool false, .bool false] [.veq (.bool (decide ((p0.length : Int) ≥ 1))) (.bool false)] (by kernel_rfl) (bo_f h1) ?_
 refine RW.nil ?_
 refine WPK.ret (?_)
 obtain rfl := someS hf
 refine Fin.of (rs := [.tmp 2]) hT [] (.bool false) [] rfl (by kernel_rfl) (trivial) ?_
 exact fun X h => vc rfl (h I _ s kk)
theorem c55 {w1 w : World} {M I : Nat → Prop} {F : List It} (p0 : Int) (s : St w1 M I (F) w) {r : Bool} (hf : g55 p0 = some r) :
   Ret Try.prog 55 [.int .i64 p0] w fun v wz => ∀ X : Value → World → Prop, (∀ (I' : Nat → Prop) (w' : World), St w1 M I' (F) w' → Kp I w I' w' → X (.bool r) w') → X v wz := by
 have kk : Kp I w I w := Kp.refl
 unfold g55 at hf
 refine Ret.of Try.func55 rfl ?_
 refine WPK.seq ?_
 refine WPK.region ?_
 refine RW.seg hT 1 [] [] [.bool false] [] (by kernel_rfl) (trivial) ?_
 refine RW.nil ?_
 refine WPK.seq ?_
 refine WPK.region ?_
 refine RW.seg hT 2 [] [] [.int .i64 p0, .bool (decide (p0 ≥ 2))] [] (by kernel_rfl) (trivial) ?_
 by_cases h1 : p0 ≥ 2
 have hf := iteT h1 hf
 refine RW.seg hT 5 [] [(5, .bool true)] [.bool true, .int .i64 p0, .bool (decide (p0 < 2048)), .bool (decide (p0 < 2048)), .bool (decide (p0 < 2048))] [.veq (.bool (decide (p0 ≥ 2))) (.bool true)] (by kernel_rfl) (bo_t h1) ?_
 refine RW.nil ?_
 refine WPK.ret (?_)
 obtain rfl := someS hf
 refine Fin.of (rs := [.tmp 2]) hT [] (.bool (decide (p0 < 2048))) [] rfl (by kernel_rfl) (trivial) ?_
 exact fun X h => vc rfl (h I _ s kk)
 have hf := iteF h1 hf
 refine RW.seg hT 5 [] [(5, .bool false)] [.bool false, undef, undef, .bool false, .bool false] [.veq (.bool (decide (p0 ≥ 2))) (.bool false)] (by kernel_rfl) (bo_f h1) ?_
 refine RW.nil ?_
 refine WPK.ret (?_)
 obtain rfl := someS hf
 refine Fin.of (rs := [.tmp 2]) hT [] (.bool false) [] rfl (by kernel_rfl) (trivial) ?_
 exact fun X h => vc rfl (h I _ s kk)
end Go.Proofs.Ytefjbhogpgihaaa
