/- PRINTED BY sy.py: each call computes what the plain function of its number tells. -/
import Derived.Test.YtclnddebhjjpfaaDoorW3
namespace Go.Proofs.YtclnddebhjjpfaaDoor
open Go Go.SX Go.RowKit
set_option maxRecDepth 100000
set_option linter.unusedVariables false
attribute [local irreducible] WPK RW RD Ret SX.Fin SX.Any opK RoundBeg RoundEnd RangeEnd Rounds
theorem c9 {w1 w : World} {M I : Nat → Prop} {F : List It}  (eg2 : Elems (Rp.int .u32) I w (some ⟨2, 0, none⟩) TAB2) (s : St w1 M I (F) w) {r : Bool} (hf : g9 = some r) :
    Ret Tryd.prog 9 [] w fun v wz => ∀ X : Value → World → Prop, (∀ (I' : Nat → Prop) (w' : World), St w1 M I' (F) w' → Kp I w I' w' → X (.bool r) w') → X v wz := by
  have kk : Kp I w I w := Kp.refl
  unfold g9 at hf
  refine Ret.of Tryd.func9 rfl ?_
  refine WPK.seq ?_
  refine WPK.region ?_
  refine RW.seg hT 1 [] [] [.bool false] [] (by kernel_rfl) (trivial) ?_
  refine RW.nil ?_
  refine WPK.seq ?_
  refine WPK.region ?_
  obtain ⟨x1, hx1, hf⟩ := bindS hf
  refine RW.op (by kernel_rfl) (OK.call' en29 (by kernel_rfl) (c29 (F := F) s hx1) ?_)
  intro X1 hX1
  refine fun _ _ hJ => hJ X1 ?_
  clear s
  intro I1 A1 n1 u1 cl1 A2 n2 u2 cl2 w2 s k1 hn1 rp1 hn2 rp2
  refine hX1 _ _ ?_
  replace eg2 := eg2.st k1
  replace kk := kk.trans k1
  rw [hn1] at s
  try rw [hn1]
  obtain ⟨I2, s', k2, hc1, e1⟩ := St.give s (i := 0) rfl rfl rp1
  replace s := s'; clear s'
  replace rp2 := rp2.st k2
  replace eg2 := eg2.st k2
  replace kk := kk.trans k2
  rw [hn2] at s
  try rw [hn2]
  obtain ⟨I3, s', k3, hc2, e2⟩ := St.give s (i := 0) rfl rfl rp2
  replace s := s'; clear s'
  replace e1 := e1.st k3
  replace eg2 := eg2.st k3
  replace kk := kk.trans k3
  obtain ⟨x2, hx2, hf⟩ := bindS hf
  refine RW.op (by kernel_rfl) (OK.call' en17 (by kernel_rfl) (c17 (F := F) x1 A1 u1 A2 u2 hc1 e1 hc2 e2 s hx2) ?_)
  intro X2 hX2
  refine fun _ _ hJ => hJ X2 ?_
  clear s
  intro I4 A3 n3 u3 cl3 w3 s k4 hn3 rp3
  refine hX2 _ _ ?_
  replace e1 := e1.st k4
  replace e2 := e2.st k4
  replace eg2 := eg2.st k4
  replace kk := kk.trans k4
  rw [hn3] at s
  try rw [hn3]
  obtain ⟨I5, s', k5, hc3, e3⟩ := St.give s (i := 0) rfl rfl rp3
  replace s := s'; clear s'
  replace e1 := e1.st k5
  replace e2 := e2.st k5
  replace eg2 := eg2.st k5
  replace kk := kk.trans k5
  refine RW.seg hT 5 [] [] [.tuple #[.slice A3 x2.1.length u3, .int .i64 x2.2], .slice A3 x2.1.length u3, .int .i64 x2.2, .slice A3 x2.1.length u3, .int .i64 x2.2] [] (by kernel_rfl) (trivial) ?_
  refine RW.nil ?_
  refine WPK.seq ?_
  refine WPK.region ?_
  obtain ⟨x3, hx3, hf⟩ := bindS hf
  refine RW.op (by kernel_rfl) (OK.call' en29 (by kernel_rfl) (c29 (F := F) s hx3) ?_)
  intro X3 hX3
  refine fun _ _ hJ => hJ X3 ?_
  clear s
  intro I6 A4 n4 u4 cl4 A5 n5 u5 cl5 w4 s k6 hn4 rp4 hn5 rp5
  refine hX3 _ _ ?_
  replace e3 := e3.st k6
  replace e1 := e1.st k6
  replace e2 := e2.st k6
  replace eg2 := eg2.st k6
  replace kk := kk.trans k6
  rw [hn4] at s
  try rw [hn4]
  obtain ⟨I7, s', k7, hc4, e4⟩ := St.give s (i := 0) rfl rfl rp4
  replace s := s'; clear s'
  replace e3 := e3.st k7
  replace e1 := e1.st k7
  replace e2 := e2.st k7
  replace rp5 := rp5.st k7
  replace eg2 := eg2.st k7
  replace kk := kk.trans k7
  rw [hn5] at s
  try rw [hn5]
  obtain ⟨I8, s', k8, hc5, e5⟩ := St.give s (i := 0) rfl rfl rp5
  replace s := s'; clear s'
  replace e3 := e3.st k8
  replace e1 := e1.st k8
  replace e2 := e2.st k8
  replace e4 := e4.st k8
  replace eg2 := eg2.st k8
  replace kk := kk.trans k8
  obtain ⟨x4, hx4, hf⟩ := bindS hf
  refine RW.op (by kernel_rfl) (OK.call' en27 (by kernel_rfl) (c27 (F := F) x3 A4 u4 A5 u5 hc4 e4 hc5 e5 eg2 s hx4) ?_)
  intro X4 hX4
  refine fun _ _ hJ => hJ X4 ?_
  clear s
  intro I9 A6 u6 w5 s k9 hc6 e6
  refine hX4 _ _ ?_
  replace e3 := e3.st k9
  replace e1 := e1.st k9
  replace e2 := e2.st k9
  replace e4 := e4.st k9
  replace e5 := e5.st k9
  replace eg2 := eg2.st k9
  replace kk := kk.trans k9
  refine RW.op (by kernel_rfl) (OK.new hT (f := fun b => .slice (some ⟨b, 0, none⟩) 2 2) (cs := [.slice none 0 0, .slice A6 x4.length u6]) (e := 24) (c := .tt) s (by kernel_rfl) trivial ?_)
  clear s
  rintro w6 b1 s k10 -
  replace e3 := e3.st k10
  replace e1 := e1.st k10
  replace e2 := e2.st k10
  replace e4 := e4.st k10
  replace e5 := e5.st k10
  replace e6 := e6.st k10
  replace eg2 := eg2.st k10
  replace kk := kk.trans k10
  have rp6 : RepL (Rp.slice (Rp.int .u8)) I9 w6 [.slice none 0 0, .slice A6 x4.length u6] ([[], x4] : List (List Int)) := RepL.cons (c := [.slice none 0 0]) (d := [.slice A6 x4.length u6]) (⟨_, _, rfl, nil_hc.1, nil_hc.2, Elems.nil⟩) (RepL.cons (c := [.slice A6 x4.length u6]) (d := []) (⟨_, _, rfl, hc6.1, hc6.2, e6⟩) (RepL.nil))
  replace s : St w1 M I9 ((.sl (.slice (some ⟨b1, 0, none⟩) 2 2) 24 1 2 [.slice none 0 0, .slice A6 x4.length u6]) :: F) w6 := s.blkSl (i := 0) (n := 2) (c := 2) (size := 1) rfl rfl (Nat.le_refl _) (by decide)
  refine RW.op (by kernel_rfl) (OK.inl (args := [.int .i64 64, .slice (some ⟨b1, 0, none⟩) 2 2]) en10 (by kernel_rfl) ?_)
  intro R1 hR1
  refine Ret.cut (fun v wz => ∀ X : Value → World → Prop, (∀ (I10 : Nat → Prop) (x5 : Int) (x6 : Int) (x7 : (List Int)) (x8 : (List Int)) (x9 : Int) (x10 : Int) (A7 : Option Addr) (u7 : Nat) (A8 : Option Addr) (u8 : Nat) (w' : World), g9_j1 x2 x5 x6 x7 x8 x9 x10 = some r → St w1 M I10 (F) w' → Kp I w I10 w' → Elems (Rp.int .u8) I10 w' A3 x2.1 → (x7.length ≤ u7 ∧ u7 ≤ 9223372036854775807) → Elems (Rp.int .i64) I10 w' A7 x7 → (x8.length ≤ u8 ∧ u8 ≤ 9223372036854775807) → Elems (Rp.int .u8) I10 w' A8 x8 → Elems (Rp.int .u32) I10 w' (some ⟨2, 0, none⟩) TAB2 → X (.tuple #[.agg #[.int .u64 x5, .int .i64 x6, .slice A7 x7.length u7, .slice A8 x8.length u8], .int .i64 x9, .int .i64 x10]) w') → X v wz) ?_ ?_
  refine fun _ _ hJ => hJ R1 ?_
  clear s
  intro I10 x5 x6 x7 x8 x9 x10 A7 u7 A8 u8 w7 hf s kk e3 hc7 e7 hc8 e8 eg2
  refine hR1 _ _ ?_
  unfold g9_j1 at hf
  refine RW.seg hT 4 [] [] [.tuple #[.agg #[.int .u64 x5, .int .i64 x6, .slice A7 x7.length u7, .slice A8 x8.length u8], .int .i64 x9, .int .i64 x10], .agg #[.int .u64 x5, .int .i64 x6, .slice A7 x7.length u7, .slice A8 x8.length u8], .int .i64 x9, .int .i64 x10] [] (by kernel_rfl) (trivial) ?_
  refine RW.op (by kernel_rfl) (OK.new hT (f := fun b => .pointer (some ⟨b, 0, none⟩)) (cs := [.int .u64 0, .int .i64 0, .slice none 0 0, .slice none 0 0]) (e := 28) (c := .tt) s (by kernel_rfl) trivial ?_)
  clear s
  rintro w8 b2 s k11 -
  replace e3 := e3.st k11
  replace e7 := e7.st k11
  replace e8 := e8.st k11
  replace eg2 := eg2.st k11
  replace kk := kk.trans k11
  refine RW.op (by kernel_rfl) (OK.store hT (i := 0) (b := b2) (off := 0) (n := 4) (vs := [.int .u64 x5, .int .i64 x6, .slice A7 x7.length u7, .slice A8 x8.length u8]) (cs := [.int .u64 0, .int .i64 0, .slice none 0 0, .slice none 0 0]) (e := 28) s (by kernel_rfl) rfl rfl (flat_ok rfl) (Nat.le_of_ble_eq_true rfl) ?_)
  clear s
  rintro w9 s k12 -
  replace e3 := e3.st k12
  replace e7 := e7.st k12
  replace e8 := e8.st k12
  replace eg2 := eg2.st k12
  replace kk := kk.trans k12
  refine RW.seg hT 2 [] [] [.int .i64 x9, .int .i64 x10] [] (by kernel_rfl) (trivial) ?_
  refine RW.nil ?_
  refine WPK.seq ?_
  refine WPK.cut' (Kn fun D1 ds wz => ∀ X : Kont, (∀ (I11 : Nat → Prop) (x11 : Bool) (w' : World), g9_j2 x11 = some r → St w1 M I11 (F) w' → Kp I w I11 w' → Elems (Rp.int .u32) I11 w' (some ⟨2, 0, none⟩) TAB2 → X [.bool x11, (D1.getD 1 undef), (D1.getD 2 undef), (D1.getD 3 undef), (D1.getD 4 undef), (D1.getD 5 undef), (D1.getD 6 undef), (D1.getD 7 undef), (D1.getD 8 undef), (D1.getD 9 undef), (D1.getD 10 undef), (D1.getD 11 undef), (D1.getD 12 undef), (D1.getD 13 undef), (D1.getD 14 undef), (D1.getD 15 undef), (D1.getD 16 undef), (D1.getD 17 undef), (D1.getD 18 undef), (D1.getD 19 undef), (D1.getD 20 undef), (D1.getD 21 undef), (D1.getD 22 undef), (D1.getD 23 undef), (D1.getD 24 undef), (D1.getD 25 undef), (D1.getD 26 undef), (D1.getD 27 undef), (D1.getD 28 undef), (D1.getD 29 undef), (D1.getD 30 undef), (D1.getD 31 undef), (D1.getD 32 undef), (D1.getD 33 undef), (D1.getD 34 undef), (D1.getD 35 undef), (D1.getD 36 undef), (D1.getD 37 undef), (D1.getD 38 undef), (D1.getD 39 undef), (D1.getD 40 undef), (D1.getD 41 undef), (D1.getD 42 undef), (D1.getD 43 undef), (D1.getD 44 undef)] [] w') → X D1 ds wz) ?_ ?_
  intro X5 hX5
  refine fun D1 _ _ hJ => hJ X5 ?_
  clear s
  intro I11 x11 w10 hf s kk eg2
  refine hX5 _ _ _ ?_
  unfold g9_j2 at hf
  refine WPK.ret (?_)
  obtain rfl := someS hf
  refine Fin.of (rs := [.tmp 0]) hT [] (.bool x11) [] rfl (by kernel_rfl) (trivial) ?_
  exact fun X h => vc rfl (h I11 _ s kk)
  have e3S1 := e3
  have e7S1 := e7
  have e8S1 := e8
  have eg2S27945 := eg2
  have kS1 : Kp I10 w9 I10 w9 := Kp.refl
  refine WPK.drawM (fun w' => ∃ I' : Nat → Prop, St w1 M I' ((.blk b2 (.cells #[.int .u64 x5, .int .i64 x6, .slice A7 x7.length u7, .slice A8 x8.length u8] 28 (0, 0))) :: F) w' ∧ Kp I10 w9 I' w') 27 [0, 1, 3, 7, 15, 31, 63, 127, 255, 511, 1023, 2047, 2047, 8191, 16383, 32767, 65535, 131071, 262143, 524287, 1048575, 2097151, 4194303, 2097151, 16777215, 33554431, 67108863] (by kernel_rfl) (by kernel_rfl) ?_
  intro ht1 w11 hd1
  have k13 := Kp.dr s hd1
  replace s := s.dr hd1
  replace e3 := e3.st k13
  replace e7 := e7.st k13
  replace e8 := e8.st k13
  replace eg2 := eg2.st k13
  replace kk := kk.trans k13
  replace kS1 := kS1.trans k13
  refine RD.segM hT ht1 (by kernel_rfl) [0, 1] [] [(20, .bool (decide (x2.2 = 0)))] [.int .i64 x2.2, .bool (decide (x2.2 = 0))] [.veq (.bool (x2.2 == 0)) (.bool (decide (x2.2 = 0)))] (by kernel_rfl) (by rintro w' ⟨I', s, k⟩; have e3 := e3S1.st k; have e7 := e7S1.st k; have e8 := e8S1.st k; have eg2 := eg2S27945.st k; exact eq_v) ⟨_, s.pick [0] 1 rfl, kS1⟩ ?_
  by_cases h1 : x2.2 = 0
  have hf := iteT h1 hf
  refine RD.segM hT ht1 (by kernel_rfl) [2, 3, 4, 5] [] [(21, .bool true), (23, .bool (decide (x10 = 0)))] [.bool true, .int .i64 x10, .bool (decide (x10 = 0)), .bool (decide (x10 = 0))] [.veq (.bool (decide (x2.2 = 0))) (.bool true), .veq (.bool (x10 == 0)) (.bool (decide (x10 = 0)))] (by kernel_rfl) (by rintro w' ⟨I', s, k⟩; have e3 := e3S1.st k; have e7 := e7S1.st k; have e8 := e8S1.st k; have eg2 := eg2S27945.st k; exact ⟨bo_t h1, eq_v⟩) ⟨_, s.pick [0] 1 rfl, kS1⟩ ?_
  by_cases h2 : x10 = 0
  have hf := iteT h2 hf
  refine RD.segM hT ht1 (by kernel_rfl) [6, 7, 8, 9] [] [(25, .bool true), (27, .bool (decide (x9 = 1)))] [.bool true, .int .i64 x9, .bool (decide (x9 = 1)), .bool (decide (x9 = 1))] [.veq (.bool (decide (x10 = 0))) (.bool true), .veq (.bool (x9 == 1)) (.bool (decide (x9 = 1)))] (by kernel_rfl) (by rintro w' ⟨I', s, k⟩; have e3 := e3S1.st k; have e7 := e7S1.st k; have e8 := e8S1.st k; have eg2 := eg2S27945.st k; exact ⟨bo_t h2, eq_v⟩) ⟨_, s.pick [0] 1 rfl, kS1⟩ ?_
  by_cases h3 : x9 = 1
  have hf := iteT h3 hf
  refine RD.segM hT ht1 (by kernel_rfl) [10, 11] [.agg #[.int .u64 x5, .int .i64 x6, .slice A7 x7.length u7, .slice A8 x8.length u8]] [(29, .bool true)] [.bool true, .agg #[.int .u64 x5, .int .i64 x6, .slice A7 x7.length u7, .slice A8 x8.length u8]] [.veq (.bool (decide (x9 = 1))) (.bool true), .cells ⟨b2, 0, none⟩ [.int .u64 x5, .int .i64 x6, .slice A7 x7.length u7, .slice A8 x8.length u8] 4] (by kernel_rfl) (by rintro w' ⟨I', s, k⟩; have e3 := e3S1.st k; have e7 := e7S1.st k; have e8 := e8S1.st k; have eg2 := eg2S27945.st k; exact ⟨bo_t h3, s.cells (i := 0) rfl rfl rfl⟩) ⟨_, s.pick [0] 1 rfl, kS1⟩ ?_
  obtain ⟨x12, hx5, hf⟩ := bindS hf
  refine RD.op (i := 12) rfl (by kernel_rfl) (by kernel_rfl) (OK.call' en29 (by kernel_rfl) (c29 (F := (.blk b2 (.cells #[.int .u64 x5, .int .i64 x6, .slice A7 x7.length u7, .slice A8 x8.length u8] 28 (0, 0))) :: F) s hx5) ?_)
  intro X6 hX6
  refine fun _ _ hJ => hJ X6 ?_
  clear s
  intro I12 A9 n6 u9 cl6 A10 n7 u10 cl7 w12 s k14 hn6 rp7 hn7 rp8
  refine hX6 _ _ ?_
  replace e3 := e3.st k14
  replace e7 := e7.st k14
  replace e8 := e8.st k14
  replace eg2 := eg2.st k14
  replace kk := kk.trans k14
  replace kS1 := kS1.trans k14
  rw [hn6] at s
  try rw [hn6]
  obtain ⟨I13, s', k15, hc9, e9⟩ := St.give s (i := 0) rfl rfl rp7
  replace s := s'; clear s'
  replace e3 := e3.st k15
  replace e7 := e7.st k15
  replace e8 := e8.st k15
  replace rp8 := rp8.st k15
  replace eg2 := eg2.st k15
  replace kk := kk.trans k15
  replace kS1 := kS1.trans k15
  rw [hn7] at s
  try rw [hn7]
  obtain ⟨I14, s', k16, hc10, e10⟩ := St.give s (i := 0) rfl rfl rp8
  replace s := s'; clear s'
  replace e3 := e3.st k16
  replace e7 := e7.st k16
  replace e8 := e8.st k16
  replace e9 := e9.st k16
  replace eg2 := eg2.st k16
  replace kk := kk.trans k16
  replace kS1 := kS1.trans k16
  refine ⟨fun _ => ⟨_, s.pick [0] 1 rfl, kS1⟩, RD.fold ?_⟩
  obtain ⟨x13, hx6, hf⟩ := bindS hf
  refine RD.op (i := 13) rfl (by kernel_rfl) (by kernel_rfl) (OK.call' en12 (by kernel_rfl) (c12 (F := (.blk b2 (.cells #[.int .u64 x5, .int .i64 x6, .slice A7 x7.length u7, .slice A8 x8.length u8] 28 (0, 0))) :: F) (T_api_Head.mk x5 x6 x7 x8) x12 A7 u7 A8 u8 A9 u9 A10 u10 hc7 e7 hc8 e8 hc9 e9 hc10 e10 s hx6) ?_)
  intro X7 hX7
  refine fun _ _ hJ => hJ X7 ?_
  clear s
  intro I15 w13 s k17
  refine hX7 _ _ ?_
  replace e3 := e3.st k17
  replace e7 := e7.st k17
  replace e8 := e8.st k17
  replace e9 := e9.st k17
  replace e10 := e10.st k17
  replace eg2 := eg2.st k17
  replace kk := kk.trans k17
  replace kS1 := kS1.trans k17
  refine ⟨fun _ => ⟨_, s.pick [0] 1 rfl, kS1⟩, RD.fold ?_⟩
  refine RD.segM hT ht1 (by kernel_rfl) [14] [] [] [.bool x13] [] (by kernel_rfl) (fun _ _ => trivial) ⟨_, s.pick [0] 1 rfl, kS1⟩ ?_
  by_cases h4 : x13 = true
  have hf := iteT h4 hf
  refine RD.segM hT ht1 (by kernel_rfl) [15, 16, 17, 18, 19] [] [(34, .bool true), (37, .bool (decide ((x2.1.length : Int) = 240)))] [.bool true, .slice A3 x2.1.length u3, .int .i64 (x2.1.length : Int), .bool (decide ((x2.1.length : Int) = 240)), .bool (decide ((x2.1.length : Int) = 240))] [.veq (.bool (x13)) (.bool true), .veq (.bool ((x2.1.length : Int) == 240)) (.bool (decide ((x2.1.length : Int) = 240)))] (by kernel_rfl) (by rintro w' ⟨I', s, k⟩; have e3 := e3S1.st k; have e7 := e7S1.st k; have e8 := e8S1.st k; have eg2 := eg2S27945.st k; exact ⟨b_t h4, eq_v⟩) ⟨_, s.pick [0] 1 rfl, kS1⟩ ?_
  by_cases h5 : (x2.1.length : Int) = 240
  have hf := iteT h5 hf
  obtain ⟨y1, hy1, hf⟩ := bindS hf
  obtain ⟨h6, hc11, e11, q1⟩ := slS0 hc3 e3 hy1
  refine RD.segM hT ht1 (by kernel_rfl) [20, 21, 22] [] [(39, .bool true), (41, .slice A3 y1.length u3)] [.bool true, .slice A3 x2.1.length u3, .slice A3 y1.length u3] [.veq (.bool (decide ((x2.1.length : Int) = 240))) (.bool true), .both (.cut 0 8 u3 u3) (.veq (.slice A3 (8 : Int).toNat u3) (.slice A3 y1.length u3))] (by kernel_rfl) (by rintro w' ⟨I', s, k⟩; have e3 := e3S1.st k; have e7 := e7S1.st k; have e8 := e8S1.st k; have eg2 := eg2S27945.st k; exact ⟨bo_t h5, ⟨⟨by omega, by omega, by omega, by omega⟩, sl_eq rfl q1 rfl⟩⟩) ⟨_, s.pick [0] 1 rfl, kS1⟩ ?_
  refine RD.op (i := 23) rfl (by kernel_rfl) (by kernel_rfl) (OK.new hT (f := fun b => .slice (some ⟨b, 0, none⟩) 8 8) (cs := [.int .u8 0, .int .u8 64, .int .u8 1, .int .u8 0, .int .u8 2, .int .u8 1, .int .u8 7, .int .u8 0]) (e := 5) (c := .tt) s (by kernel_rfl) trivial ?_)
  clear s
  rintro w14 b3 s k18 -
  replace e3 := e3.st k18
  replace e7 := e7.st k18
  replace e8 := e8.st k18
  replace e9 := e9.st k18
  replace e10 := e10.st k18
  replace e11 := e11.st k18
  replace eg2 := eg2.st k18
  replace kk := kk.trans k18
  replace kS1 := kS1.trans k18
  have rp9 : RepL (Rp.int .u8) I15 w14 [.int .u8 0, .int .u8 64, .int .u8 1, .int .u8 0, .int .u8 2, .int .u8 1, .int .u8 7, .int .u8 0] ([0, 64, 1, 0, 2, 1, 7, 0] : List Int) := RepL.cons (c := [.int .u8 0]) (d := [.int .u8 64, .int .u8 1, .int .u8 0, .int .u8 2, .int .u8 1, .int .u8 7, .int .u8 0]) (rfl) (RepL.cons (c := [.int .u8 64]) (d := [.int .u8 1, .int .u8 0, .int .u8 2, .int .u8 1, .int .u8 7, .int .u8 0]) (rfl) (RepL.cons (c := [.int .u8 1]) (d := [.int .u8 0, .int .u8 2, .int .u8 1, .int .u8 7, .int .u8 0]) (rfl) (RepL.cons (c := [.int .u8 0]) (d := [.int .u8 2, .int .u8 1, .int .u8 7, .int .u8 0]) (rfl) (RepL.cons (c := [.int .u8 2]) (d := [.int .u8 1, .int .u8 7, .int .u8 0]) (rfl) (RepL.cons (c := [.int .u8 1]) (d := [.int .u8 7, .int .u8 0]) (rfl) (RepL.cons (c := [.int .u8 7]) (d := [.int .u8 0]) (rfl) (RepL.cons (c := [.int .u8 0]) (d := []) (rfl) (RepL.nil))))))))
  replace s : St w1 M I15 ((.sl (.slice (some ⟨b3, 0, none⟩) 8 8) 5 1 8 [.int .u8 0, .int .u8 64, .int .u8 1, .int .u8 0, .int .u8 2, .int .u8 1, .int .u8 7, .int .u8 0]) :: (.blk b2 (.cells #[.int .u64 x5, .int .i64 x6, .slice A7 x7.length u7, .slice A8 x8.length u8] 28 (0, 0))) :: F) w14 := s.blkSl (i := 0) (n := 8) (c := 8) (size := 1) rfl rfl (Nat.le_refl _) (by decide)
  refine ⟨fun _ => ⟨_, s.pick [1] 2 rfl, kS1⟩, RD.fold ?_⟩
  have sa1 := s
  obtain ⟨hc12, e12⟩ := St.lend s (i := 0) rfl rfl rp9
  have k19 := Kp.shut (I := I15) (w := w14) (p := .sl (.slice (some ⟨b3, 0, none⟩) 8 8) 5 1 8 [.int .u8 0, .int .u8 64, .int .u8 1, .int .u8 0, .int .u8 2, .int .u8 1, .int .u8 7, .int .u8 0])
  replace s := s.shut 0 rfl
  obtain ⟨x14, hx7, hf⟩ := bindS hf
  refine RD.op (i := 24) rfl (by kernel_rfl) (by kernel_rfl) (OK.call' en24 (by kernel_rfl) (c24 (F := (.blk b2 (.cells #[.int .u64 x5, .int .i64 x6, .slice A7 x7.length u7, .slice A8 x8.length u8] 28 (0, 0))) :: F) y1 ([0, 64, 1, 0, 2, 1, 7, 0] : List Int) A3 u3 (some ⟨b3, 0, none⟩) 8 hc11 (e11.st k19) hc12 e12 s hx7) ?_)
  intro X8 hX8
  refine fun _ _ hJ => hJ X8 ?_
  clear s
  intro I16 w15 s k20
  refine hX8 _ _ ?_
  have s' := St.back sa1 (i := 0) rfl s k20
  replace k20 := Kp.back sa1 (i := 0) rfl k20
  replace s := s'; clear s'
  obtain ⟨I17, s, k20⟩ : ∃ I : Nat → Prop, St w1 M I ((.sl (.slice (some ⟨b3, 0, none⟩) 8 8) 5 1 8 [.int .u8 0, .int .u8 64, .int .u8 1, .int .u8 0, .int .u8 2, .int .u8 1, .int .u8 7, .int .u8 0]) :: (.blk b2 (.cells #[.int .u64 x5, .int .i64 x6, .slice A7 x7.length u7, .slice A8 x8.length u8] 28 (0, 0))) :: F) w15 ∧ Kp _ _ I _ := ⟨_, s, k20⟩
  replace e3 := e3.st k20
  replace e7 := e7.st k20
  replace e8 := e8.st k20
  replace e9 := e9.st k20
  replace e10 := e10.st k20
  replace e11 := e11.st k20
  replace eg2 := eg2.st k20
  replace rp9 := rp9.st k20
  replace kk := kk.trans k20
  replace kS1 := kS1.trans k20
  refine ⟨fun _ => ⟨_, s.pick [1] 2 rfl, kS1⟩, RD.fold ?_⟩
  refine RD.segM hT ht1 (by kernel_rfl) [25, 26] [] [] [.bool x14, .bool x14] [] (by kernel_rfl) (fun _ _ => trivial) ⟨_, s.pick [1] 2 rfl, kS1⟩ ?_
  refine RD.done (by kernel_rfl) ?_
  replace s := s.pick [] 2 rfl
  exact fun X h => kc (by kernel_rfl) rfl (h I17 x14 _ hf s kk eg2)
  have hf := iteF h5 hf
  refine RD.segM hT ht1 (by kernel_rfl) [20, 21, 22] [] [(39, .bool false)] [.bool false, undef, undef] [.veq (.bool (decide ((x2.1.length : Int) = 240))) (.bool false)] (by kernel_rfl) (by rintro w' ⟨I', s, k⟩; have e3 := e3S1.st k; have e7 := e7S1.st k; have e8 := e8S1.st k; have eg2 := eg2S27945.st k; exact bo_f h5) ⟨_, s.pick [0] 1 rfl, kS1⟩ ?_
  refine RD.skip (i := 23) rfl (by kernel_rfl) (by kernel_rfl) ?_
  refine ⟨fun _ => ⟨_, s.pick [0] 1 rfl, kS1⟩, ?_⟩
  refine RD.skip (i := 24) rfl (by kernel_rfl) (by kernel_rfl) ?_
  refine ⟨fun _ => ⟨_, s.pick [0] 1 rfl, kS1⟩, ?_⟩
  refine RD.segM hT ht1 (by kernel_rfl) [25, 26] [] [] [.bool false, .bool false] [] (by kernel_rfl) (fun _ _ => trivial) ⟨_, s.pick [0] 1 rfl, kS1⟩ ?_
  refine RD.done (by kernel_rfl) ?_
  replace s := s.pick [] 1 rfl
  exact fun X h => kc (by kernel_rfl) rfl (h I15 false _ hf s kk eg2)
  have hf := iteF h4 hf
  refine RD.segM hT ht1 (by kernel_rfl) [15, 16, 17, 18, 19, 20, 21, 22] [] [(34, .bool false)] [.bool false, undef, undef, undef, .bool false, .bool false, undef, undef] [.veq (.bool (x13)) (.bool false)] (by kernel_rfl) (by rintro w' ⟨I', s, k⟩; have e3 := e3S1.st k; have e7 := e7S1.st k; have e8 := e8S1.st k; have eg2 := eg2S27945.st k; exact b_f h4) ⟨_, s.pick [0] 1 rfl, kS1⟩ ?_
  refine RD.skip (i := 23) rfl (by kernel_rfl) (by kernel_rfl) ?_
  refine ⟨fun _ => ⟨_, s.pick [0] 1 rfl, kS1⟩, ?_⟩
  refine RD.skip (i := 24) rfl (by kernel_rfl) (by kernel_rfl) ?_
  refine ⟨fun _ => ⟨_, s.pick [0] 1 rfl, kS1⟩, ?_⟩
  refine RD.segM hT ht1 (by kernel_rfl) [25, 26] [] [] [.bool false, .bool false] [] (by kernel_rfl) (fun _ _ => trivial) ⟨_, s.pick [0] 1 rfl, kS1⟩ ?_
  refine RD.done (by kernel_rfl) ?_
  replace s := s.pick [] 1 rfl
  exact fun X h => kc (by kernel_rfl) rfl (h I15 false _ hf s kk eg2)
  have hf := iteF h3 hf
  refine RD.segM hT ht1 (by kernel_rfl) [10, 11] [] [(29, .bool false)] [.bool false, undef] [.veq (.bool (decide (x9 = 1))) (.bool false)] (by kernel_rfl) (by rintro w' ⟨I', s, k⟩; have e3 := e3S1.st k; have e7 := e7S1.st k; have e8 := e8S1.st k; have eg2 := eg2S27945.st k; exact bo_f h3) ⟨_, s.pick [0] 1 rfl, kS1⟩ ?_
  refine RD.skip (i := 12) rfl (by kernel_rfl) (by kernel_rfl) ?_
  refine ⟨fun _ => ⟨_, s.pick [0] 1 rfl, kS1⟩, ?_⟩
  refine RD.skip (i := 13) rfl (by kernel_rfl) (by kernel_rfl) ?_
  refine ⟨fun _ => ⟨_, s.pick [0] 1 rfl, kS1⟩, ?_⟩
  refine RD.segM hT ht1 (by kernel_rfl) [14, 15, 16, 17, 18, 19, 20, 21, 22] [] [] [.bool false, .bool false, undef, undef, undef, .bool false, .bool false, undef, undef] [] (by kernel_rfl) (fun _ _ => trivial) ⟨_, s.pick [0] 1 rfl, kS1⟩ ?_
  refine RD.skip (i := 23) rfl (by kernel_rfl) (by kernel_rfl) ?_
  refine ⟨fun _ => ⟨_, s.pick [0] 1 rfl, kS1⟩, ?_⟩
  refine RD.skip (i := 24) rfl (by kernel_rfl) (by kernel_rfl) ?_
  refine ⟨fun _ => ⟨_, s.pick [0] 1 rfl, kS1⟩, ?_⟩
  refine RD.segM hT ht1 (by kernel_rfl) [25, 26] [] [] [.bool false, .bool false] [] (by kernel_rfl) (fun _ _ => trivial) ⟨_, s.pick [0] 1 rfl, kS1⟩ ?_
  refine RD.done (by kernel_rfl) ?_
  replace s := s.pick [] 1 rfl
  exact fun X h => kc (by kernel_rfl) rfl (h I10 false _ hf s kk eg2)
  have hf := iteF h2 hf
  refine RD.segM hT ht1 (by kernel_rfl) [6, 7, 8, 9, 10, 11] [] [(25, .bool false)] [.bool false, undef, undef, .bool false, .bool false, undef] [.veq (.bool (decide (x10 = 0))) (.bool false)] (by kernel_rfl) (by rintro w' ⟨I', s, k⟩; have e3 := e3S1.st k; have e7 := e7S1.st k; have e8 := e8S1.st k; have eg2 := eg2S27945.st k; exact bo_f h2) ⟨_, s.pick [0] 1 rfl, kS1⟩ ?_
  refine RD.skip (i := 12) rfl (by kernel_rfl) (by kernel_rfl) ?_
  refine ⟨fun _ => ⟨_, s.pick [0] 1 rfl, kS1⟩, ?_⟩
  refine RD.skip (i := 13) rfl (by kernel_rfl) (by kernel_rfl) ?_
  refine ⟨fun _ => ⟨_, s.pick [0] 1 rfl, kS1⟩, ?_⟩
  refine RD.segM hT ht1 (by kernel_rfl) [14, 15, 16, 17, 18, 19, 20, 21, 22] [] [] [.bool false, .bool false, undef, undef, undef, .bool false, .bool false, undef, undef] [] (by kernel_rfl) (fun _ _ => trivial) ⟨_, s.pick [0] 1 rfl, kS1⟩ ?_
  refine RD.skip (i := 23) rfl (by kernel_rfl) (by kernel_rfl) ?_
  refine ⟨fun _ => ⟨_, s.pick [0] 1 rfl, kS1⟩, ?_⟩
  refine RD.skip (i := 24) rfl (by kernel_rfl) (by kernel_rfl) ?_
  refine ⟨fun _ => ⟨_, s.pick [0] 1 rfl, kS1⟩, ?_⟩
  refine RD.segM hT ht1 (by kernel_rfl) [25, 26] [] [] [.bool false, .bool false] [] (by kernel_rfl) (fun _ _ => trivial) ⟨_, s.pick [0] 1 rfl, kS1⟩ ?_
  refine RD.done (by kernel_rfl) ?_
  replace s := s.pick [] 1 rfl
  exact fun X h => kc (by kernel_rfl) rfl (h I10 false _ hf s kk eg2)
  have hf := iteF h1 hf
  refine RD.segM hT ht1 (by kernel_rfl) [2, 3, 4, 5, 6, 7, 8, 9, 10, 11] [] [(21, .bool false)] [.bool false, undef, undef, .bool false, .bool false, undef, undef, .bool false, .bool false, undef] [.veq (.bool (decide (x2.2 = 0))) (.bool false)] (by kernel_rfl) (by rintro w' ⟨I', s, k⟩; have e3 := e3S1.st k; have e7 := e7S1.st k; have e8 := e8S1.st k; have eg2 := eg2S27945.st k; exact bo_f h1) ⟨_, s.pick [0] 1 rfl, kS1⟩ ?_
  refine RD.skip (i := 12) rfl (by kernel_rfl) (by kernel_rfl) ?_
  refine ⟨fun _ => ⟨_, s.pick [0] 1 rfl, kS1⟩, ?_⟩
  refine RD.skip (i := 13) rfl (by kernel_rfl) (by kernel_rfl) ?_
  refine ⟨fun _ => ⟨_, s.pick [0] 1 rfl, kS1⟩, ?_⟩
  refine RD.segM hT ht1 (by kernel_rfl) [14, 15, 16, 17, 18, 19, 20, 21, 22] [] [] [.bool false, .bool false, undef, undef, undef, .bool false, .bool false, undef, undef] [] (by kernel_rfl) (fun _ _ => trivial) ⟨_, s.pick [0] 1 rfl, kS1⟩ ?_
  refine RD.skip (i := 23) rfl (by kernel_rfl) (by kernel_rfl) ?_
  refine ⟨fun _ => ⟨_, s.pick [0] 1 rfl, kS1⟩, ?_⟩
  refine RD.skip (i := 24) rfl (by kernel_rfl) (by kernel_rfl) ?_
  refine ⟨fun _ => ⟨_, s.pick [0] 1 rfl, kS1⟩, ?_⟩
  refine RD.segM hT ht1 (by kernel_rfl) [25, 26] [] [] [.bool false, .bool false] [] (by kernel_rfl) (fun _ _ => trivial) ⟨_, s.pick [0] 1 rfl, kS1⟩ ?_
  refine RD.done (by kernel_rfl) ?_
  replace s := s.pick [] 1 rfl
  exact fun X h => kc (by kernel_rfl) rfl (h I10 false _ hf s kk eg2)
  refine Ret.of Tryd.func10 rfl ?_
  refine WPK.seq ?_
  refine WPK.region ?_
  refine RW.op (by kernel_rfl) (OK.new hT (f := fun b => .pointer (some ⟨b, 0, none⟩)) (cs := [.int .u64 0, .int .i64 0, .slice none 0 0, .slice none 0 0]) (e := 28) (c := .tt) s (by kernel_rfl) trivial ?_)
  clear s
  rintro w16 b4 s k21 -
  replace e3 := e3.st k21
  replace rp6 := rp6.st k21
  replace eg2 := eg2.st k21
  replace kk := kk.trans k21
  refine RW.seg hT 2 [] [] [.int .i64 0, .int .i64 0] [] (by kernel_rfl) (trivial) ?_
  refine RW.nil ?_
  refine WPK.seq ?_
  refine WPK.region ?_
  refine RW.seg hT 1 [] [] [.int .i64 (-1)] [] (by kernel_rfl) (trivial) ?_
  refine RW.nil ?_
  refine WPK.seq ?_
  refine WPK.region ?_
  refine RW.op (by kernel_rfl) (OK.new hT (f := fun b => .pointer (some ⟨b, 0, none⟩)) (cs := [.int .u64 0, .int .i64 0, .slice none 0 0, .slice none 0 0]) (e := 28) (c := .tt) s (by kernel_rfl) trivial ?_)
  clear s
  rintro w17 b5 s k22 -
  replace e3 := e3.st k22
  replace rp6 := rp6.st k22
  replace eg2 := eg2.st k22
  replace kk := kk.trans k22
  refine RW.nil ?_
  refine WPK.seq ?_
  refine WPK.seq ?_
  refine WPK.region ?_
  refine RW.seg hT 4 [] [(15, .int .i64 (([[], x4] : List (List Int)).length : Int))] [.slice (some ⟨b1, 0, none⟩) 2 2, .slice (some ⟨b1, 0, none⟩) 2 2, .int .i64 (([[], x4] : List (List Int)).length : Int), .int .i64 (if 2 < (([[], x4] : List (List Int)).length : Int) then 2 else (([[], x4] : List (List Int)).length : Int))] [.veq (.int .i64 (2 : Nat)) (.int .i64 (([[], x4] : List (List Int)).length : Int))] (by kernel_rfl) (len_v rfl) ?_
  obtain ⟨h7, hf⟩ := iteS hf
  have hc13 := row_hc (s.at (i := 2) rfl)
  have hb1 : (if 2 < (([[], x4] : List (List Int)).length : Int) then 2 else (([[], x4] : List (List Int)).length : Int)).toNat ≤ 2 := by have hnn := (rfl : 2 = 2); omega
  refine RW.seg hT 1 [] [] [.slice (some ⟨b1, 0, none⟩) (if 2 < (([[], x4] : List (List Int)).length : Int) then 2 else (([[], x4] : List (List Int)).length : Int)).toNat 2] [.cut 0 (if 2 < (([[], x4] : List (List Int)).length : Int) then 2 else (([[], x4] : List (List Int)).length : Int)) 2 2] (by kernel_rfl) (⟨Int.le_refl _, h7.1, by omega, Int.le_refl _⟩) ?_
  obtain ⟨s', rp10, hn8⟩ := St.shrinkA s (i := 2) (h := (if 2 < (([[], x4] : List (List Int)).length : Int) then 2 else (([[], x4] : List (List Int)).length : Int)).toNat) rfl rfl rfl rp6 hb1
  replace s := s'; clear s'
  refine RW.seg hT 2 [] [(18, .int .i64 ((List.take ((if 2 < (([[], x4] : List (List Int)).length : Int) then 2 else (([[], x4] : List (List Int)).length : Int)).toNat) ([[], x4] : List (List Int))).length : Int))] [.int .i64 ((List.take ((if 2 < (([[], x4] : List (List Int)).length : Int) then 2 else (([[], x4] : List (List Int)).length : Int)).toNat) ([[], x4] : List (List Int))).length : Int), .int .i64 0] [.veq (.int .i64 ((if 2 < (([[], x4] : List (List Int)).length : Int) then 2 else (([[], x4] : List (List Int)).length : Int)).toNat : Nat)) (.int .i64 ((List.take ((if 2 < (([[], x4] : List (List Int)).length : Int) then 2 else (([[], x4] : List (List Int)).length : Int)).toNat) ([[], x4] : List (List Int))).length : Int))] (by kernel_rfl) (len_v hn8) ?_
  refine RW.nil ?_
  refine WPK.block ?_
  refine WPK.loop' (J := fun n8 D2 ds wz => ∀ X : Kont, (∀ (I18 : Nat → Prop) (x15 : Int) (x16 : Int) (x17 : Int) (x18 : Int) (x19 : (List Int)) (x20 : (List Int)) (A11 : Option Addr) (u11 : Nat) (A12 : Option Addr) (u12 : Nat) (w' : World), g9_l3 x2 x4 n8 x15 x16 x17 x18 x19 x20 = some r → St w1 M I18 ((.blk b5 (.cells #[.int .u64 x17, .int .i64 x18, .slice A11 x19.length u11, .slice A12 x20.length u12] 28 (0, 0))) :: (.blk b4 (.cells #[.int .u64 0, .int .i64 0, .slice none 0 0, .slice none 0 0] 28 (0, 0))) :: (.sl (.slice (some ⟨b1, 0, none⟩) ((if 2 < (([[], x4] : List (List Int)).length : Int) then 2 else (([[], x4] : List (List Int)).length : Int)).toNat) 2) 24 1 ((if 2 < (([[], x4] : List (List Int)).length : Int) then 2 else (([[], x4] : List (List Int)).length : Int)).toNat) ([.slice none 0 0, .slice A6 x4.length u6].take ((if 2 < (([[], x4] : List (List Int)).length : Int) then 2 else (([[], x4] : List (List Int)).length : Int)).toNat * 1))) :: F) w' → Kp I w I18 w' → (x19.length ≤ u11 ∧ u11 ≤ 9223372036854775807) → Elems (Rp.int .i64) I18 w' A11 x19 → (x20.length ≤ u12 ∧ u12 ≤ 9223372036854775807) → Elems (Rp.int .u8) I18 w' A12 x20 → RepL (Rp.slice (Rp.int .u8)) I18 w' ([.slice none 0 0, .slice A6 x4.length u6].take ((if 2 < (([[], x4] : List (List Int)).length : Int) then 2 else (([[], x4] : List (List Int)).length : Int)).toNat * 1)) (List.take ((if 2 < (([[], x4] : List (List Int)).length : Int) then 2 else (([[], x4] : List (List Int)).length : Int)).toNat) ([[], x4] : List (List Int))) → Elems (Rp.int .u8) I18 w' A3 x2.1 → Elems (Rp.int .u32) I18 w' (some ⟨2, 0, none⟩) TAB2 → X [.int .i64 64, (D2.getD 1 undef), (D2.getD 2 undef), (D2.getD 3 undef), .pointer (some ⟨b4, 0, none⟩), .int .i64 0, .int .i64 0, .int .i64 x15, .pointer (some ⟨b5, 0, none⟩), (D2.getD 9 undef), (D2.getD 10 undef), (D2.getD 11 undef), (D2.getD 12 undef), (D2.getD 13 undef), (D2.getD 14 undef), (D2.getD 15 undef), (D2.getD 16 undef), .slice (some ⟨b1, 0, none⟩) ((if 2 < (([[], x4] : List (List Int)).length : Int) then 2 else (([[], x4] : List (List Int)).length : Int)).toNat) 2, .int .i64 ((List.take ((if 2 < (([[], x4] : List (List Int)).length : Int) then 2 else (([[], x4] : List (List Int)).length : Int)).toNat) ([[], x4] : List (List Int))).length : Int), .int .i64 x16, (D2.getD 20 undef), (D2.getD 21 undef), (D2.getD 22 undef), (D2.getD 23 undef), (D2.getD 24 undef), (D2.getD 25 undef), (D2.getD 26 undef), (D2.getD 27 undef), (D2.getD 28 undef), (D2.getD 29 undef), (D2.getD 30 undef), (D2.getD 31 undef), (D2.getD 32 undef), (D2.getD 33 undef), (D2.getD 34 undef), (D2.getD 35 undef), (D2.getD 36 undef), (D2.getD 37 undef), (D2.getD 38 undef), (D2.getD 39 undef), (D2.getD 40 undef), (D2.getD 41 undef), (D2.getD 42 undef), (D2.getD 43 undef), (D2.getD 44 undef), (D2.getD 45 undef), (D2.getD 46 undef), undef, undef, undef, undef, undef] [] w') → X D2 ds wz) FUEL (fun X h => kc (by kernel_rfl) rfl (h I9 (-1) 0 0 0 [] [] none 0 none 0 _ hf s kk nil_hc Elems.nil nil_hc Elems.nil rp10 e3 eg2)) (fun _ _ _ hJ => hJ (fun _ _ _ => False) (by intro I18 x15 x16 x17 x18 x19 x20 A11 u11 A12 u12 w18 hf s kk hc14 e13 hc15 e14 rp10 e3 eg2; exact noneS hf)) ?_
  intro X9 hX9
  refine fun n8 D2 _ _ hJ => hJ (X9 n8) ?_
  clear s
  intro I18 x15 x16 x17 x18 x19 x20 A11 u11 A12 u12 w18 hf s kk hc14 e13 hc15 e14 rp10 e3 eg2
  refine hX9 _ _ _ _ ?_
  replace hf : g9_l3B x2 x4 (g9_l3 x2 x4 n8) x15 x16 x17 x18 x19 x20 = some r := hf
  generalize hrec1 : g9_l3 x2 x4 n8 = rec1 at hf
  unfold g9_l3B at hf
  refine WPK.seq ?_
  refine WPK.region ?_
  refine RW.seg hT 1 [] [] [.bool (decide (x16 < ((List.take ((if 2 < (([[], x4] : List (List Int)).length : Int) then 2 else (([[], x4] : List (List Int)).length : Int)).toNat) ([[], x4] : List (List Int))).length : Int)))] [] (by kernel_rfl) (trivial) ?_
  refine RW.nil ?_
  refine WPK.seq ?_
  by_cases h8 : x16 < ((List.take ((if 2 < (([[], x4] : List (List Int)).length : Int) then 2 else (([[], x4] : List (List Int)).length : Int)).toNat) ([[], x4] : List (List Int))).length : Int)
  have hf := iteT h8 hf
  refine WPK.condT (Eq.trans (b := .bool (decide (x16 < ((List.take ((if 2 < (([[], x4] : List (List Int)).length : Int) then 2 else (([[], x4] : List (List Int)).length : Int)).toNat) ([[], x4] : List (List Int))).length : Int)))) (by kernel_rfl) (bo_t h8)) ?_
  refine WPK.skip ?_
  refine WPK.seq ?_
  refine WPK.cut' (Kn fun D3 ds wz => ∀ X : Kont, (∀ (I19 : Nat → Prop) (x21 : Int) (x22 : (List Int)) (x23 : Bool) (x24 : (List Int)) (x25 : Int) (x26 : Int) (x27 : (List Int)) (x28 : (List Int)) (x29 : Bool) (x30 : (List Int)) (x31 : Int) (x32 : Int) (x33 : (List Int)) (x34 : (List Int)) (x35 : Bool) (x36 : Int) (x37 : Int) (x38 : (List Int)) (x39 : (List Int)) (x40 : Bool) (x41 : Bool) (x42 : Bool) (x43 : Bool) (x44 : Bool) (x45 : Int) (x46 : Int) (x47 : (List Int)) (x48 : (List Int)) (x49 : Int) (x50 : Int) (x51 : (List Int)) (x52 : (List Int)) (b6 : Nat) (A13 : Option Addr) (u13 : Nat) (d1 : Value) (A14 : Option Addr) (u14 : Nat) (A15 : Option Addr) (u15 : Nat) (A16 : Option Addr) (u16 : Nat) (A17 : Option Addr) (u17 : Nat) (A18 : Option Addr) (u18 : Nat) (A19 : Option Addr) (u19 : Nat) (A20 : Option Addr) (u20 : Nat) (A21 : Option Addr) (u21 : Nat) (A22 : Option Addr) (u22 : Nat) (A23 : Option Addr) (u23 : Nat) (A24 : Option Addr) (u24 : Nat) (A25 : Option Addr) (u25 : Nat) (w' : World), g9_j4 x16 rec1 x21 x22 x23 x24 x25 x26 x27 x28 x29 x30 x31 x32 x33 x34 x35 x36 x37 x38 x39 x40 x41 x42 x43 x44 x45 x46 x47 x48 x49 x50 x51 x52 = some r → St w1 M I19 ((.blk b6 (.cells #[.int .u64 x45, .int .i64 x46, .slice A22 x47.length u22, .slice A23 x48.length u23] 28 (0, 0))) :: (.blk b5 (.cells #[.int .u64 x49, .int .i64 x50, .slice A24 x51.length u24, .slice A25 x52.length u25] 28 (0, 0))) :: (.blk b4 (.cells #[.int .u64 0, .int .i64 0, .slice none 0 0, .slice none 0 0] 28 (0, 0))) :: (.sl (.slice (some ⟨b1, 0, none⟩) ((if 2 < (([[], x4] : List (List Int)).length : Int) then 2 else (([[], x4] : List (List Int)).length : Int)).toNat) 2) 24 1 ((if 2 < (([[], x4] : List (List Int)).length : Int) then 2 else (([[], x4] : List (List Int)).length : Int)).toNat) ([.slice none 0 0, .slice A6 x4.length u6].take ((if 2 < (([[], x4] : List (List Int)).length : Int) then 2 else (([[], x4] : List (List Int)).length : Int)).toNat * 1))) :: F) w' → Kp I w I19 w' → (x22.length ≤ u13 ∧ u13 ≤ 9223372036854775807) → Elems (Rp.int .u8) I19 w' A13 x22 → (x24.length ≤ u14 ∧ u14 ≤ 9223372036854775807) → Elems (Rp.int .u8) I19 w' A14 x24 → (x27.length ≤ u15 ∧ u15 ≤ 9223372036854775807) → Elems (Rp.int .i64) I19 w' A15 x27 → (x28.length ≤ u16 ∧ u16 ≤ 9223372036854775807) → Elems (Rp.int .u8) I19 w' A16 x28 → (x30.length ≤ u17 ∧ u17 ≤ 9223372036854775807) → Elems (Rp.int .u8) I19 w' A17 x30 → (x33.length ≤ u18 ∧ u18 ≤ 9223372036854775807) → Elems (Rp.int .i64) I19 w' A18 x33 → (x34.length ≤ u19 ∧ u19 ≤ 9223372036854775807) → Elems (Rp.int .u8) I19 w' A19 x34 → (x38.length ≤ u20 ∧ u20 ≤ 9223372036854775807) → Elems (Rp.int .i64) I19 w' A20 x38 → (x39.length ≤ u21 ∧ u21 ≤ 9223372036854775807) → Elems (Rp.int .u8) I19 w' A21 x39 → (x47.length ≤ u22 ∧ u22 ≤ 9223372036854775807) → Elems (Rp.int .i64) I19 w' A22 x47 → (x48.length ≤ u23 ∧ u23 ≤ 9223372036854775807) → Elems (Rp.int .u8) I19 w' A23 x48 → (x51.length ≤ u24 ∧ u24 ≤ 9223372036854775807) → Elems (Rp.int .i64) I19 w' A24 x51 → (x52.length ≤ u25 ∧ u25 ≤ 9223372036854775807) → Elems (Rp.int .u8) I19 w' A25 x52 → RepL (Rp.slice (Rp.int .u8)) I19 w' ([.slice none 0 0, .slice A6 x4.length u6].take ((if 2 < (([[], x4] : List (List Int)).length : Int) then 2 else (([[], x4] : List (List Int)).length : Int)).toNat * 1)) (List.take ((if 2 < (([[], x4] : List (List Int)).length : Int) then 2 else (([[], x4] : List (List Int)).length : Int)).toNat) ([[], x4] : List (List Int))) → Elems (Rp.int .u8) I19 w' A3 x2.1 → Elems (Rp.int .u32) I19 w' (some ⟨2, 0, none⟩) TAB2 → X [.int .i64 64, (D3.getD 1 undef), (D3.getD 2 undef), (D3.getD 3 undef), .pointer (some ⟨b4, 0, none⟩), .int .i64 0, .int .i64 0, .int .i64 x21, .pointer (some ⟨b5, 0, none⟩), .int .i64 x16, .slice A13 x22.length u13, .pointer (some ⟨b6, 0, none⟩), .bool x23, (D3.getD 13 undef), (D3.getD 14 undef), (D3.getD 15 undef), (D3.getD 16 undef), .slice (some ⟨b1, 0, none⟩) ((if 2 < (([[], x4] : List (List Int)).length : Int) then 2 else (([[], x4] : List (List Int)).length : Int)).toNat) 2, .int .i64 ((List.take ((if 2 < (([[], x4] : List (List Int)).length : Int) then 2 else (([[], x4] : List (List Int)).length : Int)).toNat) ([[], x4] : List (List Int))).length : Int), .int .i64 x16, .bool (decide (x16 < ((List.take ((if 2 < (([[], x4] : List (List Int)).length : Int) then 2 else (([[], x4] : List (List Int)).length : Int)).toNat) ([[], x4] : List (List Int))).length : Int))), .int .i64 x16, d1, .slice A14 x24.length u14, .tuple #[.agg #[.int .u64 x25, .int .i64 x26, .slice A15 x27.length u15, .slice A16 x28.length u16], .bool x29], .int .i64 64, .int .i64 x16, .slice A17 x30.length u17, .tuple #[.agg #[.int .u64 x31, .int .i64 x32, .slice A18 x33.length u18, .slice A19 x34.length u19], .bool x35], .agg #[.int .u64 x36, .int .i64 x37, .slice A20 x38.length u20, .slice A21 x39.length u21], .bool x40, .bool x41, .bool x42, .bool x43, (D3.getD 34 undef), (D3.getD 35 undef), (D3.getD 36 undef), (D3.getD 37 undef), (D3.getD 38 undef), (D3.getD 39 undef), (D3.getD 40 undef), (D3.getD 41 undef), (D3.getD 42 undef), .bool x44, (D3.getD 44 undef), (D3.getD 45 undef), (D2.getD 46 undef), undef, undef, undef, undef, undef] [] w') → X D3 ds wz) ?_ ?_
  intro X10 hX10
  refine fun D3 _ _ hJ => hJ X10 ?_
  clear s
  intro I19 x21 x22 x23 x24 x25 x26 x27 x28 x29 x30 x31 x32 x33 x34 x35 x36 x37 x38 x39 x40 x41 x42 x43 x44 x45 x46 x47 x48 x49 x50 x51 x52 b6 A13 u13 d1 A14 u14 A15 u15 A16 u16 A17 u17 A18 u18 A19 u19 A20 u20 A21 u21 A22 u22 A23 u23 A24 u24 A25 u25 w19 hf s kk hc16 e15 hc17 e16 hc18 e17 hc19 e18 hc20 e19 hc21 e20 hc22 e21 hc23 e22 hc24 e23 hc25 e24 hc26 e25 hc27 e26 hc28 e27 rp10 e3 eg2
  refine hX10 _ _ _ ?_
  unfold g9_j4 at hf
  refine WPK.region ?_
  refine RW.seg hT 2 [] [] [.int .i64 (IntKind.i64.wrap (x16 + 1)), .int .i64 (IntKind.i64.wrap (x16 + 1))] [] (by kernel_rfl) (trivial) ?_
  refine RW.nil ?_
  subst hrec1
  replace s := s.pick [1, 2, 3] 4 rfl
  exact ⟨n8, Nat.le_refl _, fun X h => kc (by kernel_rfl) rfl (h I19 x21 (IntKind.i64.wrap (x16 + 1)) x49 x50 x51 x52 A24 u24 A25 u25 _ hf s kk hc27 e26 hc28 e27 rp10 e3 eg2)⟩
  refine WPK.block ?_
  refine WPK.seq ?_
  refine WPK.region ?_
  obtain ⟨x53, hx8, hf⟩ := bindS hf
  obtain ⟨h9, hx8⟩ := getS hx8
  obtain ⟨-, cs1, hr1, ha1⟩ := St.elem s (i := 2) rfl hn8 rp10 hx8
  replace ha1 := ha1 _ rfl
  obtain ⟨A26, u26, rfl, q2, q3, e28⟩ := hr1
  have hc29 := And.intro q2 q3
  refine RW.seg hT 5 [.slice A26 x53.length u26] [] [.int .i64 x16, .pointer (some ⟨b1, 0 + x16.toNat * 1, none⟩), .slice A26 x53.length u26, .int .i64 x16, .slice A26 x53.length u26] [.idx x16 ((if 2 < (([[], x4] : List (List Int)).length : Int) then 2 else (([[], x4] : List (List Int)).length : Int)).toNat), .cell ⟨b1, 0 + x16.toNat * 1, none⟩ (.slice A26 x53.length u26)] (by kernel_rfl) (⟨(by rw [hn8]; exact h9), ha1 0 _ rfl⟩) ?_
  refine RW.nil ?_
  refine WPK.seq ?_
  refine WPK.region ?_
  refine RW.seg hT 3 [] [] [.int .i64 64, .int .i64 x16, .slice A26 x53.length u26] [] (by kernel_rfl) (trivial) ?_
  obtain ⟨x54, hx9, hf⟩ := bindS hf
  refine RW.op (by kernel_rfl) (OK.call' en30 (by kernel_rfl) (c30 (F := (.blk b5 (.cells #[.int .u64 x17, .int .i64 x18, .slice A11 x19.length u11, .slice A12 x20.length u12] 28 (0, 0))) :: (.blk b4 (.cells #[.int .u64 0, .int .i64 0, .slice none 0 0, .slice none 0 0] 28 (0, 0))) :: (.sl (.slice (some ⟨b1, 0, none⟩) ((if 2 < (([[], x4] : List (List Int)).length : Int) then 2 else (([[], x4] : List (List Int)).length : Int)).toNat) 2) 24 1 ((if 2 < (([[], x4] : List (List Int)).length : Int) then 2 else (([[], x4] : List (List Int)).length : Int)).toNat) ([.slice none 0 0, .slice A6 x4.length u6].take ((if 2 < (([[], x4] : List (List Int)).length : Int) then 2 else (([[], x4] : List (List Int)).length : Int)).toNat * 1))) :: F) 64 x16 x53 A26 u26 hc29 e28 eg2 s hx9) ?_)
  intro X11 hX11
  refine fun _ _ hJ => hJ X11 ?_
  clear s
  intro I20 A27 n9 u27 cl8 A28 u28 w20 s k23 hn9 rp11 hc30 e29
  refine hX11 _ _ ?_
  replace e28 := e28.st k23
  replace e3 := e3.st k23
  replace e13 := e13.st k23
  replace e14 := e14.st k23
  replace rp10 := rp10.st k23
  replace eg2 := eg2.st k23
  replace kk := kk.trans k23
  rw [hn9] at s
  try rw [hn9]
  obtain ⟨I21, s', k24, hc31, e30⟩ := St.give s (i := 0) rfl rfl rp11
  replace s := s'; clear s'
  replace e28 := e28.st k24
  replace e29 := e29.st k24
  replace e3 := e3.st k24
  replace e13 := e13.st k24
  replace e14 := e14.st k24
  replace rp10 := rp10.st k24
  replace eg2 := eg2.st k24
  replace kk := kk.trans k24
  refine RW.seg hT 3 [] [] [.tuple #[.agg #[.int .u64 x54.1.Epoch, .int .i64 x54.1.Pages, .slice A27 x54.1.Maps.length u27, .slice A28 x54.1.User.length u28], .bool x54.2], .agg #[.int .u64 x54.1.Epoch, .int .i64 x54.1.Pages, .slice A27 x54.1.Maps.length u27, .slice A28 x54.1.User.length u28], .bool x54.2] [] (by kernel_rfl) (trivial) ?_
  refine RW.op (by kernel_rfl) (OK.new hT (f := fun b => .pointer (some ⟨b, 0, none⟩)) (cs := [.int .u64 0, .int .i64 0, .slice none 0 0, .slice none 0 0]) (e := 28) (c := .tt) s (by kernel_rfl) trivial ?_)
  clear s
  rintro w21 b7 s k25 -
  replace e28 := e28.st k25
  replace e30 := e30.st k25
  replace e29 := e29.st k25
  replace e3 := e3.st k25
  replace e13 := e13.st k25
  replace e14 := e14.st k25
  replace rp10 := rp10.st k25
  replace eg2 := eg2.st k25
  replace kk := kk.trans k25
  refine RW.op (by kernel_rfl) (OK.store hT (i := 0) (b := b7) (off := 0) (n := 4) (vs := [.int .u64 x54.1.Epoch, .int .i64 x54.1.Pages, .slice A27 x54.1.Maps.length u27, .slice A28 x54.1.User.length u28]) (cs := [.int .u64 0, .int .i64 0, .slice none 0 0, .slice none 0 0]) (e := 28) s (by kernel_rfl) rfl rfl (flat_ok rfl) (Nat.le_of_ble_eq_true rfl) ?_)
  clear s
  rintro w22 s k26 -
  replace e28 := e28.st k26
  replace e30 := e30.st k26
  replace e29 := e29.st k26
  replace e3 := e3.st k26
  replace e13 := e13.st k26
  replace e14 := e14.st k26
  replace rp10 := rp10.st k26
  replace eg2 := eg2.st k26
  replace kk := kk.trans k26
  refine RW.seg hT 1 [] [] [.bool x54.2] [] (by kernel_rfl) (trivial) ?_
  refine RW.nil ?_
  refine WPK.seq ?_
  refine WPK.seq ?_
  refine WPK.region ?_
  refine RW.seg hT 2 [] [(32, .bool (decide (¬ (x54.2 = true))))] [.bool x54.2, .bool (decide (¬ (x54.2 = true)))] [.veq (.bool (!x54.2)) (.bool (decide (¬ (x54.2 = true))))] (by kernel_rfl) (not_b) ?_
  by_cases h10 : ¬ (x54.2 = true)
  have hf := iteT h10 hf
  refine RW.seg hT 11 [] [(33, .bool true)] [.bool true, undef, undef, undef, undef, undef, undef, undef, undef, undef, .bool true] [.veq (.bool (decide (¬ (x54.2 = true)))) (.bool true)] (by kernel_rfl) (bo_t h10) ?_
  refine RW.nil ?_
  refine WPK.condT (by kernel_rfl) ?_
  refine WPK.exit (blockQ.same ?_)
  exact fun X h => kc (by kernel_rfl) rfl (h I21 x15 x53 x54.2 x53 x54.1.Epoch x54.1.Pages x54.1.Maps x54.1.User x54.2 x53 x54.1.Epoch x54.1.Pages x54.1.Maps x54.1.User x54.2 x54.1.Epoch x54.1.Pages x54.1.Maps x54.1.User x54.2 x54.2 (decide (¬ (x54.2 = true))) true true x54.1.Epoch x54.1.Pages x54.1.Maps x54.1.User x17 x18 x19 x20 b7 A26 u26 (.pointer (some ⟨b1, 0 + x16.toNat * 1, none⟩)) A26 u26 A27 u27 A28 u28 A26 u26 A27 u27 A28 u28 A27 u27 A28 u28 A27 u27 A28 u28 A11 u11 A12 u12 _ hf s kk hc29 e28 hc29 e28 hc31 e30 hc30 e29 hc29 e28 hc31 e30 hc30 e29 hc31 e30 hc30 e29 hc31 e30 hc30 e29 hc14 e13 hc15 e14 rp10 e3 eg2)
  have hf := iteF h10 hf
  refine RW.seg hT 3 [] [(33, .bool false)] [.bool false, .int .i64 x15, .bool (decide (x15 ≥ 0))] [.veq (.bool (decide (¬ (x54.2 = true)))) (.bool false)] (by kernel_rfl) (bo_f h10) ?_
  by_cases h11 : x15 ≥ 0
  have hf := iteT h11 hf
  refine RW.seg hT 8 [.int .u64 x54.1.Epoch, .int .u64 x17] [(36, .bool true)] [.bool true, .pointer (some ⟨b7, 0, none⟩), .int .u64 x54.1.Epoch, .pointer (some ⟨b5, 0, none⟩), .int .u64 x17, .bool (decide (x54.1.Epoch ≤ x17)), .bool (decide (x54.1.Epoch ≤ x17)), .bool (decide (x54.1.Epoch ≤ x17))] [.veq (.bool (decide (x15 ≥ 0))) (.bool true), .cell ⟨b7, 0, none⟩ (.int .u64 x54.1.Epoch), .cell ⟨b5, 0, none⟩ (.int .u64 x17)] (by kernel_rfl) (⟨bo_t h11, s.cell (i := 0) (off := 0) rfl rfl, s.cell (i := 1) (off := 0) rfl rfl⟩) ?_
  refine RW.nil ?_
  by_cases h12 : x54.1.Epoch ≤ x17
  have hf := iteT h12 hf
  refine WPK.condT (Eq.trans (b := .bool (decide (x54.1.Epoch ≤ x17))) (by kernel_rfl) (bo_t h12)) ?_
  refine WPK.exit (blockQ.same ?_)
  exact fun X h => kc (by kernel_rfl) rfl (h I21 x15 x53 x54.2 x53 x54.1.Epoch x54.1.Pages x54.1.Maps x54.1.User x54.2 x53 x54.1.Epoch x54.1.Pages x54.1.Maps x54.1.User x54.2 x54.1.Epoch x54.1.Pages x54.1.Maps x54.1.User x54.2 x54.2 (decide (¬ (x54.2 = true))) false (decide (x54.1.Epoch ≤ x17)) x54.1.Epoch x54.1.Pages x54.1.Maps x54.1.User x17 x18 x19 x20 b7 A26 u26 (.pointer (some ⟨b1, 0 + x16.toNat * 1, none⟩)) A26 u26 A27 u27 A28 u28 A26 u26 A27 u27 A28 u28 A27 u27 A28 u28 A27 u27 A28 u28 A11 u11 A12 u12 _ hf s kk hc29 e28 hc29 e28 hc31 e30 hc30 e29 hc29 e28 hc31 e30 hc30 e29 hc31 e30 hc30 e29 hc31 e30 hc30 e29 hc14 e13 hc15 e14 rp10 e3 eg2)
  have hf := iteF h12 hf
  refine WPK.condF (Eq.trans (b := .bool (decide (x54.1.Epoch ≤ x17))) (by kernel_rfl) (bo_f h12)) ?_
  refine WPK.skip ?_
  refine WPK.region ?_
  refine RW.seg hT 2 [.agg #[.int .u64 x54.1.Epoch, .int .i64 x54.1.Pages, .slice A27 x54.1.Maps.length u27, .slice A28 x54.1.User.length u28]] [] [.agg #[.int .u64 x54.1.Epoch, .int .i64 x54.1.Pages, .slice A27 x54.1.Maps.length u27, .slice A28 x54.1.User.length u28], .int .i64 x16] [.cells ⟨b7, 0, none⟩ [.int .u64 x54.1.Epoch, .int .i64 x54.1.Pages, .slice A27 x54.1.Maps.length u27, .slice A28 x54.1.User.length u28] 4] (by kernel_rfl) (s.cells (i := 0) rfl rfl rfl) ?_
  refine RW.op (by kernel_rfl) (OK.store hT (i := 1) (b := b5) (off := 0) (n := 4) (vs := [.int .u64 x54.1.Epoch, .int .i64 x54.1.Pages, .slice A27 x54.1.Maps.length u27, .slice A28 x54.1.User.length u28]) (cs := [.int .u64 x17, .int .i64 x18, .slice A11 x19.length u11, .slice A12 x20.length u12]) (e := 28) s (by kernel_rfl) rfl rfl (flat_ok rfl) (Nat.le_of_ble_eq_true rfl) ?_)
  clear s
  rintro w23 s k27 -
  replace e28 := e28.st k27
  replace e30 := e30.st k27
  replace e29 := e29.st k27
  replace e3 := e3.st k27
  replace e13 := e13.st k27
  replace e14 := e14.st k27
  replace rp10 := rp10.st k27
  replace eg2 := eg2.st k27
  replace kk := kk.trans k27
  refine RW.seg hT 1 [] [] [.int .i64 x16] [] (by kernel_rfl) (trivial) ?_
  refine RW.nil ?_
  exact fun X h => kc (by kernel_rfl) rfl (h I21 x16 x53 x54.2 x53 x54.1.Epoch x54.1.Pages x54.1.Maps x54.1.User x54.2 x53 x54.1.Epoch x54.1.Pages x54.1.Maps x54.1.User x54.2 x54.1.Epoch x54.1.Pages x54.1.Maps x54.1.User x54.2 x54.2 (decide (¬ (x54.2 = true))) false (decide (x54.1.Epoch ≤ x17)) x54.1.Epoch x54.1.Pages x54.1.Maps x54.1.User x54.1.Epoch x54.1.Pages x54.1.Maps x54.1.User b7 A26 u26 (.pointer (some ⟨b1, 0 + x16.toNat * 1, none⟩)) A26 u26 A27 u27 A28 u28 A26 u26 A27 u27 A28 u28 A27 u27 A28 u28 A27 u27 A28 u28 A27 u27 A28 u28 _ hf s kk hc29 e28 hc29 e28 hc31 e30 hc30 e29 hc29 e28 hc31 e30 hc30 e29 hc31 e30 hc30 e29 hc31 e30 hc30 e29 hc31 e30 hc30 e29 rp10 e3 eg2)
  have hf := iteF h11 hf
  refine RW.seg hT 8 [] [(36, .bool false)] [.bool false, undef, undef, undef, undef, undef, .bool false, .bool false] [.veq (.bool (decide (x15 ≥ 0))) (.bool false)] (by kernel_rfl) (bo_f h11) ?_
  refine RW.nil ?_
  refine WPK.condF (by kernel_rfl) ?_
  refine WPK.skip ?_
  refine WPK.region ?_
  refine RW.seg hT 2 [.agg #[.int .u64 x54.1.Epoch, .int .i64 x54.1.Pages, .slice A27 x54.1.Maps.length u27, .slice A28 x54.1.User.length u28]] [] [.agg #[.int .u64 x54.1.Epoch, .int .i64 x54.1.Pages, .slice A27 x54.1.Maps.length u27, .slice A28 x54.1.User.length u28], .int .i64 x16] [.cells ⟨b7, 0, none⟩ [.int .u64 x54.1.Epoch, .int .i64 x54.1.Pages, .slice A27 x54.1.Maps.length u27, .slice A28 x54.1.User.length u28] 4] (by kernel_rfl) (s.cells (i := 0) rfl rfl rfl) ?_
  refine RW.op (by kernel_rfl) (OK.store hT (i := 1) (b := b5) (off := 0) (n := 4) (vs := [.int .u64 x54.1.Epoch, .int .i64 x54.1.Pages, .slice A27 x54.1.Maps.length u27, .slice A28 x54.1.User.length u28]) (cs := [.int .u64 x17, .int .i64 x18, .slice A11 x19.length u11, .slice A12 x20.length u12]) (e := 28) s (by kernel_rfl) rfl rfl (flat_ok rfl) (Nat.le_of_ble_eq_true rfl) ?_)
  clear s
  rintro w24 s k28 -
  replace e28 := e28.st k28
  replace e30 := e30.st k28
  replace e29 := e29.st k28
  replace e3 := e3.st k28
  replace e13 := e13.st k28
  replace e14 := e14.st k28
  replace rp10 := rp10.st k28
  replace eg2 := eg2.st k28
  replace kk := kk.trans k28
  refine RW.seg hT 1 [] [] [.int .i64 x16] [] (by kernel_rfl) (trivial) ?_
  refine RW.nil ?_
  exact fun X h => kc (by kernel_rfl) rfl (h I21 x16 x53 x54.2 x53 x54.1.Epoch x54.1.Pages x54.1.Maps x54.1.User x54.2 x53 x54.1.Epoch x54.1.Pages x54.1.Maps x54.1.User x54.2 x54.1.Epoch x54.1.Pages x54.1.Maps x54.1.User x54.2 x54.2 (decide (¬ (x54.2 = true))) false false x54.1.Epoch x54.1.Pages x54.1.Maps x54.1.User x54.1.Epoch x54.1.Pages x54.1.Maps x54.1.User b7 A26 u26 (.pointer (some ⟨b1, 0 + x16.toNat * 1, none⟩)) A26 u26 A27 u27 A28 u28 A26 u26 A27 u27 A28 u28 A27 u27 A28 u28 A27 u27 A28 u28 A27 u27 A28 u28 _ hf s kk hc29 e28 hc29 e28 hc31 e30 hc30 e29 hc29 e28 hc31 e30 hc30 e29 hc31 e30 hc30 e29 hc31 e30 hc30 e29 hc31 e30 hc30 e29 rp10 e3 eg2)
  have hf := iteF h8 hf
  refine WPK.condF (Eq.trans (b := .bool (decide (x16 < ((List.take ((if 2 < (([[], x4] : List (List Int)).length : Int) then 2 else (([[], x4] : List (List Int)).length : Int)).toNat) ([[], x4] : List (List Int))).length : Int)))) (by kernel_rfl) (bo_f h8)) ?_
  refine WPK.exit (blockQ.same ?_)
  refine WPK.seq ?_
  refine WPK.seq ?_
  refine WPK.region ?_
  refine RW.seg hT 2 [] [] [.int .i64 x15, .bool (decide (x15 < 0))] [] (by kernel_rfl) (trivial) ?_
  refine RW.nil ?_
  by_cases h13 : x15 < 0
  have hf := iteT h13 hf
  refine WPK.condT (Eq.trans (b := .bool (decide (x15 < 0))) (by kernel_rfl) (bo_t h13)) ?_
  refine WPK.seq ?_
  refine WPK.region ?_
  refine RW.seg hT 1 [] [] [.agg #[.int .u64 0, .int .i64 0, .slice none 0 0, .slice none 0 0]] [] (by kernel_rfl) (trivial) ?_
  refine RW.op (by kernel_rfl) (OK.store hT (i := 1) (b := b4) (off := 0) (n := 4) (vs := [.int .u64 0, .int .i64 0, .slice none 0 0, .slice none 0 0]) (cs := [.int .u64 0, .int .i64 0, .slice none 0 0, .slice none 0 0]) (e := 28) s (by kernel_rfl) rfl rfl (flat_ok rfl) (Nat.le_of_ble_eq_true rfl) ?_)
  clear s
  rintro w25 s k29 -
  replace e3 := e3.st k29
  replace e13 := e13.st k29
  replace e14 := e14.st k29
  replace rp10 := rp10.st k29
  replace eg2 := eg2.st k29
  replace kk := kk.trans k29
  refine RW.seg hT 2 [] [] [.int .i64 0, .int .i64 60] [] (by kernel_rfl) (trivial) ?_
  refine RW.nil ?_
  refine WPK.ret (?_)
  refine Fin.of (rs := [.cell 4 28, .tmp 5, .tmp 6]) hT [.agg #[.int .u64 0, .int .i64 0, .slice none 0 0, .slice none 0 0]] (.tuple #[.agg #[.int .u64 0, .int .i64 0, .slice none 0 0, .slice none 0 0], .int .i64 0, .int .i64 60]) [.cells ⟨b4, 0, none⟩ [.int .u64 0, .int .i64 0, .slice none 0 0, .slice none 0 0] 4] rfl (by kernel_rfl) (s.cells (i := 1) rfl rfl rfl) ?_
  replace s := s.pick [] 3 rfl
  exact fun X h => vc rfl (h I18 0 0 [] [] 0 60 none 0 none 0 _ hf s kk e3 nil_hc Elems.nil nil_hc Elems.nil eg2)
  have hf := iteF h13 hf
  refine WPK.condF (Eq.trans (b := .bool (decide (x15 < 0))) (by kernel_rfl) (bo_f h13)) ?_
  refine WPK.skip ?_
  refine WPK.seq ?_
  refine WPK.region ?_
  refine RW.seg hT 2 [.agg #[.int .u64 x17, .int .i64 x18, .slice A11 x19.length u11, .slice A12 x20.length u12]] [] [.agg #[.int .u64 x17, .int .i64 x18, .slice A11 x19.length u11, .slice A12 x20.length u12], .int .i64 x15] [.cells ⟨b5, 0, none⟩ [.int .u64 x17, .int .i64 x18, .slice A11 x19.length u11, .slice A12 x20.length u12] 4] (by kernel_rfl) (s.cells (i := 0) rfl rfl rfl) ?_
  refine RW.op (by kernel_rfl) (OK.store hT (i := 1) (b := b4) (off := 0) (n := 4) (vs := [.int .u64 x17, .int .i64 x18, .slice A11 x19.length u11, .slice A12 x20.length u12]) (cs := [.int .u64 0, .int .i64 0, .slice none 0 0, .slice none 0 0]) (e := 28) s (by kernel_rfl) rfl rfl (flat_ok rfl) (Nat.le_of_ble_eq_true rfl) ?_)
  clear s
  rintro w26 s k30 -
  replace e13 := e13.st k30
  replace e14 := e14.st k30
  replace e3 := e3.st k30
  replace rp10 := rp10.st k30
  replace eg2 := eg2.st k30
  replace kk := kk.trans k30
  refine RW.seg hT 2 [] [] [.int .i64 x15, .int .i64 0] [] (by kernel_rfl) (trivial) ?_
  refine RW.nil ?_
  refine WPK.ret (?_)
  refine Fin.of (rs := [.cell 4 28, .tmp 5, .tmp 6]) hT [.agg #[.int .u64 x17, .int .i64 x18, .slice A11 x19.length u11, .slice A12 x20.length u12]] (.tuple #[.agg #[.int .u64 x17, .int .i64 x18, .slice A11 x19.length u11, .slice A12 x20.length u12], .int .i64 x15, .int .i64 0]) [.cells ⟨b4, 0, none⟩ [.int .u64 x17, .int .i64 x18, .slice A11 x19.length u11, .slice A12 x20.length u12] 4] rfl (by kernel_rfl) (s.cells (i := 1) rfl rfl rfl) ?_
  replace s := s.pick [] 3 rfl
  exact fun X h => vc rfl (h I18 x17 x18 x19 x20 x15 0 A11 u11 A12 u12 _ hf s kk e3 hc14 e13 hc15 e14 eg2)
theorem c16 {w1 w : World} {M I : Nat → Prop} {F : List It} (p0 : (List T_api_Head)) (A1 : Option Addr) (u1 : Nat) (hc1 : (p0.length ≤ u1 ∧ u1 ≤ 9223372036854775807)) (e1 : Elems rp_T_api_Head I w A1 p0) (s : St w1 M I (F) w) {r : Bool} (hf : g16 p0 = some r) :
    Ret Tryd.prog 16 [.slice A1 p0.length u1] w fun v wz => ∀ X : Value → World → Prop, (∀ (I' : Nat → Prop) (w' : World), St w1 M I' (F) w' → Kp I w I' w' → X (.bool r) w') → X v wz := by
  have kk : Kp I w I w := Kp.refl
  unfold g16 at hf
  refine Ret.of Tryd.func16 rfl ?_
  refine WPK.seq ?_
  refine WPK.region ?_
  refine RW.seg hT 1 [] [] [.bool false] [] (by kernel_rfl) (trivial) ?_
  refine RW.nil ?_
  refine WPK.seq ?_
  refine WPK.seq ?_
  refine WPK.region ?_
  refine RW.seg hT 3 [] [] [.slice A1 p0.length u1, .int .i64 (p0.length : Int), .int .i64 0] [] (by kernel_rfl) (trivial) ?_
  refine RW.nil ?_
  refine WPK.block ?_
  refine WPK.loop' (J := fun n1 D1 ds wz => ∀ X : Kont, (∀ (I1 : Nat → Prop) (x1 : Int) (w' : World), g16_l1 p0 n1 x1 = some r → St w1 M I1 (F) w' → Kp I w I1 w' → Elems rp_T_api_Head I1 w' A1 p0 → X [(D1.getD 0 undef), (D1.getD 1 undef), .bool false, (D1.getD 3 undef), (D1.getD 4 undef), .slice A1 p0.length u1, .int .i64 (p0.length : Int), .int .i64 x1, (D1.getD 8 undef), (D1.getD 9 undef), (D1.getD 10 undef), (D1.getD 11 undef), (D1.getD 12 undef), (D1.getD 13 undef), (D1.getD 14 undef), (D1.getD 15 undef), (D1.getD 16 undef), (D1.getD 17 undef), (D1.getD 18 undef), (D1.getD 19 undef), (D1.getD 20 undef), (D1.getD 21 undef)] [] w') → X D1 ds wz) FUEL (fun X h => kc (by kernel_rfl) rfl (h I 0 _ hf s kk e1)) (fun _ _ _ hJ => hJ (fun _ _ _ => False) (by intro I1 x1 w2 hf s kk e1; exact noneS hf)) ?_
  intro X1 hX1
  refine fun n1 D1 _ _ hJ => hJ (X1 n1) ?_
  clear s
  intro I1 x1 w2 hf s kk e1
  refine hX1 _ _ _ _ ?_
  replace hf : g16_l1B p0 (g16_l1 p0 n1) x1 = some r := hf
  generalize hrec1 : g16_l1 p0 n1 = rec1 at hf
  unfold g16_l1B at hf
  refine WPK.seq ?_
  refine WPK.region ?_
  refine RW.seg hT 1 [] [] [.bool (decide (x1 < (p0.length : Int)))] [] (by kernel_rfl) (trivial) ?_
  refine RW.nil ?_
  refine WPK.seq ?_
  by_cases h1 : x1 < (p0.length : Int)
  have hf := iteT h1 hf
  refine WPK.condT (Eq.trans (b := .bool (decide (x1 < (p0.length : Int)))) (by kernel_rfl) (bo_t h1)) ?_
  refine WPK.skip ?_
  refine WPK.seq ?_
  refine WPK.block ?_
  refine WPK.seq ?_
  refine WPK.region ?_
  obtain ⟨x2, hx1, hf⟩ := bindS hf
  obtain ⟨h2, hx1⟩ := getS hx1
  obtain ⟨b1, o1, rfl⟩ := Elems.opn e1 hx1
  obtain ⟨cs1, hr1, ha1⟩ := Elems.get e1 hx1
  obtain ⟨cs2, cs3, rfl, hr2, hr3⟩ := hr1
  obtain rfl : cs2 = [.int .u64 x2.Epoch] := hr2
  obtain ⟨cs4, cs5, rfl, hr4, hr5⟩ := hr3
  obtain rfl : cs4 = [.int .i64 x2.Pages] := hr4
  obtain ⟨cs6, cs7, rfl, hr6, hr7⟩ := hr5
  obtain ⟨A2, u2, rfl, q1, q2, e2⟩ := hr6
  have hc2 := And.intro q1 q2
  obtain ⟨A3, u3, rfl, q3, q4, e3⟩ := hr7
  have hc3 := And.intro q3 q4
  refine RW.seg hT 2 [.agg #[.int .u64 x2.Epoch, .int .i64 x2.Pages, .slice A2 x2.Maps.length u2, .slice A3 x2.User.length u3]] [] [.pointer (some ⟨b1, o1 + x1.toNat * 4, none⟩), .agg #[.int .u64 x2.Epoch, .int .i64 x2.Pages, .slice A2 x2.Maps.length u2, .slice A3 x2.User.length u3]] [.idx x1 p0.length, .cells ⟨b1, o1 + x1.toNat * 4, none⟩ [.int .u64 x2.Epoch, .int .i64 x2.Pages, .slice A2 x2.Maps.length u2, .slice A3 x2.User.length u3] 4] (by kernel_rfl) (⟨h2, at_cells ha1 (off := 0) rfl rfl⟩) ?_
  refine RW.op (by kernel_rfl) (OK.new hT (f := fun b => .pointer (some ⟨b, 0, none⟩)) (cs := [.int .u64 0, .int .i64 0, .slice none 0 0, .slice none 0 0]) (e := 28) (c := .tt) s (by kernel_rfl) trivial ?_)
  clear s
  rintro w3 b2 s k1 -
  replace e1 := e1.st k1
  replace e2 := e2.st k1
  replace e3 := e3.st k1
  replace kk := kk.trans k1
  refine RW.op (by kernel_rfl) (OK.store hT (i := 0) (b := b2) (off := 0) (n := 4) (vs := [.int .u64 x2.Epoch, .int .i64 x2.Pages, .slice A2 x2.Maps.length u2, .slice A3 x2.User.length u3]) (cs := [.int .u64 0, .int .i64 0, .slice none 0 0, .slice none 0 0]) (e := 28) s (by kernel_rfl) rfl rfl (flat_ok rfl) (Nat.le_of_ble_eq_true rfl) ?_)
  clear s
  rintro w4 s k2 -
  replace e1 := e1.st k2
  replace e2 := e2.st k2
  replace e3 := e3.st k2
  replace kk := kk.trans k2
  refine RW.nil ?_
  refine WPK.seq ?_
  refine WPK.region ?_
  refine RW.seg hT 4 [.slice A2 x2.Maps.length u2] [] [.pointer (some ⟨b2, 2, none⟩), .slice A2 x2.Maps.length u2, .int .i64 (x2.Maps.length : Int), .bool (decide ((x2.Maps.length : Int) > 100))] [.cell ⟨b2, 2, none⟩ (.slice A2 x2.Maps.length u2)] (by kernel_rfl) (s.cell (i := 0) (off := 2) rfl rfl) ?_
  by_cases h3 : (x2.Maps.length : Int) > 100
  have hf := iteT h3 hf
  refine RW.seg hT 6 [] [(15, .bool true)] [.bool true, undef, undef, undef, undef, .bool true] [.veq (.bool (decide ((x2.Maps.length : Int) > 100))) (.bool true)] (by kernel_rfl) (bo_t h3) ?_
  refine RW.nil ?_
  refine WPK.condT (by kernel_rfl) ?_
  refine WPK.seq ?_
  refine WPK.region ?_
  refine RW.seg hT 1 [] [] [.bool false] [] (by kernel_rfl) (trivial) ?_
  refine RW.nil ?_
  refine WPK.ret (blockQ.ret (blockQ.ret (?_)))
  obtain rfl := someS hf
  refine Fin.of (rs := [.tmp 2]) hT [] (.bool false) [] rfl (by kernel_rfl) (trivial) ?_
  replace s := s.pick [] 1 rfl
  exact fun X h => vc rfl (h I1 _ s kk)
  have hf := iteF h3 hf
  refine RW.seg hT 6 [.slice A3 x2.User.length u3] [(15, .bool false)] [.bool false, .pointer (some ⟨b2, 3, none⟩), .slice A3 x2.User.length u3, .int .i64 (x2.User.length : Int), .bool (decide ((x2.User.length : Int) > 3000)), .bool (decide ((x2.User.length : Int) > 3000))] [.veq (.bool (decide ((x2.Maps.length : Int) > 100))) (.bool false), .cell ⟨b2, 3, none⟩ (.slice A3 x2.User.length u3)] (by kernel_rfl) (⟨bo_f h3, s.cell (i := 0) (off := 3) rfl rfl⟩) ?_
  refine RW.nil ?_
  by_cases h4 : (x2.User.length : Int) > 3000
  have hf := iteT h4 hf
  refine WPK.condT (Eq.trans (b := .bool (decide ((x2.User.length : Int) > 3000))) (by kernel_rfl) (bo_t h4)) ?_
  refine WPK.seq ?_
  refine WPK.region ?_
  refine RW.seg hT 1 [] [] [.bool false] [] (by kernel_rfl) (trivial) ?_
  refine RW.nil ?_
  refine WPK.ret (blockQ.ret (blockQ.ret (?_)))
  obtain rfl := someS hf
  refine Fin.of (rs := [.tmp 2]) hT [] (.bool false) [] rfl (by kernel_rfl) (trivial) ?_
  replace s := s.pick [] 1 rfl
  exact fun X h => vc rfl (h I1 _ s kk)
  have hf := iteF h4 hf
  refine WPK.condF (Eq.trans (b := .bool (decide ((x2.User.length : Int) > 3000))) (by kernel_rfl) (bo_f h4)) ?_
  refine WPK.skip ?_
  refine WPK.region ?_
  refine RW.seg hT 2 [] [] [.int .i64 (IntKind.i64.wrap (x1 + 1)), .int .i64 (IntKind.i64.wrap (x1 + 1))] [] (by kernel_rfl) (trivial) ?_
  refine RW.nil ?_
  subst hrec1
  replace s := s.pick [] 1 rfl
  exact ⟨n1, Nat.le_refl _, fun X h => kc (by kernel_rfl) rfl (h I1 (IntKind.i64.wrap (x1 + 1)) _ hf s kk e1)⟩
  have hf := iteF h1 hf
  refine WPK.condF (Eq.trans (b := .bool (decide (x1 < (p0.length : Int)))) (by kernel_rfl) (bo_f h1)) ?_
  refine WPK.exit (blockQ.same ?_)
  refine WPK.seq ?_
  refine WPK.region ?_
  refine RW.seg hT 1 [] [] [.bool true] [] (by kernel_rfl) (trivial) ?_
  refine RW.nil ?_
  refine WPK.ret (?_)
  obtain rfl := someS hf
  refine Fin.of (rs := [.tmp 2]) hT [] (.bool true) [] rfl (by kernel_rfl) (trivial) ?_
  exact fun X h => vc rfl (h I1 _ s kk)
theorem c46 {w1 w : World} {M I : Nat → Prop} {F : List It} (p0 : (List Int)) (p1 : Int) (A1 : Option Addr) (u1 : Nat) (hc1 : (p0.length ≤ u1 ∧ u1 ≤ 9223372036854775807)) (e1 : Elems (Rp.int .u8) I w A1 p0) (s : St w1 M I (F) w) {r : (List Int)} (hf : g46 p0 p1 = some r) :
    Ret Tryd.prog 46 [.slice A1 p0.length u1, .int .u8 p1] w fun v wz => ∀ X : Value → World → Prop, (∀ (I' : Nat → Prop) (A2 : Option Addr) (u2 : Nat) (w' : World), St w1 M I' (F) w' → Kp I w I' w' → (r.length ≤ u2 ∧ u2 ≤ 9223372036854775807) → Elems (Rp.int .u8) I' w' A2 r → X (.slice A2 r.length u2) w') → X v wz := by
  have kk : Kp I w I w := Kp.refl
  unfold g46 at hf
  refine Ret.of Tryd.func46 rfl ?_
  refine WPK.seq ?_
  refine WPK.region ?_
  refine RW.seg hT 1 [] [] [.slice none 0 0] [] (by kernel_rfl) (trivial) ?_
  refine RW.nil ?_
  refine WPK.seq ?_
  refine WPK.block ?_
  refine WPK.loop' (J := fun n1 D1 ds wz => ∀ X : Kont, (∀ (x1 : (List Int)) (A3 : Option Addr) (u3 : Nat), g46_l1 p1 n1 x1 = some r → (x1.length ≤ u3 ∧ u3 ≤ 9223372036854775807) → Elems (Rp.int .u8) I w A3 x1 → X [.slice A3 x1.length u3, .int .u8 p1, (D1.getD 2 undef), (D1.getD 3 undef), .slice none 0 0, (D1.getD 5 undef), (D1.getD 6 undef), (D1.getD 7 undef), (D1.getD 8 undef), (D1.getD 9 undef), (D1.getD 10 undef), (D1.getD 11 undef), (D1.getD 12 undef), (D1.getD 13 undef), (D1.getD 14 undef), (D1.getD 15 undef), (D1.getD 16 undef), (D1.getD 17 undef), (D1.getD 18 undef), (D1.getD 19 undef), (D1.getD 20 undef), (D1.getD 21 undef), (D1.getD 22 undef), undef] [] w) → X D1 ds wz) FUEL (fun X h => kc (by kernel_rfl) rfl (h p0 A1 u1 hf hc1 e1)) (fun _ _ _ hJ => hJ (fun _ _ _ => False) (by intro x1 A3 u3 hf hc2 e2; exact noneS hf)) ?_
  intro X1 hX1
  refine fun n1 D1 _ _ hJ => hJ (X1 n1) ?_
  intro x1 A3 u3 hf hc2 e2
  refine hX1 _ _ _ _ ?_
  replace hf : g46_l1B p1 (g46_l1 p1 n1) x1 = some r := hf
  generalize hrec1 : g46_l1 p1 n1 = rec1 at hf
  unfold g46_l1B at hf
  refine WPK.seq ?_
  refine WPK.seq ?_
  refine WPK.region ?_
  refine RW.seg hT 3 [] [] [.slice A3 x1.length u3, .int .i64 (x1.length : Int), .bool (decide ((x1.length : Int) > 0))] [] (by kernel_rfl) (trivial) ?_
  by_cases h1 : (x1.length : Int) > 0
  have hf := iteT h1 hf
  obtain ⟨x2, hx1, hf⟩ := bindS hf
  obtain ⟨h2, hx1⟩ := getS hx1
  obtain ⟨b1, o1, rfl⟩ := Elems.opn e2 hx1
  obtain ⟨cs1, hr1, ha1⟩ := Elems.get e2 hx1
  obtain rfl : cs1 = [.int .u8 x2] := hr1
  refine RW.seg hT 10 [.int .u8 x2] [(8, .bool true), (16, .bool (decide (x2 = p1)))] [.bool true, .slice (some ⟨b1, o1, none⟩) x1.length u3, .slice (some ⟨b1, o1, none⟩) x1.length u3, .int .i64 (x1.length : Int), .int .i64 (IntKind.i64.wrap ((x1.length : Int) - 1)), .pointer (some ⟨b1, o1 + (IntKind.i64.wrap ((x1.length : Int) - 1)).toNat * 1, none⟩), .int .u8 x2, .int .u8 p1, .bool (decide (x2 = p1)), .bool (decide (x2 = p1))] [.veq (.bool (decide ((x1.length : Int) > 0))) (.bool true), .idx (IntKind.i64.wrap ((x1.length : Int) - 1)) x1.length, .cell ⟨b1, o1 + (IntKind.i64.wrap ((x1.length : Int) - 1)).toNat * 1, none⟩ (.int .u8 x2), .veq (.bool (x2 == p1)) (.bool (decide (x2 = p1)))] (by kernel_rfl) (⟨bo_t h1, h2, ha1 0 _ rfl, eq_v⟩) ?_
  refine RW.nil ?_
  by_cases h3 : x2 = p1
  have hf := iteT h3 hf
  refine WPK.condT (Eq.trans (b := .bool (decide (x2 = p1))) (by kernel_rfl) (bo_t h3)) ?_
  refine WPK.skip ?_
  refine WPK.block ?_
  refine WPK.region ?_
  obtain ⟨y1, hy1, hf⟩ := bindS hf
  obtain ⟨h4, hc3, e3, q1⟩ := slS0 hc2 e2 hy1
  refine RW.seg hT 6 [] [(22, .slice (some ⟨b1, o1, none⟩) y1.length u3)] [.slice (some ⟨b1, o1, none⟩) x1.length u3, .slice (some ⟨b1, o1, none⟩) x1.length u3, .int .i64 (x1.length : Int), .int .i64 (IntKind.i64.wrap ((x1.length : Int) - 1)), .slice (some ⟨b1, o1, none⟩) y1.length u3, .slice (some ⟨b1, o1, none⟩) y1.length u3] [.both (.cut 0 (IntKind.i64.wrap ((x1.length : Int) - 1)) u3 u3) (.veq (.slice (some ⟨b1, o1, none⟩) (IntKind.i64.wrap ((x1.length : Int) - 1)).toNat u3) (.slice (some ⟨b1, o1, none⟩) y1.length u3))] (by kernel_rfl) (⟨⟨by omega, by omega, by omega, by omega⟩, sl_eq rfl q1 rfl⟩) ?_
  refine RW.nil ?_
  subst hrec1
  exact ⟨n1, Nat.le_refl _, fun X h => kc (by kernel_rfl) rfl (h y1 (some ⟨b1, o1, none⟩) u3 hf hc3 e3)⟩
  have hf := iteF h3 hf
  refine WPK.condF (Eq.trans (b := .bool (decide (x2 = p1))) (by kernel_rfl) (bo_f h3)) ?_
  refine WPK.exit (blockQ.same ?_)
  refine WPK.seq ?_
  refine WPK.region ?_
  refine RW.seg hT 2 [] [] [.slice (some ⟨b1, o1, none⟩) x1.length u3, .slice (some ⟨b1, o1, none⟩) x1.length u3] [] (by kernel_rfl) (trivial) ?_
  refine RW.nil ?_
  refine WPK.ret (?_)
  obtain rfl := someS hf
  refine Fin.of (rs := [.tmp 4]) hT [] (.slice (some ⟨b1, o1, none⟩) x1.length u3) [] rfl (by kernel_rfl) (trivial) ?_
  exact fun X h => vc rfl (h I (some ⟨b1, o1, none⟩) u3 _ s kk hc2 e2)
  have hf := iteF h1 hf
  refine RW.seg hT 10 [] [(8, .bool false)] [.bool false, undef, undef, undef, undef, undef, undef, undef, undef, .bool false] [.veq (.bool (decide ((x1.length : Int) > 0))) (.bool false)] (by kernel_rfl) (bo_f h1) ?_
  refine RW.nil ?_
  refine WPK.condF (by kernel_rfl) ?_
  refine WPK.exit (blockQ.same ?_)
  refine WPK.seq ?_
  refine WPK.region ?_
  refine RW.seg hT 2 [] [] [.slice A3 x1.length u3, .slice A3 x1.length u3] [] (by kernel_rfl) (trivial) ?_
  refine RW.nil ?_
  refine WPK.ret (?_)
  obtain rfl := someS hf
  refine Fin.of (rs := [.tmp 4]) hT [] (.slice A3 x1.length u3) [] rfl (by kernel_rfl) (trivial) ?_
  exact fun X h => vc rfl (h I A3 u3 _ s kk hc2 e2)
theorem c45 {w1 w : World} {M I : Nat → Prop} {F : List It} (p0 : (List Int)) (p1 : Int) (A1 : Option Addr) (u1 : Nat) (hc1 : (p0.length ≤ u1 ∧ u1 ≤ 9223372036854775807)) (e1 : Elems (Rp.int .u8) I w A1 p0) (s : St w1 M I (F) w) {r : (List Int)} (hf : g45 p0 p1 = some r) :
    Ret Tryd.prog 45 [.slice A1 p0.length u1, .int .u8 p1] w fun v wz => ∀ X : Value → World → Prop, (∀ (I' : Nat → Prop) (A2 : Option Addr) (u2 : Nat) (w' : World), St w1 M I' (F) w' → Kp I w I' w' → (r.length ≤ u2 ∧ u2 ≤ 9223372036854775807) → Elems (Rp.int .u8) I' w' A2 r → X (.slice A2 r.length u2) w') → X v wz := by
  have kk : Kp I w I w := Kp.refl
  unfold g45 at hf
  refine Ret.of Tryd.func45 rfl ?_
  refine WPK.seq ?_
  refine WPK.region ?_
  refine RW.seg hT 1 [] [] [.slice none 0 0] [] (by kernel_rfl) (trivial) ?_
  refine RW.nil ?_
  refine WPK.seq ?_
  refine WPK.block ?_
  refine WPK.loop' (J := fun n1 D1 ds wz => ∀ X : Kont, (∀ (x1 : (List Int)) (A3 : Option Addr) (u3 : Nat), g45_l1 p1 n1 x1 = some r → (x1.length ≤ u3 ∧ u3 ≤ 9223372036854775807) → Elems (Rp.int .u8) I w A3 x1 → X [.slice A3 x1.length u3, .int .u8 p1, (D1.getD 2 undef), (D1.getD 3 undef), .slice none 0 0, (D1.getD 5 undef), (D1.getD 6 undef), (D1.getD 7 undef), (D1.getD 8 undef), (D1.getD 9 undef), (D1.getD 10 undef), (D1.getD 11 undef), (D1.getD 12 undef), (D1.getD 13 undef), (D1.getD 14 undef), (D1.getD 15 undef), (D1.getD 16 undef), undef, undef, undef, undef] [] w) → X D1 ds wz) FUEL (fun X h => kc (by kernel_rfl) rfl (h p0 A1 u1 hf hc1 e1)) (fun _ _ _ hJ => hJ (fun _ _ _ => False) (by intro x1 A3 u3 hf hc2 e2; exact noneS hf)) ?_
  intro X1 hX1
  refine fun n1 D1 _ _ hJ => hJ (X1 n1) ?_
  intro x1 A3 u3 hf hc2 e2
  refine hX1 _ _ _ _ ?_
  replace hf : g45_l1B p1 (g45_l1 p1 n1) x1 = some r := hf
  generalize hrec1 : g45_l1 p1 n1 = rec1 at hf
  unfold g45_l1B at hf
  refine WPK.seq ?_
  refine WPK.seq ?_
  refine WPK.region ?_
  refine RW.seg hT 3 [] [] [.slice A3 x1.length u3, .int .i64 (x1.length : Int), .bool (decide ((x1.length : Int) > 0))] [] (by kernel_rfl) (trivial) ?_
  by_cases h1 : (x1.length : Int) > 0
  have hf := iteT h1 hf
  obtain ⟨x2, hx1, hf⟩ := bindS hf
  obtain ⟨h2, hx1⟩ := getS hx1
  obtain ⟨b1, o1, rfl⟩ := Elems.opn e2 hx1
  obtain ⟨cs1, hr1, ha1⟩ := Elems.get e2 hx1
  obtain rfl : cs1 = [.int .u8 x2] := hr1
  refine RW.seg hT 7 [.int .u8 x2] [(8, .bool true), (13, .bool (decide (x2 = p1)))] [.bool true, .slice (some ⟨b1, o1, none⟩) x1.length u3, .pointer (some ⟨b1, o1 + (0 : Int).toNat * 1, none⟩), .int .u8 x2, .int .u8 p1, .bool (decide (x2 = p1)), .bool (decide (x2 = p1))] [.veq (.bool (decide ((x1.length : Int) > 0))) (.bool true), .idx 0 x1.length, .cell ⟨b1, o1 + (0 : Int).toNat * 1, none⟩ (.int .u8 x2), .veq (.bool (x2 == p1)) (.bool (decide (x2 = p1)))] (by kernel_rfl) (⟨bo_t h1, h2, ha1 0 _ rfl, eq_v⟩) ?_
  refine RW.nil ?_
  by_cases h3 : x2 = p1
  have hf := iteT h3 hf
  refine WPK.condT (Eq.trans (b := .bool (decide (x2 = p1))) (by kernel_rfl) (bo_t h3)) ?_
  refine WPK.skip ?_
  refine WPK.block ?_
  refine WPK.region ?_
  obtain ⟨y1, hy1, hf⟩ := bindS hf
  obtain ⟨A4, u4, h4, hc3, e3, q1, q2, q3⟩ := slS (size := 1) rfl hc2 e2 hy1
  refine RW.seg hT 3 [] [(16, .slice A4 y1.length u4)] [.slice (some ⟨b1, o1, none⟩) x1.length u3, .slice A4 y1.length u4, .slice A4 y1.length u4] [.both (.cut 1 (x1.length : Int) u3 u3) (.veq (.slice (cutA (some ⟨b1, o1, none⟩) (1 : Int).toNat u3 1) (x1.length - (1 : Int).toNat) (u3 - (1 : Int).toNat)) (.slice A4 y1.length u4))] (by kernel_rfl) (⟨⟨by omega, by omega, by omega, by omega⟩, sl_eq q1 q2 q3⟩) ?_
  refine RW.nil ?_
  subst hrec1
  exact ⟨n1, Nat.le_refl _, fun X h => kc (by kernel_rfl) rfl (h y1 A4 u4 hf hc3 e3)⟩
  have hf := iteF h3 hf
  refine WPK.condF (Eq.trans (b := .bool (decide (x2 = p1))) (by kernel_rfl) (bo_f h3)) ?_
  refine WPK.exit (blockQ.same ?_)
  refine WPK.seq ?_
  refine WPK.seq ?_
  refine WPK.region ?_
  refine RW.seg hT 3 [] [(19, .bool (decide ((x1.length : Int) = 0)))] [.slice (some ⟨b1, o1, none⟩) x1.length u3, .int .i64 (x1.length : Int), .bool (decide ((x1.length : Int) = 0))] [.veq (.bool ((x1.length : Int) == 0)) (.bool (decide ((x1.length : Int) = 0)))] (by kernel_rfl) (eq_v) ?_
  refine RW.nil ?_
  by_cases h5 : (x1.length : Int) = 0
  have hf := iteT h5 hf
  refine WPK.condT (Eq.trans (b := .bool (decide ((x1.length : Int) = 0))) (by kernel_rfl) (bo_t h5)) ?_
  refine WPK.seq ?_
  refine WPK.region ?_
  refine RW.seg hT 1 [] [] [.slice none 0 0] [] (by kernel_rfl) (trivial) ?_
  refine RW.nil ?_
  refine WPK.ret (?_)
  obtain rfl := someS hf
  refine Fin.of (rs := [.tmp 4]) hT [] (.slice none 0 0) [] rfl (by kernel_rfl) (trivial) ?_
  exact fun X h => vc rfl (h I none 0 _ s kk nil_hc Elems.nil)
  have hf := iteF h5 hf
  refine WPK.condF (Eq.trans (b := .bool (decide ((x1.length : Int) = 0))) (by kernel_rfl) (bo_f h5)) ?_
  refine WPK.skip ?_
  refine WPK.seq ?_
  refine WPK.region ?_
  refine RW.seg hT 2 [] [] [.slice (some ⟨b1, o1, none⟩) x1.length u3, .slice (some ⟨b1, o1, none⟩) x1.length u3] [] (by kernel_rfl) (trivial) ?_
  refine RW.nil ?_
  refine WPK.ret (?_)
  obtain rfl := someS hf
  refine Fin.of (rs := [.tmp 4]) hT [] (.slice (some ⟨b1, o1, none⟩) x1.length u3) [] rfl (by kernel_rfl) (trivial) ?_
  exact fun X h => vc rfl (h I (some ⟨b1, o1, none⟩) u3 _ s kk hc2 e2)
  have hf := iteF h1 hf
  refine RW.seg hT 7 [] [(8, .bool false)] [.bool false, undef, undef, undef, undef, undef, .bool false] [.veq (.bool (decide ((x1.length : Int) > 0))) (.bool false)] (by kernel_rfl) (bo_f h1) ?_
  refine RW.nil ?_
  refine WPK.condF (by kernel_rfl) ?_
  refine WPK.exit (blockQ.same ?_)
  refine WPK.seq ?_
  refine WPK.seq ?_
  refine WPK.region ?_
  refine RW.seg hT 3 [] [(19, .bool (decide ((x1.length : Int) = 0)))] [.slice A3 x1.length u3, .int .i64 (x1.length : Int), .bool (decide ((x1.length : Int) = 0))] [.veq (.bool ((x1.length : Int) == 0)) (.bool (decide ((x1.length : Int) = 0)))] (by kernel_rfl) (eq_v) ?_
  refine RW.nil ?_
  by_cases h6 : (x1.length : Int) = 0
  have hf := iteT h6 hf
  refine WPK.condT (Eq.trans (b := .bool (decide ((x1.length : Int) = 0))) (by kernel_rfl) (bo_t h6)) ?_
  refine WPK.seq ?_
  refine WPK.region ?_
  refine RW.seg hT 1 [] [] [.slice none 0 0] [] (by kernel_rfl) (trivial) ?_
  refine RW.nil ?_
  refine WPK.ret (?_)
  obtain rfl := someS hf
  refine Fin.of (rs := [.tmp 4]) hT [] (.slice none 0 0) [] rfl (by kernel_rfl) (trivial) ?_
  exact fun X h => vc rfl (h I none 0 _ s kk nil_hc Elems.nil)
  have hf := iteF h6 hf
  refine WPK.condF (Eq.trans (b := .bool (decide ((x1.length : Int) = 0))) (by kernel_rfl) (bo_f h6)) ?_
  refine WPK.skip ?_
  refine WPK.seq ?_
  refine WPK.region ?_
  refine RW.seg hT 2 [] [] [.slice A3 x1.length u3, .slice A3 x1.length u3] [] (by kernel_rfl) (trivial) ?_
  refine RW.nil ?_
  refine WPK.ret (?_)
  obtain rfl := someS hf
  refine Fin.of (rs := [.tmp 4]) hT [] (.slice A3 x1.length u3) [] rfl (by kernel_rfl) (trivial) ?_
  exact fun X h => vc rfl (h I A3 u3 _ s kk hc2 e2)
theorem c13 {w1 w : World} {M I : Nat → Prop} {F : List It} (p0 : (List Int)) (A1 : Option Addr) (u1 : Nat) (hc1 : (p0.length ≤ u1 ∧ u1 ≤ 9223372036854775807)) (e1 : Elems (Rp.int .u8) I w A1 p0) (s : St w1 M I (F) w) {r : (List Int)} (hf : g13 p0 = some r) :
    Ret Tryd.prog 13 [.slice A1 p0.length u1] w fun v wz => ∀ X : Value → World → Prop, (∀ (I' : Nat → Prop) (A2 : Option Addr) (n1 : Nat) (u2 : Nat) (cl1 : List Value) (w' : World), St w1 M I' ((.sl (.slice A2 n1 u2) 5 1 n1 cl1) :: F) w' → Kp I w I' w' → n1 = r.length → RepL (Rp.int .u8) I' w' cl1 r → X (.slice A2 n1 u2) w') → X v wz := by
  have kk : Kp I w I w := Kp.refl
  unfold g13 at hf
  refine Ret.of Tryd.func13 rfl ?_
  refine WPK.seq ?_
  refine WPK.region ?_
  refine RW.seg hT 1 [] [] [.slice none 0 0] [] (by kernel_rfl) (trivial) ?_
  refine RW.nil ?_
  refine WPK.seq ?_
  refine WPK.seq ?_
  refine WPK.region ?_
  refine RW.seg hT 1 [] [] [.slice A1 p0.length u1] [] (by kernel_rfl) (trivial) ?_
  rcases A1 with _ | a1
  have hx1 : p0 = [] := Elems.none_nil e1
  replace hf : (some ([] : List Int)) = some r := by simpa [hx1, appI, List.length_nil] using hf
  refine RW.seg hT 1 [] [] [.bool true] [] (by kernel_rfl) (trivial) ?_
  refine RW.nil ?_
  refine WPK.condT (by kernel_rfl) ?_
  refine WPK.seq ?_
  refine WPK.region ?_
  refine RW.seg hT 1 [] [] [.slice none 0 0] [] (by kernel_rfl) (trivial) ?_
  refine RW.nil ?_
  refine WPK.ret (?_)
  obtain rfl := someS hf
  refine Fin.of (rs := [.tmp 2]) hT [] (.slice none 0 0) [] rfl (by kernel_rfl) (trivial) ?_
  replace s := s.pushNil 5 1
  exact fun X h => vc rfl (h I none 0 0 [] _ s kk rfl (RepL.nil (r := (Rp.int .u8))))
  refine RW.seg hT 1 [] [] [.bool false] [] (by kernel_rfl) (trivial) ?_
  refine RW.nil ?_
  refine WPK.condF (by kernel_rfl) ?_
  refine WPK.skip ?_
  refine WPK.seq ?_
  refine WPK.region ?_
  refine RW.op (by kernel_rfl) (OK.new hT (f := fun b => .slice (some ⟨b, 0, none⟩) 0 0) (cs := []) (e := 5) (c := .tt) s (by kernel_rfl) trivial ?_)
  clear s
  rintro w2 b1 s k1 -
  replace e1 := e1.st k1
  replace kk := kk.trans k1
  have rp1 : RepL (Rp.int .u8) I w2 [] ([] : List Int) := RepL.nil
  replace s : St w1 M I ((.sl (.slice (some ⟨b1, 0, none⟩) 0 0) 5 1 0 []) :: F) w2 := s.blkSl (i := 0) (n := 0) (c := 0) (size := 1) rfl rfl (Nat.le_refl _) (by decide)
  refine RW.seg hT 1 [] [] [.slice (some a1) p0.length u1] [] (by kernel_rfl) (trivial) ?_
  obtain ⟨nw1, hs1, rq1⟩ := Elems.src e1
  obtain ⟨x1, hx2, hf⟩ := bindS hf
  refine RW.op (by kernel_rfl) (OK.app hT (r := (Rp.int .u8)) (i := 0) (t := 24) (e := 5) (size := 1) (bytes := 1) (c := 0) (n := 0) (m := p0.length) s (by kernel_rfl) rfl rfl rfl rfl rfl (by decide) rfl rfl rfl rfl rp1 hs1 rq1 flat_int rfl hx2 ?_)
  clear s
  rintro A3 u3 cl2 w3 s k2 rp2
  replace e1 := e1.st k2
  replace rp1 := rp1.st k2
  replace kk := kk.trans k2
  refine RW.seg hT 1 [] [] [.slice A3 x1.length u3] [] (by kernel_rfl) (trivial) ?_
  refine RW.nil ?_
  refine WPK.ret (?_)
  obtain rfl := someS hf
  refine Fin.of (rs := [.tmp 2]) hT [] (.slice A3 x1.length u3) [] rfl (by kernel_rfl) (trivial) ?_
  exact fun X h => vc rfl (h I A3 x1.length u3 cl2 _ s kk rfl rp2)
theorem c8 {w1 w : World} {M I : Nat → Prop} {F : List It} (p0 : T_api_Head) (p1 : T_api_Head) (p2 : Int) (A1 : Option Addr) (u1 : Nat) (A2 : Option Addr) (u2 : Nat) (A3 : Option Addr) (u3 : Nat) (A4 : Option Addr) (u4 : Nat) (hc1 : (p0.Maps.length ≤ u1 ∧ u1 ≤ 9223372036854775807)) (e1 : Elems (Rp.int .i64) I w A1 p0.Maps) (hc2 : (p0.User.length ≤ u2 ∧ u2 ≤ 9223372036854775807)) (e2 : Elems (Rp.int .u8) I w A2 p0.User) (hc3 : (p1.Maps.length ≤ u3 ∧ u3 ≤ 9223372036854775807)) (e3 : Elems (Rp.int .i64) I w A3 p1.Maps) (hc4 : (p1.User.length ≤ u4 ∧ u4 ≤ 9223372036854775807)) (e4 : Elems (Rp.int .u8) I w A4 p1.User) (eg2 : Elems (Rp.int .u32) I w (some ⟨2, 0, none⟩) TAB2) (s : St w1 M I (F) w) {r : Bool} (hf : g8 p0 p1 p2 = some r) :
    Ret Tryd.prog 8 [.agg #[.int .u64 p0.Epoch, .int .i64 p0.Pages, .slice A1 p0.Maps.length u1, .slice A2 p0.User.length u2], .agg #[.int .u64 p1.Epoch, .int .i64 p1.Pages, .slice A3 p1.Maps.length u3, .slice A4 p1.User.length u4], .int .u8 p2] w fun v wz => ∀ X : Value → World → Prop, (∀ (I' : Nat → Prop) (w' : World), St w1 M I' (F) w' → Kp I w I' w' → X (.bool r) w') → X v wz := by
  have kk : Kp I w I w := Kp.refl
  unfold g8 at hf
  refine Ret.of Tryd.func8 rfl ?_
  refine WPK.seq ?_
  refine WPK.region ?_
  refine RW.op (by kernel_rfl) (OK.new hT (f := fun b => .pointer (some ⟨b, 0, none⟩)) (cs := [.int .u64 p0.Epoch, .int .i64 p0.Pages, .slice A1 p0.Maps.length u1, .slice A2 p0.User.length u2]) (e := 28) (c := .tt) s (by kernel_rfl) trivial ?_)
  clear s
  rintro w2 b1 s k1 -
  replace e1 := e1.st k1
  replace e2 := e2.st k1
  replace e3 := e3.st k1
  replace e4 := e4.st k1
  replace eg2 := eg2.st k1
  replace kk := kk.trans k1
  refine RW.op (by kernel_rfl) (OK.new hT (f := fun b => .pointer (some ⟨b, 0, none⟩)) (cs := [.int .u64 p1.Epoch, .int .i64 p1.Pages, .slice A3 p1.Maps.length u3, .slice A4 p1.User.length u4]) (e := 28) (c := .tt) s (by kernel_rfl) trivial ?_)
  clear s
  rintro w3 b2 s k2 -
  replace e1 := e1.st k2
  replace e2 := e2.st k2
  replace e3 := e3.st k2
  replace e4 := e4.st k2
  replace eg2 := eg2.st k2
  replace kk := kk.trans k2
  refine RW.seg hT 1 [] [] [.bool false] [] (by kernel_rfl) (trivial) ?_
  refine RW.nil ?_
  refine WPK.seq ?_
  refine WPK.seq ?_
  refine WPK.cut' (Kn fun D1 ds wz => ∀ X : Kont, (∀ (I1 : Nat → Prop) (x1 : Bool) (w' : World), g8_j1 p0 p1 p2 x1 = some r → St w1 M I1 ((.blk b2 (.cells #[.int .u64 p1.Epoch, .int .i64 p1.Pages, .slice A3 p1.Maps.length u3, .slice A4 p1.User.length u4] 28 (0, 0))) :: (.blk b1 (.cells #[.int .u64 p0.Epoch, .int .i64 p0.Pages, .slice A1 p0.Maps.length u1, .slice A2 p0.User.length u2] 28 (0, 0))) :: F) w' → Kp I w I1 w' → Elems (Rp.int .i64) I1 w' A3 p1.Maps → Elems (Rp.int .u8) I1 w' A4 p1.User → Elems (Rp.int .i64) I1 w' A1 p0.Maps → Elems (Rp.int .u8) I1 w' A2 p0.User → Elems (Rp.int .u32) I1 w' (some ⟨2, 0, none⟩) TAB2 → X [(D1.getD 0 undef), (D1.getD 1 undef), .int .u8 p2, .pointer (some ⟨b1, 0, none⟩), .pointer (some ⟨b2, 0, none⟩), (D1.getD 5 undef), .bool false, undef, undef, undef, undef, undef, undef, (D1.getD 13 undef), (D1.getD 14 undef), (D1.getD 15 undef), (D1.getD 16 undef), (D1.getD 17 undef), (D1.getD 18 undef), (D1.getD 19 undef), (D1.getD 20 undef), .bool x1, undef, undef, undef, undef, undef, undef, undef, undef, undef, undef, undef, undef, undef, undef, undef, undef, undef, undef, undef, undef, undef, undef, undef, undef, undef, undef, undef, undef, undef, undef, undef, undef, undef, undef, undef, undef, undef, undef, undef, undef, undef, undef, undef, undef, undef, undef, undef, undef, undef, undef, undef, undef, undef, undef, (D1.getD 76 undef), undef, undef, undef, undef, undef, undef, undef, undef, undef, undef] [] w') → X D1 ds wz) ?_ ?_
  intro X1 hX1
  refine fun D1 _ _ hJ => hJ X1 ?_
  clear s
  intro I1 x1 w4 hf s kk e3 e4 e1 e2 eg2
  refine hX1 _ _ _ ?_
  unfold g8_j1 at hf
  by_cases h1 : x1 = true
  have hf := iteT h1 hf
  refine WPK.condT (Eq.trans (b := .bool x1) (by kernel_rfl) (b_t h1)) ?_
  refine WPK.seq ?_
  refine WPK.region ?_
  obtain ⟨x2, hx1, hf⟩ := bindS hf
  refine RW.op (by kernel_rfl) (OK.call' en9 (by kernel_rfl) (c9 (F := (.blk b2 (.cells #[.int .u64 p1.Epoch, .int .i64 p1.Pages, .slice A3 p1.Maps.length u3, .slice A4 p1.User.length u4] 28 (0, 0))) :: (.blk b1 (.cells #[.int .u64 p0.Epoch, .int .i64 p0.Pages, .slice A1 p0.Maps.length u1, .slice A2 p0.User.length u2] 28 (0, 0))) :: F) eg2 s hx1) ?_)
  intro X2 hX2
  refine fun _ _ hJ => hJ X2 ?_
  clear s
  intro I2 w5 s k3
  refine hX2 _ _ ?_
  replace e3 := e3.st k3
  replace e4 := e4.st k3
  replace e1 := e1.st k3
  replace e2 := e2.st k3
  replace eg2 := eg2.st k3
  replace kk := kk.trans k3
  refine RW.seg hT 1 [] [] [.bool x2] [] (by kernel_rfl) (trivial) ?_
  refine RW.nil ?_
  refine WPK.ret (?_)
  obtain rfl := someS hf
  refine Fin.of (rs := [.tmp 6]) hT [] (.bool x2) [] rfl (by kernel_rfl) (trivial) ?_
  replace s := s.pick [] 2 rfl
  exact fun X h => vc rfl (h I2 _ s kk)
  have hf := iteF h1 hf
  refine WPK.condF (Eq.trans (b := .bool x1) (by kernel_rfl) (b_f h1)) ?_
  refine WPK.skip ?_
  refine WPK.seq ?_
  refine WPK.region ?_
  refine RW.seg hT 1 [.agg #[.int .u64 p0.Epoch, .int .i64 p0.Pages, .slice A1 p0.Maps.length u1, .slice A2 p0.User.length u2]] [] [.agg #[.int .u64 p0.Epoch, .int .i64 p0.Pages, .slice A1 p0.Maps.length u1, .slice A2 p0.User.length u2]] [.cells ⟨b1, 0, none⟩ [.int .u64 p0.Epoch, .int .i64 p0.Pages, .slice A1 p0.Maps.length u1, .slice A2 p0.User.length u2] 4] (by kernel_rfl) (s.cells (i := 1) rfl rfl rfl) ?_
  obtain ⟨x3, hx2, hf⟩ := bindS hf
  refine RW.op (by kernel_rfl) (OK.call' en19 (by kernel_rfl) (c19 (F := (.blk b2 (.cells #[.int .u64 p1.Epoch, .int .i64 p1.Pages, .slice A3 p1.Maps.length u3, .slice A4 p1.User.length u4] 28 (0, 0))) :: (.blk b1 (.cells #[.int .u64 p0.Epoch, .int .i64 p0.Pages, .slice A1 p0.Maps.length u1, .slice A2 p0.User.length u2] 28 (0, 0))) :: F) p0 A1 u1 A2 u2 hc1 e1 hc2 e2 eg2 s hx2) ?_)
  intro X3 hX3
  refine fun _ _ hJ => hJ X3 ?_
  clear s
  intro I3 A5 n1 u5 cl1 w6 s k4 hn1 rp1
  refine hX3 _ _ ?_
  replace e1 := e1.st k4
  replace e2 := e2.st k4
  replace e3 := e3.st k4
  replace e4 := e4.st k4
  replace eg2 := eg2.st k4
  replace kk := kk.trans k4
  rw [hn1] at s
  try rw [hn1]
  obtain ⟨I4, s', k5, hc5, e5⟩ := St.give s (i := 0) rfl rfl rp1
  replace s := s'; clear s'
  replace e1 := e1.st k5
  replace e2 := e2.st k5
  replace e3 := e3.st k5
  replace e4 := e4.st k5
  replace eg2 := eg2.st k5
  replace kk := kk.trans k5
  refine RW.seg hT 5 [] [] [.tuple #[.slice A5 x3.1.length u5, .int .i64 x3.2], .slice A5 x3.1.length u5, .int .i64 x3.2, .slice A5 x3.1.length u5, .int .i64 x3.2] [] (by kernel_rfl) (trivial) ?_
  refine RW.nil ?_
  refine WPK.seq ?_
  refine WPK.region ?_
  refine RW.seg hT 1 [.agg #[.int .u64 p1.Epoch, .int .i64 p1.Pages, .slice A3 p1.Maps.length u3, .slice A4 p1.User.length u4]] [] [.agg #[.int .u64 p1.Epoch, .int .i64 p1.Pages, .slice A3 p1.Maps.length u3, .slice A4 p1.User.length u4]] [.cells ⟨b2, 0, none⟩ [.int .u64 p1.Epoch, .int .i64 p1.Pages, .slice A3 p1.Maps.length u3, .slice A4 p1.User.length u4] 4] (by kernel_rfl) (s.cells (i := 0) rfl rfl rfl) ?_
  obtain ⟨x4, hx3, hf⟩ := bindS hf
  refine RW.op (by kernel_rfl) (OK.call' en19 (by kernel_rfl) (c19 (F := (.blk b2 (.cells #[.int .u64 p1.Epoch, .int .i64 p1.Pages, .slice A3 p1.Maps.length u3, .slice A4 p1.User.length u4] 28 (0, 0))) :: (.blk b1 (.cells #[.int .u64 p0.Epoch, .int .i64 p0.Pages, .slice A1 p0.Maps.length u1, .slice A2 p0.User.length u2] 28 (0, 0))) :: F) p1 A3 u3 A4 u4 hc3 e3 hc4 e4 eg2 s hx3) ?_)
  intro X4 hX4
  refine fun _ _ hJ => hJ X4 ?_
  clear s
  intro I5 A6 n2 u6 cl2 w7 s k6 hn2 rp2
  refine hX4 _ _ ?_
  replace e5 := e5.st k6
  replace e1 := e1.st k6
  replace e2 := e2.st k6
  replace e3 := e3.st k6
  replace e4 := e4.st k6
  replace eg2 := eg2.st k6
  replace kk := kk.trans k6
  rw [hn2] at s
  try rw [hn2]
  obtain ⟨I6, s', k7, hc6, e6⟩ := St.give s (i := 0) rfl rfl rp2
  replace s := s'; clear s'
  replace e5 := e5.st k7
  replace e1 := e1.st k7
  replace e2 := e2.st k7
  replace e3 := e3.st k7
  replace e4 := e4.st k7
  replace eg2 := eg2.st k7
  replace kk := kk.trans k7
  refine RW.seg hT 5 [] [] [.tuple #[.slice A6 x4.1.length u6, .int .i64 x4.2], .slice A6 x4.1.length u6, .int .i64 x4.2, .slice A6 x4.1.length u6, .int .i64 x4.2] [] (by kernel_rfl) (trivial) ?_
  refine RW.nil ?_
  refine WPK.seq ?_
  refine WPK.seq ?_
  refine WPK.cut' (Kn fun D2 ds wz => ∀ X : Kont, (∀ (I7 : Nat → Prop) (x5 : Bool) (w' : World), g8_j2 p2 x3 x4 x5 = some r → St w1 M I7 (F) w' → Kp I w I7 w' → Elems (Rp.int .u8) I7 w' A5 x3.1 → Elems (Rp.int .u8) I7 w' A6 x4.1 → Elems (Rp.int .u32) I7 w' (some ⟨2, 0, none⟩) TAB2 → X [(D2.getD 0 undef), (D2.getD 1 undef), .int .u8 p2, (D2.getD 3 undef), (D2.getD 4 undef), (D2.getD 5 undef), .bool false, .slice A5 x3.1.length u5, (D2.getD 8 undef), .slice A6 x4.1.length u6, (D2.getD 10 undef), undef, undef, (D2.getD 13 undef), (D2.getD 14 undef), (D2.getD 15 undef), (D2.getD 16 undef), (D2.getD 17 undef), (D2.getD 18 undef), (D2.getD 19 undef), (D2.getD 20 undef), (D2.getD 21 undef), (D2.getD 22 undef), (D2.getD 23 undef), (D2.getD 24 undef), (D2.getD 25 undef), (D2.getD 26 undef), (D2.getD 27 undef), (D2.getD 28 undef), (D2.getD 29 undef), (D2.getD 30 undef), (D2.getD 31 undef), (D2.getD 32 undef), (D2.getD 33 undef), (D2.getD 34 undef), (D2.getD 35 undef), (D2.getD 36 undef), (D2.getD 37 undef), .bool x5, undef, undef, undef, undef, undef, undef, undef, undef, undef, undef, undef, undef, undef, undef, undef, undef, undef, undef, undef, undef, undef, undef, undef, undef, undef, undef, undef, undef, undef, undef, undef, undef, undef, undef, undef, undef, undef, (D2.getD 76 undef), undef, undef, undef, undef, undef, undef, undef, undef, undef, undef] [] w') → X D2 ds wz) ?_ ?_
  intro X5 hX5
  refine fun D2 _ _ hJ => hJ X5 ?_
  clear s
  intro I7 x5 w8 hf s kk e5 e6 eg2
  refine hX5 _ _ _ ?_
  unfold g8_j2 at hf
  by_cases h2 : x5 = true
  have hf := iteT h2 hf
  refine WPK.condT (Eq.trans (b := .bool x5) (by kernel_rfl) (b_t h2)) ?_
  refine WPK.seq ?_
  refine WPK.region ?_
  refine RW.seg hT 1 [] [] [.bool true] [] (by kernel_rfl) (trivial) ?_
  refine RW.nil ?_
  refine WPK.ret (?_)
  obtain rfl := someS hf
  refine Fin.of (rs := [.tmp 6]) hT [] (.bool true) [] rfl (by kernel_rfl) (trivial) ?_
  exact fun X h => vc rfl (h I7 _ s kk)
  have hf := iteF h2 hf
  refine WPK.condF (Eq.trans (b := .bool x5) (by kernel_rfl) (b_f h2)) ?_
  refine WPK.skip ?_
  refine WPK.seq ?_
  refine WPK.seq ?_
  refine WPK.cut' (Kn fun D3 ds wz => ∀ X : Kont, (∀ (I8 : Nat → Prop) (x6 : Bool) (w' : World), g8_j3 p2 x3 x4 x6 = some r → St w1 M I8 (F) w' → Kp I w I8 w' → Elems (Rp.int .u8) I8 w' A5 x3.1 → Elems (Rp.int .u8) I8 w' A6 x4.1 → Elems (Rp.int .u32) I8 w' (some ⟨2, 0, none⟩) TAB2 → X [(D3.getD 0 undef), (D3.getD 1 undef), .int .u8 p2, (D3.getD 3 undef), (D3.getD 4 undef), (D3.getD 5 undef), .bool false, .slice A5 x3.1.length u5, (D3.getD 8 undef), .slice A6 x4.1.length u6, (D3.getD 10 undef), undef, undef, (D3.getD 13 undef), (D3.getD 14 undef), (D3.getD 15 undef), (D3.getD 16 undef), (D3.getD 17 undef), (D3.getD 18 undef), (D3.getD 19 undef), (D3.getD 20 undef), (D3.getD 21 undef), (D3.getD 22 undef), (D3.getD 23 undef), (D3.getD 24 undef), (D3.getD 25 undef), (D3.getD 26 undef), (D3.getD 27 undef), (D3.getD 28 undef), (D3.getD 29 undef), (D3.getD 30 undef), (D3.getD 31 undef), (D3.getD 32 undef), (D3.getD 33 undef), (D3.getD 34 undef), (D3.getD 35 undef), (D3.getD 36 undef), (D3.getD 37 undef), (D3.getD 38 undef), (D3.getD 39 undef), (D3.getD 40 undef), (D3.getD 41 undef), (D3.getD 42 undef), (D3.getD 43 undef), (D3.getD 44 undef), (D3.getD 45 undef), (D3.getD 46 undef), (D3.getD 47 undef), (D3.getD 48 undef), (D3.getD 49 undef), (D3.getD 50 undef), (D3.getD 51 undef), (D3.getD 52 undef), .bool x6, undef, undef, undef, undef, undef, undef, undef, undef, undef, undef, undef, undef, undef, undef, undef, undef, undef, undef, undef, undef, undef, undef, (D3.getD 76 undef), undef, undef, undef, undef, undef, undef, undef, undef, undef, undef] [] w') → X D3 ds wz) ?_ ?_
  intro X6 hX6
  refine fun D3 _ _ hJ => hJ X6 ?_
  clear s
  intro I8 x6 w9 hf s kk e5 e6 eg2
  refine hX6 _ _ _ ?_
  unfold g8_j3 at hf
  by_cases h3 : x6 = true
  have hf := iteT h3 hf
  refine WPK.condT (Eq.trans (b := .bool x6) (by kernel_rfl) (b_t h3)) ?_
  refine WPK.seq ?_
  refine WPK.region ?_
  refine RW.seg hT 1 [] [] [.bool false] [] (by kernel_rfl) (trivial) ?_
  refine RW.nil ?_
  refine WPK.ret (?_)
  obtain rfl := someS hf
  refine Fin.of (rs := [.tmp 6]) hT [] (.bool false) [] rfl (by kernel_rfl) (trivial) ?_
  exact fun X h => vc rfl (h I8 _ s kk)
  have hf := iteF h3 hf
  refine WPK.condF (Eq.trans (b := .bool x6) (by kernel_rfl) (b_f h3)) ?_
  refine WPK.skip ?_
  refine WPK.seq ?_
  refine WPK.region ?_
  refine RW.seg hT 1 [] [] [.slice A5 x3.1.length u5] [] (by kernel_rfl) (trivial) ?_
  obtain ⟨x7, hx4, hf⟩ := bindS hf
  refine RW.op (by kernel_rfl) (OK.call' en13 (by kernel_rfl) (c13 (F := F) x3.1 A5 u5 hc5 e5 s hx4) ?_)
  intro X7 hX7
  refine fun _ _ hJ => hJ X7 ?_
  clear s
  intro I9 A7 n3 u7 cl3 w10 s k8 hn3 rp3
  refine hX7 _ _ ?_
  replace e5 := e5.st k8
  replace e6 := e6.st k8
  replace eg2 := eg2.st k8
  replace kk := kk.trans k8
  obtain ⟨h4, hf⟩ := iteS hf
  obtain ⟨b3, rfl⟩ := row_addr (s.at (i := 0) rfl) (by have hnn := hn3; omega)
  refine RW.seg hT 1 [] [] [.slice (some ⟨b3, 0, none⟩) n3 u7] [] (by kernel_rfl) (trivial) ?_
  refine RW.nil ?_
  refine WPK.seq ?_
  refine WPK.seq ?_
  refine WPK.region ?_
  refine RW.seg hT 1 [] [] [.int .i64 0] [] (by kernel_rfl) (trivial) ?_
  refine RW.nil ?_
  refine WPK.block ?_
  refine WPK.loop' (J := fun n4 D4 ds wz => ∀ X : Kont, (∀ (I10 : Nat → Prop) (x8 : Int) (x9 : (List Int)) (cl4 : List Value) (w' : World), g8_l4 p2 x3 x4 n4 x8 x9 = some r → St w1 M I10 ((.sl (.slice (some ⟨b3, 0, none⟩) n3 u7) 5 1 n3 cl4) :: F) w' → Kp I w I10 w' → Elems (Rp.int .u8) I10 w' A5 x3.1 → Elems (Rp.int .u8) I10 w' A6 x4.1 → n3 = x9.length → RepL (Rp.int .u8) I10 w' cl4 x9 → Elems (Rp.int .u32) I10 w' (some ⟨2, 0, none⟩) TAB2 → X [(D4.getD 0 undef), (D4.getD 1 undef), .int .u8 p2, (D4.getD 3 undef), (D4.getD 4 undef), (D4.getD 5 undef), .bool false, .slice A5 x3.1.length u5, (D4.getD 8 undef), .slice A6 x4.1.length u6, (D4.getD 10 undef), .slice (some ⟨b3, 0, none⟩) n3 u7, (D4.getD 12 undef), (D4.getD 13 undef), (D4.getD 14 undef), (D4.getD 15 undef), (D4.getD 16 undef), (D4.getD 17 undef), (D4.getD 18 undef), (D4.getD 19 undef), (D4.getD 20 undef), (D4.getD 21 undef), (D4.getD 22 undef), (D4.getD 23 undef), (D4.getD 24 undef), (D4.getD 25 undef), (D4.getD 26 undef), (D4.getD 27 undef), (D4.getD 28 undef), (D4.getD 29 undef), (D4.getD 30 undef), (D4.getD 31 undef), (D4.getD 32 undef), (D4.getD 33 undef), (D4.getD 34 undef), (D4.getD 35 undef), (D4.getD 36 undef), (D4.getD 37 undef), (D4.getD 38 undef), (D4.getD 39 undef), (D4.getD 40 undef), (D4.getD 41 undef), (D4.getD 42 undef), (D4.getD 43 undef), (D4.getD 44 undef), (D4.getD 45 undef), (D4.getD 46 undef), (D4.getD 47 undef), (D4.getD 48 undef), (D4.getD 49 undef), (D4.getD 50 undef), (D4.getD 51 undef), (D4.getD 52 undef), (D4.getD 53 undef), (D4.getD 54 undef), (D4.getD 55 undef), .int .i64 x8, (D4.getD 57 undef), (D4.getD 58 undef), (D4.getD 59 undef), (D4.getD 60 undef), (D4.getD 61 undef), (D4.getD 62 undef), (D4.getD 63 undef), (D4.getD 64 undef), (D4.getD 65 undef), (D4.getD 66 undef), (D4.getD 67 undef), (D4.getD 68 undef), (D4.getD 69 undef), (D4.getD 70 undef), (D4.getD 71 undef), (D4.getD 72 undef), (D4.getD 73 undef), (D4.getD 74 undef), (D4.getD 75 undef), (D4.getD 76 undef), (D4.getD 77 undef), undef, undef, undef, undef, undef, undef, undef, undef, undef] [] w') → X D4 ds wz) FUEL (fun X h => kc (by kernel_rfl) rfl (h I9 0 x7 cl3 _ hf s kk e5 e6 hn3 rp3 eg2)) (fun _ _ _ hJ => hJ (fun _ _ _ => False) (by intro I10 x8 x9 cl4 w11 hf s kk e5 e6 hn4 rp4 eg2; exact noneS hf)) ?_
  intro X8 hX8
  refine fun n4 D4 _ _ hJ => hJ (X8 n4) ?_
  clear s
  intro I10 x8 x9 cl4 w11 hf s kk e5 e6 hn4 rp4 eg2
  refine hX8 _ _ _ _ ?_
  replace hf : g8_l4B p2 x3 x4 (g8_l4 p2 x3 x4 n4) x8 x9 = some r := hf
  generalize hrec1 : g8_l4 p2 x3 x4 n4 = rec1 at hf
  unfold g8_l4B at hf
  refine WPK.seq ?_
  refine WPK.region ?_
  refine RW.seg hT 1 [] [] [.bool (decide (x8 < 4))] [] (by kernel_rfl) (trivial) ?_
  refine RW.nil ?_
  refine WPK.seq ?_
  by_cases h5 : x8 < 4
  have hf := iteT h5 hf
  refine WPK.condT (Eq.trans (b := .bool (decide (x8 < 4))) (by kernel_rfl) (bo_t h5)) ?_
  refine WPK.skip ?_
  refine WPK.seq ?_
  refine WPK.block ?_
  refine WPK.seq ?_
  refine WPK.region ?_
  refine RW.seg hT 2 [] [] [.int .i64 x8, .int .i64 x8] [] (by kernel_rfl) (trivial) ?_
  refine RW.nil ?_
  refine WPK.seq ?_
  refine WPK.region ?_
  obtain ⟨h6, hf⟩ := iteS hf
  refine RW.seg hT 6 [undef] [(64, .bool (decide ((andI .u8 (shrI .u8 p2 (IntKind.u64.wrap x8)) 1) = 1)))] [.int .u8 p2, .int .i64 x8, .int .u64 (IntKind.u64.wrap x8), .int .u8 (shrI .u8 p2 (IntKind.u64.wrap x8)), .int .u8 (andI .u8 (shrI .u8 p2 (IntKind.u64.wrap x8)) 1), .bool (decide ((andI .u8 (shrI .u8 p2 (IntKind.u64.wrap x8)) 1) = 1))] [.nn (IntKind.u64.wrap x8), .veq (.bool ((andI .u8 (shrI .u8 p2 (IntKind.u64.wrap x8)) 1) == 1)) (.bool (decide ((andI .u8 (shrI .u8 p2 (IntKind.u64.wrap x8)) 1) = 1)))] (by kernel_rfl) (⟨h6, eq_v⟩) ?_
  refine RW.nil ?_
  by_cases h7 : (andI .u8 (shrI .u8 p2 (IntKind.u64.wrap x8)) 1) = 1
  have hf := iteT h7 hf
  refine WPK.condT (Eq.trans (b := .bool (decide ((andI .u8 (shrI .u8 p2 (IntKind.u64.wrap x8)) 1) = 1))) (by kernel_rfl) (bo_t h7)) ?_
  have e5S1 := e5
  have e6S1 := e6
  have rp4S1 := rp4
  have eg2S36562 := eg2
  have kS1 : Kp I10 w11 I10 w11 := Kp.refl
  refine WPK.drawM (fun w' => ∃ I' : Nat → Prop, St w1 M I' ((.sl (.slice (some ⟨b3, 0, none⟩) n3 u7) 5 1 n3 cl4) :: F) w' ∧ Kp I10 w11 I' w') 11 [0, 0, 2, 0, 8, 24, 63, 0, 0, 256, 896, 2047] (by kernel_rfl) (by kernel_rfl) ?_
  intro ht1 w12 hd1
  have k9 := Kp.dr s hd1
  replace s := s.dr hd1
  replace e5 := e5.st k9
  replace e6 := e6.st k9
  replace rp4 := rp4.st k9
  replace eg2 := eg2.st k9
  replace kk := kk.trans k9
  replace kS1 := kS1.trans k9
  obtain ⟨h8, hf⟩ := iteS hf
  replace h8 : (0 : Int) ≤ IntKind.i64.wrap (x8 * 64) ∧ IntKind.i64.wrap (x8 * 64) ≤ IntKind.i64.wrap ((IntKind.i64.wrap (x8 + 1)) * 64) ∧ IntKind.i64.wrap ((IntKind.i64.wrap (x8 + 1)) * 64) ≤ ((n3 : Nat) : Int) - 0 := by have hnn := hn4; omega
  obtain ⟨o1, n5, u8, q1, q2, q3, q4, q5, pt1⟩ := partS (b := b3) (c := u7) (Pt.whole (size := 1) (row_hc (s.at (i := 0) rfl)).1) (Nat.le_refl _) h8
  rw [Int.zero_add, Int.zero_add] at pt1
  obtain ⟨y1, hy1, hf⟩ := bindS hf
  obtain ⟨A8, u9, h9, hc7, e7, q6, q7, q8⟩ := slS (size := 1) rfl hc6 e6 hy1
  refine RD.segM hT ht1 (by kernel_rfl) [0, 1, 2, 3, 4, 5, 6, 7, 8, 9, 10] [] [(71, .slice (some ⟨b3, o1, none⟩) n5 u8), (75, .slice A8 y1.length u9)] [.slice (some ⟨b3, 0, none⟩) n3 u7, .int .i64 x8, .int .i64 (IntKind.i64.wrap (x8 * 64)), .int .i64 x8, .int .i64 (IntKind.i64.wrap (x8 + 1)), .int .i64 (IntKind.i64.wrap ((IntKind.i64.wrap (x8 + 1)) * 64)), .slice (some ⟨b3, o1, none⟩) n5 u8, .slice A6 x4.1.length u6, .int .i64 x8, .int .i64 (IntKind.i64.wrap (x8 * 64)), .slice A8 y1.length u9] [.both (.cut (IntKind.i64.wrap (x8 * 64)) (IntKind.i64.wrap ((IntKind.i64.wrap (x8 + 1)) * 64)) u7 u7) (.veq (.slice (cutA (some ⟨b3, 0, none⟩) (IntKind.i64.wrap (x8 * 64)).toNat u7 1) ((IntKind.i64.wrap ((IntKind.i64.wrap (x8 + 1)) * 64)).toNat - (IntKind.i64.wrap (x8 * 64)).toNat) (u7 - (IntKind.i64.wrap (x8 * 64)).toNat)) (.slice (some ⟨b3, o1, none⟩) n5 u8)), .both (.cut (IntKind.i64.wrap (x8 * 64)) (x4.1.length : Int) u6 u6) (.veq (.slice (cutA A6 (IntKind.i64.wrap (x8 * 64)).toNat u6 1) (x4.1.length - (IntKind.i64.wrap (x8 * 64)).toNat) (u6 - (IntKind.i64.wrap (x8 * 64)).toNat)) (.slice A8 y1.length u9))] (by kernel_rfl) (by rintro w' ⟨I', s, k⟩; have e5 := e5S1.st k; have e6 := e6S1.st k; have rp4 := rp4S1.st k; have eg2 := eg2S36562.st k; exact ⟨⟨⟨(q5).1, by have := (q5).2.1; omega, by have := (q5).2.2; omega, by omega⟩, sl_eq q1 q2 q3⟩, ⟨⟨by omega, by omega, by omega, by omega⟩, sl_eq q6 q7 q8⟩⟩) ⟨_, s.pick [0] 1 rfl, kS1⟩ ?_
  obtain ⟨nw1, hs1, rq1⟩ := Elems.src e7
  obtain ⟨x10, hx5, hf⟩ := bindS hf
  replace hx5 := someS hx5
  refine RD.op (i := 11) rfl (by kernel_rfl) (by kernel_rfl) (OK.copy hT (r := (Rp.int .u8)) (xs := x9) (ys := y1) (i := 0) (c := u7) (e := 5) (size := 1) (t := 24) (t' := 24) (et := 5) (l := (IntKind.i64.wrap (x8 * 64))) (h := (IntKind.i64.wrap ((IntKind.i64.wrap (x8 + 1)) * 64))) s (by kernel_rfl) rfl rfl rfl rfl rfl flat_int rfl rfl hn4 rp4 pt1 rfl hs1 rq1 ?_)
  clear s
  rintro w13 cl5 s k10 rp5 hn5
  replace e5 := e5.st k10
  replace e6 := e6.st k10
  replace e7 := e7.st k10
  replace rp4 := rp4.st k10
  replace eg2 := eg2.st k10
  replace kk := kk.trans k10
  replace kS1 := kS1.trans k10
  rw [hx5] at rp5 hn5
  refine ⟨fun h => absurd h (by decide), RD.fold ?_⟩
  refine RD.done (by kernel_rfl) ?_
  refine WPK.region ?_
  refine RW.seg hT 2 [] [] [.int .i64 (IntKind.i64.wrap (x8 + 1)), .int .i64 (IntKind.i64.wrap (x8 + 1))] [] (by kernel_rfl) (trivial) ?_
  refine RW.nil ?_
  subst hrec1
  exact ⟨n4, Nat.le_refl _, fun X h => kc (by kernel_rfl) rfl (h I10 (IntKind.i64.wrap (x8 + 1)) x10 cl5 _ hf s kk e5 e6 hn5 rp5 eg2)⟩
  have hf := iteF h7 hf
  refine WPK.condF (Eq.trans (b := .bool (decide ((andI .u8 (shrI .u8 p2 (IntKind.u64.wrap x8)) 1) = 1))) (by kernel_rfl) (bo_f h7)) ?_
  refine WPK.skip ?_
  refine WPK.region ?_
  refine RW.seg hT 2 [] [] [.int .i64 (IntKind.i64.wrap (x8 + 1)), .int .i64 (IntKind.i64.wrap (x8 + 1))] [] (by kernel_rfl) (trivial) ?_
  refine RW.nil ?_
  subst hrec1
  exact ⟨n4, Nat.le_refl _, fun X h => kc (by kernel_rfl) rfl (h I10 (IntKind.i64.wrap (x8 + 1)) x9 cl4 _ hf s kk e5 e6 hn4 rp4 eg2)⟩
  have hf := iteF h5 hf
  refine WPK.condF (Eq.trans (b := .bool (decide (x8 < 4))) (by kernel_rfl) (bo_f h5)) ?_
  refine WPK.exit (blockQ.same ?_)
  refine WPK.seq ?_
  refine WPK.seq ?_
  refine WPK.region ?_
  refine RW.seg hT 3 [] [(80, .bool (decide ((andI .u8 p2 1) = 1)))] [.int .u8 p2, .int .u8 (andI .u8 p2 1), .bool (decide ((andI .u8 p2 1) = 1))] [.veq (.bool ((andI .u8 p2 1) == 1)) (.bool (decide ((andI .u8 p2 1) = 1)))] (by kernel_rfl) (eq_v) ?_
  refine RW.nil ?_
  by_cases h10 : (andI .u8 p2 1) = 1
  have hf := iteT h10 hf
  refine WPK.condT (Eq.trans (b := .bool (decide ((andI .u8 p2 1) = 1))) (by kernel_rfl) (bo_t h10)) ?_
  refine WPK.seq ?_
  refine WPK.region ?_
  refine RW.seg hT 2 [] [] [.slice (some ⟨b3, 0, none⟩) n3 u7, .slice A6 x4.1.length u6] [] (by kernel_rfl) (trivial) ?_
  have sa1 := s
  obtain ⟨hc8, e8⟩ := St.lend s (i := 0) rfl hn4 rp4
  have k11 := Kp.shut (I := I10) (w := w11) (p := .sl (.slice (some ⟨b3, 0, none⟩) n3 u7) 5 1 n3 cl4)
  replace s := s.shut 0 rfl
  obtain ⟨x11, hx6, hf⟩ := bindS hf
  have hc9 := c24 (F := F) x9 x4.1 (some ⟨b3, 0, none⟩) u7 A6 u6 hc8 e8 hc6 (e6.st k11) s hx6
  rw [← hn4] at hc9
  refine RW.op (by kernel_rfl) (OK.call' en24 (by kernel_rfl) (hc9) ?_)
  intro X9 hX9
  refine fun _ _ hJ => hJ X9 ?_
  clear s
  intro I11 w14 s k12
  refine hX9 _ _ ?_
  have s' := St.back sa1 (i := 0) rfl s k12
  replace k12 := Kp.back sa1 (i := 0) rfl k12
  replace s := s'; clear s'
  obtain ⟨I12, s, k12⟩ : ∃ I : Nat → Prop, St w1 M I ((.sl (.slice (some ⟨b3, 0, none⟩) n3 u7) 5 1 n3 cl4) :: F) w14 ∧ Kp _ _ I _ := ⟨_, s, k12⟩
  replace e5 := e5.st k12
  replace e6 := e6.st k12
  replace eg2 := eg2.st k12
  replace rp4 := rp4.st k12
  replace kk := kk.trans k12
  refine RW.seg hT 1 [] [] [.bool x11] [] (by kernel_rfl) (trivial) ?_
  refine RW.nil ?_
  refine WPK.ret (?_)
  obtain rfl := someS hf
  refine Fin.of (rs := [.tmp 6]) hT [] (.bool x11) [] rfl (by kernel_rfl) (trivial) ?_
  replace s := s.pick [] 1 rfl
  exact fun X h => vc rfl (h I12 _ s kk)
  have hf := iteF h10 hf
  refine WPK.condF (Eq.trans (b := .bool (decide ((andI .u8 p2 1) = 1))) (by kernel_rfl) (bo_f h10)) ?_
  refine WPK.skip ?_
  refine WPK.seq ?_
  refine WPK.region ?_
  refine RW.seg hT 2 [] [] [.slice (some ⟨b3, 0, none⟩) n3 u7, .slice A5 x3.1.length u5] [] (by kernel_rfl) (trivial) ?_
  have sa2 := s
  obtain ⟨hc10, e9⟩ := St.lend s (i := 0) rfl hn4 rp4
  have k13 := Kp.shut (I := I10) (w := w11) (p := .sl (.slice (some ⟨b3, 0, none⟩) n3 u7) 5 1 n3 cl4)
  replace s := s.shut 0 rfl
  obtain ⟨x12, hx7, hf⟩ := bindS hf
  have hc11 := c24 (F := F) x9 x3.1 (some ⟨b3, 0, none⟩) u7 A5 u5 hc10 e9 hc5 (e5.st k13) s hx7
  rw [← hn4] at hc11
  refine RW.op (by kernel_rfl) (OK.call' en24 (by kernel_rfl) (hc11) ?_)
  intro X10 hX10
  refine fun _ _ hJ => hJ X10 ?_
  clear s
  intro I13 w15 s k14
  refine hX10 _ _ ?_
  have s' := St.back sa2 (i := 0) rfl s k14
  replace k14 := Kp.back sa2 (i := 0) rfl k14
  replace s := s'; clear s'
  obtain ⟨I14, s, k14⟩ : ∃ I : Nat → Prop, St w1 M I ((.sl (.slice (some ⟨b3, 0, none⟩) n3 u7) 5 1 n3 cl4) :: F) w15 ∧ Kp _ _ I _ := ⟨_, s, k14⟩
  replace e5 := e5.st k14
  replace e6 := e6.st k14
  replace eg2 := eg2.st k14
  replace rp4 := rp4.st k14
  replace kk := kk.trans k14
  refine RW.seg hT 1 [] [] [.bool x12] [] (by kernel_rfl) (trivial) ?_
  refine RW.nil ?_
  refine WPK.ret (?_)
  obtain rfl := someS hf
  refine Fin.of (rs := [.tmp 6]) hT [] (.bool x12) [] rfl (by kernel_rfl) (trivial) ?_
  replace s := s.pick [] 1 rfl
  exact fun X h => vc rfl (h I14 _ s kk)
  refine WPK.region ?_
  refine RW.seg hT 3 [] [(41, .bool (decide ((x3.1.length : Int) ≠ 256)))] [.slice A5 x3.1.length u5, .int .i64 (x3.1.length : Int), .bool (decide ((x3.1.length : Int) ≠ 256))] [.veq (.bool ((x3.1.length : Int) != 256)) (.bool (decide ((x3.1.length : Int) ≠ 256)))] (by kernel_rfl) (ne_v) ?_
  by_cases h11 : (x3.1.length : Int) ≠ 256
  have hf := iteT h11 hf
  refine RW.seg hT 12 [] [(42, .bool true)] [.bool true, undef, undef, undef, .bool true, .bool true, undef, undef, undef, undef, undef, .bool true] [.veq (.bool (decide ((x3.1.length : Int) ≠ 256))) (.bool true)] (by kernel_rfl) (bo_t h11) ?_
  refine RW.nil ?_
  exact fun X h => kc (by kernel_rfl) rfl (h I7 true _ hf s kk e5 e6 eg2)
  have hf := iteF h11 hf
  refine RW.seg hT 5 [] [(42, .bool false), (45, .bool (decide ((x4.1.length : Int) ≠ 256)))] [.bool false, .slice A6 x4.1.length u6, .int .i64 (x4.1.length : Int), .bool (decide ((x4.1.length : Int) ≠ 256)), .bool (decide ((x4.1.length : Int) ≠ 256))] [.veq (.bool (decide ((x3.1.length : Int) ≠ 256))) (.bool false), .veq (.bool ((x4.1.length : Int) != 256)) (.bool (decide ((x4.1.length : Int) ≠ 256)))] (by kernel_rfl) (⟨bo_f h11, ne_v⟩) ?_
  by_cases h12 : (x4.1.length : Int) ≠ 256
  have hf := iteT h12 hf
  refine RW.seg hT 7 [] [(47, .bool true)] [.bool true, undef, undef, undef, undef, undef, .bool true] [.veq (.bool (decide ((x4.1.length : Int) ≠ 256))) (.bool true)] (by kernel_rfl) (bo_t h12) ?_
  refine RW.nil ?_
  exact fun X h => kc (by kernel_rfl) rfl (h I7 true _ hf s kk e5 e6 eg2)
  have hf := iteF h12 hf
  obtain ⟨y2, hy2, hf⟩ := bindS hf
  obtain ⟨A9, u10, h13, hc12, e10, q9, q10, q11⟩ := slS (size := 1) rfl hc5 e5 hy2
  refine RW.seg hT 3 [] [(47, .bool false), (49, .slice A9 y2.length u10)] [.bool false, .slice A5 x3.1.length u5, .slice A9 y2.length u10] [.veq (.bool (decide ((x4.1.length : Int) ≠ 256))) (.bool false), .both (.cut 64 (x3.1.length : Int) u5 u5) (.veq (.slice (cutA A5 (64 : Int).toNat u5 1) (x3.1.length - (64 : Int).toNat) (u5 - (64 : Int).toNat)) (.slice A9 y2.length u10))] (by kernel_rfl) (⟨bo_f h12, ⟨⟨by omega, by omega, by omega, by omega⟩, sl_eq q9 q10 q11⟩⟩) ?_
  refine RW.op (by kernel_rfl) (OK.inl (args := [.slice A9 y2.length u10, .string (⟨#[0]⟩ : ByteArray)]) en28 (by kernel_rfl) ?_)
  intro R1 hR1
  refine Ret.of Tryd.func28 rfl ?_
  refine WPK.seq ?_
  refine WPK.region ?_
  refine RW.seg hT 1 [] [] [.slice none 0 0] [] (by kernel_rfl) (trivial) ?_
  refine RW.nil ?_
  refine WPK.seq ?_
  refine WPK.seq ?_
  refine WPK.region ?_
  refine RW.seg hT 3 [] [(9, .bool (decide ((y2.length : Int) = 0)))] [.slice A9 y2.length u10, .int .i64 (y2.length : Int), .bool (decide ((y2.length : Int) = 0))] [.veq (.bool ((y2.length : Int) == 0)) (.bool (decide ((y2.length : Int) = 0)))] (by kernel_rfl) (eq_v) ?_
  refine RW.nil ?_
  by_cases h14 : (y2.length : Int) = 0
  have hf := iteT h14 hf
  refine WPK.condT (Eq.trans (b := .bool (decide ((y2.length : Int) = 0))) (by kernel_rfl) (bo_t h14)) ?_
  refine WPK.seq ?_
  refine WPK.region ?_
  refine RW.seg hT 1 [] [] [.slice none 0 0] [] (by kernel_rfl) (trivial) ?_
  refine RW.nil ?_
  refine WPK.ret (?_)
  refine Fin.of (rs := [.tmp 4]) hT [] (.slice none 0 0) [] rfl (by kernel_rfl) (trivial) ?_
  refine hR1 _ _ ?_
  refine RW.seg hT 3 [] [] [.int .i64 0, .bool false, .bool false] [] (by kernel_rfl) (trivial) ?_
  refine RW.nil ?_
  exact fun X h => kc (by kernel_rfl) rfl (h I7 false _ hf s kk e5 e6 eg2)
  have hf := iteF h14 hf
  refine WPK.condF (Eq.trans (b := .bool (decide ((y2.length : Int) = 0))) (by kernel_rfl) (bo_f h14)) ?_
  refine WPK.skip ?_
  refine WPK.seq ?_
  refine WPK.seq ?_
  refine WPK.region ?_
  refine RW.seg hT 2 [] [] [.string (⟨#[0]⟩ : ByteArray), .bool false] [] (by kernel_rfl) (trivial) ?_
  refine RW.nil ?_
  refine WPK.condF (by kernel_rfl) ?_
  refine WPK.skip ?_
  refine WPK.seq ?_
  refine WPK.seq ?_
  refine WPK.region ?_
  refine RW.seg hT 8 [] [] [.string (⟨#[0]⟩ : ByteArray), .int .i64 1, .bool true, .bool true, .string (⟨#[0]⟩ : ByteArray), .int .u8 0, .bool true, .bool true] [.idx 0 (⟨#[0]⟩ : ByteArray).size] (by kernel_rfl) (⟨by decide, by decide⟩) ?_
  refine RW.nil ?_
  refine WPK.condT (by kernel_rfl) ?_
  refine WPK.seq ?_
  have e10S2 := e10
  have e5S2 := e5
  have e6S2 := e6
  have eg2S36748 := eg2
  have kS2 : Kp I7 w8 I7 w8 := Kp.refl
  refine WPK.drawM (fun w' => ∃ I' : Nat → Prop, St w1 M I' (F) w' ∧ Kp I7 w8 I' w') 8 [0, 0, 2, 7, 0, 16, 63, 127] (by kernel_rfl) (by kernel_rfl) ?_
  intro ht2 w16 hd2
  have k15 := Kp.dr s hd2
  replace s := s.dr hd2
  replace e10 := e10.st k15
  replace e5 := e5.st k15
  replace e6 := e6.st k15
  replace eg2 := eg2.st k15
  replace kk := kk.trans k15
  replace kS2 := kS2.trans k15
  refine RD.segM hT ht2 (by kernel_rfl) [0, 1, 2, 4, 5] [] [] [.slice A9 y2.length u10, .string (⟨#[0]⟩ : ByteArray), .int .u8 0, .string (⟨#[0]⟩ : ByteArray), .int .u8 0] [.idx 0 (⟨#[0]⟩ : ByteArray).size, .idx 0 (⟨#[0]⟩ : ByteArray).size] (by kernel_rfl) (by rintro w' ⟨I', s, k⟩; have e10 := e10S2.st k; have e5 := e5S2.st k; have e6 := e6S2.st k; have eg2 := eg2S36748.st k; exact ⟨⟨by decide, by decide⟩, ⟨by decide, by decide⟩⟩) ⟨_, s.pick [] 0 rfl, kS2⟩ ?_
  obtain ⟨x13, hx8, hf⟩ := bindS hf
  refine RD.op (i := 3) rfl (by kernel_rfl) (by kernel_rfl) (OK.call' en46 (by kernel_rfl) (c46 (F := F) y2 0 A9 u10 hc12 e10 s hx8) ?_)
  intro X11 hX11
  refine fun _ _ hJ => hJ X11 ?_
  clear s
  intro I15 A10 u11 w17 s k16 hc13 e11
  refine hX11 _ _ ?_
  replace e10 := e10.st k16
  replace e5 := e5.st k16
  replace e6 := e6.st k16
  replace eg2 := eg2.st k16
  replace kk := kk.trans k16
  replace kS2 := kS2.trans k16
  refine ⟨fun _ => ⟨_, s.pick [] 0 rfl, kS2⟩, RD.fold ?_⟩
  obtain ⟨x14, hx9, hf⟩ := bindS hf
  refine RD.op (i := 6) rfl (by kernel_rfl) (by kernel_rfl) (OK.call' en45 (by kernel_rfl) (c45 (F := F) x13 0 A10 u11 hc13 e11 s hx9) ?_)
  intro X12 hX12
  refine fun _ _ hJ => hJ X12 ?_
  clear s
  intro I16 A11 u12 w18 s k17 hc14 e12
  refine hX12 _ _ ?_
  replace e10 := e10.st k17
  replace e11 := e11.st k17
  replace e5 := e5.st k17
  replace e6 := e6.st k17
  replace eg2 := eg2.st k17
  replace kk := kk.trans k17
  replace kS2 := kS2.trans k17
  refine ⟨fun _ => ⟨_, s.pick [] 0 rfl, kS2⟩, RD.fold ?_⟩
  refine RD.segM hT ht2 (by kernel_rfl) [7] [] [] [.slice A11 x14.length u12] [] (by kernel_rfl) (fun _ _ => trivial) ⟨_, s.pick [] 0 rfl, kS2⟩ ?_
  refine RD.done (by kernel_rfl) ?_
  refine WPK.ret (?_)
  refine Fin.of (rs := [.tmp 4]) hT [] (.slice A11 x14.length u12) [] rfl (by kernel_rfl) (trivial) ?_
  refine hR1 _ _ ?_
  refine RW.seg hT 3 [] [(52, .bool (decide ((x14.length : Int) ≠ 0)))] [.int .i64 (x14.length : Int), .bool (decide ((x14.length : Int) ≠ 0)), .bool (decide ((x14.length : Int) ≠ 0))] [.veq (.bool ((x14.length : Int) != 0)) (.bool (decide ((x14.length : Int) ≠ 0)))] (by kernel_rfl) (ne_v) ?_
  refine RW.nil ?_
  exact fun X h => kc (by kernel_rfl) rfl (h I16 (decide ((x14.length : Int) ≠ 0)) _ hf s kk e5 e6 eg2)
  refine WPK.region ?_
  refine RW.seg hT 2 [] [(34, .bool (decide (x3.2 ≠ 0)))] [.int .i64 x3.2, .bool (decide (x3.2 ≠ 0))] [.veq (.bool (x3.2 != 0)) (.bool (decide (x3.2 ≠ 0)))] (by kernel_rfl) (ne_v) ?_
  by_cases h15 : x3.2 ≠ 0
  have hf := iteT h15 hf
  refine RW.seg hT 4 [] [(35, .bool true)] [.bool true, undef, undef, .bool true] [.veq (.bool (decide (x3.2 ≠ 0))) (.bool true)] (by kernel_rfl) (bo_t h15) ?_
  refine RW.nil ?_
  replace s := s.pick [] 2 rfl
  exact fun X h => kc (by kernel_rfl) rfl (h I6 true _ hf s kk e5 e6 eg2)
  have hf := iteF h15 hf
  refine RW.seg hT 4 [] [(35, .bool false), (37, .bool (decide (x4.2 ≠ 0)))] [.bool false, .int .i64 x4.2, .bool (decide (x4.2 ≠ 0)), .bool (decide (x4.2 ≠ 0))] [.veq (.bool (decide (x3.2 ≠ 0))) (.bool false), .veq (.bool (x4.2 != 0)) (.bool (decide (x4.2 ≠ 0)))] (by kernel_rfl) (⟨bo_f h15, ne_v⟩) ?_
  refine RW.nil ?_
  replace s := s.pick [] 2 rfl
  exact fun X h => kc (by kernel_rfl) rfl (h I6 (decide (x4.2 ≠ 0)) _ hf s kk e5 e6 eg2)
  refine WPK.region ?_
  obtain ⟨x15, hx10, hf⟩ := bindS hf
  refine RW.op (by kernel_rfl) (OK.call' en9 (by kernel_rfl) (c9 (F := (.blk b2 (.cells #[.int .u64 p1.Epoch, .int .i64 p1.Pages, .slice A3 p1.Maps.length u3, .slice A4 p1.User.length u4] 28 (0, 0))) :: (.blk b1 (.cells #[.int .u64 p0.Epoch, .int .i64 p0.Pages, .slice A1 p0.Maps.length u1, .slice A2 p0.User.length u2] 28 (0, 0))) :: F) eg2 s hx10) ?_)
  intro X13 hX13
  refine fun _ _ hJ => hJ X13 ?_
  clear s
  intro I17 w19 s k18
  refine hX13 _ _ ?_
  replace e1 := e1.st k18
  replace e2 := e2.st k18
  replace e3 := e3.st k18
  replace e4 := e4.st k18
  replace eg2 := eg2.st k18
  replace kk := kk.trans k18
  refine RW.seg hT 1 [] [(14, .bool (decide (¬ (x15 = true))))] [.bool (decide (¬ (x15 = true)))] [.veq (.bool (!x15)) (.bool (decide (¬ (x15 = true))))] (by kernel_rfl) (not_b) ?_
  by_cases h16 : ¬ (x15 = true)
  have hf := iteT h16 hf
  refine RW.seg hT 7 [] [(15, .bool true)] [.bool true, undef, undef, undef, undef, undef, .bool true] [.veq (.bool (decide (¬ (x15 = true)))) (.bool true)] (by kernel_rfl) (bo_t h16) ?_
  refine RW.nil ?_
  exact fun X h => kc (by kernel_rfl) rfl (h I17 true _ hf s kk e3 e4 e1 e2 eg2)
  have hf := iteF h16 hf
  refine RW.seg hT 3 [.agg #[.int .u64 p0.Epoch, .int .i64 p0.Pages, .slice A1 p0.Maps.length u1, .slice A2 p0.User.length u2], .agg #[.int .u64 p1.Epoch, .int .i64 p1.Pages, .slice A3 p1.Maps.length u3, .slice A4 p1.User.length u4]] [(15, .bool false)] [.bool false, .agg #[.int .u64 p0.Epoch, .int .i64 p0.Pages, .slice A1 p0.Maps.length u1, .slice A2 p0.User.length u2], .agg #[.int .u64 p1.Epoch, .int .i64 p1.Pages, .slice A3 p1.Maps.length u3, .slice A4 p1.User.length u4]] [.veq (.bool (decide (¬ (x15 = true)))) (.bool false), .cells ⟨b1, 0, none⟩ [.int .u64 p0.Epoch, .int .i64 p0.Pages, .slice A1 p0.Maps.length u1, .slice A2 p0.User.length u2] 4, .cells ⟨b2, 0, none⟩ [.int .u64 p1.Epoch, .int .i64 p1.Pages, .slice A3 p1.Maps.length u3, .slice A4 p1.User.length u4] 4] (by kernel_rfl) (⟨bo_f h16, s.cells (i := 1) rfl rfl rfl, s.cells (i := 0) rfl rfl rfl⟩) ?_
  refine RW.op (by kernel_rfl) (OK.new hT (f := fun b => .slice (some ⟨b, 0, none⟩) 2 2) (cs := [.int .u64 p0.Epoch, .int .i64 p0.Pages, .slice A1 p0.Maps.length u1, .slice A2 p0.User.length u2, .int .u64 p1.Epoch, .int .i64 p1.Pages, .slice A3 p1.Maps.length u3, .slice A4 p1.User.length u4]) (e := 28) (c := .tt) s (by kernel_rfl) trivial ?_)
  clear s
  rintro w20 b4 s k19 -
  replace e1 := e1.st k19
  replace e2 := e2.st k19
  replace e3 := e3.st k19
  replace e4 := e4.st k19
  replace eg2 := eg2.st k19
  replace kk := kk.trans k19
  have rp6 : RepL rp_T_api_Head I17 w20 [.int .u64 p0.Epoch, .int .i64 p0.Pages, .slice A1 p0.Maps.length u1, .slice A2 p0.User.length u2, .int .u64 p1.Epoch, .int .i64 p1.Pages, .slice A3 p1.Maps.length u3, .slice A4 p1.User.length u4] ([p0, p1] : List T_api_Head) := RepL.cons (c := [.int .u64 p0.Epoch, .int .i64 p0.Pages, .slice A1 p0.Maps.length u1, .slice A2 p0.User.length u2]) (d := [.int .u64 p1.Epoch, .int .i64 p1.Pages, .slice A3 p1.Maps.length u3, .slice A4 p1.User.length u4]) (⟨[.int .u64 p0.Epoch], [.int .i64 p0.Pages, .slice A1 p0.Maps.length u1, .slice A2 p0.User.length u2], rfl, rfl, ⟨[.int .i64 p0.Pages], [.slice A1 p0.Maps.length u1, .slice A2 p0.User.length u2], rfl, rfl, ⟨[.slice A1 p0.Maps.length u1], [.slice A2 p0.User.length u2], rfl, ⟨_, _, rfl, hc1.1, hc1.2, e1⟩, ⟨_, _, rfl, hc2.1, hc2.2, e2⟩⟩⟩⟩) (RepL.cons (c := [.int .u64 p1.Epoch, .int .i64 p1.Pages, .slice A3 p1.Maps.length u3, .slice A4 p1.User.length u4]) (d := []) (⟨[.int .u64 p1.Epoch], [.int .i64 p1.Pages, .slice A3 p1.Maps.length u3, .slice A4 p1.User.length u4], rfl, rfl, ⟨[.int .i64 p1.Pages], [.slice A3 p1.Maps.length u3, .slice A4 p1.User.length u4], rfl, rfl, ⟨[.slice A3 p1.Maps.length u3], [.slice A4 p1.User.length u4], rfl, ⟨_, _, rfl, hc3.1, hc3.2, e3⟩, ⟨_, _, rfl, hc4.1, hc4.2, e4⟩⟩⟩⟩) (RepL.nil))
  replace s : St w1 M I17 ((.sl (.slice (some ⟨b4, 0, none⟩) 2 2) 28 4 2 [.int .u64 p0.Epoch, .int .i64 p0.Pages, .slice A1 p0.Maps.length u1, .slice A2 p0.User.length u2, .int .u64 p1.Epoch, .int .i64 p1.Pages, .slice A3 p1.Maps.length u3, .slice A4 p1.User.length u4]) :: (.blk b2 (.cells #[.int .u64 p1.Epoch, .int .i64 p1.Pages, .slice A3 p1.Maps.length u3, .slice A4 p1.User.length u4] 28 (0, 0))) :: (.blk b1 (.cells #[.int .u64 p0.Epoch, .int .i64 p0.Pages, .slice A1 p0.Maps.length u1, .slice A2 p0.User.length u2] 28 (0, 0))) :: F) w20 := s.blkSl (i := 0) (n := 2) (c := 2) (size := 4) rfl rfl (Nat.le_refl _) (by decide)
  have sa3 := s
  obtain ⟨hc15, e13⟩ := St.lend s (i := 0) rfl rfl rp6
  have k20 := Kp.shut (I := I17) (w := w20) (p := .sl (.slice (some ⟨b4, 0, none⟩) 2 2) 28 4 2 [.int .u64 p0.Epoch, .int .i64 p0.Pages, .slice A1 p0.Maps.length u1, .slice A2 p0.User.length u2, .int .u64 p1.Epoch, .int .i64 p1.Pages, .slice A3 p1.Maps.length u3, .slice A4 p1.User.length u4])
  replace s := s.shut 0 rfl
  obtain ⟨x16, hx11, hf⟩ := bindS hf
  refine RW.op (by kernel_rfl) (OK.call' en16 (by kernel_rfl) (c16 (F := (.blk b2 (.cells #[.int .u64 p1.Epoch, .int .i64 p1.Pages, .slice A3 p1.Maps.length u3, .slice A4 p1.User.length u4] 28 (0, 0))) :: (.blk b1 (.cells #[.int .u64 p0.Epoch, .int .i64 p0.Pages, .slice A1 p0.Maps.length u1, .slice A2 p0.User.length u2] 28 (0, 0))) :: F) ([p0, p1] : List T_api_Head) (some ⟨b4, 0, none⟩) 2 hc15 e13 s hx11) ?_)
  intro X14 hX14
  refine fun _ _ hJ => hJ X14 ?_
  clear s
  intro I18 w21 s k21
  refine hX14 _ _ ?_
  have s' := St.back sa3 (i := 0) rfl s k21
  replace k21 := Kp.back sa3 (i := 0) rfl k21
  replace s := s'; clear s'
  obtain ⟨I19, s, k21⟩ : ∃ I : Nat → Prop, St w1 M I ((.sl (.slice (some ⟨b4, 0, none⟩) 2 2) 28 4 2 [.int .u64 p0.Epoch, .int .i64 p0.Pages, .slice A1 p0.Maps.length u1, .slice A2 p0.User.length u2, .int .u64 p1.Epoch, .int .i64 p1.Pages, .slice A3 p1.Maps.length u3, .slice A4 p1.User.length u4]) :: (.blk b2 (.cells #[.int .u64 p1.Epoch, .int .i64 p1.Pages, .slice A3 p1.Maps.length u3, .slice A4 p1.User.length u4] 28 (0, 0))) :: (.blk b1 (.cells #[.int .u64 p0.Epoch, .int .i64 p0.Pages, .slice A1 p0.Maps.length u1, .slice A2 p0.User.length u2] 28 (0, 0))) :: F) w21 ∧ Kp _ _ I _ := ⟨_, s, k21⟩
  replace e1 := e1.st k21
  replace e2 := e2.st k21
  replace e3 := e3.st k21
  replace e4 := e4.st k21
  replace eg2 := eg2.st k21
  replace rp6 := rp6.st k21
  replace kk := kk.trans k21
  refine RW.seg hT 2 [] [(20, .bool (decide (¬ (x16 = true))))] [.bool (decide (¬ (x16 = true))), .bool (decide (¬ (x16 = true)))] [.veq (.bool (!x16)) (.bool (decide (¬ (x16 = true))))] (by kernel_rfl) (not_b) ?_
  refine RW.nil ?_
  replace s := s.pick [1, 2] 3 rfl
  exact fun X h => kc (by kernel_rfl) rfl (h I19 (decide (¬ (x16 = true))) _ hf s kk e3 e4 e1 e2 eg2)
end Go.Proofs.YtclnddebhjjpfaaDoor
