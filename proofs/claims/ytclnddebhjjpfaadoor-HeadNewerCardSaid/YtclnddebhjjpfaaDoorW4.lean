/- PRINTED BY sy.py: each call computes what the plain function of its number tells. -/
import Derived.Test.YtclnddebhjjpfaaDoorW3
namespace Go.Proofs.YtclnddebhjjpfaaDoor
open Go Go.SX Go.RowKit
set_option maxRecDepth 100000
set_option linter.unusedVariables false
attribute [local irreducible] WPK RW RD Ret SX.Fin SX.Any opK RoundBeg RoundEnd RangeEnd Rounds
theorem c9 {w1 w : World} {M I : Nat → Prop} {F : List It}  (eg2 : Elems (Rp.int .u32) I w (some ⟨2, 0, none⟩) TAB2) (s : St w1 M I (F) w) {r : Bool} (hf : g9 = some r) :
    Ret Tryd.prog 9 [] w fun v wz => ∀ X : Value → World → Prop, (∀ (I' : Nat → Prop) (w' : World), St w1 M I' (F) w' → Kp I w I' w' → X (.bool r) w') → X v wz := by
  have kk : Kp I w I w := Kp.refl
  unfold g9 at hf
  refine Ret.of Tryd.func9 rfl ?_
  refine WPK.seq ?_
  refine WPK.region ?_
  refine RW.seg hT 1 [] [] [.bool false] [] (by kernel_rfl) (trivial) ?_
  refine RW.nil ?_
  refine WPK.seq ?_
  refine WPK.region ?_
  obtain ⟨x1, hx1, hf⟩ := bindS hf
  refine RW.op (by kernel_rfl) (OK.call' en29 (by kernel_rfl) (c29 (F := F) s hx1) ?_)
  intro X1 hX1
  refine fun _ _ hJ => hJ X1 ?_
  clear s
  intro I1 A1 n1 u1 cl1 A2 n2 u2 cl2 w2 s k1 hn1 rp1 hn2 rp2
  refine hX1 _ _ ?_
  replace eg2 := eg2.st k1
  replace kk := kk.trans k1
  rw [hn1] at s
  try rw [hn1]
  obtain ⟨I2, s', k2, hc1, e1⟩ := St.give s (i := 0) rfl rfl rp1
  replace s := s'; clear s'
  replace rp2 := rp2.st k2
  replace eg2 := eg2.st k2
  replace kk := kk.trans k2
  rw [hn2] at s
  try rw [hn2]
  obtain ⟨I3, s', k3, hc2, e2⟩ := St.give s (i := 0) rfl rfl rp2
  replace s := s'; clear s'
  replace e1 := e1.st k3
  replace eg2 := eg2.st k3
  replace kk := kk.trans k3
  obtain ⟨x2, hx2, hf⟩ := bindS hf
  refine RW.op (by kernel_rfl) (OK.call' en17 (by kernel_rfl) (c17 (F := F) x1 A1 u1 A2 u2 hc1 e1 hc2 e2 s hx2) ?_)
  intro X2 hX2
  refine fun _ _ hJ => hJ X2 ?_
  clear s
  intro I4 A3 n3 u3 cl3 w3 s k4 hn3 rp3
  refine hX2 _ _ ?_
  replace e1 := e1.st k4
  replace e2 := e2.st k4
  replace eg2 := eg2.st k4
  replace kk := kk.trans k4
  rw [hn3] at s
  try rw [hn3]
  obtain ⟨I5, s', k5, hc3, e3⟩ := St.give s (i := 0) rfl rfl rp3
  replace s := s'; clear s'
  replace e1 := e1.st k5
  replace e2 := e2.st k5
  replace eg2 := eg2.st k5
  replace kk := kk.trans k5
  refine RW.seg hT 5 [] [] [.tuple #[.slice A3 x2.1.length u3, .int .i64 x2.2], .slice A3 x2.1.length u3, .int .i64 x2.2, .slice A3 x2.1.length u3, .int .i64 x2.2] [] (by kernel_rfl) (trivial) ?_
  refine RW.nil ?_
  refine WPK.seq ?_
  refine WPK.region ?_
  obtain ⟨x3, hx3, hf⟩ := bindS hf
  refine RW.op (by kernel_rfl) (OK.call' en29 (by kernel_rfl) (c29 (F := F) s hx3) ?_)
  intro X3 hX3
  refine fun _ _ hJ => hJ X3 ?_
  clear s
  intro I6 A4 n4 u4 cl4 A5 n5 u5 cl5 w4 s k6 hn4 rp4 hn5 rp5
  refine hX3 _ _ ?_
  replace e3 := e3.st k6
  replace e1 := e1.st k6
  replace e2 := e2.st k6
  replace eg2 := eg2.st k6
  replace kk := kk.trans k6
  rw [hn4] at s
  try rw [hn4]
  obtain ⟨I7, s', k7, hc4, e4⟩ := St.give s (i := 0) rfl rfl rp4
  replace s := s'; clear s'
  replace e3 := e3.st k7
  replace e1 := e1.st k7
  replace e2 := e2.st k7
  replace rp5 := rp5.st k7
  replace eg2 := eg2.st k7
  replace kk := kk.trans k7
  rw [hn5] at s
  try rw [hn5]
  obtain ⟨I8, s', k8, hc5, e5⟩ := St.give s (i := 0) rfl rfl rp5
  replace s := s'; clear s'
  replace e3 := e3.st k8
  replace e1 := e1.st k8
  replace e2 := e2.st k8
  replace e4 := e4.st k8
  replace eg2 := eg2.st k8
  replace kk := kk.trans k8
  obtain ⟨x4, hx4, hf⟩ := bindS hf
  refine RW.op (by kernel_rfl) (OK.call' en27 (by kernel_rfl) (c27 (F := F) x3 A4 u4 A5 u5 hc4 e4 hc5 e5 eg2 s hx4) ?_)
  intro X4 hX4
  refine fun _ _ hJ => hJ X4 ?_
  clear s
  intro I9 A6 n6 u6 cl6 w5 s k9 hn6 rp6
  refine hX4 _ _ ?_
  replace e3 := e3.st k9
  replace e1 := e1.st k9
  replace e2 := e2.st k9
  replace e4 := e4.st k9
  replace e5 := e5.st k9
  replace eg2 := eg2.st k9
  replace kk := kk.trans k9
  rw [hn6] at s
  try rw [hn6]
  obtain ⟨I10, s', k10, hc6, e6⟩ := St.give s (i := 0) rfl rfl rp6
  replace s := s'; clear s'
  replace e3 := e3.st k10
  replace e1 := e1.st k10
  replace e2 := e2.st k10
  replace e4 := e4.st k10
  replace e5 := e5.st k10
  replace eg2 := eg2.st k10
  replace kk := kk.trans k10
  refine RW.op (by kernel_rfl) (OK.new hT (f := fun b => .slice (some ⟨b, 0, none⟩) 2 2) (cs := [.slice none 0 0, .slice A6 x4.length u6]) (e := 24) (c := .tt) s (by kernel_rfl) trivial ?_)
  clear s
  rintro w6 b1 s k11 -
  replace e3 := e3.st k11
  replace e1 := e1.st k11
  replace e2 := e2.st k11
  replace e4 := e4.st k11
  replace e5 := e5.st k11
  replace e6 := e6.st k11
  replace eg2 := eg2.st k11
  replace kk := kk.trans k11
  have rp7 : RepL (Rp.slice (Rp.int .u8)) I10 w6 [.slice none 0 0, .slice A6 x4.length u6] ([[], x4] : List (List Int)) := RepL.cons (c := [.slice none 0 0]) (d := [.slice A6 x4.length u6]) (⟨_, _, rfl, nil_hc.1, nil_hc.2, Elems.nil⟩) (RepL.cons (c := [.slice A6 x4.length u6]) (d := []) (⟨_, _, rfl, hc6.1, hc6.2, e6⟩) (RepL.nil))
  replace s : St w1 M I10 ((.sl (.slice (some ⟨b1, 0, none⟩) 2 2) 24 1 2 [.slice none 0 0, .slice A6 x4.length u6]) :: F) w6 := s.blkSl (i := 0) (n := 2) (c := 2) (size := 1) rfl rfl (Nat.le_refl _) (by decide)
  refine RW.op (by kernel_rfl) (OK.inl (args := [.int .i64 64, .slice (some ⟨b1, 0, none⟩) 2 2]) en10 (by kernel_rfl) ?_)
  intro R1 hR1
  refine Ret.cut (fun v wz => ∀ X : Value → World → Prop, (∀ (I11 : Nat → Prop) (x5 : Int) (x6 : Int) (x7 : (List Int)) (x8 : (List Int)) (x9 : Int) (x10 : Int) (A7 : Option Addr) (u7 : Nat) (A8 : Option Addr) (u8 : Nat) (w' : World), g9_j1 x2 x5 x6 x7 x8 x9 x10 = some r → St w1 M I11 (F) w' → Kp I w I11 w' → Elems (Rp.int .u8) I11 w' A3 x2.1 → (x7.length ≤ u7 ∧ u7 ≤ 9223372036854775807) → Elems (Rp.int .i64) I11 w' A7 x7 → (x8.length ≤ u8 ∧ u8 ≤ 9223372036854775807) → Elems (Rp.int .u8) I11 w' A8 x8 → Elems (Rp.int .u32) I11 w' (some ⟨2, 0, none⟩) TAB2 → X (.tuple #[.agg #[.int .u64 x5, .int .i64 x6, .slice A7 x7.length u7, .slice A8 x8.length u8], .int .i64 x9, .int .i64 x10]) w') → X v wz) ?_ ?_
  refine fun _ _ hJ => hJ R1 ?_
  clear s
  intro I11 x5 x6 x7 x8 x9 x10 A7 u7 A8 u8 w7 hf s kk e3 hc7 e7 hc8 e8 eg2
  refine hR1 _ _ ?_
  unfold g9_j1 at hf
  refine RW.seg hT 4 [] [] [.tuple #[.agg #[.int .u64 x5, .int .i64 x6, .slice A7 x7.length u7, .slice A8 x8.length u8], .int .i64 x9, .int .i64 x10], .agg #[.int .u64 x5, .int .i64 x6, .slice A7 x7.length u7, .slice A8 x8.length u8], .int .i64 x9, .int .i64 x10] [] (by kernel_rfl) (trivial) ?_
  refine RW.op (by kernel_rfl) (OK.new hT (f := fun b => .pointer (some ⟨b, 0, none⟩)) (cs := [.int .u64 0, .int .i64 0, .slice none 0 0, .slice none 0 0]) (e := 28) (c := .tt) s (by kernel_rfl) trivial ?_)
  clear s
  rintro w8 b2 s k12 -
  replace e3 := e3.st k12
  replace e7 := e7.st k12
  replace e8 := e8.st k12
  replace eg2 := eg2.st k12
  replace kk := kk.trans k12
  refine RW.op (by kernel_rfl) (OK.store hT (i := 0) (b := b2) (off := 0) (n := 4) (vs := [.int .u64 x5, .int .i64 x6, .slice A7 x7.length u7, .slice A8 x8.length u8]) (cs := [.int .u64 0, .int .i64 0, .slice none 0 0, .slice none 0 0]) (e := 28) s (by kernel_rfl) rfl rfl (flat_ok rfl) (Nat.le_of_ble_eq_true rfl) ?_)
  clear s
  rintro w9 s k13 -
  replace e3 := e3.st k13
  replace e7 := e7.st k13
  replace e8 := e8.st k13
  replace eg2 := eg2.st k13
  replace kk := kk.trans k13
  refine RW.seg hT 2 [] [] [.int .i64 x9, .int .i64 x10] [] (by kernel_rfl) (trivial) ?_
  refine RW.nil ?_
  refine WPK.seq ?_
  refine WPK.cut' (Kn fun D1 ds wz => ∀ X : Kont, (∀ (I12 : Nat → Prop) (x11 : Bool) (w' : World), g9_j2 x11 = some r → St w1 M I12 (F) w' → Kp I w I12 w' → Elems (Rp.int .u32) I12 w' (some ⟨2, 0, none⟩) TAB2 → X [.bool x11, (D1.getD 1 undef), (D1.getD 2 undef), (D1.getD 3 undef), (D1.getD 4 undef), (D1.getD 5 undef), (D1.getD 6 undef), (D1.getD 7 undef), (D1.getD 8 undef), (D1.getD 9 undef), (D1.getD 10 undef), (D1.getD 11 undef), (D1.getD 12 undef), (D1.getD 13 undef), (D1.getD 14 undef), (D1.getD 15 undef), (D1.getD 16 undef), (D1.getD 17 undef), (D1.getD 18 undef), (D1.getD 19 undef), (D1.getD 20 undef), (D1.getD 21 undef), (D1.getD 22 undef), (D1.getD 23 undef), (D1.getD 24 undef), (D1.getD 25 undef), (D1.getD 26 undef), (D1.getD 27 undef), (D1.getD 28 undef), (D1.getD 29 undef), (D1.getD 30 undef), (D1.getD 31 undef), (D1.getD 32 undef), (D1.getD 33 undef), (D1.getD 34 undef), (D1.getD 35 undef), (D1.getD 36 undef), (D1.getD 37 undef), (D1.getD 38 undef), (D1.getD 39 undef), (D1.getD 40 undef), (D1.getD 41 undef), (D1.getD 42 undef), (D1.getD 43 undef), (D1.getD 44 undef)] [] w') → X D1 ds wz) ?_ ?_
  intro X5 hX5
  refine fun D1 _ _ hJ => hJ X5 ?_
  clear s
  intro I12 x11 w10 hf s kk eg2
  refine hX5 _ _ _ ?_
  unfold g9_j2 at hf
  refine WPK.ret (?_)
  obtain rfl := someS hf
  refine Fin.of (rs := [.tmp 0]) hT [] (.bool x11) [] rfl (by kernel_rfl) (trivial) ?_
  exact fun X h => vc rfl (h I12 _ s kk)
  have e3S1 := e3
  have e7S1 := e7
  have e8S1 := e8
  have eg2S27958 := eg2
  have kS1 : Kp I11 w9 I11 w9 := Kp.refl
  refine WPK.drawM (fun w' => ∃ I' : Nat → Prop, St w1 M I' ((.blk b2 (.cells #[.int .u64 x5, .int .i64 x6, .slice A7 x7.length u7, .slice A8 x8.length u8] 28 (0, 0))) :: F) w' ∧ Kp I11 w9 I' w') 27 [0, 1, 3, 7, 15, 31, 63, 127, 255, 511, 1023, 2047, 2047, 8191, 16383, 32767, 65535, 131071, 262143, 524287, 1048575, 2097151, 4194303, 2097151, 16777215, 33554431, 67108863] (by kernel_rfl) (by kernel_rfl) ?_
  intro ht1 w11 hd1
  have k14 := Kp.dr s hd1
  replace s := s.dr hd1
  replace e3 := e3.st k14
  replace e7 := e7.st k14
  replace e8 := e8.st k14
  replace eg2 := eg2.st k14
  replace kk := kk.trans k14
  replace kS1 := kS1.trans k14
  refine RD.segM hT ht1 (by kernel_rfl) [0, 1] [] [(20, .bool (decide (x2.2 = 0)))] [.int .i64 x2.2, .bool (decide (x2.2 = 0))] [.veq (.bool (x2.2 == 0)) (.bool (decide (x2.2 = 0)))] (by kernel_rfl) (by rintro w' ⟨I', s, k⟩; have e3 := e3S1.st k; have e7 := e7S1.st k; have e8 := e8S1.st k; have eg2 := eg2S27958.st k; exact eq_v) ⟨_, s.pick [0] 1 rfl, kS1⟩ ?_
  by_cases h1 : x2.2 = 0
  have hf := iteT h1 hf
  refine RD.segM hT ht1 (by kernel_rfl) [2, 3, 4, 5] [] [(21, .bool true), (23, .bool (decide (x10 = 0)))] [.bool true, .int .i64 x10, .bool (decide (x10 = 0)), .bool (decide (x10 = 0))] [.veq (.bool (decide (x2.2 = 0))) (.bool true), .veq (.bool (x10 == 0)) (.bool (decide (x10 = 0)))] (by kernel_rfl) (by rintro w' ⟨I', s, k⟩; have e3 := e3S1.st k; have e7 := e7S1.st k; have e8 := e8S1.st k; have eg2 := eg2S27958.st k; exact ⟨bo_t h1, eq_v⟩) ⟨_, s.pick [0] 1 rfl, kS1⟩ ?_
  by_cases h2 : x10 = 0
  have hf := iteT h2 hf
  refine RD.segM hT ht1 (by kernel_rfl) [6, 7, 8, 9] [] [(25, .bool true), (27, .bool (decide (x9 = 1)))] [.bool true, .int .i64 x9, .bool (decide (x9 = 1)), .bool (decide (x9 = 1))] [.veq (.bool (decide (x10 = 0))) (.bool true), .veq (.bool (x9 == 1)) (.bool (decide (x9 = 1)))] (by kernel_rfl) (by rintro w' ⟨I', s, k⟩; have e3 := e3S1.st k; have e7 := e7S1.st k; have e8 := e8S1.st k; have eg2 := eg2S27958.st k; exact ⟨bo_t h2, eq_v⟩) ⟨_, s.pick [0] 1 rfl, kS1⟩ ?_
  by_cases h3 : x9 = 1
  have hf := iteT h3 hf
  refine RD.segM hT ht1 (by kernel_rfl) [10, 11] [.agg #[.int .u64 x5, .int .i64 x6, .slice A7 x7.length u7, .slice A8 x8.length u8]] [(29, .bool true)] [.bool true, .agg #[.int .u64 x5, .int .i64 x6, .slice A7 x7.length u7, .slice A8 x8.length u8]] [.veq (.bool (decide (x9 = 1))) (.bool true), .cells ⟨b2, 0, none⟩ [.int .u64 x5, .int .i64 x6, .slice A7 x7.length u7, .slice A8 x8.length u8] 4] (by kernel_rfl) (by rintro w' ⟨I', s, k⟩; have e3 := e3S1.st k; have e7 := e7S1.st k; have e8 := e8S1.st k; have eg2 := eg2S27958.st k; exact ⟨bo_t h3, s.cells (i := 0) rfl rfl rfl⟩) ⟨_, s.pick [0] 1 rfl, kS1⟩ ?_
  obtain ⟨x12, hx5, hf⟩ := bindS hf
  refine RD.op (i := 12) rfl (by kernel_rfl) (by kernel_rfl) (OK.call' en29 (by kernel_rfl) (c29 (F := (.blk b2 (.cells #[.int .u64 x5, .int .i64 x6, .slice A7 x7.length u7, .slice A8 x8.length u8] 28 (0, 0))) :: F) s hx5) ?_)
  intro X6 hX6
  refine fun _ _ hJ => hJ X6 ?_
  clear s
  intro I13 A9 n7 u9 cl7 A10 n8 u10 cl8 w12 s k15 hn7 rp8 hn8 rp9
  refine hX6 _ _ ?_
  replace e3 := e3.st k15
  replace e7 := e7.st k15
  replace e8 := e8.st k15
  replace eg2 := eg2.st k15
  replace kk := kk.trans k15
  replace kS1 := kS1.trans k15
  rw [hn7] at s
  try rw [hn7]
  obtain ⟨I14, s', k16, hc9, e9⟩ := St.give s (i := 0) rfl rfl rp8
  replace s := s'; clear s'
  replace e3 := e3.st k16
  replace e7 := e7.st k16
  replace e8 := e8.st k16
  replace rp9 := rp9.st k16
  replace eg2 := eg2.st k16
  replace kk := kk.trans k16
  replace kS1 := kS1.trans k16
  rw [hn8] at s
  try rw [hn8]
  obtain ⟨I15, s', k17, hc10, e10⟩ := St.give s (i := 0) rfl rfl rp9
  replace s := s'; clear s'
  replace e3 := e3.st k17
  replace e7 := e7.st k17
  replace e8 := e8.st k17
  replace e9 := e9.st k17
  replace eg2 := eg2.st k17
  replace kk := kk.trans k17
  replace kS1 := kS1.trans k17
  refine ⟨fun _ => ⟨_, s.pick [0] 1 rfl, kS1⟩, RD.fold ?_⟩
  obtain ⟨x13, hx6, hf⟩ := bindS hf
  refine RD.op (i := 13) rfl (by kernel_rfl) (by kernel_rfl) (OK.call' en12 (by kernel_rfl) (c12 (F := (.blk b2 (.cells #[.int .u64 x5, .int .i64 x6, .slice A7 x7.length u7, .slice A8 x8.length u8] 28 (0, 0))) :: F) (T_api_Head.mk x5 x6 x7 x8) x12 A7 u7 A8 u8 A9 u9 A10 u10 hc7 e7 hc8 e8 hc9 e9 hc10 e10 s hx6) ?_)
  intro X7 hX7
  refine fun _ _ hJ => hJ X7 ?_
  clear s
  intro I16 w13 s k18
  refine hX7 _ _ ?_
  replace e3 := e3.st k18
  replace e7 := e7.st k18
  replace e8 := e8.st k18
  replace e9 := e9.st k18
  replace e10 := e10.st k18
  replace eg2 := eg2.st k18
  replace kk := kk.trans k18
  replace kS1 := kS1.trans k18
  refine ⟨fun _ => ⟨_, s.pick [0] 1 rfl, kS1⟩, RD.fold ?_⟩
  refine RD.segM hT ht1 (by kernel_rfl) [14] [] [] [.bool x13] [] (by kernel_rfl) (fun _ _ => trivial) ⟨_, s.pick [0] 1 rfl, kS1⟩ ?_
  by_cases h4 : x13 = true
  have hf := iteT h4 hf
  refine RD.segM hT ht1 (by kernel_rfl) [15, 16, 17, 18, 19] [] [(34, .bool true), (37, .bool (decide ((x2.1.length : Int) = 240)))] [.bool true, .slice A3 x2.1.length u3, .int .i64 (x2.1.length : Int), .bool (decide ((x2.1.length : Int) = 240)), .bool (decide ((x2.1.length : Int) = 240))] [.veq (.bool (x13)) (.bool true), .veq (.bool ((x2.1.length : Int) == 240)) (.bool (decide ((x2.1.length : Int) = 240)))] (by kernel_rfl) (by rintro w' ⟨I', s, k⟩; have e3 := e3S1.st k; have e7 := e7S1.st k; have e8 := e8S1.st k; have eg2 := eg2S27958.st k; exact ⟨b_t h4, eq_v⟩) ⟨_, s.pick [0] 1 rfl, kS1⟩ ?_
  by_cases h5 : (x2.1.length : Int) = 240
  have hf := iteT h5 hf
  obtain ⟨y1, hy1, hf⟩ := bindS hf
  obtain ⟨h6, hc11, e11, q1⟩ := slS0 hc3 e3 hy1
  refine RD.segM hT ht1 (by kernel_rfl) [20, 21, 22] [] [(39, .bool true), (41, .slice A3 y1.length u3)] [.bool true, .slice A3 x2.1.length u3, .slice A3 y1.length u3] [.veq (.bool (decide ((x2.1.length : Int) = 240))) (.bool true), .both (.cut 0 8 u3 u3) (.veq (.slice A3 (8 : Int).toNat u3) (.slice A3 y1.length u3))] (by kernel_rfl) (by rintro w' ⟨I', s, k⟩; have e3 := e3S1.st k; have e7 := e7S1.st k; have e8 := e8S1.st k; have eg2 := eg2S27958.st k; exact ⟨bo_t h5, ⟨⟨by omega, by omega, by omega, by omega⟩, sl_eq rfl q1 rfl⟩⟩) ⟨_, s.pick [0] 1 rfl, kS1⟩ ?_
  refine RD.op (i := 23) rfl (by kernel_rfl) (by kernel_rfl) (OK.new hT (f := fun b => .slice (some ⟨b, 0, none⟩) 8 8) (cs := [.int .u8 0, .int .u8 64, .int .u8 1, .int .u8 0, .int .u8 2, .int .u8 1, .int .u8 7, .int .u8 0]) (e := 5) (c := .tt) s (by kernel_rfl) trivial ?_)
  clear s
  rintro w14 b3 s k19 -
  replace e3 := e3.st k19
  replace e7 := e7.st k19
  replace e8 := e8.st k19
  replace e9 := e9.st k19
  replace e10 := e10.st k19
  replace e11 := e11.st k19
  replace eg2 := eg2.st k19
  replace kk := kk.trans k19
  replace kS1 := kS1.trans k19
  have rp10 : RepL (Rp.int .u8) I16 w14 [.int .u8 0, .int .u8 64, .int .u8 1, .int .u8 0, .int .u8 2, .int .u8 1, .int .u8 7, .int .u8 0] ([0, 64, 1, 0, 2, 1, 7, 0] : List Int) := RepL.cons (c := [.int .u8 0]) (d := [.int .u8 64, .int .u8 1, .int .u8 0, .int .u8 2, .int .u8 1, .int .u8 7, .int .u8 0]) (rfl) (RepL.cons (c := [.int .u8 64]) (d := [.int .u8 1, .int .u8 0, .int .u8 2, .int .u8 1, .int .u8 7, .int .u8 0]) (rfl) (RepL.cons (c := [.int .u8 1]) (d := [.int .u8 0, .int .u8 2, .int .u8 1, .int .u8 7, .int .u8 0]) (rfl) (RepL.cons (c := [.int .u8 0]) (d := [.int .u8 2, .int .u8 1, .int .u8 7, .int .u8 0]) (rfl) (RepL.cons (c := [.int .u8 2]) (d := [.int .u8 1, .int .u8 7, .int .u8 0]) (rfl) (RepL.cons (c := [.int .u8 1]) (d := [.int .u8 7, .int .u8 0]) (rfl) (RepL.cons (c := [.int .u8 7]) (d := [.int .u8 0]) (rfl) (RepL.cons (c := [.int .u8 0]) (d := []) (rfl) (RepL.nil))))))))
  replace s : St w1 M I16 ((.sl (.slice (some ⟨b3, 0, none⟩) 8 8) 5 1 8 [.int .u8 0, .int .u8 64, .int .u8 1, .int .u8 0, .int .u8 2, .int .u8 1, .int .u8 7, .int .u8 0]) :: (.blk b2 (.cells #[.int .u64 x5, .int .i64 x6, .slice A7 x7.length u7, .slice A8 x8.length u8] 28 (0, 0))) :: F) w14 := s.blkSl (i := 0) (n := 8) (c := 8) (size := 1) rfl rfl (Nat.le_refl _) (by decide)
  refine ⟨fun _ => ⟨_, s.pick [1] 2 rfl, kS1⟩, RD.fold ?_⟩
  have sa1 := s
  obtain ⟨hc12, e12⟩ := St.lend s (i := 0) rfl rfl rp10
  have k20 := Kp.shut (I := I16) (w := w14) (p := .sl (.slice (some ⟨b3, 0, none⟩) 8 8) 5 1 8 [.int .u8 0, .int .u8 64, .int .u8 1, .int .u8 0, .int .u8 2, .int .u8 1, .int .u8 7, .int .u8 0])
  replace s := s.shut 0 rfl
  obtain ⟨x14, hx7, hf⟩ := bindS hf
  refine RD.op (i := 24) rfl (by kernel_rfl) (by kernel_rfl) (OK.call' en24 (by kernel_rfl) (c24 (F := (.blk b2 (.cells #[.int .u64 x5, .int .i64 x6, .slice A7 x7.length u7, .slice A8 x8.length u8] 28 (0, 0))) :: F) y1 ([0, 64, 1, 0, 2, 1, 7, 0] : List Int) A3 u3 (some ⟨b3, 0, none⟩) 8 hc11 (e11.st k20) hc12 e12 s hx7) ?_)
  intro X8 hX8
  refine fun _ _ hJ => hJ X8 ?_
  clear s
  intro I17 w15 s k21
  refine hX8 _ _ ?_
  have s' := St.back sa1 (i := 0) rfl s k21
  replace k21 := Kp.back sa1 (i := 0) rfl k21
  replace s := s'; clear s'
  obtain ⟨I18, s, k21⟩ : ∃ I : Nat → Prop, St w1 M I ((.sl (.slice (some ⟨b3, 0, none⟩) 8 8) 5 1 8 [.int .u8 0, .int .u8 64, .int .u8 1, .int .u8 0, .int .u8 2, .int .u8 1, .int .u8 7, .int .u8 0]) :: (.blk b2 (.cells #[.int .u64 x5, .int .i64 x6, .slice A7 x7.length u7, .slice A8 x8.length u8] 28 (0, 0))) :: F) w15 ∧ Kp _ _ I _ := ⟨_, s, k21⟩
  replace e3 := e3.st k21
  replace e7 := e7.st k21
  replace e8 := e8.st k21
  replace e9 := e9.st k21
  replace e10 := e10.st k21
  replace e11 := e11.st k21
  replace eg2 := eg2.st k21
  replace rp10 := rp10.st k21
  replace kk := kk.trans k21
  replace kS1 := kS1.trans k21
  refine ⟨fun _ => ⟨_, s.pick [1] 2 rfl, kS1⟩, RD.fold ?_⟩
  refine RD.segM hT ht1 (by kernel_rfl) [25, 26] [] [] [.bool x14, .bool x14] [] (by kernel_rfl) (fun _ _ => trivial) ⟨_, s.pick [1] 2 rfl, kS1⟩ ?_
  refine RD.done (by kernel_rfl) ?_
  replace s := s.pick [] 2 rfl
  exact fun X h => kc (by kernel_rfl) rfl (h I18 x14 _ hf s kk eg2)
  have hf := iteF h5 hf
  refine RD.segM hT ht1 (by kernel_rfl) [20, 21, 22] [] [(39, .bool false)] [.bool false, undef, undef] [.veq (.bool (decide ((x2.1.length : Int) = 240))) (.bool false)] (by kernel_rfl) (by rintro w' ⟨I', s, k⟩; have e3 := e3S1.st k; have e7 := e7S1.st k; have e8 := e8S1.st k; have eg2 := eg2S27958.st k; exact bo_f h5) ⟨_, s.pick [0] 1 rfl, kS1⟩ ?_
  refine RD.skip (i := 23) rfl (by kernel_rfl) (by kernel_rfl) ?_
  refine ⟨fun _ => ⟨_, s.pick [0] 1 rfl, kS1⟩, ?_⟩
  refine RD.skip (i := 24) rfl (by kernel_rfl) (by kernel_rfl) ?_
  refine ⟨fun _ => ⟨_, s.pick [0] 1 rfl, kS1⟩, ?_⟩
  refine RD.segM hT ht1 (by kernel_rfl) [25, 26] [] [] [.bool false, .bool false] [] (by kernel_rfl) (fun _ _ => trivial) ⟨_, s.pick [0] 1 rfl, kS1⟩ ?_
  refine RD.done (by kernel_rfl) ?_
  replace s := s.pick [] 1 rfl
  exact fun X h => kc (by kernel_rfl) rfl (h I16 false _ hf s kk eg2)
  have hf := iteF h4 hf
  refine RD.segM hT ht1 (by kernel_rfl) [15, 16, 17, 18, 19, 20, 21, 22] [] [(34, .bool false)] [.bool false, undef, undef, undef, .bool false, .bool false, undef, undef] [.veq (.bool (x13)) (.bool false)] (by kernel_rfl) (by rintro w' ⟨I', s, k⟩; have e3 := e3S1.st k; have e7 := e7S1.st k; have e8 := e8S1.st k; have eg2 := eg2S27958.st k; exact b_f h4) ⟨_, s.pick [0] 1 rfl, kS1⟩ ?_
  refine RD.skip (i := 23) rfl (by kernel_rfl) (by kernel_rfl) ?_
  refine ⟨fun _ => ⟨_, s.pick [0] 1 rfl, kS1⟩, ?_⟩
  refine RD.skip (i := 24) rfl (by kernel_rfl) (by kernel_rfl) ?_
  refine ⟨fun _ => ⟨_, s.pick [0] 1 rfl, kS1⟩, ?_⟩
  refine RD.segM hT ht1 (by kernel_rfl) [25, 26] [] [] [.bool false, .bool false] [] (by kernel_rfl) (fun _ _ => trivial) ⟨_, s.pick [0] 1 rfl, kS1⟩ ?_
  refine RD.done (by kernel_rfl) ?_
  replace s := s.pick [] 1 rfl
  exact fun X h => kc (by kernel_rfl) rfl (h I16 false _ hf s kk eg2)
  have hf := iteF h3 hf
  refine RD.segM hT ht1 (by kernel_rfl) [10, 11] [] [(29, .bool false)] [.bool false, undef] [.veq (.bool (decide (x9 = 1))) (.bool false)] (by kernel_rfl) (by rintro w' ⟨I', s, k⟩; have e3 := e3S1.st k; have e7 := e7S1.st k; have e8 := e8S1.st k; have eg2 := eg2S27958.st k; exact bo_f h3) ⟨_, s.pick [0] 1 rfl, kS1⟩ ?_
  refine RD.skip (i := 12) rfl (by kernel_rfl) (by kernel_rfl) ?_
  refine ⟨fun _ => ⟨_, s.pick [0] 1 rfl, kS1⟩, ?_⟩
  refine RD.skip (i := 13) rfl (by kernel_rfl) (by kernel_rfl) ?_
  refine ⟨fun _ => ⟨_, s.pick [0] 1 rfl, kS1⟩, ?_⟩
  refine RD.segM hT ht1 (by kernel_rfl) [14, 15, 16, 17, 18, 19, 20, 21, 22] [] [] [.bool false, .bool false, undef, undef, undef, .bool false, .bool false, undef, undef] [] (by kernel_rfl) (fun _ _ => trivial) ⟨_, s.pick [0] 1 rfl, kS1⟩ ?_
  refine RD.skip (i := 23) rfl (by kernel_rfl) (by kernel_rfl) ?_
  refine ⟨fun _ => ⟨_, s.pick [0] 1 rfl, kS1⟩, ?_⟩
  refine RD.skip (i := 24) rfl (by kernel_rfl) (by kernel_rfl) ?_
  refine ⟨fun _ => ⟨_, s.pick [0] 1 rfl, kS1⟩, ?_⟩
  refine RD.segM hT ht1 (by kernel_rfl) [25, 26] [] [] [.bool false, .bool false] [] (by kernel_rfl) (fun _ _ => trivial) ⟨_, s.pick [0] 1 rfl, kS1⟩ ?_
  refine RD.done (by kernel_rfl) ?_
  replace s := s.pick [] 1 rfl
  exact fun X h => kc (by kernel_rfl) rfl (h I11 false _ hf s kk eg2)
  have hf := iteF h2 hf
  refine RD.segM hT ht1 (by kernel_rfl) [6, 7, 8, 9, 10, 11] [] [(25, .bool false)] [.bool false, undef, undef, .bool false, .bool false, undef] [.veq (.bool (decide (x10 = 0))) (.bool false)] (by kernel_rfl) (by rintro w' ⟨I', s, k⟩; have e3 := e3S1.st k; have e7 := e7S1.st k; have e8 := e8S1.st k; have eg2 := eg2S27958.st k; exact bo_f h2) ⟨_, s.pick [0] 1 rfl, kS1⟩ ?_
  refine RD.skip (i := 12) rfl (by kernel_rfl) (by kernel_rfl) ?_
  refine ⟨fun _ => ⟨_, s.pick [0] 1 rfl, kS1⟩, ?_⟩
  refine RD.skip (i := 13) rfl (by kernel_rfl) (by kernel_rfl) ?_
  refine ⟨fun _ => ⟨_, s.pick [0] 1 rfl, kS1⟩, ?_⟩
  refine RD.segM hT ht1 (by kernel_rfl) [14, 15, 16, 17, 18, 19, 20, 21, 22] [] [] [.bool false, .bool false, undef, undef, undef, .bool false, .bool false, undef, undef] [] (by kernel_rfl) (fun _ _ => trivial) ⟨_, s.pick [0] 1 rfl, kS1⟩ ?_
  refine RD.skip (i := 23) rfl (by kernel_rfl) (by kernel_rfl) ?_
  refine ⟨fun _ => ⟨_, s.pick [0] 1 rfl, kS1⟩, ?_⟩
  refine RD.skip (i := 24) rfl (by kernel_rfl) (by kernel_rfl) ?_
  refine ⟨fun _ => ⟨_, s.pick [0] 1 rfl, kS1⟩, ?_⟩
  refine RD.segM hT ht1 (by kernel_rfl) [25, 26] [] [] [.bool false, .bool false] [] (by kernel_rfl) (fun _ _ => trivial) ⟨_, s.pick [0] 1 rfl, kS1⟩ ?_
  refine RD.done (by kernel_rfl) ?_
  replace s := s.pick [] 1 rfl
  exact fun X h => kc (by kernel_rfl) rfl (h I11 false _ hf s kk eg2)
  have hf := iteF h1 hf
  refine RD.segM hT ht1 (by kernel_rfl) [2, 3, 4, 5, 6, 7, 8, 9, 10, 11] [] [(21, .bool false)] [.bool false, undef, undef, .bool false, .bool false, undef, undef, .bool false, .bool false, undef] [.veq (.bool (decide (x2.2 = 0))) (.bool false)] (by kernel_rfl) (by rintro w' ⟨I', s, k⟩; have e3 := e3S1.st k; have e7 := e7S1.st k; have e8 := e8S1.st k; have eg2 := eg2S27958.st k; exact bo_f h1) ⟨_, s.pick [0] 1 rfl, kS1⟩ ?_
  refine RD.skip (i := 12) rfl (by kernel_rfl) (by kernel_rfl) ?_
  refine ⟨fun _ => ⟨_, s.pick [0] 1 rfl, kS1⟩, ?_⟩
  refine RD.skip (i := 13) rfl (by kernel_rfl) (by kernel_rfl) ?_
  refine ⟨fun _ => ⟨_, s.pick [0] 1 rfl, kS1⟩, ?_⟩
  refine RD.segM hT ht1 (by kernel_rfl) [14, 15, 16, 17, 18, 19, 20, 21, 22] [] [] [.bool false, .bool false, undef, undef, undef, .bool false, .bool false, undef, undef] [] (by kernel_rfl) (fun _ _ => trivial) ⟨_, s.pick [0] 1 rfl, kS1⟩ ?_
  refine RD.skip (i := 23) rfl (by kernel_rfl) (by kernel_rfl) ?_
  refine ⟨fun _ => ⟨_, s.pick [0] 1 rfl, kS1⟩, ?_⟩
  refine RD.skip (i := 24) rfl (by kernel_rfl) (by kernel_rfl) ?_
  refine ⟨fun _ => ⟨_, s.pick [0] 1 rfl, kS1⟩, ?_⟩
  refine RD.segM hT ht1 (by kernel_rfl) [25, 26] [] [] [.bool false, .bool false] [] (by kernel_rfl) (fun _ _ => trivial) ⟨_, s.pick [0] 1 rfl, kS1⟩ ?_
  refine RD.done (by kernel_rfl) ?_
  replace s := s.pick [] 1 rfl
  exact fun X h => kc (by kernel_rfl) rfl (h I11 false _ hf s kk eg2)
  refine Ret.of Tryd.func10 rfl ?_
  refine WPK.seq ?_
  refine WPK.region ?_
  refine RW.op (by kernel_rfl) (OK.new hT (f := fun b => .pointer (some ⟨b, 0, none⟩)) (cs := [.int .u64 0, .int .i64 0, .slice none 0 0, .slice none 0 0]) (e := 28) (c := .tt) s (by kernel_rfl) trivial ?_)
  clear s
  rintro w16 b4 s k22 -
  replace e3 := e3.st k22
  replace rp7 := rp7.st k22
  replace eg2 := eg2.st k22
  replace kk := kk.trans k22
  refine RW.seg hT 2 [] [] [.int .i64 0, .int .i64 0] [] (by kernel_rfl) (trivial) ?_
  refine RW.nil ?_
  refine WPK.seq ?_
  refine WPK.region ?_
  refine RW.seg hT 1 [] [] [.int .i64 (-1)] [] (by kernel_rfl) (trivial) ?_
  refine RW.nil ?_
  refine WPK.seq ?_
  refine WPK.region ?_
  refine RW.op (by kernel_rfl) (OK.new hT (f := fun b => .pointer (some ⟨b, 0, none⟩)) (cs := [.int .u64 0, .int .i64 0, .slice none 0 0, .slice none 0 0]) (e := 28) (c := .tt) s (by kernel_rfl) trivial ?_)
  clear s
  rintro w17 b5 s k23 -
  replace e3 := e3.st k23
  replace rp7 := rp7.st k23
  replace eg2 := eg2.st k23
  replace kk := kk.trans k23
  refine RW.nil ?_
  refine WPK.seq ?_
  refine WPK.seq ?_
  refine WPK.region ?_
  refine RW.seg hT 4 [] [(15, .int .i64 (([[], x4] : List (List Int)).length : Int))] [.slice (some ⟨b1, 0, none⟩) 2 2, .slice (some ⟨b1, 0, none⟩) 2 2, .int .i64 (([[], x4] : List (List Int)).length : Int), .int .i64 (if 2 < (([[], x4] : List (List Int)).length : Int) then 2 else (([[], x4] : List (List Int)).length : Int))] [.veq (.int .i64 (2 : Nat)) (.int .i64 (([[], x4] : List (List Int)).length : Int))] (by kernel_rfl) (len_v rfl) ?_
  obtain ⟨h7, hf⟩ := iteS hf
  have hc13 := row_hc (s.at (i := 2) rfl)
  have hb1 : (if 2 < (([[], x4] : List (List Int)).length : Int) then 2 else (([[], x4] : List (List Int)).length : Int)).toNat ≤ 2 := by have hnn := (rfl : 2 = 2); omega
  refine RW.seg hT 1 [] [] [.slice (some ⟨b1, 0, none⟩) (if 2 < (([[], x4] : List (List Int)).length : Int) then 2 else (([[], x4] : List (List Int)).length : Int)).toNat 2] [.cut 0 (if 2 < (([[], x4] : List (List Int)).length : Int) then 2 else (([[], x4] : List (List Int)).length : Int)) 2 2] (by kernel_rfl) (⟨Int.le_refl _, h7.1, by omega, Int.le_refl _⟩) ?_
  obtain ⟨s', rp11, hn9⟩ := St.shrinkA s (i := 2) (h := (if 2 < (([[], x4] : List (List Int)).length : Int) then 2 else (([[], x4] : List (List Int)).length : Int)).toNat) rfl rfl rfl rp7 hb1
  replace s := s'; clear s'
  refine RW.seg hT 2 [] [(18, .int .i64 ((List.take ((if 2 < (([[], x4] : List (List Int)).length : Int) then 2 else (([[], x4] : List (List Int)).length : Int)).toNat) ([[], x4] : List (List Int))).length : Int))] [.int .i64 ((List.take ((if 2 < (([[], x4] : List (List Int)).length : Int) then 2 else (([[], x4] : List (List Int)).length : Int)).toNat) ([[], x4] : List (List Int))).length : Int), .int .i64 0] [.veq (.int .i64 ((if 2 < (([[], x4] : List (List Int)).length : Int) then 2 else (([[], x4] : List (List Int)).length : Int)).toNat : Nat)) (.int .i64 ((List.take ((if 2 < (([[], x4] : List (List Int)).length : Int) then 2 else (([[], x4] : List (List Int)).length : Int)).toNat) ([[], x4] : List (List Int))).length : Int))] (by kernel_rfl) (len_v hn9) ?_
  refine RW.nil ?_
  refine WPK.block ?_
  refine WPK.loop' (J := fun n9 D2 ds wz => ∀ X : Kont, (∀ (I19 : Nat → Prop) (x15 : Int) (x16 : Int) (x17 : Int) (x18 : Int) (x19 : (List Int)) (x20 : (List Int)) (A11 : Option Addr) (u11 : Nat) (A12 : Option Addr) (u12 : Nat) (w' : World), g9_l3 x2 x4 n9 x15 x16 x17 x18 x19 x20 = some r → St w1 M I19 ((.blk b5 (.cells #[.int .u64 x17, .int .i64 x18, .slice A11 x19.length u11, .slice A12 x20.length u12] 28 (0, 0))) :: (.blk b4 (.cells #[.int .u64 0, .int .i64 0, .slice none 0 0, .slice none 0 0] 28 (0, 0))) :: (.sl (.slice (some ⟨b1, 0, none⟩) ((if 2 < (([[], x4] : List (List Int)).length : Int) then 2 else (([[], x4] : List (List Int)).length : Int)).toNat) 2) 24 1 ((if 2 < (([[], x4] : List (List Int)).length : Int) then 2 else (([[], x4] : List (List Int)).length : Int)).toNat) ([.slice none 0 0, .slice A6 x4.length u6].take ((if 2 < (([[], x4] : List (List Int)).length : Int) then 2 else (([[], x4] : List (List Int)).length : Int)).toNat * 1))) :: F) w' → Kp I w I19 w' → (x19.length ≤ u11 ∧ u11 ≤ 9223372036854775807) → Elems (Rp.int .i64) I19 w' A11 x19 → (x20.length ≤ u12 ∧ u12 ≤ 9223372036854775807) → Elems (Rp.int .u8) I19 w' A12 x20 → RepL (Rp.slice (Rp.int .u8)) I19 w' ([.slice none 0 0, .slice A6 x4.length u6].take ((if 2 < (([[], x4] : List (List Int)).length : Int) then 2 else (([[], x4] : List (List Int)).length : Int)).toNat * 1)) (List.take ((if 2 < (([[], x4] : List (List Int)).length : Int) then 2 else (([[], x4] : List (List Int)).length : Int)).toNat) ([[], x4] : List (List Int))) → Elems (Rp.int .u8) I19 w' A3 x2.1 → Elems (Rp.int .u32) I19 w' (some ⟨2, 0, none⟩) TAB2 → X [.int .i64 64, (D2.getD 1 undef), (D2.getD 2 undef), (D2.getD 3 undef), .pointer (some ⟨b4, 0, none⟩), .int .i64 0, .int .i64 0, .int .i64 x15, .pointer (some ⟨b5, 0, none⟩), (D2.getD 9 undef), (D2.getD 10 undef), (D2.getD 11 undef), (D2.getD 12 undef), (D2.getD 13 undef), (D2.getD 14 undef), (D2.getD 15 undef), (D2.getD 16 undef), .slice (some ⟨b1, 0, none⟩) ((if 2 < (([[], x4] : List (List Int)).length : Int) then 2 else (([[], x4] : List (List Int)).length : Int)).toNat) 2, .int .i64 ((List.take ((if 2 < (([[], x4] : List (List Int)).length : Int) then 2 else (([[], x4] : List (List Int)).length : Int)).toNat) ([[], x4] : List (List Int))).length : Int), .int .i64 x16, (D2.getD 20 undef), (D2.getD 21 undef), (D2.getD 22 undef), (D2.getD 23 undef), (D2.getD 24 undef), (D2.getD 25 undef), (D2.getD 26 undef), (D2.getD 27 undef), (D2.getD 28 undef), (D2.getD 29 undef), (D2.getD 30 undef), (D2.getD 31 undef), (D2.getD 32 undef), (D2.getD 33 undef), (D2.getD 34 undef), (D2.getD 35 undef), (D2.getD 36 undef), (D2.getD 37 undef), (D2.getD 38 undef), (D2.getD 39 undef), (D2.getD 40 undef), (D2.getD 41 undef), (D2.getD 42 undef), (D2.getD 43 undef), (D2.getD 44 undef), (D2.getD 45 undef), (D2.getD 46 undef), undef, undef, undef, undef, undef] [] w') → X D2 ds wz) FUEL (fun X h => kc (by kernel_rfl) rfl (h I10 (-1) 0 0 0 [] [] none 0 none 0 _ hf s kk nil_hc Elems.nil nil_hc Elems.nil rp11 e3 eg2)) (fun _ _ _ hJ => hJ (fun _ _ _ => False) (by intro I19 x15 x16 x17 x18 x19 x20 A11 u11 A12 u12 w18 hf s kk hc14 e13 hc15 e14 rp11 e3 eg2; exact noneS hf)) ?_
  intro X9 hX9
  refine fun n9 D2 _ _ hJ => hJ (X9 n9) ?_
  clear s
  intro I19 x15 x16 x17 x18 x19 x20 A11 u11 A12 u12 w18 hf s kk hc14 e13 hc15 e14 rp11 e3 eg2
  refine hX9 _ _ _ _ ?_
  replace hf : g9_l3B x2 x4 (g9_l3 x2 x4 n9) x15 x16 x17 x18 x19 x20 = some r := hf
  generalize hrec1 : g9_l3 x2 x4 n9 = rec1 at hf
  unfold g9_l3B at hf
  refine WPK.seq ?_
  refine WPK.region ?_
  refine RW.seg hT 1 [] [] [.bool (decide (x16 < ((List.take ((if 2 < (([[], x4] : List (List Int)).length : Int) then 2 else (([[], x4] : List (List Int)).length : Int)).toNat) ([[], x4] : List (List Int))).length : Int)))] [] (by kernel_rfl) (trivial) ?_
  refine RW.nil ?_
  refine WPK.seq ?_
  by_cases h8 : x16 < ((List.take ((if 2 < (([[], x4] : List (List Int)).length : Int) then 2 else (([[], x4] : List (List Int)).length : Int)).toNat) ([[], x4] : List (List Int))).length : Int)
  have hf := iteT h8 hf
  refine WPK.condT (Eq.trans (b := .bool (decide (x16 < ((List.take ((if 2 < (([[], x4] : List (List Int)).length : Int) then 2 else (([[], x4] : List (List Int)).length : Int)).toNat) ([[], x4] : List (List Int))).length : Int)))) (by kernel_rfl) (bo_t h8)) ?_
  refine WPK.skip ?_
  refine WPK.seq ?_
  refine WPK.cut' (Kn fun D3 ds wz => ∀ X : Kont, (∀ (I20 : Nat → Prop) (x21 : Int) (x22 : (List Int)) (x23 : Bool) (x24 : (List Int)) (x25 : Int) (x26 : Int) (x27 : (List Int)) (x28 : (List Int)) (x29 : Bool) (x30 : (List Int)) (x31 : Int) (x32 : Int) (x33 : (List Int)) (x34 : (List Int)) (x35 : Bool) (x36 : Int) (x37 : Int) (x38 : (List Int)) (x39 : (List Int)) (x40 : Bool) (x41 : Bool) (x42 : Bool) (x43 : Bool) (x44 : Bool) (x45 : Int) (x46 : Int) (x47 : (List Int)) (x48 : (List Int)) (x49 : Int) (x50 : Int) (x51 : (List Int)) (x52 : (List Int)) (b6 : Nat) (A13 : Option Addr) (u13 : Nat) (d1 : Value) (A14 : Option Addr) (u14 : Nat) (A15 : Option Addr) (u15 : Nat) (A16 : Option Addr) (u16 : Nat) (A17 : Option Addr) (u17 : Nat) (A18 : Option Addr) (u18 : Nat) (A19 : Option Addr) (u19 : Nat) (A20 : Option Addr) (u20 : Nat) (A21 : Option Addr) (u21 : Nat) (A22 : Option Addr) (u22 : Nat) (A23 : Option Addr) (u23 : Nat) (A24 : Option Addr) (u24 : Nat) (A25 : Option Addr) (u25 : Nat) (w' : World), g9_j4 x16 rec1 x21 x22 x23 x24 x25 x26 x27 x28 x29 x30 x31 x32 x33 x34 x35 x36 x37 x38 x39 x40 x41 x42 x43 x44 x45 x46 x47 x48 x49 x50 x51 x52 = some r → St w1 M I20 ((.blk b6 (.cells #[.int .u64 x45, .int .i64 x46, .slice A22 x47.length u22, .slice A23 x48.length u23] 28 (0, 0))) :: (.blk b5 (.cells #[.int .u64 x49, .int .i64 x50, .slice A24 x51.length u24, .slice A25 x52.length u25] 28 (0, 0))) :: (.blk b4 (.cells #[.int .u64 0, .int .i64 0, .slice none 0 0, .slice none 0 0] 28 (0, 0))) :: (.sl (.slice (some ⟨b1, 0, none⟩) ((if 2 < (([[], x4] : List (List Int)).length : Int) then 2 else (([[], x4] : List (List Int)).length : Int)).toNat) 2) 24 1 ((if 2 < (([[], x4] : List (List Int)).length : Int) then 2 else (([[], x4] : List (List Int)).length : Int)).toNat) ([.slice none 0 0, .slice A6 x4.length u6].take ((if 2 < (([[], x4] : List (List Int)).length : Int) then 2 else (([[], x4] : List (List Int)).length : Int)).toNat * 1))) :: F) w' → Kp I w I20 w' → (x22.length ≤ u13 ∧ u13 ≤ 9223372036854775807) → Elems (Rp.int .u8) I20 w' A13 x22 → (x24.length ≤ u14 ∧ u14 ≤ 9223372036854775807) → Elems (Rp.int .u8) I20 w' A14 x24 → (x27.length ≤ u15 ∧ u15 ≤ 9223372036854775807) → Elems (Rp.int .i64) I20 w' A15 x27 → (x28.length ≤ u16 ∧ u16 ≤ 9223372036854775807) → Elems (Rp.int .u8) I20 w' A16 x28 → (x30.length ≤ u17 ∧ u17 ≤ 9223372036854775807) → Elems (Rp.int .u8) I20 w' A17 x30 → (x33.length ≤ u18 ∧ u18 ≤ 9223372036854775807) → Elems (Rp.int .i64) I20 w' A18 x33 → (x34.length ≤ u19 ∧ u19 ≤ 9223372036854775807) → Elems (Rp.int .u8) I20 w' A19 x34 → (x38.length ≤ u20 ∧ u20 ≤ 9223372036854775807) → Elems (Rp.int .i64) I20 w' A20 x38 → (x39.length ≤ u21 ∧ u21 ≤ 9223372036854775807) → Elems (Rp.int .u8) I20 w' A21 x39 → (x47.length ≤ u22 ∧ u22 ≤ 9223372036854775807) → Elems (Rp.int .i64) I20 w' A22 x47 → (x48.length ≤ u23 ∧ u23 ≤ 9223372036854775807) → Elems (Rp.int .u8) I20 w' A23 x48 → (x51.length ≤ u24 ∧ u24 ≤ 9223372036854775807) → Elems (Rp.int .i64) I20 w' A24 x51 → (x52.length ≤ u25 ∧ u25 ≤ 9223372036854775807) → Elems (Rp.int .u8) I20 w' A25 x52 → RepL (Rp.slice (Rp.int .u8)) I20 w' ([.slice none 0 0, .slice A6 x4.length u6].take ((if 2 < (([[], x4] : List (List Int)).length : Int) then 2 else (([[], x4] : List (List Int)).length : Int)).toNat * 1)) (List.take ((if 2 < (([[], x4] : List (List Int)).length : Int) then 2 else (([[], x4] : List (List Int)).length : Int)).toNat) ([[], x4] : List (List Int))) → Elems (Rp.int .u8) I20 w' A3 x2.1 → Elems (Rp.int .u32) I20 w' (some ⟨2, 0, none⟩) TAB2 → X [.int .i64 64, (D3.getD 1 undef), (D3.getD 2 undef), (D3.getD 3 undef), .pointer (some ⟨b4, 0, none⟩), .int .i64 0, .int .i64 0, .int .i64 x21, .pointer (some ⟨b5, 0, none⟩), .int .i64 x16, .slice A13 x22.length u13, .pointer (some ⟨b6, 0, none⟩), .bool x23, (D3.getD 13 undef), (D3.getD 14 undef), (D3.getD 15 undef), (D3.getD 16 undef), .slice (some ⟨b1, 0, none⟩) ((if 2 < (([[], x4] : List (List Int)).length : Int) then 2 else (([[], x4] : List (List Int)).length : Int)).toNat) 2, .int .i64 ((List.take ((if 2 < (([[], x4] : List (List Int)).length : Int) then 2 else (([[], x4] : List (List Int)).length : Int)).toNat) ([[], x4] : List (List Int))).length : Int), .int .i64 x16, .bool (decide (x16 < ((List.take ((if 2 < (([[], x4] : List (List Int)).length : Int) then 2 else (([[], x4] : List (List Int)).length : Int)).toNat) ([[], x4] : List (List Int))).length : Int))), .int .i64 x16, d1, .slice A14 x24.length u14, .tuple #[.agg #[.int .u64 x25, .int .i64 x26, .slice A15 x27.length u15, .slice A16 x28.length u16], .bool x29], .int .i64 64, .int .i64 x16, .slice A17 x30.length u17, .tuple #[.agg #[.int .u64 x31, .int .i64 x32, .slice A18 x33.length u18, .slice A19 x34.length u19], .bool x35], .agg #[.int .u64 x36, .int .i64 x37, .slice A20 x38.length u20, .slice A21 x39.length u21], .bool x40, .bool x41, .bool x42, .bool x43, (D3.getD 34 undef), (D3.getD 35 undef), (D3.getD 36 undef), (D3.getD 37 undef), (D3.getD 38 undef), (D3.getD 39 undef), (D3.getD 40 undef), (D3.getD 41 undef), (D3.getD 42 undef), .bool x44, (D3.getD 44 undef), (D3.getD 45 undef), (D2.getD 46 undef), undef, undef, undef, undef, undef] [] w') → X D3 ds wz) ?_ ?_
  intro X10 hX10
  refine fun D3 _ _ hJ => hJ X10 ?_
  clear s
  intro I20 x21 x22 x23 x24 x25 x26 x27 x28 x29 x30 x31 x32 x33 x34 x35 x36 x37 x38 x39 x40 x41 x42 x43 x44 x45 x46 x47 x48 x49 x50 x51 x52 b6 A13 u13 d1 A14 u14 A15 u15 A16 u16 A17 u17 A18 u18 A19 u19 A20 u20 A21 u21 A22 u22 A23 u23 A24 u24 A25 u25 w19 hf s kk hc16 e15 hc17 e16 hc18 e17 hc19 e18 hc20 e19 hc21 e20 hc22 e21 hc23 e22 hc24 e23 hc25 e24 hc26 e25 hc27 e26 hc28 e27 rp11 e3 eg2
  refine hX10 _ _ _ ?_
  unfold g9_j4 at hf
  refine WPK.region ?_
  refine RW.seg hT 2 [] [] [.int .i64 (IntKind.i64.wrap (x16 + 1)), .int .i64 (IntKind.i64.wrap (x16 + 1))] [] (by kernel_rfl) (trivial) ?_
  refine RW.nil ?_
  subst hrec1
  replace s := s.pick [1, 2, 3] 4 rfl
  exact ⟨n9, Nat.le_refl _, fun X h => kc (by kernel_rfl) rfl (h I20 x21 (IntKind.i64.wrap (x16 + 1)) x49 x50 x51 x52 A24 u24 A25 u25 _ hf s kk hc27 e26 hc28 e27 rp11 e3 eg2)⟩
  refine WPK.block ?_
  refine WPK.seq ?_
  refine WPK.region ?_
  obtain ⟨x53, hx8, hf⟩ := bindS hf
  obtain ⟨h9, hx8⟩ := getS hx8
  obtain ⟨-, cs1, hr1, ha1⟩ := St.elem s (i := 2) rfl hn9 rp11 hx8
  replace ha1 := ha1 _ rfl
  obtain ⟨A26, u26, rfl, q2, q3, e28⟩ := hr1
  have hc29 := And.intro q2 q3
  refine RW.seg hT 5 [.slice A26 x53.length u26] [] [.int .i64 x16, .pointer (some ⟨b1, 0 + x16.toNat * 1, none⟩), .slice A26 x53.length u26, .int .i64 x16, .slice A26 x53.length u26] [.idx x16 ((if 2 < (([[], x4] : List (List Int)).length : Int) then 2 else (([[], x4] : List (List Int)).length : Int)).toNat), .cell ⟨b1, 0 + x16.toNat * 1, none⟩ (.slice A26 x53.length u26)] (by kernel_rfl) (⟨(by rw [hn9]; exact h9), ha1 0 _ rfl⟩) ?_
  refine RW.nil ?_
  refine WPK.seq ?_
  refine WPK.region ?_
  refine RW.seg hT 3 [] [] [.int .i64 64, .int .i64 x16, .slice A26 x53.length u26] [] (by kernel_rfl) (trivial) ?_
  obtain ⟨x54, hx9, hf⟩ := bindS hf
  refine RW.op (by kernel_rfl) (OK.call' en30 (by kernel_rfl) (c30 (F := (.blk b5 (.cells #[.int .u64 x17, .int .i64 x18, .slice A11 x19.length u11, .slice A12 x20.length u12] 28 (0, 0))) :: (.blk b4 (.cells #[.int .u64 0, .int .i64 0, .slice none 0 0, .slice none 0 0] 28 (0, 0))) :: (.sl (.slice (some ⟨b1, 0, none⟩) ((if 2 < (([[], x4] : List (List Int)).length : Int) then 2 else (([[], x4] : List (List Int)).length : Int)).toNat) 2) 24 1 ((if 2 < (([[], x4] : List (List Int)).length : Int) then 2 else (([[], x4] : List (List Int)).length : Int)).toNat) ([.slice none 0 0, .slice A6 x4.length u6].take ((if 2 < (([[], x4] : List (List Int)).length : Int) then 2 else (([[], x4] : List (List Int)).length : Int)).toNat * 1))) :: F) 64 x16 x53 A26 u26 hc29 e28 eg2 s hx9) ?_)
  intro X11 hX11
  refine fun _ _ hJ => hJ X11 ?_
  clear s
  intro I21 A27 n10 u27 cl9 A28 u28 w20 s k24 hn10 rp12 hc30 e29
  refine hX11 _ _ ?_
  replace e28 := e28.st k24
  replace e3 := e3.st k24
  replace e13 := e13.st k24
  replace e14 := e14.st k24
  replace rp11 := rp11.st k24
  replace eg2 := eg2.st k24
  replace kk := kk.trans k24
  rw [hn10] at s
  try rw [hn10]
  obtain ⟨I22, s', k25, hc31, e30⟩ := St.give s (i := 0) rfl rfl rp12
  replace s := s'; clear s'
  replace e28 := e28.st k25
  replace e29 := e29.st k25
  replace e3 := e3.st k25
  replace e13 := e13.st k25
  replace e14 := e14.st k25
  replace rp11 := rp11.st k25
  replace eg2 := eg2.st k25
  replace kk := kk.trans k25
  refine RW.seg hT 3 [] [] [.tuple #[.agg #[.int .u64 x54.1.Epoch, .int .i64 x54.1.Pages, .slice A27 x54.1.Maps.length u27, .slice A28 x54.1.User.length u28], .bool x54.2], .agg #[.int .u64 x54.1.Epoch, .int .i64 x54.1.Pages, .slice A27 x54.1.Maps.length u27, .slice A28 x54.1.User.length u28], .bool x54.2] [] (by kernel_rfl) (trivial) ?_
  refine RW.op (by kernel_rfl) (OK.new hT (f := fun b => .pointer (some ⟨b, 0, none⟩)) (cs := [.int .u64 0, .int .i64 0, .slice none 0 0, .slice none 0 0]) (e := 28) (c := .tt) s (by kernel_rfl) trivial ?_)
  clear s
  rintro w21 b7 s k26 -
  replace e28 := e28.st k26
  replace e30 := e30.st k26
  replace e29 := e29.st k26
  replace e3 := e3.st k26
  replace e13 := e13.st k26
  replace e14 := e14.st k26
  replace rp11 := rp11.st k26
  replace eg2 := eg2.st k26
  replace kk := kk.trans k26
  refine RW.op (by kernel_rfl) (OK.store hT (i := 0) (b := b7) (off := 0) (n := 4) (vs := [.int .u64 x54.1.Epoch, .int .i64 x54.1.Pages, .slice A27 x54.1.Maps.length u27, .slice A28 x54.1.User.length u28]) (cs := [.int .u64 0, .int .i64 0, .slice none 0 0, .slice none 0 0]) (e := 28) s (by kernel_rfl) rfl rfl (flat_ok rfl) (Nat.le_of_ble_eq_true rfl) ?_)
  clear s
  rintro w22 s k27 -
  replace e28 := e28.st k27
  replace e30 := e30.st k27
  replace e29 := e29.st k27
  replace e3 := e3.st k27
  replace e13 := e13.st k27
  replace e14 := e14.st k27
  replace rp11 := rp11.st k27
  replace eg2 := eg2.st k27
  replace kk := kk.trans k27
  refine RW.seg hT 1 [] [] [.bool x54.2] [] (by kernel_rfl) (trivial) ?_
  refine RW.nil ?_
  refine WPK.seq ?_
  refine WPK.seq ?_
  refine WPK.region ?_
  refine RW.seg hT 2 [] [(32, .bool (decide (¬ (x54.2 = true))))] [.bool x54.2, .bool (decide (¬ (x54.2 = true)))] [.veq (.bool (!x54.2)) (.bool (decide (¬ (x54.2 = true))))] (by kernel_rfl) (not_b) ?_
  by_cases h10 : ¬ (x54.2 = true)
  have hf := iteT h10 hf
  refine RW.seg hT 11 [] [(33, .bool true)] [.bool true, undef, undef, undef, undef, undef, undef, undef, undef, undef, .bool true] [.veq (.bool (decide (¬ (x54.2 = true)))) (.bool true)] (by kernel_rfl) (bo_t h10) ?_
  refine RW.nil ?_
  refine WPK.condT (by kernel_rfl) ?_
  refine WPK.exit (blockQ.same ?_)
  exact fun X h => kc (by kernel_rfl) rfl (h I22 x15 x53 x54.2 x53 x54.1.Epoch x54.1.Pages x54.1.Maps x54.1.User x54.2 x53 x54.1.Epoch x54.1.Pages x54.1.Maps x54.1.User x54.2 x54.1.Epoch x54.1.Pages x54.1.Maps x54.1.User x54.2 x54.2 (decide (¬ (x54.2 = true))) true true x54.1.Epoch x54.1.Pages x54.1.Maps x54.1.User x17 x18 x19 x20 b7 A26 u26 (.pointer (some ⟨b1, 0 + x16.toNat * 1, none⟩)) A26 u26 A27 u27 A28 u28 A26 u26 A27 u27 A28 u28 A27 u27 A28 u28 A27 u27 A28 u28 A11 u11 A12 u12 _ hf s kk hc29 e28 hc29 e28 hc31 e30 hc30 e29 hc29 e28 hc31 e30 hc30 e29 hc31 e30 hc30 e29 hc31 e30 hc30 e29 hc14 e13 hc15 e14 rp11 e3 eg2)
  have hf := iteF h10 hf
  refine RW.seg hT 3 [] [(33, .bool false)] [.bool false, .int .i64 x15, .bool (decide (x15 ≥ 0))] [.veq (.bool (decide (¬ (x54.2 = true)))) (.bool false)] (by kernel_rfl) (bo_f h10) ?_
  by_cases h11 : x15 ≥ 0
  have hf := iteT h11 hf
  refine RW.seg hT 8 [.int .u64 x54.1.Epoch, .int .u64 x17] [(36, .bool true)] [.bool true, .pointer (some ⟨b7, 0, none⟩), .int .u64 x54.1.Epoch, .pointer (some ⟨b5, 0, none⟩), .int .u64 x17, .bool (decide (x54.1.Epoch ≤ x17)), .bool (decide (x54.1.Epoch ≤ x17)), .bool (decide (x54.1.Epoch ≤ x17))] [.veq (.bool (decide (x15 ≥ 0))) (.bool true), .cell ⟨b7, 0, none⟩ (.int .u64 x54.1.Epoch), .cell ⟨b5, 0, none⟩ (.int .u64 x17)] (by kernel_rfl) (⟨bo_t h11, s.cell (i := 0) (off := 0) rfl rfl, s.cell (i := 1) (off := 0) rfl rfl⟩) ?_
  refine RW.nil ?_
  by_cases h12 : x54.1.Epoch ≤ x17
  have hf := iteT h12 hf
  refine WPK.condT (Eq.trans (b := .bool (decide (x54.1.Epoch ≤ x17))) (by kernel_rfl) (bo_t h12)) ?_
  refine WPK.exit (blockQ.same ?_)
  exact fun X h => kc (by kernel_rfl) rfl (h I22 x15 x53 x54.2 x53 x54.1.Epoch x54.1.Pages x54.1.Maps x54.1.User x54.2 x53 x54.1.Epoch x54.1.Pages x54.1.Maps x54.1.User x54.2 x54.1.Epoch x54.1.Pages x54.1.Maps x54.1.User x54.2 x54.2 (decide (¬ (x54.2 = true))) false (decide (x54.1.Epoch ≤ x17)) x54.1.Epoch x54.1.Pages x54.1.Maps x54.1.User x17 x18 x19 x20 b7 A26 u26 (.pointer (some ⟨b1, 0 + x16.toNat * 1, none⟩)) A26 u26 A27 u27 A28 u28 A26 u26 A27 u27 A28 u28 A27 u27 A28 u28 A27 u27 A28 u28 A11 u11 A12 u12 _ hf s kk hc29 e28 hc29 e28 hc31 e30 hc30 e29 hc29 e28 hc31 e30 hc30 e29 hc31 e30 hc30 e29 hc31 e30 hc30 e29 hc14 e13 hc15 e14 rp11 e3 eg2)
  have hf := iteF h12 hf
  refine WPK.condF (Eq.trans (b := .bool (decide (x54.1.Epoch ≤ x17))) (by kernel_rfl) (bo_f h12)) ?_
  refine WPK.skip ?_
  refine WPK.region ?_
  refine RW.seg hT 2 [.agg #[.int .u64 x54.1.Epoch, .int .i64 x54.1.Pages, .slice A27 x54.1.Maps.length u27, .slice A28 x54.1.User.length u28]] [] [.agg #[.int .u64 x54.1.Epoch, .int .i64 x54.1.Pages, .slice A27 x54.1.Maps.length u27, .slice A28 x54.1.User.length u28], .int .i64 x16] [.cells ⟨b7, 0, none⟩ [.int .u64 x54.1.Epoch, .int .i64 x54.1.Pages, .slice A27 x54.1.Maps.length u27, .slice A28 x54.1.User.length u28] 4] (by kernel_rfl) (s.cells (i := 0) rfl rfl rfl) ?_
  refine RW.op (by kernel_rfl) (OK.store hT (i := 1) (b := b5) (off := 0) (n := 4) (vs := [.int .u64 x54.1.Epoch, .int .i64 x54.1.Pages, .slice A27 x54.1.Maps.length u27, .slice A28 x54.1.User.length u28]) (cs := [.int .u64 x17, .int .i64 x18, .slice A11 x19.length u11, .slice A12 x20.length u12]) (e := 28) s (by kernel_rfl) rfl rfl (flat_ok rfl) (Nat.le_of_ble_eq_true rfl) ?_)
  clear s
  rintro w23 s k28 -
  replace e28 := e28.st k28
  replace e30 := e30.st k28
  replace e29 := e29.st k28
  replace e3 := e3.st k28
  replace e13 := e13.st k28
  replace e14 := e14.st k28
  replace rp11 := rp11.st k28
  replace eg2 := eg2.st k28
  replace kk := kk.trans k28
  refine RW.seg hT 1 [] [] [.int .i64 x16] [] (by kernel_rfl) (trivial) ?_
  refine RW.nil ?_
  exact fun X h => kc (by kernel_rfl) rfl (h I22 x16 x53 x54.2 x53 x54.1.Epoch x54.1.Pages x54.1.Maps x54.1.User x54.2 x53 x54.1.Epoch x54.1.Pages x54.1.Maps x54.1.User x54.2 x54.1.Epoch x54.1.Pages x54.1.Maps x54.1.User x54.2 x54.2 (decide (¬ (x54.2 = true))) false (decide (x54.1.Epoch ≤ x17)) x54.1.Epoch x54.1.Pages x54.1.Maps x54.1.User x54.1.Epoch x54.1.Pages x54.1.Maps x54.1.User b7 A26 u26 (.pointer (some ⟨b1, 0 + x16.toNat * 1, none⟩)) A26 u26 A27 u27 A28 u28 A26 u26 A27 u27 A28 u28 A27 u27 A28 u28 A27 u27 A28 u28 A27 u27 A28 u28 _ hf s kk hc29 e28 hc29 e28 hc31 e30 hc30 e29 hc29 e28 hc31 e30 hc30 e29 hc31 e30 hc30 e29 hc31 e30 hc30 e29 hc31 e30 hc30 e29 rp11 e3 eg2)
  have hf := iteF h11 hf
  refine RW.seg hT 8 [] [(36, .bool false)] [.bool false, undef, undef, undef, undef, undef, .bool false, .bool false] [.veq (.bool (decide (x15 ≥ 0))) (.bool false)] (by kernel_rfl) (bo_f h11) ?_
  refine RW.nil ?_
  refine WPK.condF (by kernel_rfl) ?_
  refine WPK.skip ?_
  refine WPK.region ?_
  refine RW.seg hT 2 [.agg #[.int .u64 x54.1.Epoch, .int .i64 x54.1.Pages, .slice A27 x54.1.Maps.length u27, .slice A28 x54.1.User.length u28]] [] [.agg #[.int .u64 x54.1.Epoch, .int .i64 x54.1.Pages, .slice A27 x54.1.Maps.length u27, .slice A28 x54.1.User.length u28], .int .i64 x16] [.cells ⟨b7, 0, none⟩ [.int .u64 x54.1.Epoch, .int .i64 x54.1.Pages, .slice A27 x54.1.Maps.length u27, .slice A28 x54.1.User.length u28] 4] (by kernel_rfl) (s.cells (i := 0) rfl rfl rfl) ?_
  refine RW.op (by kernel_rfl) (OK.store hT (i := 1) (b := b5) (off := 0) (n := 4) (vs := [.int .u64 x54.1.Epoch, .int .i64 x54.1.Pages, .slice A27 x54.1.Maps.length u27, .slice A28 x54.1.User.length u28]) (cs := [.int .u64 x17, .int .i64 x18, .slice A11 x19.length u11, .slice A12 x20.length u12]) (e := 28) s (by kernel_rfl) rfl rfl (flat_ok rfl) (Nat.le_of_ble_eq_true rfl) ?_)
  clear s
  rintro w24 s k29 -
  replace e28 := e28.st k29
  replace e30 := e30.st k29
  replace e29 := e29.st k29
  replace e3 := e3.st k29
  replace e13 := e13.st k29
  replace e14 := e14.st k29
  replace rp11 := rp11.st k29
  replace eg2 := eg2.st k29
  replace kk := kk.trans k29
  refine RW.seg hT 1 [] [] [.int .i64 x16] [] (by kernel_rfl) (trivial) ?_
  refine RW.nil ?_
  exact fun X h => kc (by kernel_rfl) rfl (h I22 x16 x53 x54.2 x53 x54.1.Epoch x54.1.Pages x54.1.Maps x54.1.User x54.2 x53 x54.1.Epoch x54.1.Pages x54.1.Maps x54.1.User x54.2 x54.1.Epoch x54.1.Pages x54.1.Maps x54.1.User x54.2 x54.2 (decide (¬ (x54.2 = true))) false false x54.1.Epoch x54.1.Pages x54.1.Maps x54.1.User x54.1.Epoch x54.1.Pages x54.1.Maps x54.1.User b7 A26 u26 (.pointer (some ⟨b1, 0 + x16.toNat * 1, none⟩)) A26 u26 A27 u27 A28 u28 A26 u26 A27 u27 A28 u28 A27 u27 A28 u28 A27 u27 A28 u28 A27 u27 A28 u28 _ hf s kk hc29 e28 hc29 e28 hc31 e30 hc30 e29 hc29 e28 hc31 e30 hc30 e29 hc31 e30 hc30 e29 hc31 e30 hc30 e29 hc31 e30 hc30 e29 rp11 e3 eg2)
  have hf := iteF h8 hf
  refine WPK.condF (Eq.trans (b := .bool (decide (x16 < ((List.take ((if 2 < (([[], x4] : List (List Int)).length : Int) then 2 else (([[], x4] : List (List Int)).length : Int)).toNat) ([[], x4] : List (List Int))).length : Int)))) (by kernel_rfl) (bo_f h8)) ?_
  refine WPK.exit (blockQ.same ?_)
  refine WPK.seq ?_
  refine WPK.seq ?_
  refine WPK.region ?_
  refine RW.seg hT 2 [] [] [.int .i64 x15, .bool (decide (x15 < 0))] [] (by kernel_rfl) (trivial) ?_
  refine RW.nil ?_
  by_cases h13 : x15 < 0
  have hf := iteT h13 hf
  refine WPK.condT (Eq.trans (b := .bool (decide (x15 < 0))) (by kernel_rfl) (bo_t h13)) ?_
  refine WPK.seq ?_
  refine WPK.region ?_
  refine RW.seg hT 1 [] [] [.agg #[.int .u64 0, .int .i64 0, .slice none 0 0, .slice none 0 0]] [] (by kernel_rfl) (trivial) ?_
  refine RW.op (by kernel_rfl) (OK.store hT (i := 1) (b := b4) (off := 0) (n := 4) (vs := [.int .u64 0, .int .i64 0, .slice none 0 0, .slice none 0 0]) (cs := [.int .u64 0, .int .i64 0, .slice none 0 0, .slice none 0 0]) (e := 28) s (by kernel_rfl) rfl rfl (flat_ok rfl) (Nat.le_of_ble_eq_true rfl) ?_)
  clear s
  rintro w25 s k30 -
  replace e3 := e3.st k30
  replace e13 := e13.st k30
  replace e14 := e14.st k30
  replace rp11 := rp11.st k30
  replace eg2 := eg2.st k30
  replace kk := kk.trans k30
  refine RW.seg hT 2 [] [] [.int .i64 0, .int .i64 60] [] (by kernel_rfl) (trivial) ?_
  refine RW.nil ?_
  refine WPK.ret (?_)
  refine Fin.of (rs := [.cell 4 28, .tmp 5, .tmp 6]) hT [.agg #[.int .u64 0, .int .i64 0, .slice none 0 0, .slice none 0 0]] (.tuple #[.agg #[.int .u64 0, .int .i64 0, .slice none 0 0, .slice none 0 0], .int .i64 0, .int .i64 60]) [.cells ⟨b4, 0, none⟩ [.int .u64 0, .int .i64 0, .slice none 0 0, .slice none 0 0] 4] rfl (by kernel_rfl) (s.cells (i := 1) rfl rfl rfl) ?_
  replace s := s.pick [] 3 rfl
  exact fun X h => vc rfl (h I19 0 0 [] [] 0 60 none 0 none 0 _ hf s kk e3 nil_hc Elems.nil nil_hc Elems.nil eg2)
  have hf := iteF h13 hf
  refine WPK.condF (Eq.trans (b := .bool (decide (x15 < 0))) (by kernel_rfl) (bo_f h13)) ?_
  refine WPK.skip ?_
  refine WPK.seq ?_
  refine WPK.region ?_
  refine RW.seg hT 2 [.agg #[.int .u64 x17, .int .i64 x18, .slice A11 x19.length u11, .slice A12 x20.length u12]] [] [.agg #[.int .u64 x17, .int .i64 x18, .slice A11 x19.length u11, .slice A12 x20.length u12], .int .i64 x15] [.cells ⟨b5, 0, none⟩ [.int .u64 x17, .int .i64 x18, .slice A11 x19.length u11, .slice A12 x20.length u12] 4] (by kernel_rfl) (s.cells (i := 0) rfl rfl rfl) ?_
  refine RW.op (by kernel_rfl) (OK.store hT (i := 1) (b := b4) (off := 0) (n := 4) (vs := [.int .u64 x17, .int .i64 x18, .slice A11 x19.length u11, .slice A12 x20.length u12]) (cs := [.int .u64 0, .int .i64 0, .slice none 0 0, .slice none 0 0]) (e := 28) s (by kernel_rfl) rfl rfl (flat_ok rfl) (Nat.le_of_ble_eq_true rfl) ?_)
  clear s
  rintro w26 s k31 -
  replace e13 := e13.st k31
  replace e14 := e14.st k31
  replace e3 := e3.st k31
  replace rp11 := rp11.st k31
  replace eg2 := eg2.st k31
  replace kk := kk.trans k31
  refine RW.seg hT 2 [] [] [.int .i64 x15, .int .i64 0] [] (by kernel_rfl) (trivial) ?_
  refine RW.nil ?_
  refine WPK.ret (?_)
  refine Fin.of (rs := [.cell 4 28, .tmp 5, .tmp 6]) hT [.agg #[.int .u64 x17, .int .i64 x18, .slice A11 x19.length u11, .slice A12 x20.length u12]] (.tuple #[.agg #[.int .u64 x17, .int .i64 x18, .slice A11 x19.length u11, .slice A12 x20.length u12], .int .i64 x15, .int .i64 0]) [.cells ⟨b4, 0, none⟩ [.int .u64 x17, .int .i64 x18, .slice A11 x19.length u11, .slice A12 x20.length u12] 4] rfl (by kernel_rfl) (s.cells (i := 1) rfl rfl rfl) ?_
  replace s := s.pick [] 3 rfl
  exact fun X h => vc rfl (h I19 x17 x18 x19 x20 x15 0 A11 u11 A12 u12 _ hf s kk e3 hc14 e13 hc15 e14 eg2)
theorem c16 {w1 w : World} {M I : Nat → Prop} {F : List It} (p0 : (List T_api_Head)) (A1 : Option Addr) (u1 : Nat) (hc1 : (p0.length ≤ u1 ∧ u1 ≤ 9223372036854775807)) (e1 : Elems rp_T_api_Head I w A1 p0) (s : St w1 M I (F) w) {r : Bool} (hf : g16 p0 = some r) :
    Ret Tryd.prog 16 [.slice A1 p0.length u1] w fun v wz => ∀ X : Value → World → Prop, (∀ (I' : Nat → Prop) (w' : World), St w1 M I' (F) w' → Kp I w I' w' → X (.bool r) w') → X v wz := by
  have kk : Kp I w I w := Kp.refl
  unfold g16 at hf
  refine Ret.of Tryd.func16 rfl ?_
  refine WPK.seq ?_
  refine WPK.region ?_
  refine RW.seg hT 1 [] [] [.bool false] [] (by kernel_rfl) (trivial) ?_
  refine RW.nil ?_
  refine WPK.seq ?_
  refine WPK.seq ?_
  refine WPK.region ?_
  refine RW.seg hT 3 [] [] [.slice A1 p0.length u1, .int .i64 (p0.length : Int), .int .i64 0] [] (by kernel_rfl) (trivial) ?_
  refine RW.nil ?_
  refine WPK.block ?_
  refine WPK.loop' (J := fun n1 D1 ds wz => ∀ X : Kont, (∀ (I1 : Nat → Prop) (x1 : Int) (w' : World), g16_l1 p0 n1 x1 = some r → St w1 M I1 (F) w' → Kp I w I1 w' → Elems rp_T_api_Head I1 w' A1 p0 → X [(D1.getD 0 undef), (D1.getD 1 undef), .bool false, (D1.getD 3 undef), (D1.getD 4 undef), .slice A1 p0.length u1, .int .i64 (p0.length : Int), .int .i64 x1, (D1.getD 8 undef), (D1.getD 9 undef), (D1.getD 10 undef), (D1.getD 11 undef), (D1.getD 12 undef), (D1.getD 13 undef), (D1.getD 14 undef), (D1.getD 15 undef), (D1.getD 16 undef), (D1.getD 17 undef), (D1.getD 18 undef), (D1.getD 19 undef), (D1.getD 20 undef), (D1.getD 21 undef)] [] w') → X D1 ds wz) FUEL (fun X h => kc (by kernel_rfl) rfl (h I 0 _ hf s kk e1)) (fun _ _ _ hJ => hJ (fun _ _ _ => False) (by intro I1 x1 w2 hf s kk e1; exact noneS hf)) ?_
  intro X1 hX1
  refine fun n1 D1 _ _ hJ => hJ (X1 n1) ?_
  clear s
  intro I1 x1 w2 hf s kk e1
  refine hX1 _ _ _ _ ?_
  replace hf : g16_l1B p0 (g16_l1 p0 n1) x1 = some r := hf
  generalize hrec1 : g16_l1 p0 n1 = rec1 at hf
  unfold g16_l1B at hf
  refine WPK.seq ?_
  refine WPK.region ?_
  refine RW.seg hT 1 [] [] [.bool (decide (x1 < (p0.length : Int)))] [] (by kernel_rfl) (trivial) ?_
  refine RW.nil ?_
  refine WPK.seq ?_
  by_cases h1 : x1 < (p0.length : Int)
  have hf := iteT h1 hf
  refine WPK.condT (Eq.trans (b := .bool (decide (x1 < (p0.length : Int)))) (by kernel_rfl) (bo_t h1)) ?_
  refine WPK.skip ?_
  refine WPK.seq ?_
  refine WPK.block ?_
  refine WPK.seq ?_
  refine WPK.region ?_
  obtain ⟨x2, hx1, hf⟩ := bindS hf
  obtain ⟨h2, hx1⟩ := getS hx1
  obtain ⟨b1, o1, rfl⟩ := Elems.opn e1 hx1
  obtain ⟨cs1, hr1, ha1⟩ := Elems.get e1 hx1
  obtain ⟨cs2, cs3, rfl, hr2, hr3⟩ := hr1
  obtain rfl : cs2 = [.int .u64 x2.Epoch] := hr2
  obtain ⟨cs4, cs5, rfl, hr4, hr5⟩ := hr3
  obtain rfl : cs4 = [.int .i64 x2.Pages] := hr4
  obtain ⟨cs6, cs7, rfl, hr6, hr7⟩ := hr5
  obtain ⟨A2, u2, rfl, q1, q2, e2⟩ := hr6
  have hc2 := And.intro q1 q2
  obtain ⟨A3, u3, rfl, q3, q4, e3⟩ := hr7
  have hc3 := And.intro q3 q4
  refine RW.seg hT 2 [.agg #[.int .u64 x2.Epoch, .int .i64 x2.Pages, .slice A2 x2.Maps.length u2, .slice A3 x2.User.length u3]] [] [.pointer (some ⟨b1, o1 + x1.toNat * 4, none⟩), .agg #[.int .u64 x2.Epoch, .int .i64 x2.Pages, .slice A2 x2.Maps.length u2, .slice A3 x2.User.length u3]] [.idx x1 p0.length, .cells ⟨b1, o1 + x1.toNat * 4, none⟩ [.int .u64 x2.Epoch, .int .i64 x2.Pages, .slice A2 x2.Maps.length u2, .slice A3 x2.User.length u3] 4] (by kernel_rfl) (⟨h2, at_cells ha1 (off := 0) rfl rfl⟩) ?_
  refine RW.op (by kernel_rfl) (OK.new hT (f := fun b => .pointer (some ⟨b, 0, none⟩)) (cs := [.int .u64 0, .int .i64 0, .slice none 0 0, .slice none 0 0]) (e := 28) (c := .tt) s (by kernel_rfl) trivial ?_)
  clear s
  rintro w3 b2 s k1 -
  replace e1 := e1.st k1
  replace e2 := e2.st k1
  replace e3 := e3.st k1
  replace kk := kk.trans k1
  refine RW.op (by kernel_rfl) (OK.store hT (i := 0) (b := b2) (off := 0) (n := 4) (vs := [.int .u64 x2.Epoch, .int .i64 x2.Pages, .slice A2 x2.Maps.length u2, .slice A3 x2.User.length u3]) (cs := [.int .u64 0, .int .i64 0, .slice none 0 0, .slice none 0 0]) (e := 28) s (by kernel_rfl) rfl rfl (flat_ok rfl) (Nat.le_of_ble_eq_true rfl) ?_)
  clear s
  rintro w4 s k2 -
  replace e1 := e1.st k2
  replace e2 := e2.st k2
  replace e3 := e3.st k2
  replace kk := kk.trans k2
  refine RW.nil ?_
  refine WPK.seq ?_
  refine WPK.region ?_
  refine RW.seg hT 4 [.slice A2 x2.Maps.length u2] [] [.pointer (some ⟨b2, 2, none⟩), .slice A2 x2.Maps.length u2, .int .i64 (x2.Maps.length : Int), .bool (decide ((x2.Maps.length : Int) > 100))] [.cell ⟨b2, 2, none⟩ (.slice A2 x2.Maps.length u2)] (by kernel_rfl) (s.cell (i := 0) (off := 2) rfl rfl) ?_
  by_cases h3 : (x2.Maps.length : Int) > 100
  have hf := iteT h3 hf
  refine RW.seg hT 6 [] [(15, .bool true)] [.bool true, undef, undef, undef, undef, .bool true] [.veq (.bool (decide ((x2.Maps.length : Int) > 100))) (.bool true)] (by kernel_rfl) (bo_t h3) ?_
  refine RW.nil ?_
  refine WPK.condT (by kernel_rfl) ?_
  refine WPK.seq ?_
  refine WPK.region ?_
  refine RW.seg hT 1 [] [] [.bool false] [] (by kernel_rfl) (trivial) ?_
  refine RW.nil ?_
  refine WPK.ret (blockQ.ret (blockQ.ret (?_)))
  obtain rfl := someS hf
  refine Fin.of (rs := [.tmp 2]) hT [] (.bool false) [] rfl (by kernel_rfl) (trivial) ?_
  replace s := s.pick [] 1 rfl
  exact fun X h => vc rfl (h I1 _ s kk)
  have hf := iteF h3 hf
  refine RW.seg hT 6 [.slice A3 x2.User.length u3] [(15, .bool false)] [.bool false, .pointer (some ⟨b2, 3, none⟩), .slice A3 x2.User.length u3, .int .i64 (x2.User.length : Int), .bool (decide ((x2.User.length : Int) > 3000)), .bool (decide ((x2.User.length : Int) > 3000))] [.veq (.bool (decide ((x2.Maps.length : Int) > 100))) (.bool false), .cell ⟨b2, 3, none⟩ (.slice A3 x2.User.length u3)] (by kernel_rfl) (⟨bo_f h3, s.cell (i := 0) (off := 3) rfl rfl⟩) ?_
  refine RW.nil ?_
  by_cases h4 : (x2.User.length : Int) > 3000
  have hf := iteT h4 hf
  refine WPK.condT (Eq.trans (b := .bool (decide ((x2.User.length : Int) > 3000))) (by kernel_rfl) (bo_t h4)) ?_
  refine WPK.seq ?_
  refine WPK.region ?_
  refine RW.seg hT 1 [] [] [.bool false] [] (by kernel_rfl) (trivial) ?_
  refine RW.nil ?_
  refine WPK.ret (blockQ.ret (blockQ.ret (?_)))
  obtain rfl := someS hf
  refine Fin.of (rs := [.tmp 2]) hT [] (.bool false) [] rfl (by kernel_rfl) (trivial) ?_
  replace s := s.pick [] 1 rfl
  exact fun X h => vc rfl (h I1 _ s kk)
  have hf := iteF h4 hf
  refine WPK.condF (Eq.trans (b := .bool (decide ((x2.User.length : Int) > 3000))) (by kernel_rfl) (bo_f h4)) ?_
  refine WPK.skip ?_
  refine WPK.region ?_
  refine RW.seg hT 2 [] [] [.int .i64 (IntKind.i64.wrap (x1 + 1)), .int .i64 (IntKind.i64.wrap (x1 + 1))] [] (by kernel_rfl) (trivial) ?_
  refine RW.nil ?_
  subst hrec1
  replace s := s.pick [] 1 rfl
  exact ⟨n1, Nat.le_refl _, fun X h => kc (by kernel_rfl) rfl (h I1 (IntKind.i64.wrap (x1 + 1)) _ hf s kk e1)⟩
  have hf := iteF h1 hf
  refine WPK.condF (Eq.trans (b := .bool (decide (x1 < (p0.length : Int)))) (by kernel_rfl) (bo_f h1)) ?_
  refine WPK.exit (blockQ.same ?_)
  refine WPK.seq ?_
  refine WPK.region ?_
  refine RW.seg hT 1 [] [] [.bool true] [] (by kernel_rfl) (trivial) ?_
  refine RW.nil ?_
  refine WPK.ret (?_)
  obtain rfl := someS hf
  refine Fin.of (rs := [.tmp 2]) hT [] (.bool true) [] rfl (by kernel_rfl) (trivial) ?_
  exact fun X h => vc rfl (h I1 _ s kk)
theorem c44 {w1 w : World} {M I : Nat → Prop} {F : List It} (p0 : (List Int)) (p1 : (List Int)) (A1 : Option Addr) (u1 : Nat) (A2 : Option Addr) (u2 : Nat) (hc1 : (p0.length ≤ u1 ∧ u1 ≤ 9223372036854775807)) (e1 : Elems (Rp.int .i64) I w A1 p0) (hc2 : (p1.length ≤ u2 ∧ u2 ≤ 9223372036854775807)) (e2 : Elems (Rp.int .i64) I w A2 p1) (s : St w1 M I (F) w) {r : Bool} (hf : g44 p0 p1 = some r) :
    Ret Tryd.prog 44 [.slice A1 p0.length u1, .slice A2 p1.length u2] w fun v wz => ∀ X : Value → World → Prop, (∀ (I' : Nat → Prop) (w' : World), St w1 M I' (F) w' → Kp I w I' w' → X (.bool r) w') → X v wz := by
  have kk : Kp I w I w := Kp.refl
  unfold g44 at hf
  refine Ret.of Tryd.func44 rfl ?_
  refine WPK.seq ?_
  refine WPK.region ?_
  refine RW.seg hT 1 [] [] [.bool false] [] (by kernel_rfl) (trivial) ?_
  refine RW.nil ?_
  refine WPK.seq ?_
  refine WPK.seq ?_
  refine WPK.region ?_
  refine RW.seg hT 5 [] [(10, .bool (decide ((p0.length : Int) ≠ (p1.length : Int))))] [.slice A1 p0.length u1, .int .i64 (p0.length : Int), .slice A2 p1.length u2, .int .i64 (p1.length : Int), .bool (decide ((p0.length : Int) ≠ (p1.length : Int)))] [.veq (.bool ((p0.length : Int) != (p1.length : Int))) (.bool (decide ((p0.length : Int) ≠ (p1.length : Int))))] (by kernel_rfl) (ne_v) ?_
  refine RW.nil ?_
  by_cases h1 : (p0.length : Int) ≠ (p1.length : Int)
  have hf := iteT h1 hf
  refine WPK.condT (Eq.trans (b := .bool (decide ((p0.length : Int) ≠ (p1.length : Int)))) (by kernel_rfl) (bo_t h1)) ?_
  refine WPK.seq ?_
  refine WPK.region ?_
  refine RW.seg hT 1 [] [] [.bool false] [] (by kernel_rfl) (trivial) ?_
  refine RW.nil ?_
  refine WPK.ret (?_)
  obtain rfl := someS hf
  refine Fin.of (rs := [.tmp 4]) hT [] (.bool false) [] rfl (by kernel_rfl) (trivial) ?_
  exact fun X h => vc rfl (h I _ s kk)
  have hf := iteF h1 hf
  refine WPK.condF (Eq.trans (b := .bool (decide ((p0.length : Int) ≠ (p1.length : Int)))) (by kernel_rfl) (bo_f h1)) ?_
  refine WPK.skip ?_
  refine WPK.seq ?_
  refine WPK.seq ?_
  refine WPK.region ?_
  refine RW.seg hT 3 [] [] [.slice A1 p0.length u1, .int .i64 (p0.length : Int), .int .i64 0] [] (by kernel_rfl) (trivial) ?_
  refine RW.nil ?_
  refine WPK.block ?_
  refine WPK.loop' (J := fun n1 D1 ds wz => ∀ X : Kont, (∀ (I1 : Nat → Prop) (x1 : Int) (w' : World), g44_l1 p0 p1 n1 x1 = some r → St w1 M I1 (F) w' → Kp I w I1 w' → Elems (Rp.int .i64) I1 w' A1 p0 → Elems (Rp.int .i64) I1 w' A2 p1 → X [.slice A1 p0.length u1, .slice A2 p1.length u2, (D1.getD 2 undef), (D1.getD 3 undef), .bool false, (D1.getD 5 undef), (D1.getD 6 undef), (D1.getD 7 undef), (D1.getD 8 undef), (D1.getD 9 undef), (D1.getD 10 undef), (D1.getD 11 undef), .int .i64 (p0.length : Int), .int .i64 x1, (D1.getD 14 undef), (D1.getD 15 undef), (D1.getD 16 undef), (D1.getD 17 undef), (D1.getD 18 undef), (D1.getD 19 undef), (D1.getD 20 undef), (D1.getD 21 undef), (D1.getD 22 undef), (D1.getD 23 undef), (D1.getD 24 undef), (D1.getD 25 undef)] [] w') → X D1 ds wz) FUEL (fun X h => kc (by kernel_rfl) rfl (h I 0 _ hf s kk e1 e2)) (fun _ _ _ hJ => hJ (fun _ _ _ => False) (by intro I1 x1 w2 hf s kk e1 e2; exact noneS hf)) ?_
  intro X1 hX1
  refine fun n1 D1 _ _ hJ => hJ (X1 n1) ?_
  clear s
  intro I1 x1 w2 hf s kk e1 e2
  refine hX1 _ _ _ _ ?_
  replace hf : g44_l1B p0 p1 (g44_l1 p0 p1 n1) x1 = some r := hf
  generalize hrec1 : g44_l1 p0 p1 n1 = rec1 at hf
  unfold g44_l1B at hf
  refine WPK.seq ?_
  refine WPK.region ?_
  refine RW.seg hT 1 [] [] [.bool (decide (x1 < (p0.length : Int)))] [] (by kernel_rfl) (trivial) ?_
  refine RW.nil ?_
  refine WPK.seq ?_
  by_cases h2 : x1 < (p0.length : Int)
  have hf := iteT h2 hf
  refine WPK.condT (Eq.trans (b := .bool (decide (x1 < (p0.length : Int)))) (by kernel_rfl) (bo_t h2)) ?_
  refine WPK.skip ?_
  refine WPK.seq ?_
  refine WPK.block ?_
  refine WPK.seq ?_
  refine WPK.region ?_
  refine RW.seg hT 2 [] [] [.int .i64 x1, .int .i64 x1] [] (by kernel_rfl) (trivial) ?_
  refine RW.nil ?_
  refine WPK.seq ?_
  have e1S1 := e1
  have e2S1 := e2
  have kS1 : Kp I1 w2 I1 w2 := Kp.refl
  refine WPK.drawM (fun w' => ∃ I' : Nat → Prop, St w1 M I' (F) w' ∧ Kp I1 w2 I' w') 9 [0, 0, 3, 7, 0, 0, 48, 112, 255] (by kernel_rfl) (by kernel_rfl) ?_
  intro ht1 w3 hd1
  have k1 := Kp.dr s hd1
  replace s := s.dr hd1
  replace e1 := e1.st k1
  replace e2 := e2.st k1
  replace kk := kk.trans k1
  replace kS1 := kS1.trans k1
  obtain ⟨x2, hx1, hf⟩ := bindS hf
  obtain ⟨h3, hx1⟩ := getS hx1
  obtain ⟨b1, o1, rfl⟩ := Elems.opn e1 hx1
  obtain ⟨cs1, hr1, ha1, hb1⟩ := Elems.getI e1S1 hx1
  obtain rfl : cs1 = [.int .i64 x2] := hr1
  obtain ⟨x3, hx2, hf⟩ := bindS hf
  obtain ⟨h4, hx2⟩ := getS hx2
  obtain ⟨b2, o2, rfl⟩ := Elems.opn e2 hx2
  obtain ⟨cs2, hr2, ha2, hb2⟩ := Elems.getI e2S1 hx2
  obtain rfl : cs2 = [.int .i64 x3] := hr2
  refine RD.segM hT ht1 (by kernel_rfl) [0, 1, 2, 3, 4, 5, 6, 7, 8] [.int .i64 x2, .int .i64 x3] [(24, .bool (decide (x2 ≠ x3)))] [.slice (some ⟨b1, o1, none⟩) p0.length u1, .int .i64 x1, .pointer (some ⟨b1, o1 + x1.toNat * 1, none⟩), .int .i64 x2, .slice (some ⟨b2, o2, none⟩) p1.length u2, .int .i64 x1, .pointer (some ⟨b2, o2 + x1.toNat * 1, none⟩), .int .i64 x3, .bool (decide (x2 ≠ x3))] [.idx x1 p0.length, .cell ⟨b1, o1 + x1.toNat * 1, none⟩ (.int .i64 x2), .idx x1 p1.length, .cell ⟨b2, o2 + x1.toNat * 1, none⟩ (.int .i64 x3), .veq (.bool (x2 != x3)) (.bool (decide (x2 ≠ x3)))] (by kernel_rfl) (by rintro w' ⟨I', s, k⟩; have e1 := e1S1.st k; have e2 := e2S1.st k; have ha1 := ha1.st k hb1; have ha2 := ha2.st k hb2; exact ⟨h3, ha1 0 _ rfl, h4, ha2 0 _ rfl, ne_v⟩) ⟨_, s.pick [] 0 rfl, kS1⟩ ?_
  refine RD.done (by kernel_rfl) ?_
  by_cases h5 : x2 ≠ x3
  have hf := iteT h5 hf
  refine WPK.condT (Eq.trans (b := .bool (decide (x2 ≠ x3))) (by kernel_rfl) (bo_t h5)) ?_
  refine WPK.seq ?_
  refine WPK.region ?_
  refine RW.seg hT 1 [] [] [.bool false] [] (by kernel_rfl) (trivial) ?_
  refine RW.nil ?_
  refine WPK.ret (blockQ.ret (blockQ.ret (?_)))
  obtain rfl := someS hf
  refine Fin.of (rs := [.tmp 4]) hT [] (.bool false) [] rfl (by kernel_rfl) (trivial) ?_
  exact fun X h => vc rfl (h I1 _ s kk)
  have hf := iteF h5 hf
  refine WPK.condF (Eq.trans (b := .bool (decide (x2 ≠ x3))) (by kernel_rfl) (bo_f h5)) ?_
  refine WPK.skip ?_
  refine WPK.region ?_
  refine RW.seg hT 2 [] [] [.int .i64 (IntKind.i64.wrap (x1 + 1)), .int .i64 (IntKind.i64.wrap (x1 + 1))] [] (by kernel_rfl) (trivial) ?_
  refine RW.nil ?_
  subst hrec1
  exact ⟨n1, Nat.le_refl _, fun X h => kc (by kernel_rfl) rfl (h I1 (IntKind.i64.wrap (x1 + 1)) _ hf s kk e1 e2)⟩
  have hf := iteF h2 hf
  refine WPK.condF (Eq.trans (b := .bool (decide (x1 < (p0.length : Int)))) (by kernel_rfl) (bo_f h2)) ?_
  refine WPK.exit (blockQ.same ?_)
  refine WPK.seq ?_
  refine WPK.region ?_
  refine RW.seg hT 1 [] [] [.bool true] [] (by kernel_rfl) (trivial) ?_
  refine RW.nil ?_
  refine WPK.ret (?_)
  obtain rfl := someS hf
  refine Fin.of (rs := [.tmp 4]) hT [] (.bool true) [] rfl (by kernel_rfl) (trivial) ?_
  exact fun X h => vc rfl (h I1 _ s kk)
theorem c23 {w1 w : World} {M I : Nat → Prop} {F : List It} (p0 : T_api_Head) (p1 : T_api_Head) (A1 : Option Addr) (u1 : Nat) (A2 : Option Addr) (u2 : Nat) (A3 : Option Addr) (u3 : Nat) (A4 : Option Addr) (u4 : Nat) (hc1 : (p0.Maps.length ≤ u1 ∧ u1 ≤ 9223372036854775807)) (e1 : Elems (Rp.int .i64) I w A1 p0.Maps) (hc2 : (p0.User.length ≤ u2 ∧ u2 ≤ 9223372036854775807)) (e2 : Elems (Rp.int .u8) I w A2 p0.User) (hc3 : (p1.Maps.length ≤ u3 ∧ u3 ≤ 9223372036854775807)) (e3 : Elems (Rp.int .i64) I w A3 p1.Maps) (hc4 : (p1.User.length ≤ u4 ∧ u4 ≤ 9223372036854775807)) (e4 : Elems (Rp.int .u8) I w A4 p1.User) (s : St w1 M I (F) w) {r : Bool} (hf : g23 p0 p1 = some r) :
    Ret Tryd.prog 23 [.agg #[.int .u64 p0.Epoch, .int .i64 p0.Pages, .slice A1 p0.Maps.length u1, .slice A2 p0.User.length u2], .agg #[.int .u64 p1.Epoch, .int .i64 p1.Pages, .slice A3 p1.Maps.length u3, .slice A4 p1.User.length u4]] w fun v wz => ∀ X : Value → World → Prop, (∀ (I' : Nat → Prop) (w' : World), St w1 M I' (F) w' → Kp I w I' w' → X (.bool r) w') → X v wz := by
  have kk : Kp I w I w := Kp.refl
  unfold g23 at hf
  refine Ret.of Tryd.func23 rfl ?_
  refine WPK.seq ?_
  refine WPK.region ?_
  refine RW.op (by kernel_rfl) (OK.new hT (f := fun b => .pointer (some ⟨b, 0, none⟩)) (cs := [.int .u64 p0.Epoch, .int .i64 p0.Pages, .slice A1 p0.Maps.length u1, .slice A2 p0.User.length u2]) (e := 28) (c := .tt) s (by kernel_rfl) trivial ?_)
  clear s
  rintro w2 b1 s k1 -
  replace e1 := e1.st k1
  replace e2 := e2.st k1
  replace e3 := e3.st k1
  replace e4 := e4.st k1
  replace kk := kk.trans k1
  refine RW.op (by kernel_rfl) (OK.new hT (f := fun b => .pointer (some ⟨b, 0, none⟩)) (cs := [.int .u64 p1.Epoch, .int .i64 p1.Pages, .slice A3 p1.Maps.length u3, .slice A4 p1.User.length u4]) (e := 28) (c := .tt) s (by kernel_rfl) trivial ?_)
  clear s
  rintro w3 b2 s k2 -
  replace e1 := e1.st k2
  replace e2 := e2.st k2
  replace e3 := e3.st k2
  replace e4 := e4.st k2
  replace kk := kk.trans k2
  refine RW.seg hT 1 [] [] [.bool false] [] (by kernel_rfl) (trivial) ?_
  refine RW.nil ?_
  refine WPK.seq ?_
  refine WPK.cut' (Kn fun D1 ds wz => ∀ X : Kont, (∀ (I1 : Nat → Prop) (x1 : Bool) (w' : World), g23_j1 x1 = some r → St w1 M I1 (F) w' → Kp I w I1 w' → X [(D1.getD 0 undef), (D1.getD 1 undef), (D1.getD 2 undef), (D1.getD 3 undef), .bool x1, (D1.getD 5 undef), (D1.getD 6 undef), (D1.getD 7 undef), (D1.getD 8 undef), (D1.getD 9 undef), (D1.getD 10 undef), (D1.getD 11 undef), (D1.getD 12 undef), (D1.getD 13 undef), (D1.getD 14 undef), (D1.getD 15 undef), (D1.getD 16 undef), (D1.getD 17 undef), (D1.getD 18 undef), (D1.getD 19 undef), (D1.getD 20 undef), (D1.getD 21 undef), (D1.getD 22 undef), (D1.getD 23 undef), (D1.getD 24 undef), (D1.getD 25 undef), (D1.getD 26 undef), (D1.getD 27 undef), (D1.getD 28 undef), (D1.getD 29 undef), (D1.getD 30 undef)] [] w') → X D1 ds wz) ?_ ?_
  intro X1 hX1
  refine fun D1 _ _ hJ => hJ X1 ?_
  clear s
  intro I1 x1 w4 hf s kk
  refine hX1 _ _ _ ?_
  unfold g23_j1 at hf
  refine WPK.ret (?_)
  obtain rfl := someS hf
  refine Fin.of (rs := [.tmp 4]) hT [] (.bool x1) [] rfl (by kernel_rfl) (trivial) ?_
  exact fun X h => vc rfl (h I1 _ s kk)
  refine WPK.region ?_
  refine RW.seg hT 5 [.int .u64 p0.Epoch, .int .u64 p1.Epoch] [(9, .bool (decide (p0.Epoch = p1.Epoch)))] [.pointer (some ⟨b1, 0, none⟩), .int .u64 p0.Epoch, .pointer (some ⟨b2, 0, none⟩), .int .u64 p1.Epoch, .bool (decide (p0.Epoch = p1.Epoch))] [.cell ⟨b1, 0, none⟩ (.int .u64 p0.Epoch), .cell ⟨b2, 0, none⟩ (.int .u64 p1.Epoch), .veq (.bool (p0.Epoch == p1.Epoch)) (.bool (decide (p0.Epoch = p1.Epoch)))] (by kernel_rfl) (⟨s.cell (i := 1) (off := 0) rfl rfl, s.cell (i := 0) (off := 0) rfl rfl, eq_v⟩) ?_
  by_cases h1 : p0.Epoch = p1.Epoch
  have hf := iteT h1 hf
  refine RW.seg hT 7 [.int .i64 p0.Pages, .int .i64 p1.Pages] [(10, .bool true), (15, .bool (decide (p0.Pages = p1.Pages)))] [.bool true, .pointer (some ⟨b1, 1, none⟩), .int .i64 p0.Pages, .pointer (some ⟨b2, 1, none⟩), .int .i64 p1.Pages, .bool (decide (p0.Pages = p1.Pages)), .bool (decide (p0.Pages = p1.Pages))] [.veq (.bool (decide (p0.Epoch = p1.Epoch))) (.bool true), .cell ⟨b1, 1, none⟩ (.int .i64 p0.Pages), .cell ⟨b2, 1, none⟩ (.int .i64 p1.Pages), .veq (.bool (p0.Pages == p1.Pages)) (.bool (decide (p0.Pages = p1.Pages)))] (by kernel_rfl) (⟨bo_t h1, s.cell (i := 1) (off := 1) rfl rfl, s.cell (i := 0) (off := 1) rfl rfl, eq_v⟩) ?_
  by_cases h2 : p0.Pages = p1.Pages
  have hf := iteT h2 hf
  refine RW.seg hT 5 [.slice A1 p0.Maps.length u1, .slice A3 p1.Maps.length u3] [(17, .bool true)] [.bool true, .pointer (some ⟨b1, 2, none⟩), .slice A1 p0.Maps.length u1, .pointer (some ⟨b2, 2, none⟩), .slice A3 p1.Maps.length u3] [.veq (.bool (decide (p0.Pages = p1.Pages))) (.bool true), .cell ⟨b1, 2, none⟩ (.slice A1 p0.Maps.length u1), .cell ⟨b2, 2, none⟩ (.slice A3 p1.Maps.length u3)] (by kernel_rfl) (⟨bo_t h2, s.cell (i := 1) (off := 2) rfl rfl, s.cell (i := 0) (off := 2) rfl rfl⟩) ?_
  obtain ⟨x2, hx1, hf⟩ := bindS hf
  refine RW.op (by kernel_rfl) (OK.call' en44 (by kernel_rfl) (c44 (F := (.blk b2 (.cells #[.int .u64 p1.Epoch, .int .i64 p1.Pages, .slice A3 p1.Maps.length u3, .slice A4 p1.User.length u4] 28 (0, 0))) :: (.blk b1 (.cells #[.int .u64 p0.Epoch, .int .i64 p0.Pages, .slice A1 p0.Maps.length u1, .slice A2 p0.User.length u2] 28 (0, 0))) :: F) p0.Maps p1.Maps A1 u1 A3 u3 hc1 e1 hc3 e3 s hx1) ?_)
  intro X2 hX2
  refine fun _ _ hJ => hJ X2 ?_
  clear s
  intro I2 w5 s k3
  refine hX2 _ _ ?_
  replace e1 := e1.st k3
  replace e2 := e2.st k3
  replace e3 := e3.st k3
  replace e4 := e4.st k3
  replace kk := kk.trans k3
  refine RW.seg hT 1 [] [] [.bool x2] [] (by kernel_rfl) (trivial) ?_
  by_cases h3 : x2 = true
  have hf := iteT h3 hf
  refine RW.seg hT 5 [.slice A2 p0.User.length u2, .slice A4 p1.User.length u4] [(24, .bool true)] [.bool true, .pointer (some ⟨b1, 3, none⟩), .slice A2 p0.User.length u2, .pointer (some ⟨b2, 3, none⟩), .slice A4 p1.User.length u4] [.veq (.bool (x2)) (.bool true), .cell ⟨b1, 3, none⟩ (.slice A2 p0.User.length u2), .cell ⟨b2, 3, none⟩ (.slice A4 p1.User.length u4)] (by kernel_rfl) (⟨b_t h3, s.cell (i := 1) (off := 3) rfl rfl, s.cell (i := 0) (off := 3) rfl rfl⟩) ?_
  obtain ⟨x3, hx2, hf⟩ := bindS hf
  refine RW.op (by kernel_rfl) (OK.call' en24 (by kernel_rfl) (c24 (F := (.blk b2 (.cells #[.int .u64 p1.Epoch, .int .i64 p1.Pages, .slice A3 p1.Maps.length u3, .slice A4 p1.User.length u4] 28 (0, 0))) :: (.blk b1 (.cells #[.int .u64 p0.Epoch, .int .i64 p0.Pages, .slice A1 p0.Maps.length u1, .slice A2 p0.User.length u2] 28 (0, 0))) :: F) p0.User p1.User A2 u2 A4 u4 hc2 e2 hc4 e4 s hx2) ?_)
  intro X3 hX3
  refine fun _ _ hJ => hJ X3 ?_
  clear s
  intro I3 w6 s k4
  refine hX3 _ _ ?_
  replace e1 := e1.st k4
  replace e2 := e2.st k4
  replace e3 := e3.st k4
  replace e4 := e4.st k4
  replace kk := kk.trans k4
  refine RW.seg hT 2 [] [] [.bool x3, .bool x3] [] (by kernel_rfl) (trivial) ?_
  refine RW.nil ?_
  replace s := s.pick [] 2 rfl
  exact fun X h => kc (by kernel_rfl) rfl (h I3 x3 _ hf s kk)
  have hf := iteF h3 hf
  refine RW.seg hT 8 [] [(24, .bool false)] [.bool false, undef, undef, undef, undef, undef, .bool false, .bool false] [.veq (.bool (x2)) (.bool false)] (by kernel_rfl) (b_f h3) ?_
  refine RW.nil ?_
  replace s := s.pick [] 2 rfl
  exact fun X h => kc (by kernel_rfl) rfl (h I2 false _ hf s kk)
  have hf := iteF h2 hf
  refine RW.seg hT 15 [] [(17, .bool false)] [.bool false, undef, undef, undef, undef, undef, .bool false, .bool false, undef, undef, undef, undef, undef, .bool false, .bool false] [.veq (.bool (decide (p0.Pages = p1.Pages))) (.bool false)] (by kernel_rfl) (bo_f h2) ?_
  refine RW.nil ?_
  replace s := s.pick [] 2 rfl
  exact fun X h => kc (by kernel_rfl) rfl (h I false _ hf s kk)
  have hf := iteF h1 hf
  refine RW.seg hT 22 [] [(10, .bool false)] [.bool false, undef, undef, undef, undef, undef, .bool false, .bool false, undef, undef, undef, undef, undef, .bool false, .bool false, undef, undef, undef, undef, undef, .bool false, .bool false] [.veq (.bool (decide (p0.Epoch = p1.Epoch))) (.bool false)] (by kernel_rfl) (bo_f h1) ?_
  refine RW.nil ?_
  replace s := s.pick [] 2 rfl
  exact fun X h => kc (by kernel_rfl) rfl (h I false _ hf s kk)
end Go.Proofs.YtclnddebhjjpfaaDoor
