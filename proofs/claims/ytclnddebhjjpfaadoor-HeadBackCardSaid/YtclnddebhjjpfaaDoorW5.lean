/- PRINTED BY sy.py: each call computes what the plain function of its number tells. -/
import Derived.Test.YtclnddebhjjpfaaDoorW4
namespace Go.Proofs.YtclnddebhjjpfaaDoor
open Go Go.SX Go.RowKit
set_option maxRecDepth 100000
set_option linter.unusedVariables false
attribute [local irreducible] WPK RW RD Ret SX.Fin SX.Any opK RoundBeg RoundEnd RangeEnd Rounds
theorem c6 {w1 w : World} {M I : Nat → Prop} {F : List It} (p0 : T_api_Head) (p1 : Int) (p2 : (List Int)) (A1 : Option Addr) (u1 : Nat) (A2 : Option Addr) (u2 : Nat) (A3 : Option Addr) (u3 : Nat) (hc1 : (p0.Maps.length ≤ u1 ∧ u1 ≤ 9223372036854775807)) (e1 : Elems (Rp.int .i64) I w A1 p0.Maps) (hc2 : (p0.User.length ≤ u2 ∧ u2 ≤ 9223372036854775807)) (e2 : Elems (Rp.int .u8) I w A2 p0.User) (hc3 : (p2.length ≤ u3 ∧ u3 ≤ 9223372036854775807)) (e3 : Elems (Rp.int .u8) I w A3 p2) (eg2 : Elems (Rp.int .u32) I w (some ⟨2, 0, none⟩) TAB2) (s : St w1 M I (F) w) {r : Bool} (hf : g6 p0 p1 p2 = some r) :
    Ret Tryd.prog 6 [.agg #[.int .u64 p0.Epoch, .int .i64 p0.Pages, .slice A1 p0.Maps.length u1, .slice A2 p0.User.length u2], .int .u64 p1, .slice A3 p2.length u3] w fun v wz => ∀ X : Value → World → Prop, (∀ (I' : Nat → Prop) (w' : World), St w1 M I' (F) w' → Kp I w I' w' → X (.bool r) w') → X v wz := by
  have kk : Kp I w I w := Kp.refl
  unfold g6 at hf
  refine Ret.of Tryd.func6 rfl ?_
  refine WPK.seq ?_
  refine WPK.region ?_
  refine RW.op (by kernel_rfl) (OK.new hT (f := fun b => .pointer (some ⟨b, 0, none⟩)) (cs := [.int .u64 p0.Epoch, .int .i64 p0.Pages, .slice A1 p0.Maps.length u1, .slice A2 p0.User.length u2]) (e := 28) (c := .tt) s (by kernel_rfl) trivial ?_)
  clear s
  rintro w2 b1 s k1 -
  replace e1 := e1.st k1
  replace e2 := e2.st k1
  replace e3 := e3.st k1
  replace eg2 := eg2.st k1
  replace kk := kk.trans k1
  refine RW.seg hT 1 [] [] [.bool false] [] (by kernel_rfl) (trivial) ?_
  refine RW.nil ?_
  refine WPK.seq ?_
  refine WPK.seq ?_
  refine WPK.cut' (Kn fun D1 ds wz => ∀ X : Kont, (∀ (I1 : Nat → Prop) (x1 : Bool) (w' : World), g6_j1 p0 p1 p2 x1 = some r → St w1 M I1 ((.blk b1 (.cells #[.int .u64 p0.Epoch, .int .i64 p0.Pages, .slice A1 p0.Maps.length u1, .slice A2 p0.User.length u2] 28 (0, 0))) :: F) w' → Kp I w I1 w' → Elems (Rp.int .u8) I1 w' A3 p2 → Elems (Rp.int .i64) I1 w' A1 p0.Maps → Elems (Rp.int .u8) I1 w' A2 p0.User → Elems (Rp.int .u32) I1 w' (some ⟨2, 0, none⟩) TAB2 → X [(D1.getD 0 undef), .int .u64 p1, .slice A3 p2.length u3, .pointer (some ⟨b1, 0, none⟩), (D1.getD 4 undef), (D1.getD 5 undef), .bool false, undef, undef, undef, undef, undef, undef, undef, undef, undef, undef, undef, (D1.getD 18 undef), (D1.getD 19 undef), (D1.getD 20 undef), (D1.getD 21 undef), (D1.getD 22 undef), (D1.getD 23 undef), (D1.getD 24 undef), (D1.getD 25 undef), (D1.getD 26 undef), (D1.getD 27 undef), (D1.getD 28 undef), (D1.getD 29 undef), .bool x1, undef, undef, undef, undef, undef, undef, undef, undef, undef, undef, undef, undef, undef, undef, undef, undef, undef, undef, undef, undef, undef, undef, undef, undef, undef, undef, undef, undef, undef, undef, undef, undef, undef, undef, undef, undef, undef, undef, undef, undef, undef, undef, undef, undef, undef, undef, undef, undef, undef, undef, undef, undef, undef, undef, undef, undef, undef, undef, undef, undef, undef, undef, undef, undef, undef, undef, undef, undef, undef, undef, undef, undef, undef, undef, undef, undef, undef, undef, undef, undef, undef] [] w') → X D1 ds wz) ?_ ?_
  intro X1 hX1
  refine fun D1 _ _ hJ => hJ X1 ?_
  clear s
  intro I1 x1 w3 hf s kk e3 e1 e2 eg2
  refine hX1 _ _ _ ?_
  unfold g6_j1 at hf
  by_cases h1 : x1 = true
  have hf := iteT h1 hf
  refine WPK.condT (Eq.trans (b := .bool x1) (by kernel_rfl) (b_t h1)) ?_
  refine WPK.seq ?_
  refine WPK.region ?_
  obtain ⟨x2, hx1, hf⟩ := bindS hf
  refine RW.op (by kernel_rfl) (OK.call' en9 (by kernel_rfl) (c9 (F := (.blk b1 (.cells #[.int .u64 p0.Epoch, .int .i64 p0.Pages, .slice A1 p0.Maps.length u1, .slice A2 p0.User.length u2] 28 (0, 0))) :: F) eg2 s hx1) ?_)
  intro X2 hX2
  refine fun _ _ hJ => hJ X2 ?_
  clear s
  intro I2 w4 s k2
  refine hX2 _ _ ?_
  replace e3 := e3.st k2
  replace e1 := e1.st k2
  replace e2 := e2.st k2
  replace eg2 := eg2.st k2
  replace kk := kk.trans k2
  refine RW.seg hT 1 [] [] [.bool x2] [] (by kernel_rfl) (trivial) ?_
  refine RW.nil ?_
  refine WPK.ret (?_)
  obtain rfl := someS hf
  refine Fin.of (rs := [.tmp 6]) hT [] (.bool x2) [] rfl (by kernel_rfl) (trivial) ?_
  replace s := s.pick [] 1 rfl
  exact fun X h => vc rfl (h I2 _ s kk)
  have hf := iteF h1 hf
  refine WPK.condF (Eq.trans (b := .bool x1) (by kernel_rfl) (b_f h1)) ?_
  refine WPK.skip ?_
  refine WPK.seq ?_
  refine WPK.cut' (Kn fun D2 ds wz => ∀ X : Kont, (∀ (I3 : Nat → Prop) (w' : World), g6_j2 p1 p2 = some r → St w1 M I3 (F) w' → Kp I w I3 w' → Elems (Rp.int .u8) I3 w' A3 p2 → Elems (Rp.int .u32) I3 w' (some ⟨2, 0, none⟩) TAB2 → X [(D2.getD 0 undef), .int .u64 p1, .slice A3 p2.length u3, (D2.getD 3 undef), (D2.getD 4 undef), (D2.getD 5 undef), .bool false, (D2.getD 7 undef), (D2.getD 8 undef), (D2.getD 9 undef), (D2.getD 10 undef), (D2.getD 11 undef), (D2.getD 12 undef), (D2.getD 13 undef), (D2.getD 14 undef), undef, undef, undef, (D2.getD 18 undef), (D2.getD 19 undef), (D2.getD 20 undef), (D2.getD 21 undef), (D2.getD 22 undef), (D2.getD 23 undef), (D2.getD 24 undef), (D2.getD 25 undef), (D2.getD 26 undef), (D2.getD 27 undef), (D2.getD 28 undef), (D2.getD 29 undef), (D2.getD 30 undef), (D2.getD 31 undef), (D2.getD 32 undef), (D2.getD 33 undef), (D2.getD 34 undef), (D2.getD 35 undef), (D2.getD 36 undef), (D2.getD 37 undef), (D2.getD 38 undef), (D2.getD 39 undef), (D2.getD 40 undef), (D2.getD 41 undef), (D2.getD 42 undef), (D2.getD 43 undef), (D2.getD 44 undef), (D2.getD 45 undef), (D2.getD 46 undef), (D2.getD 47 undef), (D2.getD 48 undef), (D2.getD 49 undef), (D2.getD 50 undef), (D2.getD 51 undef), (D2.getD 52 undef), (D2.getD 53 undef), (D2.getD 54 undef), (D2.getD 55 undef), (D2.getD 56 undef), (D2.getD 57 undef), (D2.getD 58 undef), (D2.getD 59 undef), (D2.getD 60 undef), (D2.getD 61 undef), (D2.getD 62 undef), (D2.getD 63 undef), (D2.getD 64 undef), (D2.getD 65 undef), (D2.getD 66 undef), (D2.getD 67 undef), (D2.getD 68 undef), (D2.getD 69 undef), (D2.getD 70 undef), (D2.getD 71 undef), (D2.getD 72 undef), (D2.getD 73 undef), (D2.getD 74 undef), (D2.getD 75 undef), (D2.getD 76 undef), (D2.getD 77 undef), (D2.getD 78 undef), (D2.getD 79 undef), (D2.getD 80 undef), (D2.getD 81 undef), (D2.getD 82 undef), (D2.getD 83 undef), (D2.getD 84 undef), (D2.getD 85 undef), (D2.getD 86 undef), (D2.getD 87 undef), (D2.getD 88 undef), undef, undef, undef, undef, undef, undef, undef, undef, undef, undef, undef, undef, undef, undef, undef, undef, undef, undef, undef, undef, undef, undef, undef] [] w') → X D2 ds wz) ?_ ?_
  intro X3 hX3
  refine fun D2 _ _ hJ => hJ X3 ?_
  clear s
  intro I3 w5 hf s kk e3 eg2
  refine hX3 _ _ _ ?_
  unfold g6_j2 at hf
  refine WPK.seq ?_
  refine WPK.region ?_
  refine RW.seg hT 2 [] [] [.int .u64 p1, .slice A3 p2.length u3] [] (by kernel_rfl) (trivial) ?_
  obtain ⟨x3, hx2, hf⟩ := bindS hf
  refine RW.op (by kernel_rfl) (OK.call' en14 (by kernel_rfl) (c14 (F := F) p1 p2 A3 u3 hc3 e3 s hx2) ?_)
  intro X4 hX4
  refine fun _ _ hJ => hJ X4 ?_
  clear s
  intro I4 A4 n1 u4 cl1 A5 u5 w6 s k3 hn1 rp1 hc4 e4
  refine hX4 _ _ ?_
  replace e3 := e3.st k3
  replace eg2 := eg2.st k3
  replace kk := kk.trans k3
  rw [hn1] at s
  try rw [hn1]
  obtain ⟨I5, s', k4, hc5, e5⟩ := St.give s (i := 0) rfl rfl rp1
  replace s := s'; clear s'
  replace e3 := e3.st k4
  replace e4 := e4.st k4
  replace eg2 := eg2.st k4
  replace kk := kk.trans k4
  refine RW.seg hT 3 [] [] [.tuple #[.agg #[.int .u64 x3.1.Epoch, .int .i64 x3.1.Pages, .slice A4 x3.1.Maps.length u4, .slice A5 x3.1.User.length u5], .int .i64 x3.2], .agg #[.int .u64 x3.1.Epoch, .int .i64 x3.1.Pages, .slice A4 x3.1.Maps.length u4, .slice A5 x3.1.User.length u5], .int .i64 x3.2] [] (by kernel_rfl) (trivial) ?_
  refine RW.op (by kernel_rfl) (OK.new hT (f := fun b => .pointer (some ⟨b, 0, none⟩)) (cs := [.int .u64 0, .int .i64 0, .slice none 0 0, .slice none 0 0]) (e := 28) (c := .tt) s (by kernel_rfl) trivial ?_)
  clear s
  rintro w7 b2 s k5 -
  replace e3 := e3.st k5
  replace e5 := e5.st k5
  replace e4 := e4.st k5
  replace eg2 := eg2.st k5
  replace kk := kk.trans k5
  refine RW.op (by kernel_rfl) (OK.store hT (i := 0) (b := b2) (off := 0) (n := 4) (vs := [.int .u64 x3.1.Epoch, .int .i64 x3.1.Pages, .slice A4 x3.1.Maps.length u4, .slice A5 x3.1.User.length u5]) (cs := [.int .u64 0, .int .i64 0, .slice none 0 0, .slice none 0 0]) (e := 28) s (by kernel_rfl) rfl rfl (flat_ok rfl) (Nat.le_of_ble_eq_true rfl) ?_)
  clear s
  rintro w8 s k6 -
  replace e3 := e3.st k6
  replace e5 := e5.st k6
  replace e4 := e4.st k6
  replace eg2 := eg2.st k6
  replace kk := kk.trans k6
  refine RW.seg hT 1 [] [] [.int .i64 x3.2] [] (by kernel_rfl) (trivial) ?_
  refine RW.nil ?_
  refine WPK.seq ?_
  refine WPK.seq ?_
  refine WPK.region ?_
  refine RW.seg hT 2 [] [(96, .bool (decide (x3.2 ≠ 0)))] [.int .i64 x3.2, .bool (decide (x3.2 ≠ 0))] [.veq (.bool (x3.2 != 0)) (.bool (decide (x3.2 ≠ 0)))] (by kernel_rfl) (ne_v) ?_
  refine RW.nil ?_
  by_cases h2 : x3.2 ≠ 0
  have hf := iteT h2 hf
  refine WPK.condT (Eq.trans (b := .bool (decide (x3.2 ≠ 0))) (by kernel_rfl) (bo_t h2)) ?_
  refine WPK.seq ?_
  refine WPK.region ?_
  refine RW.seg hT 2 [.agg #[.int .u64 x3.1.Epoch, .int .i64 x3.1.Pages, .slice A4 x3.1.Maps.length u4, .slice A5 x3.1.User.length u5]] [] [.agg #[.int .u64 x3.1.Epoch, .int .i64 x3.1.Pages, .slice A4 x3.1.Maps.length u4, .slice A5 x3.1.User.length u5], .agg #[.int .u64 0, .int .i64 0, .slice none 0 0, .slice none 0 0]] [.cells ⟨b2, 0, none⟩ [.int .u64 x3.1.Epoch, .int .i64 x3.1.Pages, .slice A4 x3.1.Maps.length u4, .slice A5 x3.1.User.length u5] 4] (by kernel_rfl) (s.cells (i := 0) rfl rfl rfl) ?_
  obtain ⟨x4, hx3, hf⟩ := bindS hf
  refine RW.op (by kernel_rfl) (OK.call' en23 (by kernel_rfl) (c23 (F := (.blk b2 (.cells #[.int .u64 x3.1.Epoch, .int .i64 x3.1.Pages, .slice A4 x3.1.Maps.length u4, .slice A5 x3.1.User.length u5] 28 (0, 0))) :: F) x3.1 (T_api_Head.mk 0 0 [] []) A4 u4 A5 u5 none 0 none 0 hc5 e5 hc4 e4 nil_hc Elems.nil nil_hc Elems.nil s hx3) ?_)
  intro X5 hX5
  refine fun _ _ hJ => hJ X5 ?_
  clear s
  intro I6 w9 s k7
  refine hX5 _ _ ?_
  replace e3 := e3.st k7
  replace e5 := e5.st k7
  replace e4 := e4.st k7
  replace eg2 := eg2.st k7
  replace kk := kk.trans k7
  refine RW.seg hT 1 [] [] [.bool x4] [] (by kernel_rfl) (trivial) ?_
  refine RW.nil ?_
  refine WPK.ret (?_)
  obtain rfl := someS hf
  refine Fin.of (rs := [.tmp 6]) hT [] (.bool x4) [] rfl (by kernel_rfl) (trivial) ?_
  replace s := s.pick [] 1 rfl
  exact fun X h => vc rfl (h I6 _ s kk)
  have hf := iteF h2 hf
  refine WPK.condF (Eq.trans (b := .bool (decide (x3.2 ≠ 0))) (by kernel_rfl) (bo_f h2)) ?_
  refine WPK.skip ?_
  refine WPK.seq ?_
  refine WPK.region ?_
  refine RW.seg hT 1 [.agg #[.int .u64 x3.1.Epoch, .int .i64 x3.1.Pages, .slice A4 x3.1.Maps.length u4, .slice A5 x3.1.User.length u5]] [] [.agg #[.int .u64 x3.1.Epoch, .int .i64 x3.1.Pages, .slice A4 x3.1.Maps.length u4, .slice A5 x3.1.User.length u5]] [.cells ⟨b2, 0, none⟩ [.int .u64 x3.1.Epoch, .int .i64 x3.1.Pages, .slice A4 x3.1.Maps.length u4, .slice A5 x3.1.User.length u5] 4] (by kernel_rfl) (s.cells (i := 0) rfl rfl rfl) ?_
  obtain ⟨x5, hx4, hf⟩ := bindS hf
  refine RW.op (by kernel_rfl) (OK.call' en17 (by kernel_rfl) (c17 (F := (.blk b2 (.cells #[.int .u64 x3.1.Epoch, .int .i64 x3.1.Pages, .slice A4 x3.1.Maps.length u4, .slice A5 x3.1.User.length u5] 28 (0, 0))) :: F) x3.1 A4 u4 A5 u5 hc5 e5 hc4 e4 s hx4) ?_)
  intro X6 hX6
  refine fun _ _ hJ => hJ X6 ?_
  clear s
  intro I7 A6 n2 u6 cl2 w10 s k8 hn2 rp2
  refine hX6 _ _ ?_
  replace e3 := e3.st k8
  replace e5 := e5.st k8
  replace e4 := e4.st k8
  replace eg2 := eg2.st k8
  replace kk := kk.trans k8
  rw [hn2] at s
  try rw [hn2]
  obtain ⟨I8, s', k9, hc6, e6⟩ := St.give s (i := 0) rfl rfl rp2
  replace s := s'; clear s'
  replace e3 := e3.st k9
  replace e5 := e5.st k9
  replace e4 := e4.st k9
  replace eg2 := eg2.st k9
  replace kk := kk.trans k9
  refine RW.seg hT 5 [] [] [.tuple #[.slice A6 x5.1.length u6, .int .i64 x5.2], .slice A6 x5.1.length u6, .int .i64 x5.2, .slice A6 x5.1.length u6, .int .i64 x5.2] [] (by kernel_rfl) (trivial) ?_
  refine RW.nil ?_
  refine WPK.seq ?_
  refine WPK.region ?_
  refine RW.seg hT 2 [] [(106, .bool (decide (x5.2 = 0)))] [.int .i64 x5.2, .bool (decide (x5.2 = 0))] [.veq (.bool (x5.2 == 0)) (.bool (decide (x5.2 = 0)))] (by kernel_rfl) (eq_v) ?_
  by_cases h3 : x5.2 = 0
  have hf := iteT h3 hf
  refine RW.seg hT 3 [] [(107, .bool true)] [.bool true, .slice A6 x5.1.length u6, .slice A3 p2.length u3] [.veq (.bool (decide (x5.2 = 0))) (.bool true)] (by kernel_rfl) (bo_t h3) ?_
  obtain ⟨x6, hx5, hf⟩ := bindS hf
  refine RW.op (by kernel_rfl) (OK.call' en24 (by kernel_rfl) (c24 (F := (.blk b2 (.cells #[.int .u64 x3.1.Epoch, .int .i64 x3.1.Pages, .slice A4 x3.1.Maps.length u4, .slice A5 x3.1.User.length u5] 28 (0, 0))) :: F) x5.1 p2 A6 u6 A3 u3 hc6 e6 hc3 e3 s hx5) ?_)
  intro X7 hX7
  refine fun _ _ hJ => hJ X7 ?_
  clear s
  intro I9 w11 s k10
  refine hX7 _ _ ?_
  replace e3 := e3.st k10
  replace e6 := e6.st k10
  replace e5 := e5.st k10
  replace e4 := e4.st k10
  replace eg2 := eg2.st k10
  replace kk := kk.trans k10
  refine RW.seg hT 2 [] [] [.bool x6, .bool x6] [] (by kernel_rfl) (trivial) ?_
  refine RW.nil ?_
  refine WPK.ret (?_)
  obtain rfl := someS hf
  refine Fin.of (rs := [.tmp 6]) hT [] (.bool x6) [] rfl (by kernel_rfl) (trivial) ?_
  replace s := s.pick [] 1 rfl
  exact fun X h => vc rfl (h I9 _ s kk)
  have hf := iteF h3 hf
  refine RW.seg hT 6 [] [(107, .bool false)] [.bool false, undef, undef, undef, .bool false, .bool false] [.veq (.bool (decide (x5.2 = 0))) (.bool false)] (by kernel_rfl) (bo_f h3) ?_
  refine RW.nil ?_
  refine WPK.ret (?_)
  obtain rfl := someS hf
  refine Fin.of (rs := [.tmp 6]) hT [] (.bool false) [] rfl (by kernel_rfl) (trivial) ?_
  replace s := s.pick [] 1 rfl
  exact fun X h => vc rfl (h I8 _ s kk)
  refine WPK.seq ?_
  refine WPK.region ?_
  refine RW.seg hT 1 [.agg #[.int .u64 p0.Epoch, .int .i64 p0.Pages, .slice A1 p0.Maps.length u1, .slice A2 p0.User.length u2]] [] [.agg #[.int .u64 p0.Epoch, .int .i64 p0.Pages, .slice A1 p0.Maps.length u1, .slice A2 p0.User.length u2]] [.cells ⟨b1, 0, none⟩ [.int .u64 p0.Epoch, .int .i64 p0.Pages, .slice A1 p0.Maps.length u1, .slice A2 p0.User.length u2] 4] (by kernel_rfl) (s.cells (i := 0) rfl rfl rfl) ?_
  obtain ⟨x7, hx6, hf⟩ := bindS hf
  refine RW.op (by kernel_rfl) (OK.call' en17 (by kernel_rfl) (c17 (F := (.blk b1 (.cells #[.int .u64 p0.Epoch, .int .i64 p0.Pages, .slice A1 p0.Maps.length u1, .slice A2 p0.User.length u2] 28 (0, 0))) :: F) p0 A1 u1 A2 u2 hc1 e1 hc2 e2 s hx6) ?_)
  intro X8 hX8
  refine fun _ _ hJ => hJ X8 ?_
  clear s
  intro I10 A7 n3 u7 cl3 w12 s k11 hn3 rp3
  refine hX8 _ _ ?_
  replace e3 := e3.st k11
  replace e1 := e1.st k11
  replace e2 := e2.st k11
  replace eg2 := eg2.st k11
  replace kk := kk.trans k11
  rw [hn3] at s
  try rw [hn3]
  obtain ⟨I11, s', k12, hc7, e7⟩ := St.give s (i := 0) rfl rfl rp3
  replace s := s'; clear s'
  replace e3 := e3.st k12
  replace e1 := e1.st k12
  replace e2 := e2.st k12
  replace eg2 := eg2.st k12
  replace kk := kk.trans k12
  refine RW.seg hT 5 [] [] [.tuple #[.slice A7 x7.1.length u7, .int .i64 x7.2], .slice A7 x7.1.length u7, .int .i64 x7.2, .slice A7 x7.1.length u7, .int .i64 x7.2] [] (by kernel_rfl) (trivial) ?_
  refine RW.nil ?_
  refine WPK.seq ?_
  refine WPK.region ?_
  refine RW.seg hT 2 [] [(38, .bool (decide (x7.2 = 0)))] [.int .i64 x7.2, .bool (decide (x7.2 = 0))] [.veq (.bool (x7.2 == 0)) (.bool (decide (x7.2 = 0)))] (by kernel_rfl) (eq_v) ?_
  refine RW.nil ?_
  by_cases h4 : x7.2 = 0
  have hf := iteT h4 hf
  refine WPK.condT (Eq.trans (b := .bool (decide (x7.2 = 0))) (by kernel_rfl) (bo_t h4)) ?_
  refine WPK.seq ?_
  refine WPK.region ?_
  refine RW.seg hT 3 [.int .u64 p0.Epoch] [] [.pointer (some ⟨b1, 0, none⟩), .int .u64 p0.Epoch, .slice A7 x7.1.length u7] [.cell ⟨b1, 0, none⟩ (.int .u64 p0.Epoch)] (by kernel_rfl) (s.cell (i := 0) (off := 0) rfl rfl) ?_
  obtain ⟨x8, hx7, hf⟩ := bindS hf
  refine RW.op (by kernel_rfl) (OK.call' en14 (by kernel_rfl) (c14 (F := (.blk b1 (.cells #[.int .u64 p0.Epoch, .int .i64 p0.Pages, .slice A1 p0.Maps.length u1, .slice A2 p0.User.length u2] 28 (0, 0))) :: F) p0.Epoch x7.1 A7 u7 hc7 e7 s hx7) ?_)
  intro X9 hX9
  refine fun _ _ hJ => hJ X9 ?_
  clear s
  intro I12 A8 n4 u8 cl4 A9 u9 w13 s k13 hn4 rp4 hc8 e8
  refine hX9 _ _ ?_
  replace e3 := e3.st k13
  replace e7 := e7.st k13
  replace e1 := e1.st k13
  replace e2 := e2.st k13
  replace eg2 := eg2.st k13
  replace kk := kk.trans k13
  rw [hn4] at s
  try rw [hn4]
  obtain ⟨I13, s', k14, hc9, e9⟩ := St.give s (i := 0) rfl rfl rp4
  replace s := s'; clear s'
  replace e3 := e3.st k14
  replace e7 := e7.st k14
  replace e1 := e1.st k14
  replace e2 := e2.st k14
  replace e8 := e8.st k14
  replace eg2 := eg2.st k14
  replace kk := kk.trans k14
  refine RW.seg hT 3 [] [] [.tuple #[.agg #[.int .u64 x8.1.Epoch, .int .i64 x8.1.Pages, .slice A8 x8.1.Maps.length u8, .slice A9 x8.1.User.length u9], .int .i64 x8.2], .agg #[.int .u64 x8.1.Epoch, .int .i64 x8.1.Pages, .slice A8 x8.1.Maps.length u8, .slice A9 x8.1.User.length u9], .int .i64 x8.2] [] (by kernel_rfl) (trivial) ?_
  refine RW.op (by kernel_rfl) (OK.new hT (f := fun b => .pointer (some ⟨b, 0, none⟩)) (cs := [.int .u64 0, .int .i64 0, .slice none 0 0, .slice none 0 0]) (e := 28) (c := .tt) s (by kernel_rfl) trivial ?_)
  clear s
  rintro w14 b3 s k15 -
  replace e3 := e3.st k15
  replace e7 := e7.st k15
  replace e1 := e1.st k15
  replace e2 := e2.st k15
  replace e9 := e9.st k15
  replace e8 := e8.st k15
  replace eg2 := eg2.st k15
  replace kk := kk.trans k15
  refine RW.op (by kernel_rfl) (OK.store hT (i := 0) (b := b3) (off := 0) (n := 4) (vs := [.int .u64 x8.1.Epoch, .int .i64 x8.1.Pages, .slice A8 x8.1.Maps.length u8, .slice A9 x8.1.User.length u9]) (cs := [.int .u64 0, .int .i64 0, .slice none 0 0, .slice none 0 0]) (e := 28) s (by kernel_rfl) rfl rfl (flat_ok rfl) (Nat.le_of_ble_eq_true rfl) ?_)
  clear s
  rintro w15 s k16 -
  replace e3 := e3.st k16
  replace e7 := e7.st k16
  replace e1 := e1.st k16
  replace e2 := e2.st k16
  replace e9 := e9.st k16
  replace e8 := e8.st k16
  replace eg2 := eg2.st k16
  replace kk := kk.trans k16
  refine RW.seg hT 1 [] [] [.int .i64 x8.2] [] (by kernel_rfl) (trivial) ?_
  refine RW.nil ?_
  refine WPK.seq ?_
  refine WPK.region ?_
  obtain ⟨x9, hx8, hf⟩ := bindS hf
  refine RW.op (by kernel_rfl) (OK.make hT (r := (Rp.slice (Rp.int .u8))) (n := 2) (z := .slice none 0 0) (x := []) (e := 24) (bytes := 24) s (by kernel_rfl) hx8 (fun _ _ => ⟨_, _, rfl, nil_hc.1, nil_hc.2, Elems.nil⟩) ?_)
  clear s
  rintro w16 b4 cl5 s k17 rp5
  replace e3 := e3.st k17
  replace e7 := e7.st k17
  replace e1 := e1.st k17
  replace e2 := e2.st k17
  replace e9 := e9.st k17
  replace e8 := e8.st k17
  replace eg2 := eg2.st k17
  replace kk := kk.trans k17
  refine RW.seg hT 1 [] [] [.slice (some ⟨b4, 0, none⟩) x9.length x9.length] [] (by kernel_rfl) (trivial) ?_
  refine RW.nil ?_
  refine WPK.seq ?_
  have e3S1 := e3
  have e7S1 := e7
  have e1S1 := e1
  have e2S1 := e2
  have e9S1 := e9
  have e8S1 := e8
  have rp5S1 := rp5
  have eg2S41700 := eg2
  have kS1 : Kp I13 w16 I13 w16 := Kp.refl
  refine WPK.drawM (fun w' => ∃ I' : Nat → Prop, St w1 M I' ((.sl (.slice (some ⟨b4, 0, none⟩) x9.length x9.length) 24 1 x9.length cl5) :: (.blk b3 (.cells #[.int .u64 x8.1.Epoch, .int .i64 x8.1.Pages, .slice A8 x8.1.Maps.length u8, .slice A9 x8.1.User.length u9] 28 (0, 0))) :: (.blk b1 (.cells #[.int .u64 p0.Epoch, .int .i64 p0.Pages, .slice A1 p0.Maps.length u1, .slice A2 p0.User.length u2] 28 (0, 0))) :: F) w' ∧ Kp I13 w16 I' w') 8 [0, 0, 2, 6, 14, 0, 46, 127, 255] (by kernel_rfl) (by kernel_rfl) ?_
  intro ht1 w17 hd1
  have k18 := Kp.dr s hd1
  replace s := s.dr hd1
  replace e3 := e3.st k18
  replace e7 := e7.st k18
  replace e1 := e1.st k18
  replace e2 := e2.st k18
  replace e9 := e9.st k18
  replace e8 := e8.st k18
  replace rp5 := rp5.st k18
  replace eg2 := eg2.st k18
  replace kk := kk.trans k18
  replace kS1 := kS1.trans k18
  refine RD.segM hT ht1 (by kernel_rfl) [0, 1, 2, 5] [.int .u64 p0.Epoch, .agg #[.int .u64 p0.Epoch, .int .i64 p0.Pages, .slice A1 p0.Maps.length u1, .slice A2 p0.User.length u2]] [] [.slice (some ⟨b4, 0, none⟩) x9.length x9.length, .pointer (some ⟨b1, 0, none⟩), .int .u64 p0.Epoch, .agg #[.int .u64 p0.Epoch, .int .i64 p0.Pages, .slice A1 p0.Maps.length u1, .slice A2 p0.User.length u2]] [.cell ⟨b1, 0, none⟩ (.int .u64 p0.Epoch), .cells ⟨b1, 0, none⟩ [.int .u64 p0.Epoch, .int .i64 p0.Pages, .slice A1 p0.Maps.length u1, .slice A2 p0.User.length u2] 4] (by kernel_rfl) (by rintro w' ⟨I', s, k⟩; have e3 := e3S1.st k; have e7 := e7S1.st k; have e1 := e1S1.st k; have e2 := e2S1.st k; have e9 := e9S1.st k; have e8 := e8S1.st k; have rp5 := rp5S1.st k; have eg2 := eg2S41700.st k; exact ⟨s.cell (i := 2) (off := 0) rfl rfl, s.cells (i := 2) rfl rfl rfl⟩) ⟨_, s.pick [0, 1, 2] 3 rfl, kS1⟩ ?_
  obtain ⟨x10, hx9, hf⟩ := bindS hf
  refine RD.op (i := 3) rfl (by kernel_rfl) (by kernel_rfl) (OK.call' en25 (by kernel_rfl) (c25 (F := (.sl (.slice (some ⟨b4, 0, none⟩) x9.length x9.length) 24 1 x9.length cl5) :: (.blk b3 (.cells #[.int .u64 x8.1.Epoch, .int .i64 x8.1.Pages, .slice A8 x8.1.Maps.length u8, .slice A9 x8.1.User.length u9] 28 (0, 0))) :: (.blk b1 (.cells #[.int .u64 p0.Epoch, .int .i64 p0.Pages, .slice A1 p0.Maps.length u1, .slice A2 p0.User.length u2] 28 (0, 0))) :: F) p0.Epoch s hx9) ?_)
  intro X10 hX10
  refine fun _ _ hJ => hJ X10 ?_
  clear s
  intro I14 w18 s k19
  refine hX10 _ _ ?_
  replace e3 := e3.st k19
  replace e7 := e7.st k19
  replace e1 := e1.st k19
  replace e2 := e2.st k19
  replace e9 := e9.st k19
  replace e8 := e8.st k19
  replace rp5 := rp5.st k19
  replace eg2 := eg2.st k19
  replace kk := kk.trans k19
  replace kS1 := kS1.trans k19
  refine ⟨fun _ => ⟨_, s.pick [0, 1, 2] 3 rfl, kS1⟩, RD.fold ?_⟩
  refine RD.segM hT ht1 (by kernel_rfl) [4] [] [] [.int .i64 (andI .i64 x10 1)] [] (by kernel_rfl) (fun _ _ => trivial) ⟨_, s.pick [0, 1, 2] 3 rfl, kS1⟩ ?_
  obtain ⟨x11, hx10, hf⟩ := bindS hf
  refine RD.op (i := 6) rfl (by kernel_rfl) (by kernel_rfl) (OK.call' en27 (by kernel_rfl) (c27 (F := (.sl (.slice (some ⟨b4, 0, none⟩) x9.length x9.length) 24 1 x9.length cl5) :: (.blk b3 (.cells #[.int .u64 x8.1.Epoch, .int .i64 x8.1.Pages, .slice A8 x8.1.Maps.length u8, .slice A9 x8.1.User.length u9] 28 (0, 0))) :: (.blk b1 (.cells #[.int .u64 p0.Epoch, .int .i64 p0.Pages, .slice A1 p0.Maps.length u1, .slice A2 p0.User.length u2] 28 (0, 0))) :: F) p0 A1 u1 A2 u2 hc1 e1 hc2 e2 eg2 s hx10) ?_)
  intro X11 hX11
  refine fun _ _ hJ => hJ X11 ?_
  clear s
  intro I15 A10 n5 u10 cl6 w19 s k20 hn5 rp6
  refine hX11 _ _ ?_
  replace e3 := e3.st k20
  replace e7 := e7.st k20
  replace e1 := e1.st k20
  replace e2 := e2.st k20
  replace e9 := e9.st k20
  replace e8 := e8.st k20
  replace rp5 := rp5.st k20
  replace eg2 := eg2.st k20
  replace kk := kk.trans k20
  replace kS1 := kS1.trans k20
  refine ⟨fun _ => ⟨_, s.pick [1, 2, 3] 4 rfl, kS1⟩, RD.fold ?_⟩
  obtain ⟨x12, hx11, hf⟩ := bindS hf
  obtain ⟨h5, hx11⟩ := getS hx11
  refine RD.segM hT ht1 (by kernel_rfl) [7] [] [] [.pointer (some ⟨b4, 0 + (andI .i64 x10 1).toNat * 1, none⟩)] [.idx (andI .i64 x10 1) x9.length] (by kernel_rfl) (by rintro w' ⟨I', s, k⟩; have e3 := e3S1.st k; have e7 := e7S1.st k; have e1 := e1S1.st k; have e2 := e2S1.st k; have e9 := e9S1.st k; have e8 := e8S1.st k; have rp5 := rp5S1.st k; have eg2 := eg2S41700.st k; exact h5) ⟨_, s.pick [1, 2, 3] 4 rfl, kS1⟩ ?_
  rw [hn5] at s
  try rw [hn5]
  obtain ⟨I16, s', k21, hc10, e10⟩ := St.give s (i := 0) rfl rfl rp6
  replace s := s'; clear s'
  replace e3 := e3.st k21
  replace e7 := e7.st k21
  replace e1 := e1.st k21
  replace e2 := e2.st k21
  replace e9 := e9.st k21
  replace e8 := e8.st k21
  replace rp5 := rp5.st k21
  replace eg2 := eg2.st k21
  replace kk := kk.trans k21
  replace kS1 := kS1.trans k21
  obtain ⟨y1, hy1, hf⟩ := bindS hf
  obtain ⟨h6, hq1⟩ := setS hy1
  obtain ⟨cl7, hcl1⟩ : ∃ q, setL cl5 (0 + (andI .i64 x10 1).toNat * 1) [.slice A10 x11.length u10] = q := ⟨_, rfl⟩
  have rp7 : RepL (Rp.slice (Rp.int .u8)) I16 w19 cl7 y1 := by rw [hq1, ← hcl1, Nat.zero_add]; exact RepL.set rp5 (by omega) (⟨_, _, rfl, hc10.1, hc10.2, e10⟩)
  have hn6 : x9.length = y1.length := by rw [hq1, List.length_set]
  refine RD.op (i := 8) rfl (by kernel_rfl) (by kernel_rfl) (OK.storeSl hT (i := 0) (b := b4) (off := 0 + (andI .i64 x10 1).toNat * 1) (m := 1) (vs := [.slice A10 x11.length u10]) (c := x9.length) (e := 24) (size := 1) (n := x9.length) (cl := cl5) (cl' := cl7) s (by kernel_rfl) rfl rfl (flat_ok rfl) (by have h7 := RepL.length rp5; simp only [List.length_cons, List.length_nil, h7]; exact row_bd (n := 1) h6 rfl) hcl1 ?_)
  clear s
  rintro w20 s k22
  replace e3 := e3.st k22
  replace e7 := e7.st k22
  replace e1 := e1.st k22
  replace e2 := e2.st k22
  replace e9 := e9.st k22
  replace e8 := e8.st k22
  replace e10 := e10.st k22
  replace rp7 := rp7.st k22
  replace eg2 := eg2.st k22
  replace kk := kk.trans k22
  replace kS1 := kS1.trans k22
  refine ⟨fun h => absurd h (by decide), RD.fold ?_⟩
  refine RD.done (by kernel_rfl) ?_
  refine WPK.seq ?_
  refine WPK.region ?_
  refine RW.seg hT 3 [.int .i64 p0.Pages] [] [.pointer (some ⟨b1, 1, none⟩), .int .i64 p0.Pages, .slice (some ⟨b4, 0, none⟩) x9.length x9.length] [.cell ⟨b1, 1, none⟩ (.int .i64 p0.Pages)] (by kernel_rfl) (s.cell (i := 2) (off := 1) rfl rfl) ?_
  refine RW.op (by kernel_rfl) (OK.inl (args := [.int .i64 p0.Pages, .slice (some ⟨b4, 0, none⟩) x9.length x9.length]) en10 (by kernel_rfl) ?_)
  intro R1 hR1
  refine Ret.cut (fun v wz => ∀ X : Value → World → Prop, (∀ (I17 : Nat → Prop) (x13 : Int) (x14 : Int) (x15 : (List Int)) (x16 : (List Int)) (x17 : Int) (x18 : Int) (A11 : Option Addr) (u11 : Nat) (A12 : Option Addr) (u12 : Nat) (w' : World), g6_j3 p0 p1 p2 x8 x13 x14 x15 x16 x17 x18 = some r → St w1 M I17 ((.blk b3 (.cells #[.int .u64 x8.1.Epoch, .int .i64 x8.1.Pages, .slice A8 x8.1.Maps.length u8, .slice A9 x8.1.User.length u9] 28 (0, 0))) :: (.blk b1 (.cells #[.int .u64 p0.Epoch, .int .i64 p0.Pages, .slice A1 p0.Maps.length u1, .slice A2 p0.User.length u2] 28 (0, 0))) :: F) w' → Kp I w I17 w' → Elems (Rp.int .u8) I17 w' A3 p2 → (x15.length ≤ u11 ∧ u11 ≤ 9223372036854775807) → Elems (Rp.int .i64) I17 w' A11 x15 → (x16.length ≤ u12 ∧ u12 ≤ 9223372036854775807) → Elems (Rp.int .u8) I17 w' A12 x16 → Elems (Rp.int .i64) I17 w' A8 x8.1.Maps → Elems (Rp.int .u8) I17 w' A9 x8.1.User → Elems (Rp.int .i64) I17 w' A1 p0.Maps → Elems (Rp.int .u8) I17 w' A2 p0.User → Elems (Rp.int .u32) I17 w' (some ⟨2, 0, none⟩) TAB2 → X (.tuple #[.agg #[.int .u64 x13, .int .i64 x14, .slice A11 x15.length u11, .slice A12 x16.length u12], .int .i64 x17, .int .i64 x18]) w') → X v wz) ?_ ?_
  refine fun _ _ hJ => hJ R1 ?_
  clear s
  intro I17 x13 x14 x15 x16 x17 x18 A11 u11 A12 u12 w21 hf s kk e3 hc11 e11 hc12 e12 e9 e8 e1 e2 eg2
  refine hR1 _ _ ?_
  unfold g6_j3 at hf
  refine RW.seg hT 4 [] [] [.tuple #[.agg #[.int .u64 x13, .int .i64 x14, .slice A11 x15.length u11, .slice A12 x16.length u12], .int .i64 x17, .int .i64 x18], .agg #[.int .u64 x13, .int .i64 x14, .slice A11 x15.length u11, .slice A12 x16.length u12], .int .i64 x17, .int .i64 x18] [] (by kernel_rfl) (trivial) ?_
  refine RW.op (by kernel_rfl) (OK.new hT (f := fun b => .pointer (some ⟨b, 0, none⟩)) (cs := [.int .u64 0, .int .i64 0, .slice none 0 0, .slice none 0 0]) (e := 28) (c := .tt) s (by kernel_rfl) trivial ?_)
  clear s
  rintro w22 b5 s k23 -
  replace e3 := e3.st k23
  replace e11 := e11.st k23
  replace e12 := e12.st k23
  replace e9 := e9.st k23
  replace e8 := e8.st k23
  replace e1 := e1.st k23
  replace e2 := e2.st k23
  replace eg2 := eg2.st k23
  replace kk := kk.trans k23
  refine RW.op (by kernel_rfl) (OK.store hT (i := 0) (b := b5) (off := 0) (n := 4) (vs := [.int .u64 x13, .int .i64 x14, .slice A11 x15.length u11, .slice A12 x16.length u12]) (cs := [.int .u64 0, .int .i64 0, .slice none 0 0, .slice none 0 0]) (e := 28) s (by kernel_rfl) rfl rfl (flat_ok rfl) (Nat.le_of_ble_eq_true rfl) ?_)
  clear s
  rintro w23 s k24 -
  replace e3 := e3.st k24
  replace e11 := e11.st k24
  replace e12 := e12.st k24
  replace e9 := e9.st k24
  replace e8 := e8.st k24
  replace e1 := e1.st k24
  replace e2 := e2.st k24
  replace eg2 := eg2.st k24
  replace kk := kk.trans k24
  refine RW.seg hT 2 [] [] [.int .i64 x17, .int .i64 x18] [] (by kernel_rfl) (trivial) ?_
  refine RW.nil ?_
  refine WPK.seq ?_
  refine WPK.cut' (Kn fun D3 ds wz => ∀ X : Kont, (∀ (I18 : Nat → Prop) (x19 : Bool) (w' : World), g6_j4 p1 p2 x19 = some r → St w1 M I18 (F) w' → Kp I w I18 w' → Elems (Rp.int .u8) I18 w' A3 p2 → Elems (Rp.int .u32) I18 w' (some ⟨2, 0, none⟩) TAB2 → X [(D3.getD 0 undef), .int .u64 p1, .slice A3 p2.length u3, (D3.getD 3 undef), (D3.getD 4 undef), (D3.getD 5 undef), .bool false, (D3.getD 7 undef), (D3.getD 8 undef), (D3.getD 9 undef), (D3.getD 10 undef), (D3.getD 11 undef), (D3.getD 12 undef), (D3.getD 13 undef), (D3.getD 14 undef), undef, undef, undef, (D3.getD 18 undef), (D3.getD 19 undef), (D3.getD 20 undef), (D3.getD 21 undef), (D3.getD 22 undef), (D3.getD 23 undef), (D3.getD 24 undef), (D3.getD 25 undef), (D3.getD 26 undef), (D3.getD 27 undef), (D3.getD 28 undef), (D3.getD 29 undef), (D3.getD 30 undef), (D3.getD 31 undef), (D3.getD 32 undef), (D3.getD 33 undef), (D3.getD 34 undef), (D3.getD 35 undef), (D3.getD 36 undef), (D3.getD 37 undef), (D3.getD 38 undef), (D3.getD 39 undef), (D3.getD 40 undef), (D3.getD 41 undef), (D3.getD 42 undef), (D3.getD 43 undef), (D3.getD 44 undef), (D3.getD 45 undef), (D3.getD 46 undef), (D3.getD 47 undef), (D3.getD 48 undef), (D3.getD 49 undef), (D3.getD 50 undef), (D3.getD 51 undef), (D3.getD 52 undef), (D3.getD 53 undef), (D3.getD 54 undef), (D3.getD 55 undef), (D3.getD 56 undef), (D3.getD 57 undef), (D3.getD 58 undef), (D3.getD 59 undef), (D3.getD 60 undef), (D3.getD 61 undef), (D3.getD 62 undef), (D3.getD 63 undef), (D3.getD 64 undef), (D3.getD 65 undef), (D3.getD 66 undef), (D3.getD 67 undef), (D3.getD 68 undef), (D3.getD 69 undef), (D3.getD 70 undef), (D3.getD 71 undef), (D3.getD 72 undef), (D3.getD 73 undef), (D3.getD 74 undef), (D3.getD 75 undef), (D3.getD 76 undef), (D3.getD 77 undef), (D3.getD 78 undef), (D3.getD 79 undef), (D3.getD 80 undef), (D3.getD 81 undef), (D3.getD 82 undef), (D3.getD 83 undef), (D3.getD 84 undef), (D3.getD 85 undef), (D3.getD 86 undef), (D3.getD 87 undef), .bool x19, undef, undef, undef, undef, undef, undef, undef, undef, undef, undef, undef, undef, undef, undef, undef, undef, undef, undef, undef, undef, undef, undef, undef] [] w') → X D3 ds wz) ?_ ?_
  intro X12 hX12
  refine fun D3 _ _ hJ => hJ X12 ?_
  clear s
  intro I18 x19 w24 hf s kk e3 eg2
  refine hX12 _ _ _ ?_
  unfold g6_j4 at hf
  by_cases h8 : x19 = true
  have hf := iteT h8 hf
  refine WPK.condT (Eq.trans (b := .bool x19) (by kernel_rfl) (b_t h8)) ?_
  refine WPK.seq ?_
  refine WPK.region ?_
  refine RW.seg hT 1 [] [] [.bool false] [] (by kernel_rfl) (trivial) ?_
  refine RW.nil ?_
  refine WPK.ret (?_)
  obtain rfl := someS hf
  refine Fin.of (rs := [.tmp 6]) hT [] (.bool false) [] rfl (by kernel_rfl) (trivial) ?_
  exact fun X h => vc rfl (h I18 _ s kk)
  have hf := iteF h8 hf
  refine WPK.condF (Eq.trans (b := .bool x19) (by kernel_rfl) (b_f h8)) ?_
  refine WPK.skip ?_
  exact fun X h => kc (by kernel_rfl) rfl (h I18 _ hf s kk e3 eg2)
  refine WPK.region ?_
  refine RW.seg hT 2 [] [(64, .bool (decide (x8.2 ≠ 0)))] [.int .i64 x8.2, .bool (decide (x8.2 ≠ 0))] [.veq (.bool (x8.2 != 0)) (.bool (decide (x8.2 ≠ 0)))] (by kernel_rfl) (ne_v) ?_
  by_cases h9 : x8.2 ≠ 0
  have hf := iteT h9 hf
  refine RW.seg hT 24 [] [(65, .bool true)] [.bool true, undef, undef, .bool true, .bool true, undef, undef, undef, undef, .bool true, .bool true, undef, undef, undef, undef, .bool true, .bool true, undef, undef, undef, undef, undef, undef, .bool true] [.veq (.bool (decide (x8.2 ≠ 0))) (.bool true)] (by kernel_rfl) (bo_t h9) ?_
  refine RW.nil ?_
  replace s := s.pick [] 3 rfl
  exact fun X h => kc (by kernel_rfl) rfl (h I17 true _ hf s kk e3 eg2)
  have hf := iteF h9 hf
  refine RW.seg hT 4 [] [(65, .bool false), (67, .bool (decide (x18 ≠ 0)))] [.bool false, .int .i64 x18, .bool (decide (x18 ≠ 0)), .bool (decide (x18 ≠ 0))] [.veq (.bool (decide (x8.2 ≠ 0))) (.bool false), .veq (.bool (x18 != 0)) (.bool (decide (x18 ≠ 0)))] (by kernel_rfl) (⟨bo_f h9, ne_v⟩) ?_
  by_cases h10 : x18 ≠ 0
  have hf := iteT h10 hf
  refine RW.seg hT 20 [] [(69, .bool true)] [.bool true, undef, undef, undef, undef, .bool true, .bool true, undef, undef, undef, undef, .bool true, .bool true, undef, undef, undef, undef, undef, undef, .bool true] [.veq (.bool (decide (x18 ≠ 0))) (.bool true)] (by kernel_rfl) (bo_t h10) ?_
  refine RW.nil ?_
  replace s := s.pick [] 3 rfl
  exact fun X h => kc (by kernel_rfl) rfl (h I17 true _ hf s kk e3 eg2)
  have hf := iteF h10 hf
  refine RW.seg hT 3 [.agg #[.int .u64 x8.1.Epoch, .int .i64 x8.1.Pages, .slice A8 x8.1.Maps.length u8, .slice A9 x8.1.User.length u9], .agg #[.int .u64 p0.Epoch, .int .i64 p0.Pages, .slice A1 p0.Maps.length u1, .slice A2 p0.User.length u2]] [(69, .bool false)] [.bool false, .agg #[.int .u64 x8.1.Epoch, .int .i64 x8.1.Pages, .slice A8 x8.1.Maps.length u8, .slice A9 x8.1.User.length u9], .agg #[.int .u64 p0.Epoch, .int .i64 p0.Pages, .slice A1 p0.Maps.length u1, .slice A2 p0.User.length u2]] [.veq (.bool (decide (x18 ≠ 0))) (.bool false), .cells ⟨b3, 0, none⟩ [.int .u64 x8.1.Epoch, .int .i64 x8.1.Pages, .slice A8 x8.1.Maps.length u8, .slice A9 x8.1.User.length u9] 4, .cells ⟨b1, 0, none⟩ [.int .u64 p0.Epoch, .int .i64 p0.Pages, .slice A1 p0.Maps.length u1, .slice A2 p0.User.length u2] 4] (by kernel_rfl) (⟨bo_f h10, s.cells (i := 1) rfl rfl rfl, s.cells (i := 2) rfl rfl rfl⟩) ?_
  obtain ⟨x20, hx12, hf⟩ := bindS hf
  refine RW.op (by kernel_rfl) (OK.call' en23 (by kernel_rfl) (c23 (F := (.blk b5 (.cells #[.int .u64 x13, .int .i64 x14, .slice A11 x15.length u11, .slice A12 x16.length u12] 28 (0, 0))) :: (.blk b3 (.cells #[.int .u64 x8.1.Epoch, .int .i64 x8.1.Pages, .slice A8 x8.1.Maps.length u8, .slice A9 x8.1.User.length u9] 28 (0, 0))) :: (.blk b1 (.cells #[.int .u64 p0.Epoch, .int .i64 p0.Pages, .slice A1 p0.Maps.length u1, .slice A2 p0.User.length u2] 28 (0, 0))) :: F) x8.1 p0 A8 u8 A9 u9 A1 u1 A2 u2 hc9 e9 hc8 e8 hc1 e1 hc2 e2 s hx12) ?_)
  intro X13 hX13
  refine fun _ _ hJ => hJ X13 ?_
  clear s
  intro I19 w25 s k25
  refine hX13 _ _ ?_
  replace e3 := e3.st k25
  replace e11 := e11.st k25
  replace e12 := e12.st k25
  replace e9 := e9.st k25
  replace e8 := e8.st k25
  replace e1 := e1.st k25
  replace e2 := e2.st k25
  replace eg2 := eg2.st k25
  replace kk := kk.trans k25
  refine RW.seg hT 2 [] [(73, .bool (decide (¬ (x20 = true))))] [.bool (decide (¬ (x20 = true))), .bool (decide (¬ (x20 = true)))] [.veq (.bool (!x20)) (.bool (decide (¬ (x20 = true))))] (by kernel_rfl) (not_b) ?_
  by_cases h11 : ¬ (x20 = true)
  have hf := iteT h11 hf
  refine RW.seg hT 14 [] [(75, .bool true)] [.bool true, undef, undef, undef, undef, .bool true, .bool true, undef, undef, undef, undef, undef, undef, .bool true] [.veq (.bool (decide (¬ (x20 = true)))) (.bool true)] (by kernel_rfl) (bo_t h11) ?_
  refine RW.nil ?_
  replace s := s.pick [] 3 rfl
  exact fun X h => kc (by kernel_rfl) rfl (h I19 true _ hf s kk e3 eg2)
  have hf := iteF h11 hf
  refine RW.seg hT 3 [.agg #[.int .u64 x13, .int .i64 x14, .slice A11 x15.length u11, .slice A12 x16.length u12], .agg #[.int .u64 p0.Epoch, .int .i64 p0.Pages, .slice A1 p0.Maps.length u1, .slice A2 p0.User.length u2]] [(75, .bool false)] [.bool false, .agg #[.int .u64 x13, .int .i64 x14, .slice A11 x15.length u11, .slice A12 x16.length u12], .agg #[.int .u64 p0.Epoch, .int .i64 p0.Pages, .slice A1 p0.Maps.length u1, .slice A2 p0.User.length u2]] [.veq (.bool (decide (¬ (x20 = true)))) (.bool false), .cells ⟨b5, 0, none⟩ [.int .u64 x13, .int .i64 x14, .slice A11 x15.length u11, .slice A12 x16.length u12] 4, .cells ⟨b1, 0, none⟩ [.int .u64 p0.Epoch, .int .i64 p0.Pages, .slice A1 p0.Maps.length u1, .slice A2 p0.User.length u2] 4] (by kernel_rfl) (⟨bo_f h11, s.cells (i := 0) rfl rfl rfl, s.cells (i := 2) rfl rfl rfl⟩) ?_
  obtain ⟨x21, hx13, hf⟩ := bindS hf
  refine RW.op (by kernel_rfl) (OK.call' en23 (by kernel_rfl) (c23 (F := (.blk b5 (.cells #[.int .u64 x13, .int .i64 x14, .slice A11 x15.length u11, .slice A12 x16.length u12] 28 (0, 0))) :: (.blk b3 (.cells #[.int .u64 x8.1.Epoch, .int .i64 x8.1.Pages, .slice A8 x8.1.Maps.length u8, .slice A9 x8.1.User.length u9] 28 (0, 0))) :: (.blk b1 (.cells #[.int .u64 p0.Epoch, .int .i64 p0.Pages, .slice A1 p0.Maps.length u1, .slice A2 p0.User.length u2] 28 (0, 0))) :: F) (T_api_Head.mk x13 x14 x15 x16) p0 A11 u11 A12 u12 A1 u1 A2 u2 hc11 e11 hc12 e12 hc1 e1 hc2 e2 s hx13) ?_)
  intro X14 hX14
  refine fun _ _ hJ => hJ X14 ?_
  clear s
  intro I20 w26 s k26
  refine hX14 _ _ ?_
  replace e3 := e3.st k26
  replace e11 := e11.st k26
  replace e12 := e12.st k26
  replace e9 := e9.st k26
  replace e8 := e8.st k26
  replace e1 := e1.st k26
  replace e2 := e2.st k26
  replace eg2 := eg2.st k26
  replace kk := kk.trans k26
  refine RW.seg hT 2 [] [(79, .bool (decide (¬ (x21 = true))))] [.bool (decide (¬ (x21 = true))), .bool (decide (¬ (x21 = true)))] [.veq (.bool (!x21)) (.bool (decide (¬ (x21 = true))))] (by kernel_rfl) (not_b) ?_
  by_cases h12 : ¬ (x21 = true)
  have hf := iteT h12 hf
  refine RW.seg hT 8 [] [(81, .bool true)] [.bool true, undef, undef, undef, undef, undef, undef, .bool true] [.veq (.bool (decide (¬ (x21 = true)))) (.bool true)] (by kernel_rfl) (bo_t h12) ?_
  refine RW.nil ?_
  replace s := s.pick [] 3 rfl
  exact fun X h => kc (by kernel_rfl) rfl (h I20 true _ hf s kk e3 eg2)
  have hf := iteF h12 hf
  refine RW.seg hT 8 [.int .u64 p0.Epoch, undef] [(81, .bool false), (87, .bool (decide (x17 ≠ (IntKind.i64.wrap (Int.tmod p0.Epoch 2)))))] [.bool false, .int .i64 x17, .pointer (some ⟨b1, 0, none⟩), .int .u64 p0.Epoch, .int .u64 (Int.tmod p0.Epoch 2), .int .i64 (IntKind.i64.wrap (Int.tmod p0.Epoch 2)), .bool (decide (x17 ≠ (IntKind.i64.wrap (Int.tmod p0.Epoch 2)))), .bool (decide (x17 ≠ (IntKind.i64.wrap (Int.tmod p0.Epoch 2))))] [.veq (.bool (decide (¬ (x21 = true)))) (.bool false), .cell ⟨b1, 0, none⟩ (.int .u64 p0.Epoch), .ne0 2, .veq (.bool (x17 != (IntKind.i64.wrap (Int.tmod p0.Epoch 2)))) (.bool (decide (x17 ≠ (IntKind.i64.wrap (Int.tmod p0.Epoch 2)))))] (by kernel_rfl) (⟨bo_f h12, s.cell (i := 2) (off := 0) rfl rfl, (show (2 : Int) ≠ 0 by decide), ne_v⟩) ?_
  refine RW.nil ?_
  replace s := s.pick [] 3 rfl
  exact fun X h => kc (by kernel_rfl) rfl (h I20 (decide (x17 ≠ (IntKind.i64.wrap (Int.tmod p0.Epoch 2)))) _ hf s kk e3 eg2)
  refine Ret.of Tryd.func10 rfl ?_
  refine WPK.seq ?_
  refine WPK.region ?_
  refine RW.op (by kernel_rfl) (OK.new hT (f := fun b => .pointer (some ⟨b, 0, none⟩)) (cs := [.int .u64 0, .int .i64 0, .slice none 0 0, .slice none 0 0]) (e := 28) (c := .tt) s (by kernel_rfl) trivial ?_)
  clear s
  rintro w27 b6 s k27 -
  replace e3 := e3.st k27
  replace e9 := e9.st k27
  replace e8 := e8.st k27
  replace e1 := e1.st k27
  replace e2 := e2.st k27
  replace rp7 := rp7.st k27
  replace eg2 := eg2.st k27
  replace kk := kk.trans k27
  refine RW.seg hT 2 [] [] [.int .i64 0, .int .i64 0] [] (by kernel_rfl) (trivial) ?_
  refine RW.nil ?_
  refine WPK.seq ?_
  refine WPK.region ?_
  refine RW.seg hT 1 [] [] [.int .i64 (-1)] [] (by kernel_rfl) (trivial) ?_
  refine RW.nil ?_
  refine WPK.seq ?_
  refine WPK.region ?_
  refine RW.op (by kernel_rfl) (OK.new hT (f := fun b => .pointer (some ⟨b, 0, none⟩)) (cs := [.int .u64 0, .int .i64 0, .slice none 0 0, .slice none 0 0]) (e := 28) (c := .tt) s (by kernel_rfl) trivial ?_)
  clear s
  rintro w28 b7 s k28 -
  replace e3 := e3.st k28
  replace e9 := e9.st k28
  replace e8 := e8.st k28
  replace e1 := e1.st k28
  replace e2 := e2.st k28
  replace rp7 := rp7.st k28
  replace eg2 := eg2.st k28
  replace kk := kk.trans k28
  refine RW.nil ?_
  refine WPK.seq ?_
  refine WPK.seq ?_
  refine WPK.region ?_
  refine RW.seg hT 4 [] [(15, .int .i64 (y1.length : Int))] [.slice (some ⟨b4, 0, none⟩) x9.length x9.length, .slice (some ⟨b4, 0, none⟩) x9.length x9.length, .int .i64 (y1.length : Int), .int .i64 (if 2 < (y1.length : Int) then 2 else (y1.length : Int))] [.veq (.int .i64 (x9.length : Nat)) (.int .i64 (y1.length : Int))] (by kernel_rfl) (len_v hn6) ?_
  obtain ⟨h13, hf⟩ := iteS hf
  have hc13 := row_hc (s.at (i := 2) rfl)
  have hb1 : (if 2 < (y1.length : Int) then 2 else (y1.length : Int)).toNat ≤ x9.length := by have hnn := hn6; omega
  refine RW.seg hT 1 [] [] [.slice (some ⟨b4, 0, none⟩) (if 2 < (y1.length : Int) then 2 else (y1.length : Int)).toNat x9.length] [.cut 0 (if 2 < (y1.length : Int) then 2 else (y1.length : Int)) x9.length x9.length] (by kernel_rfl) (⟨Int.le_refl _, h13.1, by omega, Int.le_refl _⟩) ?_
  obtain ⟨s', rp8, hn7⟩ := St.shrinkA s (i := 2) (h := (if 2 < (y1.length : Int) then 2 else (y1.length : Int)).toNat) rfl rfl hn6 rp7 hb1
  replace s := s'; clear s'
  refine RW.seg hT 2 [] [(18, .int .i64 ((List.take ((if 2 < (y1.length : Int) then 2 else (y1.length : Int)).toNat) y1).length : Int))] [.int .i64 ((List.take ((if 2 < (y1.length : Int) then 2 else (y1.length : Int)).toNat) y1).length : Int), .int .i64 0] [.veq (.int .i64 ((if 2 < (y1.length : Int) then 2 else (y1.length : Int)).toNat : Nat)) (.int .i64 ((List.take ((if 2 < (y1.length : Int) then 2 else (y1.length : Int)).toNat) y1).length : Int))] (by kernel_rfl) (len_v hn7) ?_
  refine RW.nil ?_
  refine WPK.block ?_
  refine WPK.loop' (J := fun n6 D4 ds wz => ∀ X : Kont, (∀ (I21 : Nat → Prop) (x22 : Int) (x23 : Int) (x24 : Int) (x25 : Int) (x26 : (List Int)) (x27 : (List Int)) (A13 : Option Addr) (u13 : Nat) (A14 : Option Addr) (u14 : Nat) (w' : World), g6_l5 p0 p1 p2 x8 y1 n6 x22 x23 x24 x25 x26 x27 = some r → St w1 M I21 ((.blk b7 (.cells #[.int .u64 x24, .int .i64 x25, .slice A13 x26.length u13, .slice A14 x27.length u14] 28 (0, 0))) :: (.blk b6 (.cells #[.int .u64 0, .int .i64 0, .slice none 0 0, .slice none 0 0] 28 (0, 0))) :: (.sl (.slice (some ⟨b4, 0, none⟩) ((if 2 < (y1.length : Int) then 2 else (y1.length : Int)).toNat) x9.length) 24 1 ((if 2 < (y1.length : Int) then 2 else (y1.length : Int)).toNat) (cl7.take ((if 2 < (y1.length : Int) then 2 else (y1.length : Int)).toNat * 1))) :: (.blk b3 (.cells #[.int .u64 x8.1.Epoch, .int .i64 x8.1.Pages, .slice A8 x8.1.Maps.length u8, .slice A9 x8.1.User.length u9] 28 (0, 0))) :: (.blk b1 (.cells #[.int .u64 p0.Epoch, .int .i64 p0.Pages, .slice A1 p0.Maps.length u1, .slice A2 p0.User.length u2] 28 (0, 0))) :: F) w' → Kp I w I21 w' → (x26.length ≤ u13 ∧ u13 ≤ 9223372036854775807) → Elems (Rp.int .i64) I21 w' A13 x26 → (x27.length ≤ u14 ∧ u14 ≤ 9223372036854775807) → Elems (Rp.int .u8) I21 w' A14 x27 → Elems (Rp.int .i64) I21 w' A8 x8.1.Maps → Elems (Rp.int .u8) I21 w' A9 x8.1.User → Elems (Rp.int .i64) I21 w' A1 p0.Maps → Elems (Rp.int .u8) I21 w' A2 p0.User → RepL (Rp.slice (Rp.int .u8)) I21 w' (cl7.take ((if 2 < (y1.length : Int) then 2 else (y1.length : Int)).toNat * 1)) (List.take ((if 2 < (y1.length : Int) then 2 else (y1.length : Int)).toNat) y1) → Elems (Rp.int .u8) I21 w' A3 p2 → Elems (Rp.int .u32) I21 w' (some ⟨2, 0, none⟩) TAB2 → X [.int .i64 p0.Pages, (D4.getD 1 undef), (D4.getD 2 undef), (D4.getD 3 undef), .pointer (some ⟨b6, 0, none⟩), .int .i64 0, .int .i64 0, .int .i64 x22, .pointer (some ⟨b7, 0, none⟩), (D4.getD 9 undef), (D4.getD 10 undef), (D4.getD 11 undef), (D4.getD 12 undef), (D4.getD 13 undef), (D4.getD 14 undef), (D4.getD 15 undef), (D4.getD 16 undef), .slice (some ⟨b4, 0, none⟩) ((if 2 < (y1.length : Int) then 2 else (y1.length : Int)).toNat) x9.length, .int .i64 ((List.take ((if 2 < (y1.length : Int) then 2 else (y1.length : Int)).toNat) y1).length : Int), .int .i64 x23, (D4.getD 20 undef), (D4.getD 21 undef), (D4.getD 22 undef), (D4.getD 23 undef), (D4.getD 24 undef), (D4.getD 25 undef), (D4.getD 26 undef), (D4.getD 27 undef), (D4.getD 28 undef), (D4.getD 29 undef), (D4.getD 30 undef), (D4.getD 31 undef), (D4.getD 32 undef), (D4.getD 33 undef), (D4.getD 34 undef), (D4.getD 35 undef), (D4.getD 36 undef), (D4.getD 37 undef), (D4.getD 38 undef), (D4.getD 39 undef), (D4.getD 40 undef), (D4.getD 41 undef), (D4.getD 42 undef), (D4.getD 43 undef), (D4.getD 44 undef), (D4.getD 45 undef), (D4.getD 46 undef), undef, undef, undef, undef, undef] [] w') → X D4 ds wz) FUEL (fun X h => kc (by kernel_rfl) rfl (h I16 (-1) 0 0 0 [] [] none 0 none 0 _ hf s kk nil_hc Elems.nil nil_hc Elems.nil e9 e8 e1 e2 rp8 e3 eg2)) (fun _ _ _ hJ => hJ (fun _ _ _ => False) (by intro I21 x22 x23 x24 x25 x26 x27 A13 u13 A14 u14 w29 hf s kk hc14 e13 hc15 e14 e9 e8 e1 e2 rp8 e3 eg2; exact noneS hf)) ?_
  intro X15 hX15
  refine fun n6 D4 _ _ hJ => hJ (X15 n6) ?_
  clear s
  intro I21 x22 x23 x24 x25 x26 x27 A13 u13 A14 u14 w29 hf s kk hc14 e13 hc15 e14 e9 e8 e1 e2 rp8 e3 eg2
  refine hX15 _ _ _ _ ?_
  replace hf : g6_l5B p0 p1 p2 x8 y1 (g6_l5 p0 p1 p2 x8 y1 n6) x22 x23 x24 x25 x26 x27 = some r := hf
  generalize hrec1 : g6_l5 p0 p1 p2 x8 y1 n6 = rec1 at hf
  unfold g6_l5B at hf
  refine WPK.seq ?_
  refine WPK.region ?_
  refine RW.seg hT 1 [] [] [.bool (decide (x23 < ((List.take ((if 2 < (y1.length : Int) then 2 else (y1.length : Int)).toNat) y1).length : Int)))] [] (by kernel_rfl) (trivial) ?_
  refine RW.nil ?_
  refine WPK.seq ?_
  by_cases h14 : x23 < ((List.take ((if 2 < (y1.length : Int) then 2 else (y1.length : Int)).toNat) y1).length : Int)
  have hf := iteT h14 hf
  refine WPK.condT (Eq.trans (b := .bool (decide (x23 < ((List.take ((if 2 < (y1.length : Int) then 2 else (y1.length : Int)).toNat) y1).length : Int)))) (by kernel_rfl) (bo_t h14)) ?_
  refine WPK.skip ?_
  refine WPK.seq ?_
  refine WPK.cut' (Kn fun D5 ds wz => ∀ X : Kont, (∀ (I22 : Nat → Prop) (x28 : Int) (x29 : (List Int)) (x30 : Bool) (x31 : (List Int)) (x32 : Int) (x33 : Int) (x34 : (List Int)) (x35 : (List Int)) (x36 : Bool) (x37 : (List Int)) (x38 : Int) (x39 : Int) (x40 : (List Int)) (x41 : (List Int)) (x42 : Bool) (x43 : Int) (x44 : Int) (x45 : (List Int)) (x46 : (List Int)) (x47 : Bool) (x48 : Bool) (x49 : Bool) (x50 : Bool) (x51 : Bool) (x52 : Int) (x53 : Int) (x54 : (List Int)) (x55 : (List Int)) (x56 : Int) (x57 : Int) (x58 : (List Int)) (x59 : (List Int)) (b8 : Nat) (A15 : Option Addr) (u15 : Nat) (d1 : Value) (A16 : Option Addr) (u16 : Nat) (A17 : Option Addr) (u17 : Nat) (A18 : Option Addr) (u18 : Nat) (A19 : Option Addr) (u19 : Nat) (A20 : Option Addr) (u20 : Nat) (A21 : Option Addr) (u21 : Nat) (A22 : Option Addr) (u22 : Nat) (A23 : Option Addr) (u23 : Nat) (A24 : Option Addr) (u24 : Nat) (A25 : Option Addr) (u25 : Nat) (A26 : Option Addr) (u26 : Nat) (A27 : Option Addr) (u27 : Nat) (w' : World), g6_j6 x23 rec1 x28 x29 x30 x31 x32 x33 x34 x35 x36 x37 x38 x39 x40 x41 x42 x43 x44 x45 x46 x47 x48 x49 x50 x51 x52 x53 x54 x55 x56 x57 x58 x59 = some r → St w1 M I22 ((.blk b8 (.cells #[.int .u64 x52, .int .i64 x53, .slice A24 x54.length u24, .slice A25 x55.length u25] 28 (0, 0))) :: (.blk b7 (.cells #[.int .u64 x56, .int .i64 x57, .slice A26 x58.length u26, .slice A27 x59.length u27] 28 (0, 0))) :: (.blk b6 (.cells #[.int .u64 0, .int .i64 0, .slice none 0 0, .slice none 0 0] 28 (0, 0))) :: (.sl (.slice (some ⟨b4, 0, none⟩) ((if 2 < (y1.length : Int) then 2 else (y1.length : Int)).toNat) x9.length) 24 1 ((if 2 < (y1.length : Int) then 2 else (y1.length : Int)).toNat) (cl7.take ((if 2 < (y1.length : Int) then 2 else (y1.length : Int)).toNat * 1))) :: (.blk b3 (.cells #[.int .u64 x8.1.Epoch, .int .i64 x8.1.Pages, .slice A8 x8.1.Maps.length u8, .slice A9 x8.1.User.length u9] 28 (0, 0))) :: (.blk b1 (.cells #[.int .u64 p0.Epoch, .int .i64 p0.Pages, .slice A1 p0.Maps.length u1, .slice A2 p0.User.length u2] 28 (0, 0))) :: F) w' → Kp I w I22 w' → (x29.length ≤ u15 ∧ u15 ≤ 9223372036854775807) → Elems (Rp.int .u8) I22 w' A15 x29 → (x31.length ≤ u16 ∧ u16 ≤ 9223372036854775807) → Elems (Rp.int .u8) I22 w' A16 x31 → (x34.length ≤ u17 ∧ u17 ≤ 9223372036854775807) → Elems (Rp.int .i64) I22 w' A17 x34 → (x35.length ≤ u18 ∧ u18 ≤ 9223372036854775807) → Elems (Rp.int .u8) I22 w' A18 x35 → (x37.length ≤ u19 ∧ u19 ≤ 9223372036854775807) → Elems (Rp.int .u8) I22 w' A19 x37 → (x40.length ≤ u20 ∧ u20 ≤ 9223372036854775807) → Elems (Rp.int .i64) I22 w' A20 x40 → (x41.length ≤ u21 ∧ u21 ≤ 9223372036854775807) → Elems (Rp.int .u8) I22 w' A21 x41 → (x45.length ≤ u22 ∧ u22 ≤ 9223372036854775807) → Elems (Rp.int .i64) I22 w' A22 x45 → (x46.length ≤ u23 ∧ u23 ≤ 9223372036854775807) → Elems (Rp.int .u8) I22 w' A23 x46 → (x54.length ≤ u24 ∧ u24 ≤ 9223372036854775807) → Elems (Rp.int .i64) I22 w' A24 x54 → (x55.length ≤ u25 ∧ u25 ≤ 9223372036854775807) → Elems (Rp.int .u8) I22 w' A25 x55 → (x58.length ≤ u26 ∧ u26 ≤ 9223372036854775807) → Elems (Rp.int .i64) I22 w' A26 x58 → (x59.length ≤ u27 ∧ u27 ≤ 9223372036854775807) → Elems (Rp.int .u8) I22 w' A27 x59 → Elems (Rp.int .i64) I22 w' A8 x8.1.Maps → Elems (Rp.int .u8) I22 w' A9 x8.1.User → Elems (Rp.int .i64) I22 w' A1 p0.Maps → Elems (Rp.int .u8) I22 w' A2 p0.User → RepL (Rp.slice (Rp.int .u8)) I22 w' (cl7.take ((if 2 < (y1.length : Int) then 2 else (y1.length : Int)).toNat * 1)) (List.take ((if 2 < (y1.length : Int) then 2 else (y1.length : Int)).toNat) y1) → Elems (Rp.int .u8) I22 w' A3 p2 → Elems (Rp.int .u32) I22 w' (some ⟨2, 0, none⟩) TAB2 → X [.int .i64 p0.Pages, (D5.getD 1 undef), (D5.getD 2 undef), (D5.getD 3 undef), .pointer (some ⟨b6, 0, none⟩), .int .i64 0, .int .i64 0, .int .i64 x28, .pointer (some ⟨b7, 0, none⟩), .int .i64 x23, .slice A15 x29.length u15, .pointer (some ⟨b8, 0, none⟩), .bool x30, (D5.getD 13 undef), (D5.getD 14 undef), (D5.getD 15 undef), (D5.getD 16 undef), .slice (some ⟨b4, 0, none⟩) ((if 2 < (y1.length : Int) then 2 else (y1.length : Int)).toNat) x9.length, .int .i64 ((List.take ((if 2 < (y1.length : Int) then 2 else (y1.length : Int)).toNat) y1).length : Int), .int .i64 x23, .bool (decide (x23 < ((List.take ((if 2 < (y1.length : Int) then 2 else (y1.length : Int)).toNat) y1).length : Int))), .int .i64 x23, d1, .slice A16 x31.length u16, .tuple #[.agg #[.int .u64 x32, .int .i64 x33, .slice A17 x34.length u17, .slice A18 x35.length u18], .bool x36], .int .i64 p0.Pages, .int .i64 x23, .slice A19 x37.length u19, .tuple #[.agg #[.int .u64 x38, .int .i64 x39, .slice A20 x40.length u20, .slice A21 x41.length u21], .bool x42], .agg #[.int .u64 x43, .int .i64 x44, .slice A22 x45.length u22, .slice A23 x46.length u23], .bool x47, .bool x48, .bool x49, .bool x50, (D5.getD 34 undef), (D5.getD 35 undef), (D5.getD 36 undef), (D5.getD 37 undef), (D5.getD 38 undef), (D5.getD 39 undef), (D5.getD 40 undef), (D5.getD 41 undef), (D5.getD 42 undef), .bool x51, (D5.getD 44 undef), (D5.getD 45 undef), (D4.getD 46 undef), undef, undef, undef, undef, undef] [] w') → X D5 ds wz) ?_ ?_
  intro X16 hX16
  refine fun D5 _ _ hJ => hJ X16 ?_
  clear s
  intro I22 x28 x29 x30 x31 x32 x33 x34 x35 x36 x37 x38 x39 x40 x41 x42 x43 x44 x45 x46 x47 x48 x49 x50 x51 x52 x53 x54 x55 x56 x57 x58 x59 b8 A15 u15 d1 A16 u16 A17 u17 A18 u18 A19 u19 A20 u20 A21 u21 A22 u22 A23 u23 A24 u24 A25 u25 A26 u26 A27 u27 w30 hf s kk hc16 e15 hc17 e16 hc18 e17 hc19 e18 hc20 e19 hc21 e20 hc22 e21 hc23 e22 hc24 e23 hc25 e24 hc26 e25 hc27 e26 hc28 e27 e9 e8 e1 e2 rp8 e3 eg2
  refine hX16 _ _ _ ?_
  unfold g6_j6 at hf
  refine WPK.region ?_
  refine RW.seg hT 2 [] [] [.int .i64 (IntKind.i64.wrap (x23 + 1)), .int .i64 (IntKind.i64.wrap (x23 + 1))] [] (by kernel_rfl) (trivial) ?_
  refine RW.nil ?_
  subst hrec1
  replace s := s.pick [1, 2, 3, 4, 5] 6 rfl
  exact ⟨n6, Nat.le_refl _, fun X h => kc (by kernel_rfl) rfl (h I22 x28 (IntKind.i64.wrap (x23 + 1)) x56 x57 x58 x59 A26 u26 A27 u27 _ hf s kk hc27 e26 hc28 e27 e9 e8 e1 e2 rp8 e3 eg2)⟩
  refine WPK.block ?_
  refine WPK.seq ?_
  refine WPK.region ?_
  obtain ⟨x60, hx14, hf⟩ := bindS hf
  obtain ⟨h15, hx14⟩ := getS hx14
  obtain ⟨-, cs1, hr1, ha1⟩ := St.elem s (i := 2) rfl hn7 rp8 hx14
  replace ha1 := ha1 _ rfl
  obtain ⟨A28, u28, rfl, q1, q2, e28⟩ := hr1
  have hc29 := And.intro q1 q2
  refine RW.seg hT 5 [.slice A28 x60.length u28] [] [.int .i64 x23, .pointer (some ⟨b4, 0 + x23.toNat * 1, none⟩), .slice A28 x60.length u28, .int .i64 x23, .slice A28 x60.length u28] [.idx x23 ((if 2 < (y1.length : Int) then 2 else (y1.length : Int)).toNat), .cell ⟨b4, 0 + x23.toNat * 1, none⟩ (.slice A28 x60.length u28)] (by kernel_rfl) (⟨(by rw [hn7]; exact h15), ha1 0 _ rfl⟩) ?_
  refine RW.nil ?_
  refine WPK.seq ?_
  refine WPK.region ?_
  refine RW.seg hT 3 [] [] [.int .i64 p0.Pages, .int .i64 x23, .slice A28 x60.length u28] [] (by kernel_rfl) (trivial) ?_
  obtain ⟨x61, hx15, hf⟩ := bindS hf
  refine RW.op (by kernel_rfl) (OK.call' en30 (by kernel_rfl) (c30 (F := (.blk b7 (.cells #[.int .u64 x24, .int .i64 x25, .slice A13 x26.length u13, .slice A14 x27.length u14] 28 (0, 0))) :: (.blk b6 (.cells #[.int .u64 0, .int .i64 0, .slice none 0 0, .slice none 0 0] 28 (0, 0))) :: (.sl (.slice (some ⟨b4, 0, none⟩) ((if 2 < (y1.length : Int) then 2 else (y1.length : Int)).toNat) x9.length) 24 1 ((if 2 < (y1.length : Int) then 2 else (y1.length : Int)).toNat) (cl7.take ((if 2 < (y1.length : Int) then 2 else (y1.length : Int)).toNat * 1))) :: (.blk b3 (.cells #[.int .u64 x8.1.Epoch, .int .i64 x8.1.Pages, .slice A8 x8.1.Maps.length u8, .slice A9 x8.1.User.length u9] 28 (0, 0))) :: (.blk b1 (.cells #[.int .u64 p0.Epoch, .int .i64 p0.Pages, .slice A1 p0.Maps.length u1, .slice A2 p0.User.length u2] 28 (0, 0))) :: F) p0.Pages x23 x60 A28 u28 hc29 e28 eg2 s hx15) ?_)
  intro X17 hX17
  refine fun _ _ hJ => hJ X17 ?_
  clear s
  intro I23 A29 n7 u29 cl8 A30 u30 w31 s k29 hn8 rp9 hc30 e29
  refine hX17 _ _ ?_
  replace e28 := e28.st k29
  replace e3 := e3.st k29
  replace e13 := e13.st k29
  replace e14 := e14.st k29
  replace e9 := e9.st k29
  replace e8 := e8.st k29
  replace e1 := e1.st k29
  replace e2 := e2.st k29
  replace rp8 := rp8.st k29
  replace eg2 := eg2.st k29
  replace kk := kk.trans k29
  rw [hn8] at s
  try rw [hn8]
  obtain ⟨I24, s', k30, hc31, e30⟩ := St.give s (i := 0) rfl rfl rp9
  replace s := s'; clear s'
  replace e28 := e28.st k30
  replace e29 := e29.st k30
  replace e3 := e3.st k30
  replace e13 := e13.st k30
  replace e14 := e14.st k30
  replace e9 := e9.st k30
  replace e8 := e8.st k30
  replace e1 := e1.st k30
  replace e2 := e2.st k30
  replace rp8 := rp8.st k30
  replace eg2 := eg2.st k30
  replace kk := kk.trans k30
  refine RW.seg hT 3 [] [] [.tuple #[.agg #[.int .u64 x61.1.Epoch, .int .i64 x61.1.Pages, .slice A29 x61.1.Maps.length u29, .slice A30 x61.1.User.length u30], .bool x61.2], .agg #[.int .u64 x61.1.Epoch, .int .i64 x61.1.Pages, .slice A29 x61.1.Maps.length u29, .slice A30 x61.1.User.length u30], .bool x61.2] [] (by kernel_rfl) (trivial) ?_
  refine RW.op (by kernel_rfl) (OK.new hT (f := fun b => .pointer (some ⟨b, 0, none⟩)) (cs := [.int .u64 0, .int .i64 0, .slice none 0 0, .slice none 0 0]) (e := 28) (c := .tt) s (by kernel_rfl) trivial ?_)
  clear s
  rintro w32 b9 s k31 -
  replace e28 := e28.st k31
  replace e30 := e30.st k31
  replace e29 := e29.st k31
  replace e3 := e3.st k31
  replace e13 := e13.st k31
  replace e14 := e14.st k31
  replace e9 := e9.st k31
  replace e8 := e8.st k31
  replace e1 := e1.st k31
  replace e2 := e2.st k31
  replace rp8 := rp8.st k31
  replace eg2 := eg2.st k31
  replace kk := kk.trans k31
  refine RW.op (by kernel_rfl) (OK.store hT (i := 0) (b := b9) (off := 0) (n := 4) (vs := [.int .u64 x61.1.Epoch, .int .i64 x61.1.Pages, .slice A29 x61.1.Maps.length u29, .slice A30 x61.1.User.length u30]) (cs := [.int .u64 0, .int .i64 0, .slice none 0 0, .slice none 0 0]) (e := 28) s (by kernel_rfl) rfl rfl (flat_ok rfl) (Nat.le_of_ble_eq_true rfl) ?_)
  clear s
  rintro w33 s k32 -
  replace e28 := e28.st k32
  replace e30 := e30.st k32
  replace e29 := e29.st k32
  replace e3 := e3.st k32
  replace e13 := e13.st k32
  replace e14 := e14.st k32
  replace e9 := e9.st k32
  replace e8 := e8.st k32
  replace e1 := e1.st k32
  replace e2 := e2.st k32
  replace rp8 := rp8.st k32
  replace eg2 := eg2.st k32
  replace kk := kk.trans k32
  refine RW.seg hT 1 [] [] [.bool x61.2] [] (by kernel_rfl) (trivial) ?_
  refine RW.nil ?_
  refine WPK.seq ?_
  refine WPK.seq ?_
  refine WPK.region ?_
  refine RW.seg hT 2 [] [(32, .bool (decide (¬ (x61.2 = true))))] [.bool x61.2, .bool (decide (¬ (x61.2 = true)))] [.veq (.bool (!x61.2)) (.bool (decide (¬ (x61.2 = true))))] (by kernel_rfl) (not_b) ?_
  by_cases h16 : ¬ (x61.2 = true)
  have hf := iteT h16 hf
  refine RW.seg hT 11 [] [(33, .bool true)] [.bool true, undef, undef, undef, undef, undef, undef, undef, undef, undef, .bool true] [.veq (.bool (decide (¬ (x61.2 = true)))) (.bool true)] (by kernel_rfl) (bo_t h16) ?_
  refine RW.nil ?_
  refine WPK.condT (by kernel_rfl) ?_
  refine WPK.exit (blockQ.same ?_)
  exact fun X h => kc (by kernel_rfl) rfl (h I24 x22 x60 x61.2 x60 x61.1.Epoch x61.1.Pages x61.1.Maps x61.1.User x61.2 x60 x61.1.Epoch x61.1.Pages x61.1.Maps x61.1.User x61.2 x61.1.Epoch x61.1.Pages x61.1.Maps x61.1.User x61.2 x61.2 (decide (¬ (x61.2 = true))) true true x61.1.Epoch x61.1.Pages x61.1.Maps x61.1.User x24 x25 x26 x27 b9 A28 u28 (.pointer (some ⟨b4, 0 + x23.toNat * 1, none⟩)) A28 u28 A29 u29 A30 u30 A28 u28 A29 u29 A30 u30 A29 u29 A30 u30 A29 u29 A30 u30 A13 u13 A14 u14 _ hf s kk hc29 e28 hc29 e28 hc31 e30 hc30 e29 hc29 e28 hc31 e30 hc30 e29 hc31 e30 hc30 e29 hc31 e30 hc30 e29 hc14 e13 hc15 e14 e9 e8 e1 e2 rp8 e3 eg2)
  have hf := iteF h16 hf
  refine RW.seg hT 3 [] [(33, .bool false)] [.bool false, .int .i64 x22, .bool (decide (x22 ≥ 0))] [.veq (.bool (decide (¬ (x61.2 = true)))) (.bool false)] (by kernel_rfl) (bo_f h16) ?_
  by_cases h17 : x22 ≥ 0
  have hf := iteT h17 hf
  refine RW.seg hT 8 [.int .u64 x61.1.Epoch, .int .u64 x24] [(36, .bool true)] [.bool true, .pointer (some ⟨b9, 0, none⟩), .int .u64 x61.1.Epoch, .pointer (some ⟨b7, 0, none⟩), .int .u64 x24, .bool (decide (x61.1.Epoch ≤ x24)), .bool (decide (x61.1.Epoch ≤ x24)), .bool (decide (x61.1.Epoch ≤ x24))] [.veq (.bool (decide (x22 ≥ 0))) (.bool true), .cell ⟨b9, 0, none⟩ (.int .u64 x61.1.Epoch), .cell ⟨b7, 0, none⟩ (.int .u64 x24)] (by kernel_rfl) (⟨bo_t h17, s.cell (i := 0) (off := 0) rfl rfl, s.cell (i := 1) (off := 0) rfl rfl⟩) ?_
  refine RW.nil ?_
  by_cases h18 : x61.1.Epoch ≤ x24
  have hf := iteT h18 hf
  refine WPK.condT (Eq.trans (b := .bool (decide (x61.1.Epoch ≤ x24))) (by kernel_rfl) (bo_t h18)) ?_
  refine WPK.exit (blockQ.same ?_)
  exact fun X h => kc (by kernel_rfl) rfl (h I24 x22 x60 x61.2 x60 x61.1.Epoch x61.1.Pages x61.1.Maps x61.1.User x61.2 x60 x61.1.Epoch x61.1.Pages x61.1.Maps x61.1.User x61.2 x61.1.Epoch x61.1.Pages x61.1.Maps x61.1.User x61.2 x61.2 (decide (¬ (x61.2 = true))) false (decide (x61.1.Epoch ≤ x24)) x61.1.Epoch x61.1.Pages x61.1.Maps x61.1.User x24 x25 x26 x27 b9 A28 u28 (.pointer (some ⟨b4, 0 + x23.toNat * 1, none⟩)) A28 u28 A29 u29 A30 u30 A28 u28 A29 u29 A30 u30 A29 u29 A30 u30 A29 u29 A30 u30 A13 u13 A14 u14 _ hf s kk hc29 e28 hc29 e28 hc31 e30 hc30 e29 hc29 e28 hc31 e30 hc30 e29 hc31 e30 hc30 e29 hc31 e30 hc30 e29 hc14 e13 hc15 e14 e9 e8 e1 e2 rp8 e3 eg2)
  have hf := iteF h18 hf
  refine WPK.condF (Eq.trans (b := .bool (decide (x61.1.Epoch ≤ x24))) (by kernel_rfl) (bo_f h18)) ?_
  refine WPK.skip ?_
  refine WPK.region ?_
  refine RW.seg hT 2 [.agg #[.int .u64 x61.1.Epoch, .int .i64 x61.1.Pages, .slice A29 x61.1.Maps.length u29, .slice A30 x61.1.User.length u30]] [] [.agg #[.int .u64 x61.1.Epoch, .int .i64 x61.1.Pages, .slice A29 x61.1.Maps.length u29, .slice A30 x61.1.User.length u30], .int .i64 x23] [.cells ⟨b9, 0, none⟩ [.int .u64 x61.1.Epoch, .int .i64 x61.1.Pages, .slice A29 x61.1.Maps.length u29, .slice A30 x61.1.User.length u30] 4] (by kernel_rfl) (s.cells (i := 0) rfl rfl rfl) ?_
  refine RW.op (by kernel_rfl) (OK.store hT (i := 1) (b := b7) (off := 0) (n := 4) (vs := [.int .u64 x61.1.Epoch, .int .i64 x61.1.Pages, .slice A29 x61.1.Maps.length u29, .slice A30 x61.1.User.length u30]) (cs := [.int .u64 x24, .int .i64 x25, .slice A13 x26.length u13, .slice A14 x27.length u14]) (e := 28) s (by kernel_rfl) rfl rfl (flat_ok rfl) (Nat.le_of_ble_eq_true rfl) ?_)
  clear s
  rintro w34 s k33 -
  replace e28 := e28.st k33
  replace e30 := e30.st k33
  replace e29 := e29.st k33
  replace e3 := e3.st k33
  replace e13 := e13.st k33
  replace e14 := e14.st k33
  replace e9 := e9.st k33
  replace e8 := e8.st k33
  replace e1 := e1.st k33
  replace e2 := e2.st k33
  replace rp8 := rp8.st k33
  replace eg2 := eg2.st k33
  replace kk := kk.trans k33
  refine RW.seg hT 1 [] [] [.int .i64 x23] [] (by kernel_rfl) (trivial) ?_
  refine RW.nil ?_
  exact fun X h => kc (by kernel_rfl) rfl (h I24 x23 x60 x61.2 x60 x61.1.Epoch x61.1.Pages x61.1.Maps x61.1.User x61.2 x60 x61.1.Epoch x61.1.Pages x61.1.Maps x61.1.User x61.2 x61.1.Epoch x61.1.Pages x61.1.Maps x61.1.User x61.2 x61.2 (decide (¬ (x61.2 = true))) false (decide (x61.1.Epoch ≤ x24)) x61.1.Epoch x61.1.Pages x61.1.Maps x61.1.User x61.1.Epoch x61.1.Pages x61.1.Maps x61.1.User b9 A28 u28 (.pointer (some ⟨b4, 0 + x23.toNat * 1, none⟩)) A28 u28 A29 u29 A30 u30 A28 u28 A29 u29 A30 u30 A29 u29 A30 u30 A29 u29 A30 u30 A29 u29 A30 u30 _ hf s kk hc29 e28 hc29 e28 hc31 e30 hc30 e29 hc29 e28 hc31 e30 hc30 e29 hc31 e30 hc30 e29 hc31 e30 hc30 e29 hc31 e30 hc30 e29 e9 e8 e1 e2 rp8 e3 eg2)
  have hf := iteF h17 hf
  refine RW.seg hT 8 [] [(36, .bool false)] [.bool false, undef, undef, undef, undef, undef, .bool false, .bool false] [.veq (.bool (decide (x22 ≥ 0))) (.bool false)] (by kernel_rfl) (bo_f h17) ?_
  refine RW.nil ?_
  refine WPK.condF (by kernel_rfl) ?_
  refine WPK.skip ?_
  refine WPK.region ?_
  refine RW.seg hT 2 [.agg #[.int .u64 x61.1.Epoch, .int .i64 x61.1.Pages, .slice A29 x61.1.Maps.length u29, .slice A30 x61.1.User.length u30]] [] [.agg #[.int .u64 x61.1.Epoch, .int .i64 x61.1.Pages, .slice A29 x61.1.Maps.length u29, .slice A30 x61.1.User.length u30], .int .i64 x23] [.cells ⟨b9, 0, none⟩ [.int .u64 x61.1.Epoch, .int .i64 x61.1.Pages, .slice A29 x61.1.Maps.length u29, .slice A30 x61.1.User.length u30] 4] (by kernel_rfl) (s.cells (i := 0) rfl rfl rfl) ?_
  refine RW.op (by kernel_rfl) (OK.store hT (i := 1) (b := b7) (off := 0) (n := 4) (vs := [.int .u64 x61.1.Epoch, .int .i64 x61.1.Pages, .slice A29 x61.1.Maps.length u29, .slice A30 x61.1.User.length u30]) (cs := [.int .u64 x24, .int .i64 x25, .slice A13 x26.length u13, .slice A14 x27.length u14]) (e := 28) s (by kernel_rfl) rfl rfl (flat_ok rfl) (Nat.le_of_ble_eq_true rfl) ?_)
  clear s
  rintro w35 s k34 -
  replace e28 := e28.st k34
  replace e30 := e30.st k34
  replace e29 := e29.st k34
  replace e3 := e3.st k34
  replace e13 := e13.st k34
  replace e14 := e14.st k34
  replace e9 := e9.st k34
  replace e8 := e8.st k34
  replace e1 := e1.st k34
  replace e2 := e2.st k34
  replace rp8 := rp8.st k34
  replace eg2 := eg2.st k34
  replace kk := kk.trans k34
  refine RW.seg hT 1 [] [] [.int .i64 x23] [] (by kernel_rfl) (trivial) ?_
  refine RW.nil ?_
  exact fun X h => kc (by kernel_rfl) rfl (h I24 x23 x60 x61.2 x60 x61.1.Epoch x61.1.Pages x61.1.Maps x61.1.User x61.2 x60 x61.1.Epoch x61.1.Pages x61.1.Maps x61.1.User x61.2 x61.1.Epoch x61.1.Pages x61.1.Maps x61.1.User x61.2 x61.2 (decide (¬ (x61.2 = true))) false false x61.1.Epoch x61.1.Pages x61.1.Maps x61.1.User x61.1.Epoch x61.1.Pages x61.1.Maps x61.1.User b9 A28 u28 (.pointer (some ⟨b4, 0 + x23.toNat * 1, none⟩)) A28 u28 A29 u29 A30 u30 A28 u28 A29 u29 A30 u30 A29 u29 A30 u30 A29 u29 A30 u30 A29 u29 A30 u30 _ hf s kk hc29 e28 hc29 e28 hc31 e30 hc30 e29 hc29 e28 hc31 e30 hc30 e29 hc31 e30 hc30 e29 hc31 e30 hc30 e29 hc31 e30 hc30 e29 e9 e8 e1 e2 rp8 e3 eg2)
  have hf := iteF h14 hf
  refine WPK.condF (Eq.trans (b := .bool (decide (x23 < ((List.take ((if 2 < (y1.length : Int) then 2 else (y1.length : Int)).toNat) y1).length : Int)))) (by kernel_rfl) (bo_f h14)) ?_
  refine WPK.exit (blockQ.same ?_)
  refine WPK.seq ?_
  refine WPK.seq ?_
  refine WPK.region ?_
  refine RW.seg hT 2 [] [] [.int .i64 x22, .bool (decide (x22 < 0))] [] (by kernel_rfl) (trivial) ?_
  refine RW.nil ?_
  by_cases h19 : x22 < 0
  have hf := iteT h19 hf
  refine WPK.condT (Eq.trans (b := .bool (decide (x22 < 0))) (by kernel_rfl) (bo_t h19)) ?_
  refine WPK.seq ?_
  refine WPK.region ?_
  refine RW.seg hT 1 [] [] [.agg #[.int .u64 0, .int .i64 0, .slice none 0 0, .slice none 0 0]] [] (by kernel_rfl) (trivial) ?_
  refine RW.op (by kernel_rfl) (OK.store hT (i := 1) (b := b6) (off := 0) (n := 4) (vs := [.int .u64 0, .int .i64 0, .slice none 0 0, .slice none 0 0]) (cs := [.int .u64 0, .int .i64 0, .slice none 0 0, .slice none 0 0]) (e := 28) s (by kernel_rfl) rfl rfl (flat_ok rfl) (Nat.le_of_ble_eq_true rfl) ?_)
  clear s
  rintro w36 s k35 -
  replace e3 := e3.st k35
  replace e13 := e13.st k35
  replace e14 := e14.st k35
  replace e9 := e9.st k35
  replace e8 := e8.st k35
  replace e1 := e1.st k35
  replace e2 := e2.st k35
  replace rp8 := rp8.st k35
  replace eg2 := eg2.st k35
  replace kk := kk.trans k35
  refine RW.seg hT 2 [] [] [.int .i64 0, .int .i64 60] [] (by kernel_rfl) (trivial) ?_
  refine RW.nil ?_
  refine WPK.ret (?_)
  refine Fin.of (rs := [.cell 4 28, .tmp 5, .tmp 6]) hT [.agg #[.int .u64 0, .int .i64 0, .slice none 0 0, .slice none 0 0]] (.tuple #[.agg #[.int .u64 0, .int .i64 0, .slice none 0 0, .slice none 0 0], .int .i64 0, .int .i64 60]) [.cells ⟨b6, 0, none⟩ [.int .u64 0, .int .i64 0, .slice none 0 0, .slice none 0 0] 4] rfl (by kernel_rfl) (s.cells (i := 1) rfl rfl rfl) ?_
  replace s := s.pick [3, 4] 5 rfl
  exact fun X h => vc rfl (h I21 0 0 [] [] 0 60 none 0 none 0 _ hf s kk e3 nil_hc Elems.nil nil_hc Elems.nil e9 e8 e1 e2 eg2)
  have hf := iteF h19 hf
  refine WPK.condF (Eq.trans (b := .bool (decide (x22 < 0))) (by kernel_rfl) (bo_f h19)) ?_
  refine WPK.skip ?_
  refine WPK.seq ?_
  refine WPK.region ?_
  refine RW.seg hT 2 [.agg #[.int .u64 x24, .int .i64 x25, .slice A13 x26.length u13, .slice A14 x27.length u14]] [] [.agg #[.int .u64 x24, .int .i64 x25, .slice A13 x26.length u13, .slice A14 x27.length u14], .int .i64 x22] [.cells ⟨b7, 0, none⟩ [.int .u64 x24, .int .i64 x25, .slice A13 x26.length u13, .slice A14 x27.length u14] 4] (by kernel_rfl) (s.cells (i := 0) rfl rfl rfl) ?_
  refine RW.op (by kernel_rfl) (OK.store hT (i := 1) (b := b6) (off := 0) (n := 4) (vs := [.int .u64 x24, .int .i64 x25, .slice A13 x26.length u13, .slice A14 x27.length u14]) (cs := [.int .u64 0, .int .i64 0, .slice none 0 0, .slice none 0 0]) (e := 28) s (by kernel_rfl) rfl rfl (flat_ok rfl) (Nat.le_of_ble_eq_true rfl) ?_)
  clear s
  rintro w37 s k36 -
  replace e13 := e13.st k36
  replace e14 := e14.st k36
  replace e3 := e3.st k36
  replace e9 := e9.st k36
  replace e8 := e8.st k36
  replace e1 := e1.st k36
  replace e2 := e2.st k36
  replace rp8 := rp8.st k36
  replace eg2 := eg2.st k36
  replace kk := kk.trans k36
  refine RW.seg hT 2 [] [] [.int .i64 x22, .int .i64 0] [] (by kernel_rfl) (trivial) ?_
  refine RW.nil ?_
  refine WPK.ret (?_)
  refine Fin.of (rs := [.cell 4 28, .tmp 5, .tmp 6]) hT [.agg #[.int .u64 x24, .int .i64 x25, .slice A13 x26.length u13, .slice A14 x27.length u14]] (.tuple #[.agg #[.int .u64 x24, .int .i64 x25, .slice A13 x26.length u13, .slice A14 x27.length u14], .int .i64 x22, .int .i64 0]) [.cells ⟨b6, 0, none⟩ [.int .u64 x24, .int .i64 x25, .slice A13 x26.length u13, .slice A14 x27.length u14] 4] rfl (by kernel_rfl) (s.cells (i := 1) rfl rfl rfl) ?_
  replace s := s.pick [3, 4] 5 rfl
  exact fun X h => vc rfl (h I21 x24 x25 x26 x27 x22 0 A13 u13 A14 u14 _ hf s kk e3 hc14 e13 hc15 e14 e9 e8 e1 e2 eg2)
  have hf := iteF h4 hf
  refine WPK.condF (Eq.trans (b := .bool (decide (x7.2 = 0))) (by kernel_rfl) (bo_f h4)) ?_
  refine WPK.skip ?_
  replace s := s.pick [] 1 rfl
  exact fun X h => kc (by kernel_rfl) rfl (h I11 _ hf s kk e3 eg2)
  refine WPK.region ?_
  obtain ⟨x62, hx16, hf⟩ := bindS hf
  refine RW.op (by kernel_rfl) (OK.call' en9 (by kernel_rfl) (c9 (F := (.blk b1 (.cells #[.int .u64 p0.Epoch, .int .i64 p0.Pages, .slice A1 p0.Maps.length u1, .slice A2 p0.User.length u2] 28 (0, 0))) :: F) eg2 s hx16) ?_)
  intro X18 hX18
  refine fun _ _ hJ => hJ X18 ?_
  clear s
  intro I25 w38 s k37
  refine hX18 _ _ ?_
  replace e1 := e1.st k37
  replace e2 := e2.st k37
  replace e3 := e3.st k37
  replace eg2 := eg2.st k37
  replace kk := kk.trans k37
  refine RW.seg hT 1 [] [(19, .bool (decide (¬ (x62 = true))))] [.bool (decide (¬ (x62 = true)))] [.veq (.bool (!x62)) (.bool (decide (¬ (x62 = true))))] (by kernel_rfl) (not_b) ?_
  by_cases h20 : ¬ (x62 = true)
  have hf := iteT h20 hf
  refine RW.seg hT 11 [] [(20, .bool true)] [.bool true, undef, undef, undef, undef, .bool true, .bool true, undef, undef, undef, .bool true] [.veq (.bool (decide (¬ (x62 = true)))) (.bool true)] (by kernel_rfl) (bo_t h20) ?_
  refine RW.nil ?_
  exact fun X h => kc (by kernel_rfl) rfl (h I25 true _ hf s kk e3 e1 e2 eg2)
  have hf := iteF h20 hf
  refine RW.seg hT 2 [.agg #[.int .u64 p0.Epoch, .int .i64 p0.Pages, .slice A1 p0.Maps.length u1, .slice A2 p0.User.length u2]] [(20, .bool false)] [.bool false, .agg #[.int .u64 p0.Epoch, .int .i64 p0.Pages, .slice A1 p0.Maps.length u1, .slice A2 p0.User.length u2]] [.veq (.bool (decide (¬ (x62 = true)))) (.bool false), .cells ⟨b1, 0, none⟩ [.int .u64 p0.Epoch, .int .i64 p0.Pages, .slice A1 p0.Maps.length u1, .slice A2 p0.User.length u2] 4] (by kernel_rfl) (⟨bo_f h20, s.cells (i := 0) rfl rfl rfl⟩) ?_
  refine RW.op (by kernel_rfl) (OK.new hT (f := fun b => .slice (some ⟨b, 0, none⟩) 1 1) (cs := [.int .u64 p0.Epoch, .int .i64 p0.Pages, .slice A1 p0.Maps.length u1, .slice A2 p0.User.length u2]) (e := 28) (c := .tt) s (by kernel_rfl) trivial ?_)
  clear s
  rintro w39 b10 s k38 -
  replace e1 := e1.st k38
  replace e2 := e2.st k38
  replace e3 := e3.st k38
  replace eg2 := eg2.st k38
  replace kk := kk.trans k38
  have rp10 : RepL rp_T_api_Head I25 w39 [.int .u64 p0.Epoch, .int .i64 p0.Pages, .slice A1 p0.Maps.length u1, .slice A2 p0.User.length u2] ([p0] : List T_api_Head) := RepL.cons (c := [.int .u64 p0.Epoch, .int .i64 p0.Pages, .slice A1 p0.Maps.length u1, .slice A2 p0.User.length u2]) (d := []) (⟨[.int .u64 p0.Epoch], [.int .i64 p0.Pages, .slice A1 p0.Maps.length u1, .slice A2 p0.User.length u2], rfl, rfl, ⟨[.int .i64 p0.Pages], [.slice A1 p0.Maps.length u1, .slice A2 p0.User.length u2], rfl, rfl, ⟨[.slice A1 p0.Maps.length u1], [.slice A2 p0.User.length u2], rfl, ⟨_, _, rfl, hc1.1, hc1.2, e1⟩, ⟨_, _, rfl, hc2.1, hc2.2, e2⟩⟩⟩⟩) (RepL.nil)
  replace s : St w1 M I25 ((.sl (.slice (some ⟨b10, 0, none⟩) 1 1) 28 4 1 [.int .u64 p0.Epoch, .int .i64 p0.Pages, .slice A1 p0.Maps.length u1, .slice A2 p0.User.length u2]) :: (.blk b1 (.cells #[.int .u64 p0.Epoch, .int .i64 p0.Pages, .slice A1 p0.Maps.length u1, .slice A2 p0.User.length u2] 28 (0, 0))) :: F) w39 := s.blkSl (i := 0) (n := 1) (c := 1) (size := 4) rfl rfl (Nat.le_refl _) (by decide)
  have sa1 := s
  obtain ⟨hc32, e31⟩ := St.lend s (i := 0) rfl rfl rp10
  have k39 := Kp.shut (I := I25) (w := w39) (p := .sl (.slice (some ⟨b10, 0, none⟩) 1 1) 28 4 1 [.int .u64 p0.Epoch, .int .i64 p0.Pages, .slice A1 p0.Maps.length u1, .slice A2 p0.User.length u2])
  replace s := s.shut 0 rfl
  obtain ⟨x63, hx17, hf⟩ := bindS hf
  refine RW.op (by kernel_rfl) (OK.call' en16 (by kernel_rfl) (c16 (F := (.blk b1 (.cells #[.int .u64 p0.Epoch, .int .i64 p0.Pages, .slice A1 p0.Maps.length u1, .slice A2 p0.User.length u2] 28 (0, 0))) :: F) ([p0] : List T_api_Head) (some ⟨b10, 0, none⟩) 1 hc32 e31 s hx17) ?_)
  intro X19 hX19
  refine fun _ _ hJ => hJ X19 ?_
  clear s
  intro I26 w40 s k40
  refine hX19 _ _ ?_
  have s' := St.back sa1 (i := 0) rfl s k40
  replace k40 := Kp.back sa1 (i := 0) rfl k40
  replace s := s'; clear s'
  obtain ⟨I27, s, k40⟩ : ∃ I : Nat → Prop, St w1 M I ((.sl (.slice (some ⟨b10, 0, none⟩) 1 1) 28 4 1 [.int .u64 p0.Epoch, .int .i64 p0.Pages, .slice A1 p0.Maps.length u1, .slice A2 p0.User.length u2]) :: (.blk b1 (.cells #[.int .u64 p0.Epoch, .int .i64 p0.Pages, .slice A1 p0.Maps.length u1, .slice A2 p0.User.length u2] 28 (0, 0))) :: F) w40 ∧ Kp _ _ I _ := ⟨_, s, k40⟩
  replace e1 := e1.st k40
  replace e2 := e2.st k40
  replace e3 := e3.st k40
  replace eg2 := eg2.st k40
  replace rp10 := rp10.st k40
  replace kk := kk.trans k40
  refine RW.seg hT 2 [] [(24, .bool (decide (¬ (x63 = true))))] [.bool (decide (¬ (x63 = true))), .bool (decide (¬ (x63 = true)))] [.veq (.bool (!x63)) (.bool (decide (¬ (x63 = true))))] (by kernel_rfl) (not_b) ?_
  by_cases h21 : ¬ (x63 = true)
  have hf := iteT h21 hf
  refine RW.seg hT 5 [] [(26, .bool true)] [.bool true, undef, undef, undef, .bool true] [.veq (.bool (decide (¬ (x63 = true)))) (.bool true)] (by kernel_rfl) (bo_t h21) ?_
  refine RW.nil ?_
  replace s := s.pick [1] 2 rfl
  exact fun X h => kc (by kernel_rfl) rfl (h I27 true _ hf s kk e3 e1 e2 eg2)
  have hf := iteF h21 hf
  refine RW.seg hT 5 [] [(26, .bool false)] [.bool false, .slice A3 p2.length u3, .int .i64 (p2.length : Int), .bool (decide ((p2.length : Int) > 3000)), .bool (decide ((p2.length : Int) > 3000))] [.veq (.bool (decide (¬ (x63 = true)))) (.bool false)] (by kernel_rfl) (bo_f h21) ?_
  refine RW.nil ?_
  replace s := s.pick [1] 2 rfl
  exact fun X h => kc (by kernel_rfl) rfl (h I27 (decide ((p2.length : Int) > 3000)) _ hf s kk e3 e1 e2 eg2)
end Go.Proofs.YtclnddebhjjpfaaDoor
