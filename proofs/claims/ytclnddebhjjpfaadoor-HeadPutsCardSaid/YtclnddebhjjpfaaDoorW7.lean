/- PRINTED BY sy.py: each call computes what the plain function of its number tells. -/
import Derived.Test.YtclnddebhjjpfaaDoorW6
namespace Go.Proofs.YtclnddebhjjpfaaDoor
open Go Go.SX Go.RowKit
set_option maxRecDepth 100000
set_option linter.unusedVariables false
attribute [local irreducible] WPK RW RD Ret SX.Fin SX.Any opK RoundBeg RoundEnd RangeEnd Rounds
theorem c5 {w1 w : World} {M I : Nat → Prop} {F : List It} (p0 : T_api_Head) (p1 : T_api_Head) (A1 : Option Addr) (u1 : Nat) (A2 : Option Addr) (u2 : Nat) (A3 : Option Addr) (u3 : Nat) (A4 : Option Addr) (u4 : Nat) (hc1 : (p0.Maps.length ≤ u1 ∧ u1 ≤ 9223372036854775807)) (e1 : Elems (Rp.int .i64) I w A1 p0.Maps) (hc2 : (p0.User.length ≤ u2 ∧ u2 ≤ 9223372036854775807)) (e2 : Elems (Rp.int .u8) I w A2 p0.User) (hc3 : (p1.Maps.length ≤ u3 ∧ u3 ≤ 9223372036854775807)) (e3 : Elems (Rp.int .i64) I w A3 p1.Maps) (hc4 : (p1.User.length ≤ u4 ∧ u4 ≤ 9223372036854775807)) (e4 : Elems (Rp.int .u8) I w A4 p1.User) (eg2 : Elems (Rp.int .u32) I w (some ⟨2, 0, none⟩) TAB2) (s : St w1 M I (F) w) {r : Bool} (hf : g5 p0 p1 = some r) :
    Ret Tryd.prog 5 [.agg #[.int .u64 p0.Epoch, .int .i64 p0.Pages, .slice A1 p0.Maps.length u1, .slice A2 p0.User.length u2], .agg #[.int .u64 p1.Epoch, .int .i64 p1.Pages, .slice A3 p1.Maps.length u3, .slice A4 p1.User.length u4]] w fun v wz => ∀ X : Value → World → Prop, (∀ (I' : Nat → Prop) (w' : World), St w1 M I' (F) w' → Kp I w I' w' → X (.bool r) w') → X v wz := by
  have kk : Kp I w I w := Kp.refl
  unfold g5 at hf
  refine Ret.of Tryd.func5 rfl ?_
  refine WPK.seq ?_
  refine WPK.region ?_
  refine RW.op (by kernel_rfl) (OK.new hT (f := fun b => .pointer (some ⟨b, 0, none⟩)) (cs := [.int .u64 p0.Epoch, .int .i64 p0.Pages, .slice A1 p0.Maps.length u1, .slice A2 p0.User.length u2]) (e := 28) (c := .tt) s (by kernel_rfl) trivial ?_)
  clear s
  rintro w2 b1 s k1 -
  replace e1 := e1.st k1
  replace e2 := e2.st k1
  replace e3 := e3.st k1
  replace e4 := e4.st k1
  replace eg2 := eg2.st k1
  replace kk := kk.trans k1
  refine RW.op (by kernel_rfl) (OK.new hT (f := fun b => .pointer (some ⟨b, 0, none⟩)) (cs := [.int .u64 p1.Epoch, .int .i64 p1.Pages, .slice A3 p1.Maps.length u3, .slice A4 p1.User.length u4]) (e := 28) (c := .tt) s (by kernel_rfl) trivial ?_)
  clear s
  rintro w3 b2 s k2 -
  replace e1 := e1.st k2
  replace e2 := e2.st k2
  replace e3 := e3.st k2
  replace e4 := e4.st k2
  replace eg2 := eg2.st k2
  replace kk := kk.trans k2
  refine RW.seg hT 1 [] [] [.bool false] [] (by kernel_rfl) (trivial) ?_
  refine RW.nil ?_
  refine WPK.seq ?_
  refine WPK.seq ?_
  refine WPK.cut' (Kn fun D1 ds wz => ∀ X : Kont, (∀ (I1 : Nat → Prop) (x1 : Bool) (w' : World), g5_j1 p0 p1 x1 = some r → St w1 M I1 ((.blk b2 (.cells #[.int .u64 p1.Epoch, .int .i64 p1.Pages, .slice A3 p1.Maps.length u3, .slice A4 p1.User.length u4] 28 (0, 0))) :: (.blk b1 (.cells #[.int .u64 p0.Epoch, .int .i64 p0.Pages, .slice A1 p0.Maps.length u1, .slice A2 p0.User.length u2] 28 (0, 0))) :: F) w' → Kp I w I1 w' → Elems (Rp.int .i64) I1 w' A3 p1.Maps → Elems (Rp.int .u8) I1 w' A4 p1.User → Elems (Rp.int .i64) I1 w' A1 p0.Maps → Elems (Rp.int .u8) I1 w' A2 p0.User → Elems (Rp.int .u32) I1 w' (some ⟨2, 0, none⟩) TAB2 → X [(D1.getD 0 undef), (D1.getD 1 undef), .pointer (some ⟨b1, 0, none⟩), .pointer (some ⟨b2, 0, none⟩), .bool false, undef, undef, undef, undef, undef, undef, undef, undef, (D1.getD 13 undef), (D1.getD 14 undef), (D1.getD 15 undef), (D1.getD 16 undef), (D1.getD 17 undef), (D1.getD 18 undef), (D1.getD 19 undef), (D1.getD 20 undef), .bool x1, undef, undef, undef, undef, undef, undef, undef, undef, undef, undef, undef, undef, undef, undef, undef, undef, undef, undef, undef, undef, undef, undef, undef, undef, undef, undef, undef, undef, undef, undef, undef, undef, undef, undef, undef, undef, undef, undef, undef, undef, undef, undef, undef, undef, undef, undef, undef, undef, undef, undef, undef, undef, undef, undef, undef, undef, undef, undef, undef, undef, undef, undef, undef, undef] [] w') → X D1 ds wz) ?_ ?_
  intro X1 hX1
  refine fun D1 _ _ hJ => hJ X1 ?_
  clear s
  intro I1 x1 w4 hf s kk e3 e4 e1 e2 eg2
  refine hX1 _ _ _ ?_
  unfold g5_j1 at hf
  by_cases h1 : x1 = true
  have hf := iteT h1 hf
  refine WPK.condT (Eq.trans (b := .bool x1) (by kernel_rfl) (b_t h1)) ?_
  refine WPK.seq ?_
  refine WPK.region ?_
  obtain ⟨x2, hx1, hf⟩ := bindS hf
  refine RW.op (by kernel_rfl) (OK.call' en9 (by kernel_rfl) (c9 (F := (.blk b2 (.cells #[.int .u64 p1.Epoch, .int .i64 p1.Pages, .slice A3 p1.Maps.length u3, .slice A4 p1.User.length u4] 28 (0, 0))) :: (.blk b1 (.cells #[.int .u64 p0.Epoch, .int .i64 p0.Pages, .slice A1 p0.Maps.length u1, .slice A2 p0.User.length u2] 28 (0, 0))) :: F) eg2 s hx1) ?_)
  intro X2 hX2
  refine fun _ _ hJ => hJ X2 ?_
  clear s
  intro I2 w5 s k3
  refine hX2 _ _ ?_
  replace e3 := e3.st k3
  replace e4 := e4.st k3
  replace e1 := e1.st k3
  replace e2 := e2.st k3
  replace eg2 := eg2.st k3
  replace kk := kk.trans k3
  refine RW.seg hT 1 [] [] [.bool x2] [] (by kernel_rfl) (trivial) ?_
  refine RW.nil ?_
  refine WPK.ret (?_)
  obtain rfl := someS hf
  refine Fin.of (rs := [.tmp 4]) hT [] (.bool x2) [] rfl (by kernel_rfl) (trivial) ?_
  replace s := s.pick [] 2 rfl
  exact fun X h => vc rfl (h I2 _ s kk)
  have hf := iteF h1 hf
  refine WPK.condF (Eq.trans (b := .bool x1) (by kernel_rfl) (b_f h1)) ?_
  refine WPK.skip ?_
  refine WPK.seq ?_
  refine WPK.region ?_
  refine RW.seg hT 1 [.agg #[.int .u64 p0.Epoch, .int .i64 p0.Pages, .slice A1 p0.Maps.length u1, .slice A2 p0.User.length u2]] [] [.agg #[.int .u64 p0.Epoch, .int .i64 p0.Pages, .slice A1 p0.Maps.length u1, .slice A2 p0.User.length u2]] [.cells ⟨b1, 0, none⟩ [.int .u64 p0.Epoch, .int .i64 p0.Pages, .slice A1 p0.Maps.length u1, .slice A2 p0.User.length u2] 4] (by kernel_rfl) (s.cells (i := 1) rfl rfl rfl) ?_
  obtain ⟨x3, hx2, hf⟩ := bindS hf
  refine RW.op (by kernel_rfl) (OK.call' en17 (by kernel_rfl) (c17 (F := (.blk b2 (.cells #[.int .u64 p1.Epoch, .int .i64 p1.Pages, .slice A3 p1.Maps.length u3, .slice A4 p1.User.length u4] 28 (0, 0))) :: (.blk b1 (.cells #[.int .u64 p0.Epoch, .int .i64 p0.Pages, .slice A1 p0.Maps.length u1, .slice A2 p0.User.length u2] 28 (0, 0))) :: F) p0 A1 u1 A2 u2 hc1 e1 hc2 e2 s hx2) ?_)
  intro X3 hX3
  refine fun _ _ hJ => hJ X3 ?_
  clear s
  intro I3 A5 n1 u5 cl1 w6 s k4 hn1 rp1
  refine hX3 _ _ ?_
  replace e1 := e1.st k4
  replace e2 := e2.st k4
  replace e3 := e3.st k4
  replace e4 := e4.st k4
  replace eg2 := eg2.st k4
  replace kk := kk.trans k4
  rw [hn1] at s
  try rw [hn1]
  obtain ⟨I4, s', k5, hc5, e5⟩ := St.give s (i := 0) rfl rfl rp1
  replace s := s'; clear s'
  replace e1 := e1.st k5
  replace e2 := e2.st k5
  replace e3 := e3.st k5
  replace e4 := e4.st k5
  replace eg2 := eg2.st k5
  replace kk := kk.trans k5
  refine RW.seg hT 5 [] [] [.tuple #[.slice A5 x3.1.length u5, .int .i64 x3.2], .slice A5 x3.1.length u5, .int .i64 x3.2, .slice A5 x3.1.length u5, .int .i64 x3.2] [] (by kernel_rfl) (trivial) ?_
  refine RW.nil ?_
  refine WPK.seq ?_
  refine WPK.region ?_
  refine RW.seg hT 1 [.agg #[.int .u64 p0.Epoch, .int .i64 p0.Pages, .slice A1 p0.Maps.length u1, .slice A2 p0.User.length u2]] [] [.agg #[.int .u64 p0.Epoch, .int .i64 p0.Pages, .slice A1 p0.Maps.length u1, .slice A2 p0.User.length u2]] [.cells ⟨b1, 0, none⟩ [.int .u64 p0.Epoch, .int .i64 p0.Pages, .slice A1 p0.Maps.length u1, .slice A2 p0.User.length u2] 4] (by kernel_rfl) (s.cells (i := 1) rfl rfl rfl) ?_
  obtain ⟨x4, hx3, hf⟩ := bindS hf
  refine RW.op (by kernel_rfl) (OK.call' en18 (by kernel_rfl) (c18 (F := (.blk b2 (.cells #[.int .u64 p1.Epoch, .int .i64 p1.Pages, .slice A3 p1.Maps.length u3, .slice A4 p1.User.length u4] 28 (0, 0))) :: (.blk b1 (.cells #[.int .u64 p0.Epoch, .int .i64 p0.Pages, .slice A1 p0.Maps.length u1, .slice A2 p0.User.length u2] 28 (0, 0))) :: F) p0 A1 u1 A2 u2 hc1 e1 hc2 e2 s hx3) ?_)
  intro X4 hX4
  refine fun _ _ hJ => hJ X4 ?_
  clear s
  intro I5 A6 n2 u6 cl2 w7 s k6 hn2 rp2
  refine hX4 _ _ ?_
  replace e5 := e5.st k6
  replace e1 := e1.st k6
  replace e2 := e2.st k6
  replace e3 := e3.st k6
  replace e4 := e4.st k6
  replace eg2 := eg2.st k6
  replace kk := kk.trans k6
  rw [hn2] at s
  try rw [hn2]
  obtain ⟨I6, s', k7, hc6, e6⟩ := St.give s (i := 0) rfl rfl rp2
  replace s := s'; clear s'
  replace e5 := e5.st k7
  replace e1 := e1.st k7
  replace e2 := e2.st k7
  replace e3 := e3.st k7
  replace e4 := e4.st k7
  replace eg2 := eg2.st k7
  replace kk := kk.trans k7
  refine RW.seg hT 5 [] [] [.tuple #[.slice A6 x4.1.length u6, .int .i64 x4.2], .slice A6 x4.1.length u6, .int .i64 x4.2, .slice A6 x4.1.length u6, .int .i64 x4.2] [] (by kernel_rfl) (trivial) ?_
  refine RW.nil ?_
  refine WPK.seq ?_
  refine WPK.region ?_
  refine RW.seg hT 1 [.agg #[.int .u64 p0.Epoch, .int .i64 p0.Pages, .slice A1 p0.Maps.length u1, .slice A2 p0.User.length u2]] [] [.agg #[.int .u64 p0.Epoch, .int .i64 p0.Pages, .slice A1 p0.Maps.length u1, .slice A2 p0.User.length u2]] [.cells ⟨b1, 0, none⟩ [.int .u64 p0.Epoch, .int .i64 p0.Pages, .slice A1 p0.Maps.length u1, .slice A2 p0.User.length u2] 4] (by kernel_rfl) (s.cells (i := 1) rfl rfl rfl) ?_
  obtain ⟨x5, hx4, hf⟩ := bindS hf
  refine RW.op (by kernel_rfl) (OK.call' en19 (by kernel_rfl) (c19 (F := (.blk b2 (.cells #[.int .u64 p1.Epoch, .int .i64 p1.Pages, .slice A3 p1.Maps.length u3, .slice A4 p1.User.length u4] 28 (0, 0))) :: (.blk b1 (.cells #[.int .u64 p0.Epoch, .int .i64 p0.Pages, .slice A1 p0.Maps.length u1, .slice A2 p0.User.length u2] 28 (0, 0))) :: F) p0 A1 u1 A2 u2 hc1 e1 hc2 e2 eg2 s hx4) ?_)
  intro X5 hX5
  refine fun _ _ hJ => hJ X5 ?_
  clear s
  intro I7 A7 n3 u7 cl3 w8 s k8 hn3 rp3
  refine hX5 _ _ ?_
  replace e5 := e5.st k8
  replace e6 := e6.st k8
  replace e1 := e1.st k8
  replace e2 := e2.st k8
  replace e3 := e3.st k8
  replace e4 := e4.st k8
  replace eg2 := eg2.st k8
  replace kk := kk.trans k8
  refine RW.seg hT 5 [] [] [.tuple #[.slice A7 n3 u7, .int .i64 x5.2], .slice A7 n3 u7, .int .i64 x5.2, .slice A7 n3 u7, .int .i64 x5.2] [] (by kernel_rfl) (trivial) ?_
  refine RW.nil ?_
  refine WPK.seq ?_
  refine WPK.region ?_
  refine RW.seg hT 1 [.agg #[.int .u64 p0.Epoch, .int .i64 p0.Pages, .slice A1 p0.Maps.length u1, .slice A2 p0.User.length u2]] [] [.agg #[.int .u64 p0.Epoch, .int .i64 p0.Pages, .slice A1 p0.Maps.length u1, .slice A2 p0.User.length u2]] [.cells ⟨b1, 0, none⟩ [.int .u64 p0.Epoch, .int .i64 p0.Pages, .slice A1 p0.Maps.length u1, .slice A2 p0.User.length u2] 4] (by kernel_rfl) (s.cells (i := 2) rfl rfl rfl) ?_
  obtain ⟨x6, hx5, hf⟩ := bindS hf
  refine RW.op (by kernel_rfl) (OK.call' en20 (by kernel_rfl) (c20 (F := (.sl (.slice A7 n3 u7) 91 1 n3 cl3) :: (.blk b2 (.cells #[.int .u64 p1.Epoch, .int .i64 p1.Pages, .slice A3 p1.Maps.length u3, .slice A4 p1.User.length u4] 28 (0, 0))) :: (.blk b1 (.cells #[.int .u64 p0.Epoch, .int .i64 p0.Pages, .slice A1 p0.Maps.length u1, .slice A2 p0.User.length u2] 28 (0, 0))) :: F) p0 A1 u1 A2 u2 hc1 e1 hc2 e2 s hx5) ?_)
  intro X6 hX6
  refine fun _ _ hJ => hJ X6 ?_
  clear s
  intro I8 A8 n4 u8 cl4 w9 s k9 hn4 rp4
  refine hX6 _ _ ?_
  replace e5 := e5.st k9
  replace e6 := e6.st k9
  replace e1 := e1.st k9
  replace e2 := e2.st k9
  replace e3 := e3.st k9
  replace e4 := e4.st k9
  replace rp3 := rp3.st k9
  replace eg2 := eg2.st k9
  replace kk := kk.trans k9
  rw [hn4] at s
  try rw [hn4]
  obtain ⟨I9, s', k10, hc7, e7⟩ := St.give s (i := 0) rfl rfl rp4
  replace s := s'; clear s'
  replace e5 := e5.st k10
  replace e6 := e6.st k10
  replace e1 := e1.st k10
  replace e2 := e2.st k10
  replace e3 := e3.st k10
  replace e4 := e4.st k10
  replace rp3 := rp3.st k10
  replace eg2 := eg2.st k10
  replace kk := kk.trans k10
  refine RW.seg hT 5 [] [] [.tuple #[.slice A8 x6.1.length u8, .int .i64 x6.2], .slice A8 x6.1.length u8, .int .i64 x6.2, .slice A8 x6.1.length u8, .int .i64 x6.2] [] (by kernel_rfl) (trivial) ?_
  refine RW.nil ?_
  refine WPK.seq ?_
  refine WPK.cut' (Kn fun D2 ds wz => ∀ X : Kont, (∀ (I10 : Nat → Prop) (x7 : Bool) (w' : World), g5_j2 x7 = some r → St w1 M I10 (F) w' → Kp I w I10 w' → Elems (Rp.int .u32) I10 w' (some ⟨2, 0, none⟩) TAB2 → X [(D2.getD 0 undef), (D2.getD 1 undef), (D2.getD 2 undef), (D2.getD 3 undef), .bool x7, (D2.getD 5 undef), (D2.getD 6 undef), (D2.getD 7 undef), (D2.getD 8 undef), (D2.getD 9 undef), (D2.getD 10 undef), (D2.getD 11 undef), (D2.getD 12 undef), (D2.getD 13 undef), (D2.getD 14 undef), (D2.getD 15 undef), (D2.getD 16 undef), (D2.getD 17 undef), (D2.getD 18 undef), (D2.getD 19 undef), (D2.getD 20 undef), (D2.getD 21 undef), (D2.getD 22 undef), (D2.getD 23 undef), (D2.getD 24 undef), (D2.getD 25 undef), (D2.getD 26 undef), (D2.getD 27 undef), (D2.getD 28 undef), (D2.getD 29 undef), (D2.getD 30 undef), (D2.getD 31 undef), (D2.getD 32 undef), (D2.getD 33 undef), (D2.getD 34 undef), (D2.getD 35 undef), (D2.getD 36 undef), (D2.getD 37 undef), (D2.getD 38 undef), (D2.getD 39 undef), (D2.getD 40 undef), (D2.getD 41 undef), (D2.getD 42 undef), (D2.getD 43 undef), (D2.getD 44 undef), (D2.getD 45 undef), (D2.getD 46 undef), (D2.getD 47 undef), (D2.getD 48 undef), (D2.getD 49 undef), (D2.getD 50 undef), (D2.getD 51 undef), (D2.getD 52 undef), (D2.getD 53 undef), (D2.getD 54 undef), (D2.getD 55 undef), (D2.getD 56 undef), (D2.getD 57 undef), (D2.getD 58 undef), (D2.getD 59 undef), (D2.getD 60 undef), (D2.getD 61 undef), (D2.getD 62 undef), (D2.getD 63 undef), (D2.getD 64 undef), (D2.getD 65 undef), (D2.getD 66 undef), (D2.getD 67 undef), (D2.getD 68 undef), (D2.getD 69 undef), (D2.getD 70 undef), (D2.getD 71 undef), (D2.getD 72 undef), (D2.getD 73 undef), (D2.getD 74 undef), (D2.getD 75 undef), (D2.getD 76 undef), (D2.getD 77 undef), (D2.getD 78 undef), (D2.getD 79 undef), (D2.getD 80 undef), (D2.getD 81 undef), (D2.getD 82 undef), (D2.getD 83 undef), (D2.getD 84 undef), (D2.getD 85 undef)] [] w') → X D2 ds wz) ?_ ?_
  intro X7 hX7
  refine fun D2 _ _ hJ => hJ X7 ?_
  clear s
  intro I10 x7 w10 hf s kk eg2
  refine hX7 _ _ _ ?_
  unfold g5_j2 at hf
  refine WPK.ret (?_)
  obtain rfl := someS hf
  refine Fin.of (rs := [.tmp 4]) hT [] (.bool x7) [] rfl (by kernel_rfl) (trivial) ?_
  exact fun X h => vc rfl (h I10 _ s kk)
  have e5S1 := e5
  have e6S1 := e6
  have e7S1 := e7
  have e1S1 := e1
  have e2S1 := e2
  have e3S1 := e3
  have e4S1 := e4
  have rp3S1 := rp3
  have eg2S80601 := eg2
  have kS1 : Kp I9 w9 I9 w9 := Kp.refl
  refine WPK.drawM (fun w' => ∃ I' : Nat → Prop, St w1 M I' ((.sl (.slice A7 n3 u7) 91 1 n3 cl3) :: (.blk b2 (.cells #[.int .u64 p1.Epoch, .int .i64 p1.Pages, .slice A3 p1.Maps.length u3, .slice A4 p1.User.length u4] 28 (0, 0))) :: (.blk b1 (.cells #[.int .u64 p0.Epoch, .int .i64 p0.Pages, .slice A1 p0.Maps.length u1, .slice A2 p0.User.length u2] 28 (0, 0))) :: F) w' ∧ Kp I9 w9 I' w') 44 [0, 1, 0, 7, 15, 31, 63, 63, 255, 63, 63, 2047, 4095, 8191, 16383, 32767, 32767, 131071, 262143, 524287, 1048575, 1048575, 4194303, 8388607, 16777215, 33554431, 33554431, 134217727, 268435455, 536870911, 1073741823, 1073741823, 4294967295, 8589934591, 17179869183, 34359738367, 68719476735, 137438953471, 34359738367, 309237645311, 1099511627775, 2199023255551, 4398046511103, 8796093022207] (by kernel_rfl) (by kernel_rfl) ?_
  intro ht1 w11 hd1
  have k11 := Kp.dr s hd1
  replace s := s.dr hd1
  replace e5 := e5.st k11
  replace e6 := e6.st k11
  replace e7 := e7.st k11
  replace e1 := e1.st k11
  replace e2 := e2.st k11
  replace e3 := e3.st k11
  replace e4 := e4.st k11
  replace rp3 := rp3.st k11
  replace eg2 := eg2.st k11
  replace kk := kk.trans k11
  replace kS1 := kS1.trans k11
  refine RD.segM hT ht1 (by kernel_rfl) [0, 2] [.agg #[.int .u64 p0.Epoch, .int .i64 p0.Pages, .slice A1 p0.Maps.length u1, .slice A2 p0.User.length u2], .agg #[.int .u64 p0.Epoch, .int .i64 p0.Pages, .slice A1 p0.Maps.length u1, .slice A2 p0.User.length u2]] [] [.agg #[.int .u64 p0.Epoch, .int .i64 p0.Pages, .slice A1 p0.Maps.length u1, .slice A2 p0.User.length u2], .agg #[.int .u64 p0.Epoch, .int .i64 p0.Pages, .slice A1 p0.Maps.length u1, .slice A2 p0.User.length u2]] [.cells ⟨b1, 0, none⟩ [.int .u64 p0.Epoch, .int .i64 p0.Pages, .slice A1 p0.Maps.length u1, .slice A2 p0.User.length u2] 4, .cells ⟨b1, 0, none⟩ [.int .u64 p0.Epoch, .int .i64 p0.Pages, .slice A1 p0.Maps.length u1, .slice A2 p0.User.length u2] 4] (by kernel_rfl) (by rintro w' ⟨I', s, k⟩; have e5 := e5S1.st k; have e6 := e6S1.st k; have e7 := e7S1.st k; have e1 := e1S1.st k; have e2 := e2S1.st k; have e3 := e3S1.st k; have e4 := e4S1.st k; have rp3 := rp3S1.st k; have eg2 := eg2S80601.st k; exact ⟨s.cells (i := 2) rfl rfl rfl, s.cells (i := 2) rfl rfl rfl⟩) ⟨_, s.pick [0, 1, 2] 3 rfl, kS1⟩ ?_
  obtain ⟨x8, hx6, hf⟩ := bindS hf
  refine RD.op (i := 1) rfl (by kernel_rfl) (by kernel_rfl) (OK.call' en21 (by kernel_rfl) (c21 (F := (.sl (.slice A7 n3 u7) 91 1 n3 cl3) :: (.blk b2 (.cells #[.int .u64 p1.Epoch, .int .i64 p1.Pages, .slice A3 p1.Maps.length u3, .slice A4 p1.User.length u4] 28 (0, 0))) :: (.blk b1 (.cells #[.int .u64 p0.Epoch, .int .i64 p0.Pages, .slice A1 p0.Maps.length u1, .slice A2 p0.User.length u2] 28 (0, 0))) :: F) p0 A1 u1 A2 u2 hc1 e1 hc2 e2 s hx6) ?_)
  intro X8 hX8
  refine fun _ _ hJ => hJ X8 ?_
  clear s
  intro I11 w12 s k12
  refine hX8 _ _ ?_
  replace e5 := e5.st k12
  replace e6 := e6.st k12
  replace e7 := e7.st k12
  replace e1 := e1.st k12
  replace e2 := e2.st k12
  replace e3 := e3.st k12
  replace e4 := e4.st k12
  replace rp3 := rp3.st k12
  replace eg2 := eg2.st k12
  replace kk := kk.trans k12
  replace kS1 := kS1.trans k12
  refine ⟨fun _ => ⟨_, s.pick [0, 1, 2] 3 rfl, kS1⟩, RD.fold ?_⟩
  obtain ⟨x9, hx7, hf⟩ := bindS hf
  refine RD.op (i := 3) rfl (by kernel_rfl) (by kernel_rfl) (OK.call' en22 (by kernel_rfl) (c22 (F := (.sl (.slice A7 n3 u7) 91 1 n3 cl3) :: (.blk b2 (.cells #[.int .u64 p1.Epoch, .int .i64 p1.Pages, .slice A3 p1.Maps.length u3, .slice A4 p1.User.length u4] 28 (0, 0))) :: (.blk b1 (.cells #[.int .u64 p0.Epoch, .int .i64 p0.Pages, .slice A1 p0.Maps.length u1, .slice A2 p0.User.length u2] 28 (0, 0))) :: F) p0 A1 u1 A2 u2 hc1 e1 hc2 e2 s hx7) ?_)
  intro X9 hX9
  refine fun _ _ hJ => hJ X9 ?_
  clear s
  intro I12 w13 s k13
  refine hX9 _ _ ?_
  replace e5 := e5.st k13
  replace e6 := e6.st k13
  replace e7 := e7.st k13
  replace e1 := e1.st k13
  replace e2 := e2.st k13
  replace e3 := e3.st k13
  replace e4 := e4.st k13
  replace rp3 := rp3.st k13
  replace eg2 := eg2.st k13
  replace kk := kk.trans k13
  replace kS1 := kS1.trans k13
  refine ⟨fun _ => ⟨_, s.pick [0, 1, 2] 3 rfl, kS1⟩, RD.fold ?_⟩
  refine RD.segM hT ht1 (by kernel_rfl) [4] [] [(47, .bool (decide (x8 = x9)))] [.bool (decide (x8 = x9))] [.veq (.bool (x8 == x9)) (.bool (decide (x8 = x9)))] (by kernel_rfl) (by rintro w' ⟨I', s, k⟩; have e5 := e5S1.st k; have e6 := e6S1.st k; have e7 := e7S1.st k; have e1 := e1S1.st k; have e2 := e2S1.st k; have e3 := e3S1.st k; have e4 := e4S1.st k; have rp3 := rp3S1.st k; have eg2 := eg2S80601.st k; exact eq_v) ⟨_, s.pick [0, 1, 2] 3 rfl, kS1⟩ ?_
  by_cases h2 : x8 = x9
  have hf := iteT h2 hf
  refine RD.segM hT ht1 (by kernel_rfl) [5, 6, 7, 9, 10] [.agg #[.int .u64 p0.Epoch, .int .i64 p0.Pages, .slice A1 p0.Maps.length u1, .slice A2 p0.User.length u2], .agg #[.int .u64 p1.Epoch, .int .i64 p1.Pages, .slice A3 p1.Maps.length u3, .slice A4 p1.User.length u4], .agg #[.int .u64 p0.Epoch, .int .i64 p0.Pages, .slice A1 p0.Maps.length u1, .slice A2 p0.User.length u2], .agg #[.int .u64 p1.Epoch, .int .i64 p1.Pages, .slice A3 p1.Maps.length u3, .slice A4 p1.User.length u4]] [(48, .bool true)] [.bool true, .agg #[.int .u64 p0.Epoch, .int .i64 p0.Pages, .slice A1 p0.Maps.length u1, .slice A2 p0.User.length u2], .agg #[.int .u64 p1.Epoch, .int .i64 p1.Pages, .slice A3 p1.Maps.length u3, .slice A4 p1.User.length u4], .agg #[.int .u64 p0.Epoch, .int .i64 p0.Pages, .slice A1 p0.Maps.length u1, .slice A2 p0.User.length u2], .agg #[.int .u64 p1.Epoch, .int .i64 p1.Pages, .slice A3 p1.Maps.length u3, .slice A4 p1.User.length u4]] [.veq (.bool (decide (x8 = x9))) (.bool true), .cells ⟨b1, 0, none⟩ [.int .u64 p0.Epoch, .int .i64 p0.Pages, .slice A1 p0.Maps.length u1, .slice A2 p0.User.length u2] 4, .cells ⟨b2, 0, none⟩ [.int .u64 p1.Epoch, .int .i64 p1.Pages, .slice A3 p1.Maps.length u3, .slice A4 p1.User.length u4] 4, .cells ⟨b1, 0, none⟩ [.int .u64 p0.Epoch, .int .i64 p0.Pages, .slice A1 p0.Maps.length u1, .slice A2 p0.User.length u2] 4, .cells ⟨b2, 0, none⟩ [.int .u64 p1.Epoch, .int .i64 p1.Pages, .slice A3 p1.Maps.length u3, .slice A4 p1.User.length u4] 4] (by kernel_rfl) (by rintro w' ⟨I', s, k⟩; have e5 := e5S1.st k; have e6 := e6S1.st k; have e7 := e7S1.st k; have e1 := e1S1.st k; have e2 := e2S1.st k; have e3 := e3S1.st k; have e4 := e4S1.st k; have rp3 := rp3S1.st k; have eg2 := eg2S80601.st k; exact ⟨bo_t h2, s.cells (i := 2) rfl rfl rfl, s.cells (i := 1) rfl rfl rfl, s.cells (i := 2) rfl rfl rfl, s.cells (i := 1) rfl rfl rfl⟩) ⟨_, s.pick [0, 1, 2] 3 rfl, kS1⟩ ?_
  obtain ⟨x10, hx8, hf⟩ := bindS hf
  refine RD.op (i := 8) rfl (by kernel_rfl) (by kernel_rfl) (OK.call' en23 (by kernel_rfl) (c23 (F := (.sl (.slice A7 n3 u7) 91 1 n3 cl3) :: (.blk b2 (.cells #[.int .u64 p1.Epoch, .int .i64 p1.Pages, .slice A3 p1.Maps.length u3, .slice A4 p1.User.length u4] 28 (0, 0))) :: (.blk b1 (.cells #[.int .u64 p0.Epoch, .int .i64 p0.Pages, .slice A1 p0.Maps.length u1, .slice A2 p0.User.length u2] 28 (0, 0))) :: F) p0 p1 A1 u1 A2 u2 A3 u3 A4 u4 hc1 e1 hc2 e2 hc3 e3 hc4 e4 s hx8) ?_)
  intro X10 hX10
  refine fun _ _ hJ => hJ X10 ?_
  clear s
  intro I13 w14 s k14
  refine hX10 _ _ ?_
  replace e5 := e5.st k14
  replace e6 := e6.st k14
  replace e7 := e7.st k14
  replace e1 := e1.st k14
  replace e2 := e2.st k14
  replace e3 := e3.st k14
  replace e4 := e4.st k14
  replace rp3 := rp3.st k14
  replace eg2 := eg2.st k14
  replace kk := kk.trans k14
  replace kS1 := kS1.trans k14
  refine ⟨fun _ => ⟨_, s.pick [0, 1, 2] 3 rfl, kS1⟩, RD.fold ?_⟩
  obtain ⟨x11, hx9, hf⟩ := bindS hf
  refine RD.op (i := 11) rfl (by kernel_rfl) (by kernel_rfl) (OK.call' en12 (by kernel_rfl) (c12 (F := (.sl (.slice A7 n3 u7) 91 1 n3 cl3) :: (.blk b2 (.cells #[.int .u64 p1.Epoch, .int .i64 p1.Pages, .slice A3 p1.Maps.length u3, .slice A4 p1.User.length u4] 28 (0, 0))) :: (.blk b1 (.cells #[.int .u64 p0.Epoch, .int .i64 p0.Pages, .slice A1 p0.Maps.length u1, .slice A2 p0.User.length u2] 28 (0, 0))) :: F) p0 p1 A1 u1 A2 u2 A3 u3 A4 u4 hc1 e1 hc2 e2 hc3 e3 hc4 e4 s hx9) ?_)
  intro X11 hX11
  refine fun _ _ hJ => hJ X11 ?_
  clear s
  intro I14 w15 s k15
  refine hX11 _ _ ?_
  replace e5 := e5.st k15
  replace e6 := e6.st k15
  replace e7 := e7.st k15
  replace e1 := e1.st k15
  replace e2 := e2.st k15
  replace e3 := e3.st k15
  replace e4 := e4.st k15
  replace rp3 := rp3.st k15
  replace eg2 := eg2.st k15
  replace kk := kk.trans k15
  replace kS1 := kS1.trans k15
  refine ⟨fun _ => ⟨_, s.pick [0, 1, 2] 3 rfl, kS1⟩, RD.fold ?_⟩
  refine RD.segM hT ht1 (by kernel_rfl) [12, 13] [] [(55, .bool (decide (x10 = x11)))] [.bool (decide (x10 = x11)), .bool (decide (x10 = x11))] [.veq (.bool (x10 == x11)) (.bool (decide (x10 = x11)))] (by kernel_rfl) (by rintro w' ⟨I', s, k⟩; have e5 := e5S1.st k; have e6 := e6S1.st k; have e7 := e7S1.st k; have e1 := e1S1.st k; have e2 := e2S1.st k; have e3 := e3S1.st k; have e4 := e4S1.st k; have rp3 := rp3S1.st k; have eg2 := eg2S80601.st k; exact beq_v) ⟨_, s.pick [0, 1, 2] 3 rfl, kS1⟩ ?_
  by_cases h3 : x10 = x11
  have hf := iteT h3 hf
  refine RD.segM hT ht1 (by kernel_rfl) [14, 15, 16] [] [(57, .bool true)] [.bool true, .slice A5 x3.1.length u5, .slice A6 x4.1.length u6] [.veq (.bool (decide (x10 = x11))) (.bool true)] (by kernel_rfl) (by rintro w' ⟨I', s, k⟩; have e5 := e5S1.st k; have e6 := e6S1.st k; have e7 := e7S1.st k; have e1 := e1S1.st k; have e2 := e2S1.st k; have e3 := e3S1.st k; have e4 := e4S1.st k; have rp3 := rp3S1.st k; have eg2 := eg2S80601.st k; exact bo_t h3) ⟨_, s.pick [0, 1, 2] 3 rfl, kS1⟩ ?_
  obtain ⟨x12, hx10, hf⟩ := bindS hf
  refine RD.op (i := 17) rfl (by kernel_rfl) (by kernel_rfl) (OK.call' en24 (by kernel_rfl) (c24 (F := (.sl (.slice A7 n3 u7) 91 1 n3 cl3) :: (.blk b2 (.cells #[.int .u64 p1.Epoch, .int .i64 p1.Pages, .slice A3 p1.Maps.length u3, .slice A4 p1.User.length u4] 28 (0, 0))) :: (.blk b1 (.cells #[.int .u64 p0.Epoch, .int .i64 p0.Pages, .slice A1 p0.Maps.length u1, .slice A2 p0.User.length u2] 28 (0, 0))) :: F) x3.1 x4.1 A5 u5 A6 u6 hc5 e5 hc6 e6 s hx10) ?_)
  intro X12 hX12
  refine fun _ _ hJ => hJ X12 ?_
  clear s
  intro I15 w16 s k16
  refine hX12 _ _ ?_
  replace e5 := e5.st k16
  replace e6 := e6.st k16
  replace e7 := e7.st k16
  replace e1 := e1.st k16
  replace e2 := e2.st k16
  replace e3 := e3.st k16
  replace e4 := e4.st k16
  replace rp3 := rp3.st k16
  replace eg2 := eg2.st k16
  replace kk := kk.trans k16
  replace kS1 := kS1.trans k16
  refine ⟨fun _ => ⟨_, s.pick [0, 1, 2] 3 rfl, kS1⟩, RD.fold ?_⟩
  refine RD.segM hT ht1 (by kernel_rfl) [18] [] [] [.bool x12] [] (by kernel_rfl) (fun _ _ => trivial) ⟨_, s.pick [0, 1, 2] 3 rfl, kS1⟩ ?_
  by_cases h4 : x12 = true
  have hf := iteT h4 hf
  refine RD.segM hT ht1 (by kernel_rfl) [19, 20, 21, 22, 23] [] [(62, .bool true), (65, .bool (decide (x3.2 = x4.2)))] [.bool true, .int .i64 x3.2, .int .i64 x4.2, .bool (decide (x3.2 = x4.2)), .bool (decide (x3.2 = x4.2))] [.veq (.bool (x12)) (.bool true), .veq (.bool (x3.2 == x4.2)) (.bool (decide (x3.2 = x4.2)))] (by kernel_rfl) (by rintro w' ⟨I', s, k⟩; have e5 := e5S1.st k; have e6 := e6S1.st k; have e7 := e7S1.st k; have e1 := e1S1.st k; have e2 := e2S1.st k; have e3 := e3S1.st k; have e4 := e4S1.st k; have rp3 := rp3S1.st k; have eg2 := eg2S80601.st k; exact ⟨b_t h4, eq_v⟩) ⟨_, s.pick [0, 1, 2] 3 rfl, kS1⟩ ?_
  by_cases h5 : x3.2 = x4.2
  have hf := iteT h5 hf
  refine RD.segM hT ht1 (by kernel_rfl) [24, 25, 26] [] [(67, .bool true)] [.bool true, .slice A7 n3 u7, .slice A8 x6.1.length u8] [.veq (.bool (decide (x3.2 = x4.2))) (.bool true)] (by kernel_rfl) (by rintro w' ⟨I', s, k⟩; have e5 := e5S1.st k; have e6 := e6S1.st k; have e7 := e7S1.st k; have e1 := e1S1.st k; have e2 := e2S1.st k; have e3 := e3S1.st k; have e4 := e4S1.st k; have rp3 := rp3S1.st k; have eg2 := eg2S80601.st k; exact bo_t h5) ⟨_, s.pick [0, 1, 2] 3 rfl, kS1⟩ ?_
  have sa1 := s
  obtain ⟨hc8, e8⟩ := St.lend s (i := 0) rfl hn3 rp3
  have k17 := Kp.shut (I := I15) (w := w16) (p := .sl (.slice A7 n3 u7) 91 1 n3 cl3)
  replace s := s.shut 0 rfl
  obtain ⟨x13, hx11, hf⟩ := bindS hf
  have hc9 := c24 (F := (.blk b2 (.cells #[.int .u64 p1.Epoch, .int .i64 p1.Pages, .slice A3 p1.Maps.length u3, .slice A4 p1.User.length u4] 28 (0, 0))) :: (.blk b1 (.cells #[.int .u64 p0.Epoch, .int .i64 p0.Pages, .slice A1 p0.Maps.length u1, .slice A2 p0.User.length u2] 28 (0, 0))) :: F) x5.1 x6.1 A7 u7 A8 u8 hc8 e8 hc7 (e7.st k17) s hx11
  rw [← hn3] at hc9
  refine RD.op (i := 27) rfl (by kernel_rfl) (by kernel_rfl) (OK.call' en24 (by kernel_rfl) (hc9) ?_)
  intro X13 hX13
  refine fun _ _ hJ => hJ X13 ?_
  clear s
  intro I16 w17 s k18
  refine hX13 _ _ ?_
  have s' := St.back sa1 (i := 0) rfl s k18
  replace k18 := Kp.back sa1 (i := 0) rfl k18
  replace s := s'; clear s'
  obtain ⟨I17, s, k18⟩ : ∃ I : Nat → Prop, St w1 M I ((.sl (.slice A7 n3 u7) 91 1 n3 cl3) :: (.blk b2 (.cells #[.int .u64 p1.Epoch, .int .i64 p1.Pages, .slice A3 p1.Maps.length u3, .slice A4 p1.User.length u4] 28 (0, 0))) :: (.blk b1 (.cells #[.int .u64 p0.Epoch, .int .i64 p0.Pages, .slice A1 p0.Maps.length u1, .slice A2 p0.User.length u2] 28 (0, 0))) :: F) w17 ∧ Kp _ _ I _ := ⟨_, s, k18⟩
  replace e5 := e5.st k18
  replace e6 := e6.st k18
  replace e7 := e7.st k18
  replace e1 := e1.st k18
  replace e2 := e2.st k18
  replace e3 := e3.st k18
  replace e4 := e4.st k18
  replace eg2 := eg2.st k18
  replace rp3 := rp3.st k18
  replace kk := kk.trans k18
  replace kS1 := kS1.trans k18
  refine ⟨fun _ => ⟨_, s.pick [0, 1, 2] 3 rfl, kS1⟩, RD.fold ?_⟩
  refine RD.segM hT ht1 (by kernel_rfl) [28] [] [] [.bool x13] [] (by kernel_rfl) (fun _ _ => trivial) ⟨_, s.pick [0, 1, 2] 3 rfl, kS1⟩ ?_
  by_cases h6 : x13 = true
  have hf := iteT h6 hf
  refine RD.segM hT ht1 (by kernel_rfl) [29, 30, 31, 32, 33] [] [(72, .bool true), (75, .bool (decide (x5.2 = x6.2)))] [.bool true, .int .i64 x5.2, .int .i64 x6.2, .bool (decide (x5.2 = x6.2)), .bool (decide (x5.2 = x6.2))] [.veq (.bool (x13)) (.bool true), .veq (.bool (x5.2 == x6.2)) (.bool (decide (x5.2 = x6.2)))] (by kernel_rfl) (by rintro w' ⟨I', s, k⟩; have e5 := e5S1.st k; have e6 := e6S1.st k; have e7 := e7S1.st k; have e1 := e1S1.st k; have e2 := e2S1.st k; have e3 := e3S1.st k; have e4 := e4S1.st k; have rp3 := rp3S1.st k; have eg2 := eg2S80601.st k; exact ⟨b_t h6, eq_v⟩) ⟨_, s.pick [0, 1, 2] 3 rfl, kS1⟩ ?_
  by_cases h7 : x5.2 = x6.2
  have hf := iteT h7 hf
  refine RD.segM hT ht1 (by kernel_rfl) [34, 35, 36, 38, 39] [.int .u64 p0.Epoch, .int .u64 p0.Epoch] [(77, .bool true)] [.bool true, .pointer (some ⟨b1, 0, none⟩), .int .u64 p0.Epoch, .pointer (some ⟨b1, 0, none⟩), .int .u64 p0.Epoch] [.veq (.bool (decide (x5.2 = x6.2))) (.bool true), .cell ⟨b1, 0, none⟩ (.int .u64 p0.Epoch), .cell ⟨b1, 0, none⟩ (.int .u64 p0.Epoch)] (by kernel_rfl) (by rintro w' ⟨I', s, k⟩; have e5 := e5S1.st k; have e6 := e6S1.st k; have e7 := e7S1.st k; have e1 := e1S1.st k; have e2 := e2S1.st k; have e3 := e3S1.st k; have e4 := e4S1.st k; have rp3 := rp3S1.st k; have eg2 := eg2S80601.st k; exact ⟨bo_t h7, s.cell (i := 2) (off := 0) rfl rfl, s.cell (i := 2) (off := 0) rfl rfl⟩) ⟨_, s.pick [0, 1, 2] 3 rfl, kS1⟩ ?_
  obtain ⟨x14, hx12, hf⟩ := bindS hf
  refine RD.op (i := 37) rfl (by kernel_rfl) (by kernel_rfl) (OK.call' en25 (by kernel_rfl) (c25 (F := (.sl (.slice A7 n3 u7) 91 1 n3 cl3) :: (.blk b2 (.cells #[.int .u64 p1.Epoch, .int .i64 p1.Pages, .slice A3 p1.Maps.length u3, .slice A4 p1.User.length u4] 28 (0, 0))) :: (.blk b1 (.cells #[.int .u64 p0.Epoch, .int .i64 p0.Pages, .slice A1 p0.Maps.length u1, .slice A2 p0.User.length u2] 28 (0, 0))) :: F) p0.Epoch s hx12) ?_)
  intro X14 hX14
  refine fun _ _ hJ => hJ X14 ?_
  clear s
  intro I18 w18 s k19
  refine hX14 _ _ ?_
  replace e5 := e5.st k19
  replace e6 := e6.st k19
  replace e7 := e7.st k19
  replace e1 := e1.st k19
  replace e2 := e2.st k19
  replace e3 := e3.st k19
  replace e4 := e4.st k19
  replace rp3 := rp3.st k19
  replace eg2 := eg2.st k19
  replace kk := kk.trans k19
  replace kS1 := kS1.trans k19
  refine ⟨fun _ => ⟨_, s.pick [0, 1, 2] 3 rfl, kS1⟩, RD.fold ?_⟩
  obtain ⟨x15, hx13, hf⟩ := bindS hf
  refine RD.op (i := 40) rfl (by kernel_rfl) (by kernel_rfl) (OK.call' en26 (by kernel_rfl) (c26 (F := (.sl (.slice A7 n3 u7) 91 1 n3 cl3) :: (.blk b2 (.cells #[.int .u64 p1.Epoch, .int .i64 p1.Pages, .slice A3 p1.Maps.length u3, .slice A4 p1.User.length u4] 28 (0, 0))) :: (.blk b1 (.cells #[.int .u64 p0.Epoch, .int .i64 p0.Pages, .slice A1 p0.Maps.length u1, .slice A2 p0.User.length u2] 28 (0, 0))) :: F) p0.Epoch s hx13) ?_)
  intro X15 hX15
  refine fun _ _ hJ => hJ X15 ?_
  clear s
  intro I19 w19 s k20
  refine hX15 _ _ ?_
  replace e5 := e5.st k20
  replace e6 := e6.st k20
  replace e7 := e7.st k20
  replace e1 := e1.st k20
  replace e2 := e2.st k20
  replace e3 := e3.st k20
  replace e4 := e4.st k20
  replace rp3 := rp3.st k20
  replace eg2 := eg2.st k20
  replace kk := kk.trans k20
  replace kS1 := kS1.trans k20
  refine ⟨fun _ => ⟨_, s.pick [0, 1, 2] 3 rfl, kS1⟩, RD.fold ?_⟩
  refine RD.segM hT ht1 (by kernel_rfl) [41, 42, 43] [] [(84, .bool (decide (x14 = x15)))] [.bool (decide (x14 = x15)), .bool (decide (x14 = x15)), .bool (decide (x14 = x15))] [.veq (.bool (x14 == x15)) (.bool (decide (x14 = x15)))] (by kernel_rfl) (by rintro w' ⟨I', s, k⟩; have e5 := e5S1.st k; have e6 := e6S1.st k; have e7 := e7S1.st k; have e1 := e1S1.st k; have e2 := e2S1.st k; have e3 := e3S1.st k; have e4 := e4S1.st k; have rp3 := rp3S1.st k; have eg2 := eg2S80601.st k; exact eq_v) ⟨_, s.pick [0, 1, 2] 3 rfl, kS1⟩ ?_
  refine RD.done (by kernel_rfl) ?_
  replace s := s.pick [] 3 rfl
  exact fun X h => kc (by kernel_rfl) rfl (h I19 (decide (x14 = x15)) _ hf s kk eg2)
  have hf := iteF h7 hf
  refine RD.segM hT ht1 (by kernel_rfl) [34, 35, 36, 38, 39] [] [(77, .bool false)] [.bool false, undef, undef, undef, undef] [.veq (.bool (decide (x5.2 = x6.2))) (.bool false)] (by kernel_rfl) (by rintro w' ⟨I', s, k⟩; have e5 := e5S1.st k; have e6 := e6S1.st k; have e7 := e7S1.st k; have e1 := e1S1.st k; have e2 := e2S1.st k; have e3 := e3S1.st k; have e4 := e4S1.st k; have rp3 := rp3S1.st k; have eg2 := eg2S80601.st k; exact bo_f h7) ⟨_, s.pick [0, 1, 2] 3 rfl, kS1⟩ ?_
  refine RD.skip (i := 37) rfl (by kernel_rfl) (by kernel_rfl) ?_
  refine ⟨fun _ => ⟨_, s.pick [0, 1, 2] 3 rfl, kS1⟩, ?_⟩
  refine RD.skip (i := 40) rfl (by kernel_rfl) (by kernel_rfl) ?_
  refine ⟨fun _ => ⟨_, s.pick [0, 1, 2] 3 rfl, kS1⟩, ?_⟩
  refine RD.segM hT ht1 (by kernel_rfl) [41, 42, 43] [] [] [undef, .bool false, .bool false] [] (by kernel_rfl) (fun _ _ => trivial) ⟨_, s.pick [0, 1, 2] 3 rfl, kS1⟩ ?_
  refine RD.done (by kernel_rfl) ?_
  replace s := s.pick [] 3 rfl
  exact fun X h => kc (by kernel_rfl) rfl (h I17 false _ hf s kk eg2)
  have hf := iteF h6 hf
  refine RD.segM hT ht1 (by kernel_rfl) [29, 30, 31, 32, 33, 34, 35, 36, 38, 39] [] [(72, .bool false)] [.bool false, undef, undef, undef, .bool false, .bool false, undef, undef, undef, undef] [.veq (.bool (x13)) (.bool false)] (by kernel_rfl) (by rintro w' ⟨I', s, k⟩; have e5 := e5S1.st k; have e6 := e6S1.st k; have e7 := e7S1.st k; have e1 := e1S1.st k; have e2 := e2S1.st k; have e3 := e3S1.st k; have e4 := e4S1.st k; have rp3 := rp3S1.st k; have eg2 := eg2S80601.st k; exact b_f h6) ⟨_, s.pick [0, 1, 2] 3 rfl, kS1⟩ ?_
  refine RD.skip (i := 37) rfl (by kernel_rfl) (by kernel_rfl) ?_
  refine ⟨fun _ => ⟨_, s.pick [0, 1, 2] 3 rfl, kS1⟩, ?_⟩
  refine RD.skip (i := 40) rfl (by kernel_rfl) (by kernel_rfl) ?_
  refine ⟨fun _ => ⟨_, s.pick [0, 1, 2] 3 rfl, kS1⟩, ?_⟩
  refine RD.segM hT ht1 (by kernel_rfl) [41, 42, 43] [] [] [undef, .bool false, .bool false] [] (by kernel_rfl) (fun _ _ => trivial) ⟨_, s.pick [0, 1, 2] 3 rfl, kS1⟩ ?_
  refine RD.done (by kernel_rfl) ?_
  replace s := s.pick [] 3 rfl
  exact fun X h => kc (by kernel_rfl) rfl (h I17 false _ hf s kk eg2)
  have hf := iteF h5 hf
  refine RD.segM hT ht1 (by kernel_rfl) [24, 25, 26] [] [(67, .bool false)] [.bool false, undef, undef] [.veq (.bool (decide (x3.2 = x4.2))) (.bool false)] (by kernel_rfl) (by rintro w' ⟨I', s, k⟩; have e5 := e5S1.st k; have e6 := e6S1.st k; have e7 := e7S1.st k; have e1 := e1S1.st k; have e2 := e2S1.st k; have e3 := e3S1.st k; have e4 := e4S1.st k; have rp3 := rp3S1.st k; have eg2 := eg2S80601.st k; exact bo_f h5) ⟨_, s.pick [0, 1, 2] 3 rfl, kS1⟩ ?_
  refine RD.skip (i := 27) rfl (by kernel_rfl) (by kernel_rfl) ?_
  refine ⟨fun _ => ⟨_, s.pick [0, 1, 2] 3 rfl, kS1⟩, ?_⟩
  refine RD.segM hT ht1 (by kernel_rfl) [28, 29, 30, 31, 32, 33, 34, 35, 36, 38, 39] [] [] [.bool false, .bool false, undef, undef, undef, .bool false, .bool false, undef, undef, undef, undef] [] (by kernel_rfl) (fun _ _ => trivial) ⟨_, s.pick [0, 1, 2] 3 rfl, kS1⟩ ?_
  refine RD.skip (i := 37) rfl (by kernel_rfl) (by kernel_rfl) ?_
  refine ⟨fun _ => ⟨_, s.pick [0, 1, 2] 3 rfl, kS1⟩, ?_⟩
  refine RD.skip (i := 40) rfl (by kernel_rfl) (by kernel_rfl) ?_
  refine ⟨fun _ => ⟨_, s.pick [0, 1, 2] 3 rfl, kS1⟩, ?_⟩
  refine RD.segM hT ht1 (by kernel_rfl) [41, 42, 43] [] [] [undef, .bool false, .bool false] [] (by kernel_rfl) (fun _ _ => trivial) ⟨_, s.pick [0, 1, 2] 3 rfl, kS1⟩ ?_
  refine RD.done (by kernel_rfl) ?_
  replace s := s.pick [] 3 rfl
  exact fun X h => kc (by kernel_rfl) rfl (h I15 false _ hf s kk eg2)
  have hf := iteF h4 hf
  refine RD.segM hT ht1 (by kernel_rfl) [19, 20, 21, 22, 23, 24, 25, 26] [] [(62, .bool false)] [.bool false, undef, undef, undef, .bool false, .bool false, undef, undef] [.veq (.bool (x12)) (.bool false)] (by kernel_rfl) (by rintro w' ⟨I', s, k⟩; have e5 := e5S1.st k; have e6 := e6S1.st k; have e7 := e7S1.st k; have e1 := e1S1.st k; have e2 := e2S1.st k; have e3 := e3S1.st k; have e4 := e4S1.st k; have rp3 := rp3S1.st k; have eg2 := eg2S80601.st k; exact b_f h4) ⟨_, s.pick [0, 1, 2] 3 rfl, kS1⟩ ?_
  refine RD.skip (i := 27) rfl (by kernel_rfl) (by kernel_rfl) ?_
  refine ⟨fun _ => ⟨_, s.pick [0, 1, 2] 3 rfl, kS1⟩, ?_⟩
  refine RD.segM hT ht1 (by kernel_rfl) [28, 29, 30, 31, 32, 33, 34, 35, 36, 38, 39] [] [] [.bool false, .bool false, undef, undef, undef, .bool false, .bool false, undef, undef, undef, undef] [] (by kernel_rfl) (fun _ _ => trivial) ⟨_, s.pick [0, 1, 2] 3 rfl, kS1⟩ ?_
  refine RD.skip (i := 37) rfl (by kernel_rfl) (by kernel_rfl) ?_
  refine ⟨fun _ => ⟨_, s.pick [0, 1, 2] 3 rfl, kS1⟩, ?_⟩
  refine RD.skip (i := 40) rfl (by kernel_rfl) (by kernel_rfl) ?_
  refine ⟨fun _ => ⟨_, s.pick [0, 1, 2] 3 rfl, kS1⟩, ?_⟩
  refine RD.segM hT ht1 (by kernel_rfl) [41, 42, 43] [] [] [undef, .bool false, .bool false] [] (by kernel_rfl) (fun _ _ => trivial) ⟨_, s.pick [0, 1, 2] 3 rfl, kS1⟩ ?_
  refine RD.done (by kernel_rfl) ?_
  replace s := s.pick [] 3 rfl
  exact fun X h => kc (by kernel_rfl) rfl (h I15 false _ hf s kk eg2)
  have hf := iteF h3 hf
  refine RD.segM hT ht1 (by kernel_rfl) [14, 15, 16] [] [(57, .bool false)] [.bool false, undef, undef] [.veq (.bool (decide (x10 = x11))) (.bool false)] (by kernel_rfl) (by rintro w' ⟨I', s, k⟩; have e5 := e5S1.st k; have e6 := e6S1.st k; have e7 := e7S1.st k; have e1 := e1S1.st k; have e2 := e2S1.st k; have e3 := e3S1.st k; have e4 := e4S1.st k; have rp3 := rp3S1.st k; have eg2 := eg2S80601.st k; exact bo_f h3) ⟨_, s.pick [0, 1, 2] 3 rfl, kS1⟩ ?_
  refine RD.skip (i := 17) rfl (by kernel_rfl) (by kernel_rfl) ?_
  refine ⟨fun _ => ⟨_, s.pick [0, 1, 2] 3 rfl, kS1⟩, ?_⟩
  refine RD.segM hT ht1 (by kernel_rfl) [18, 19, 20, 21, 22, 23, 24, 25, 26] [] [] [.bool false, .bool false, undef, undef, undef, .bool false, .bool false, undef, undef] [] (by kernel_rfl) (fun _ _ => trivial) ⟨_, s.pick [0, 1, 2] 3 rfl, kS1⟩ ?_
  refine RD.skip (i := 27) rfl (by kernel_rfl) (by kernel_rfl) ?_
  refine ⟨fun _ => ⟨_, s.pick [0, 1, 2] 3 rfl, kS1⟩, ?_⟩
  refine RD.segM hT ht1 (by kernel_rfl) [28, 29, 30, 31, 32, 33, 34, 35, 36, 38, 39] [] [] [.bool false, .bool false, undef, undef, undef, .bool false, .bool false, undef, undef, undef, undef] [] (by kernel_rfl) (fun _ _ => trivial) ⟨_, s.pick [0, 1, 2] 3 rfl, kS1⟩ ?_
  refine RD.skip (i := 37) rfl (by kernel_rfl) (by kernel_rfl) ?_
  refine ⟨fun _ => ⟨_, s.pick [0, 1, 2] 3 rfl, kS1⟩, ?_⟩
  refine RD.skip (i := 40) rfl (by kernel_rfl) (by kernel_rfl) ?_
  refine ⟨fun _ => ⟨_, s.pick [0, 1, 2] 3 rfl, kS1⟩, ?_⟩
  refine RD.segM hT ht1 (by kernel_rfl) [41, 42, 43] [] [] [undef, .bool false, .bool false] [] (by kernel_rfl) (fun _ _ => trivial) ⟨_, s.pick [0, 1, 2] 3 rfl, kS1⟩ ?_
  refine RD.done (by kernel_rfl) ?_
  replace s := s.pick [] 3 rfl
  exact fun X h => kc (by kernel_rfl) rfl (h I14 false _ hf s kk eg2)
  have hf := iteF h2 hf
  refine RD.segM hT ht1 (by kernel_rfl) [5, 6, 7, 9, 10] [] [(48, .bool false)] [.bool false, undef, undef, undef, undef] [.veq (.bool (decide (x8 = x9))) (.bool false)] (by kernel_rfl) (by rintro w' ⟨I', s, k⟩; have e5 := e5S1.st k; have e6 := e6S1.st k; have e7 := e7S1.st k; have e1 := e1S1.st k; have e2 := e2S1.st k; have e3 := e3S1.st k; have e4 := e4S1.st k; have rp3 := rp3S1.st k; have eg2 := eg2S80601.st k; exact bo_f h2) ⟨_, s.pick [0, 1, 2] 3 rfl, kS1⟩ ?_
  refine RD.skip (i := 8) rfl (by kernel_rfl) (by kernel_rfl) ?_
  refine ⟨fun _ => ⟨_, s.pick [0, 1, 2] 3 rfl, kS1⟩, ?_⟩
  refine RD.skip (i := 11) rfl (by kernel_rfl) (by kernel_rfl) ?_
  refine ⟨fun _ => ⟨_, s.pick [0, 1, 2] 3 rfl, kS1⟩, ?_⟩
  refine RD.segM hT ht1 (by kernel_rfl) [12, 13, 14, 15, 16] [] [] [undef, .bool false, .bool false, undef, undef] [] (by kernel_rfl) (fun _ _ => trivial) ⟨_, s.pick [0, 1, 2] 3 rfl, kS1⟩ ?_
  refine RD.skip (i := 17) rfl (by kernel_rfl) (by kernel_rfl) ?_
  refine ⟨fun _ => ⟨_, s.pick [0, 1, 2] 3 rfl, kS1⟩, ?_⟩
  refine RD.segM hT ht1 (by kernel_rfl) [18, 19, 20, 21, 22, 23, 24, 25, 26] [] [] [.bool false, .bool false, undef, undef, undef, .bool false, .bool false, undef, undef] [] (by kernel_rfl) (fun _ _ => trivial) ⟨_, s.pick [0, 1, 2] 3 rfl, kS1⟩ ?_
  refine RD.skip (i := 27) rfl (by kernel_rfl) (by kernel_rfl) ?_
  refine ⟨fun _ => ⟨_, s.pick [0, 1, 2] 3 rfl, kS1⟩, ?_⟩
  refine RD.segM hT ht1 (by kernel_rfl) [28, 29, 30, 31, 32, 33, 34, 35, 36, 38, 39] [] [] [.bool false, .bool false, undef, undef, undef, .bool false, .bool false, undef, undef, undef, undef] [] (by kernel_rfl) (fun _ _ => trivial) ⟨_, s.pick [0, 1, 2] 3 rfl, kS1⟩ ?_
  refine RD.skip (i := 37) rfl (by kernel_rfl) (by kernel_rfl) ?_
  refine ⟨fun _ => ⟨_, s.pick [0, 1, 2] 3 rfl, kS1⟩, ?_⟩
  refine RD.skip (i := 40) rfl (by kernel_rfl) (by kernel_rfl) ?_
  refine ⟨fun _ => ⟨_, s.pick [0, 1, 2] 3 rfl, kS1⟩, ?_⟩
  refine RD.segM hT ht1 (by kernel_rfl) [41, 42, 43] [] [] [undef, .bool false, .bool false] [] (by kernel_rfl) (fun _ _ => trivial) ⟨_, s.pick [0, 1, 2] 3 rfl, kS1⟩ ?_
  refine RD.done (by kernel_rfl) ?_
  replace s := s.pick [] 3 rfl
  exact fun X h => kc (by kernel_rfl) rfl (h I12 false _ hf s kk eg2)
  refine WPK.region ?_
  obtain ⟨x16, hx14, hf⟩ := bindS hf
  refine RW.op (by kernel_rfl) (OK.call' en9 (by kernel_rfl) (c9 (F := (.blk b2 (.cells #[.int .u64 p1.Epoch, .int .i64 p1.Pages, .slice A3 p1.Maps.length u3, .slice A4 p1.User.length u4] 28 (0, 0))) :: (.blk b1 (.cells #[.int .u64 p0.Epoch, .int .i64 p0.Pages, .slice A1 p0.Maps.length u1, .slice A2 p0.User.length u2] 28 (0, 0))) :: F) eg2 s hx14) ?_)
  intro X16 hX16
  refine fun _ _ hJ => hJ X16 ?_
  clear s
  intro I20 w20 s k21
  refine hX16 _ _ ?_
  replace e1 := e1.st k21
  replace e2 := e2.st k21
  replace e3 := e3.st k21
  replace e4 := e4.st k21
  replace eg2 := eg2.st k21
  replace kk := kk.trans k21
  refine RW.seg hT 1 [] [(14, .bool (decide (¬ (x16 = true))))] [.bool (decide (¬ (x16 = true)))] [.veq (.bool (!x16)) (.bool (decide (¬ (x16 = true))))] (by kernel_rfl) (not_b) ?_
  by_cases h8 : ¬ (x16 = true)
  have hf := iteT h8 hf
  refine RW.seg hT 7 [] [(15, .bool true)] [.bool true, undef, undef, undef, undef, undef, .bool true] [.veq (.bool (decide (¬ (x16 = true)))) (.bool true)] (by kernel_rfl) (bo_t h8) ?_
  refine RW.nil ?_
  exact fun X h => kc (by kernel_rfl) rfl (h I20 true _ hf s kk e3 e4 e1 e2 eg2)
  have hf := iteF h8 hf
  refine RW.seg hT 3 [.agg #[.int .u64 p0.Epoch, .int .i64 p0.Pages, .slice A1 p0.Maps.length u1, .slice A2 p0.User.length u2], .agg #[.int .u64 p1.Epoch, .int .i64 p1.Pages, .slice A3 p1.Maps.length u3, .slice A4 p1.User.length u4]] [(15, .bool false)] [.bool false, .agg #[.int .u64 p0.Epoch, .int .i64 p0.Pages, .slice A1 p0.Maps.length u1, .slice A2 p0.User.length u2], .agg #[.int .u64 p1.Epoch, .int .i64 p1.Pages, .slice A3 p1.Maps.length u3, .slice A4 p1.User.length u4]] [.veq (.bool (decide (¬ (x16 = true)))) (.bool false), .cells ⟨b1, 0, none⟩ [.int .u64 p0.Epoch, .int .i64 p0.Pages, .slice A1 p0.Maps.length u1, .slice A2 p0.User.length u2] 4, .cells ⟨b2, 0, none⟩ [.int .u64 p1.Epoch, .int .i64 p1.Pages, .slice A3 p1.Maps.length u3, .slice A4 p1.User.length u4] 4] (by kernel_rfl) (⟨bo_f h8, s.cells (i := 1) rfl rfl rfl, s.cells (i := 0) rfl rfl rfl⟩) ?_
  refine RW.op (by kernel_rfl) (OK.new hT (f := fun b => .slice (some ⟨b, 0, none⟩) 2 2) (cs := [.int .u64 p0.Epoch, .int .i64 p0.Pages, .slice A1 p0.Maps.length u1, .slice A2 p0.User.length u2, .int .u64 p1.Epoch, .int .i64 p1.Pages, .slice A3 p1.Maps.length u3, .slice A4 p1.User.length u4]) (e := 28) (c := .tt) s (by kernel_rfl) trivial ?_)
  clear s
  rintro w21 b3 s k22 -
  replace e1 := e1.st k22
  replace e2 := e2.st k22
  replace e3 := e3.st k22
  replace e4 := e4.st k22
  replace eg2 := eg2.st k22
  replace kk := kk.trans k22
  have rp5 : RepL rp_T_api_Head I20 w21 [.int .u64 p0.Epoch, .int .i64 p0.Pages, .slice A1 p0.Maps.length u1, .slice A2 p0.User.length u2, .int .u64 p1.Epoch, .int .i64 p1.Pages, .slice A3 p1.Maps.length u3, .slice A4 p1.User.length u4] ([p0, p1] : List T_api_Head) := RepL.cons (c := [.int .u64 p0.Epoch, .int .i64 p0.Pages, .slice A1 p0.Maps.length u1, .slice A2 p0.User.length u2]) (d := [.int .u64 p1.Epoch, .int .i64 p1.Pages, .slice A3 p1.Maps.length u3, .slice A4 p1.User.length u4]) (⟨[.int .u64 p0.Epoch], [.int .i64 p0.Pages, .slice A1 p0.Maps.length u1, .slice A2 p0.User.length u2], rfl, rfl, ⟨[.int .i64 p0.Pages], [.slice A1 p0.Maps.length u1, .slice A2 p0.User.length u2], rfl, rfl, ⟨[.slice A1 p0.Maps.length u1], [.slice A2 p0.User.length u2], rfl, ⟨_, _, rfl, hc1.1, hc1.2, e1⟩, ⟨_, _, rfl, hc2.1, hc2.2, e2⟩⟩⟩⟩) (RepL.cons (c := [.int .u64 p1.Epoch, .int .i64 p1.Pages, .slice A3 p1.Maps.length u3, .slice A4 p1.User.length u4]) (d := []) (⟨[.int .u64 p1.Epoch], [.int .i64 p1.Pages, .slice A3 p1.Maps.length u3, .slice A4 p1.User.length u4], rfl, rfl, ⟨[.int .i64 p1.Pages], [.slice A3 p1.Maps.length u3, .slice A4 p1.User.length u4], rfl, rfl, ⟨[.slice A3 p1.Maps.length u3], [.slice A4 p1.User.length u4], rfl, ⟨_, _, rfl, hc3.1, hc3.2, e3⟩, ⟨_, _, rfl, hc4.1, hc4.2, e4⟩⟩⟩⟩) (RepL.nil))
  replace s : St w1 M I20 ((.sl (.slice (some ⟨b3, 0, none⟩) 2 2) 28 4 2 [.int .u64 p0.Epoch, .int .i64 p0.Pages, .slice A1 p0.Maps.length u1, .slice A2 p0.User.length u2, .int .u64 p1.Epoch, .int .i64 p1.Pages, .slice A3 p1.Maps.length u3, .slice A4 p1.User.length u4]) :: (.blk b2 (.cells #[.int .u64 p1.Epoch, .int .i64 p1.Pages, .slice A3 p1.Maps.length u3, .slice A4 p1.User.length u4] 28 (0, 0))) :: (.blk b1 (.cells #[.int .u64 p0.Epoch, .int .i64 p0.Pages, .slice A1 p0.Maps.length u1, .slice A2 p0.User.length u2] 28 (0, 0))) :: F) w21 := s.blkSl (i := 0) (n := 2) (c := 2) (size := 4) rfl rfl (Nat.le_refl _) (by decide)
  have sa2 := s
  obtain ⟨hc10, e9⟩ := St.lend s (i := 0) rfl rfl rp5
  have k23 := Kp.shut (I := I20) (w := w21) (p := .sl (.slice (some ⟨b3, 0, none⟩) 2 2) 28 4 2 [.int .u64 p0.Epoch, .int .i64 p0.Pages, .slice A1 p0.Maps.length u1, .slice A2 p0.User.length u2, .int .u64 p1.Epoch, .int .i64 p1.Pages, .slice A3 p1.Maps.length u3, .slice A4 p1.User.length u4])
  replace s := s.shut 0 rfl
  obtain ⟨x17, hx15, hf⟩ := bindS hf
  refine RW.op (by kernel_rfl) (OK.call' en16 (by kernel_rfl) (c16 (F := (.blk b2 (.cells #[.int .u64 p1.Epoch, .int .i64 p1.Pages, .slice A3 p1.Maps.length u3, .slice A4 p1.User.length u4] 28 (0, 0))) :: (.blk b1 (.cells #[.int .u64 p0.Epoch, .int .i64 p0.Pages, .slice A1 p0.Maps.length u1, .slice A2 p0.User.length u2] 28 (0, 0))) :: F) ([p0, p1] : List T_api_Head) (some ⟨b3, 0, none⟩) 2 hc10 e9 s hx15) ?_)
  intro X17 hX17
  refine fun _ _ hJ => hJ X17 ?_
  clear s
  intro I21 w22 s k24
  refine hX17 _ _ ?_
  have s' := St.back sa2 (i := 0) rfl s k24
  replace k24 := Kp.back sa2 (i := 0) rfl k24
  replace s := s'; clear s'
  obtain ⟨I22, s, k24⟩ : ∃ I : Nat → Prop, St w1 M I ((.sl (.slice (some ⟨b3, 0, none⟩) 2 2) 28 4 2 [.int .u64 p0.Epoch, .int .i64 p0.Pages, .slice A1 p0.Maps.length u1, .slice A2 p0.User.length u2, .int .u64 p1.Epoch, .int .i64 p1.Pages, .slice A3 p1.Maps.length u3, .slice A4 p1.User.length u4]) :: (.blk b2 (.cells #[.int .u64 p1.Epoch, .int .i64 p1.Pages, .slice A3 p1.Maps.length u3, .slice A4 p1.User.length u4] 28 (0, 0))) :: (.blk b1 (.cells #[.int .u64 p0.Epoch, .int .i64 p0.Pages, .slice A1 p0.Maps.length u1, .slice A2 p0.User.length u2] 28 (0, 0))) :: F) w22 ∧ Kp _ _ I _ := ⟨_, s, k24⟩
  replace e1 := e1.st k24
  replace e2 := e2.st k24
  replace e3 := e3.st k24
  replace e4 := e4.st k24
  replace eg2 := eg2.st k24
  replace rp5 := rp5.st k24
  replace kk := kk.trans k24
  refine RW.seg hT 2 [] [(20, .bool (decide (¬ (x17 = true))))] [.bool (decide (¬ (x17 = true))), .bool (decide (¬ (x17 = true)))] [.veq (.bool (!x17)) (.bool (decide (¬ (x17 = true))))] (by kernel_rfl) (not_b) ?_
  refine RW.nil ?_
  replace s := s.pick [1, 2] 3 rfl
  exact fun X h => kc (by kernel_rfl) rfl (h I22 (decide (¬ (x17 = true))) _ hf s kk e3 e4 e1 e2 eg2)
end Go.Proofs.YtclnddebhjjpfaaDoor
