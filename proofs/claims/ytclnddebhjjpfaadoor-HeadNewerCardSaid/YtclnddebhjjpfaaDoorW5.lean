/- PRINTED BY sy.py: each call computes what the plain function of its number tells. -/
import Derived.Test.YtclnddebhjjpfaaDoorW4
namespace Go.Proofs.YtclnddebhjjpfaaDoor
open Go Go.SX Go.RowKit
set_option maxRecDepth 100000
set_option linter.unusedVariables false
attribute [local irreducible] WPK RW RD Ret SX.Fin SX.Any opK RoundBeg RoundEnd RangeEnd Rounds
theorem c7 {w1 w : World} {M I : Nat → Prop} {F : List It} (p0 : T_api_Head) (p1 : T_api_Head) (p2 : (List Int)) (A1 : Option Addr) (u1 : Nat) (A2 : Option Addr) (u2 : Nat) (A3 : Option Addr) (u3 : Nat) (A4 : Option Addr) (u4 : Nat) (A5 : Option Addr) (u5 : Nat) (hc1 : (p0.Maps.length ≤ u1 ∧ u1 ≤ 9223372036854775807)) (e1 : Elems (Rp.int .i64) I w A1 p0.Maps) (hc2 : (p0.User.length ≤ u2 ∧ u2 ≤ 9223372036854775807)) (e2 : Elems (Rp.int .u8) I w A2 p0.User) (hc3 : (p1.Maps.length ≤ u3 ∧ u3 ≤ 9223372036854775807)) (e3 : Elems (Rp.int .i64) I w A3 p1.Maps) (hc4 : (p1.User.length ≤ u4 ∧ u4 ≤ 9223372036854775807)) (e4 : Elems (Rp.int .u8) I w A4 p1.User) (hc5 : (p2.length ≤ u5 ∧ u5 ≤ 9223372036854775807)) (e5 : Elems (Rp.int .u8) I w A5 p2) (eg2 : Elems (Rp.int .u32) I w (some ⟨2, 0, none⟩) TAB2) (s : St w1 M I (F) w) {r : Bool} (hf : g7 p0 p1 p2 = some r) :
    Ret Tryd.prog 7 [.agg #[.int .u64 p0.Epoch, .int .i64 p0.Pages, .slice A1 p0.Maps.length u1, .slice A2 p0.User.length u2], .agg #[.int .u64 p1.Epoch, .int .i64 p1.Pages, .slice A3 p1.Maps.length u3, .slice A4 p1.User.length u4], .slice A5 p2.length u5] w fun v wz => ∀ X : Value → World → Prop, (∀ (I' : Nat → Prop) (w' : World), St w1 M I' (F) w' → Kp I w I' w' → X (.bool r) w') → X v wz := by
  have kk : Kp I w I w := Kp.refl
  unfold g7 at hf
  refine Ret.of Tryd.func7 rfl ?_
  refine WPK.seq ?_
  refine WPK.region ?_
  refine RW.op (by kernel_rfl) (OK.new hT (f := fun b => .pointer (some ⟨b, 0, none⟩)) (cs := [.int .u64 p0.Epoch, .int .i64 p0.Pages, .slice A1 p0.Maps.length u1, .slice A2 p0.User.length u2]) (e := 28) (c := .tt) s (by kernel_rfl) trivial ?_)
  clear s
  rintro w2 b1 s k1 -
  replace e1 := e1.st k1
  replace e2 := e2.st k1
  replace e3 := e3.st k1
  replace e4 := e4.st k1
  replace e5 := e5.st k1
  replace eg2 := eg2.st k1
  replace kk := kk.trans k1
  refine RW.op (by kernel_rfl) (OK.new hT (f := fun b => .pointer (some ⟨b, 0, none⟩)) (cs := [.int .u64 p1.Epoch, .int .i64 p1.Pages, .slice A3 p1.Maps.length u3, .slice A4 p1.User.length u4]) (e := 28) (c := .tt) s (by kernel_rfl) trivial ?_)
  clear s
  rintro w3 b2 s k2 -
  replace e1 := e1.st k2
  replace e2 := e2.st k2
  replace e3 := e3.st k2
  replace e4 := e4.st k2
  replace e5 := e5.st k2
  replace eg2 := eg2.st k2
  replace kk := kk.trans k2
  refine RW.seg hT 1 [] [] [.bool false] [] (by kernel_rfl) (trivial) ?_
  refine RW.nil ?_
  refine WPK.seq ?_
  refine WPK.seq ?_
  refine WPK.cut' (Kn fun D1 ds wz => ∀ X : Kont, (∀ (I1 : Nat → Prop) (x1 : Bool) (w' : World), g7_j1 p0 p1 p2 x1 = some r → St w1 M I1 ((.blk b2 (.cells #[.int .u64 p1.Epoch, .int .i64 p1.Pages, .slice A3 p1.Maps.length u3, .slice A4 p1.User.length u4] 28 (0, 0))) :: (.blk b1 (.cells #[.int .u64 p0.Epoch, .int .i64 p0.Pages, .slice A1 p0.Maps.length u1, .slice A2 p0.User.length u2] 28 (0, 0))) :: F) w' → Kp I w I1 w' → Elems (Rp.int .u8) I1 w' A5 p2 → Elems (Rp.int .i64) I1 w' A3 p1.Maps → Elems (Rp.int .u8) I1 w' A4 p1.User → Elems (Rp.int .i64) I1 w' A1 p0.Maps → Elems (Rp.int .u8) I1 w' A2 p0.User → Elems (Rp.int .u32) I1 w' (some ⟨2, 0, none⟩) TAB2 → X [(D1.getD 0 undef), (D1.getD 1 undef), .slice A5 p2.length u5, .pointer (some ⟨b1, 0, none⟩), .pointer (some ⟨b2, 0, none⟩), (D1.getD 5 undef), .bool false, undef, undef, undef, undef, undef, (D1.getD 12 undef), (D1.getD 13 undef), (D1.getD 14 undef), (D1.getD 15 undef), (D1.getD 16 undef), (D1.getD 17 undef), (D1.getD 18 undef), (D1.getD 19 undef), (D1.getD 20 undef), (D1.getD 21 undef), (D1.getD 22 undef), (D1.getD 23 undef), (D1.getD 24 undef), (D1.getD 25 undef), (D1.getD 26 undef), (D1.getD 27 undef), (D1.getD 28 undef), (D1.getD 29 undef), .bool x1, undef, undef, undef, undef, undef, undef, undef, undef, undef, undef, undef, undef, undef, undef, undef, undef, undef, undef, undef, undef, undef, undef, undef, undef, undef, undef, undef, undef, undef, undef, undef, undef, undef, undef, undef, undef, undef, undef, undef, undef, undef, undef, undef, undef, undef, undef, undef, undef, undef, undef, undef, undef, undef, undef, undef, undef, undef, undef, undef, undef, undef, undef, undef, undef, undef, undef, (D1.getD 97 undef), (D1.getD 98 undef), undef, undef, undef, undef, undef, undef, undef, undef, undef, undef, undef, undef, undef, undef, undef, (D1.getD 114 undef), (D1.getD 115 undef), undef, undef, undef, undef, undef, undef, undef, undef, undef, undef, undef, undef, undef, undef, undef, undef, undef, undef, undef, undef, undef, undef, undef, undef] [] w') → X D1 ds wz) ?_ ?_
  intro X1 hX1
  refine fun D1 _ _ hJ => hJ X1 ?_
  clear s
  intro I1 x1 w4 hf s kk e5 e3 e4 e1 e2 eg2
  refine hX1 _ _ _ ?_
  unfold g7_j1 at hf
  by_cases h1 : x1 = true
  have hf := iteT h1 hf
  refine WPK.condT (Eq.trans (b := .bool x1) (by kernel_rfl) (b_t h1)) ?_
  refine WPK.seq ?_
  refine WPK.region ?_
  obtain ⟨x2, hx1, hf⟩ := bindS hf
  refine RW.op (by kernel_rfl) (OK.call' en9 (by kernel_rfl) (c9 (F := (.blk b2 (.cells #[.int .u64 p1.Epoch, .int .i64 p1.Pages, .slice A3 p1.Maps.length u3, .slice A4 p1.User.length u4] 28 (0, 0))) :: (.blk b1 (.cells #[.int .u64 p0.Epoch, .int .i64 p0.Pages, .slice A1 p0.Maps.length u1, .slice A2 p0.User.length u2] 28 (0, 0))) :: F) eg2 s hx1) ?_)
  intro X2 hX2
  refine fun _ _ hJ => hJ X2 ?_
  clear s
  intro I2 w5 s k3
  refine hX2 _ _ ?_
  replace e5 := e5.st k3
  replace e3 := e3.st k3
  replace e4 := e4.st k3
  replace e1 := e1.st k3
  replace e2 := e2.st k3
  replace eg2 := eg2.st k3
  replace kk := kk.trans k3
  refine RW.seg hT 1 [] [] [.bool x2] [] (by kernel_rfl) (trivial) ?_
  refine RW.nil ?_
  refine WPK.ret (?_)
  obtain rfl := someS hf
  refine Fin.of (rs := [.tmp 6]) hT [] (.bool x2) [] rfl (by kernel_rfl) (trivial) ?_
  replace s := s.pick [] 2 rfl
  exact fun X h => vc rfl (h I2 _ s kk)
  have hf := iteF h1 hf
  refine WPK.condF (Eq.trans (b := .bool x1) (by kernel_rfl) (b_f h1)) ?_
  refine WPK.skip ?_
  refine WPK.seq ?_
  refine WPK.region ?_
  refine RW.seg hT 4 [.int .u64 p0.Epoch] [] [.pointer (some ⟨b1, 0, none⟩), .int .u64 p0.Epoch, .int .u64 (IntKind.u64.wrap (p0.Epoch + 1)), .pointer (some ⟨b2, 0, none⟩)] [.cell ⟨b1, 0, none⟩ (.int .u64 p0.Epoch)] (by kernel_rfl) (s.cell (i := 1) (off := 0) rfl rfl) ?_
  refine RW.op (by kernel_rfl) (OK.store hT (i := 0) (b := b2) (off := 0) (n := 1) (vs := [.int .u64 (IntKind.u64.wrap (p0.Epoch + 1))]) (cs := [.int .u64 p1.Epoch, .int .i64 p1.Pages, .slice A3 p1.Maps.length u3, .slice A4 p1.User.length u4]) (e := 28) s (by kernel_rfl) rfl rfl (flat_ok rfl) (Nat.le_of_ble_eq_true rfl) ?_)
  clear s
  rintro w6 s k4 -
  replace e5 := e5.st k4
  replace e3 := e3.st k4
  replace e4 := e4.st k4
  replace e1 := e1.st k4
  replace e2 := e2.st k4
  replace eg2 := eg2.st k4
  replace kk := kk.trans k4
  refine RW.nil ?_
  refine WPK.seq ?_
  refine WPK.region ?_
  refine RW.seg hT 3 [.int .i64 p0.Pages] [] [.pointer (some ⟨b1, 1, none⟩), .int .i64 p0.Pages, .pointer (some ⟨b2, 1, none⟩)] [.cell ⟨b1, 1, none⟩ (.int .i64 p0.Pages)] (by kernel_rfl) (s.cell (i := 1) (off := 1) rfl rfl) ?_
  refine RW.op (by kernel_rfl) (OK.store hT (i := 0) (b := b2) (off := 1) (n := 1) (vs := [.int .i64 p0.Pages]) (cs := [.int .u64 (IntKind.u64.wrap (p0.Epoch + 1)), .int .i64 p1.Pages, .slice A3 p1.Maps.length u3, .slice A4 p1.User.length u4]) (e := 28) s (by kernel_rfl) rfl rfl (flat_ok rfl) (Nat.le_of_ble_eq_true rfl) ?_)
  clear s
  rintro w7 s k5 -
  replace e5 := e5.st k5
  replace e3 := e3.st k5
  replace e4 := e4.st k5
  replace e1 := e1.st k5
  replace e2 := e2.st k5
  replace eg2 := eg2.st k5
  replace kk := kk.trans k5
  refine RW.nil ?_
  refine WPK.seq ?_
  refine WPK.seq ?_
  refine WPK.cut' (Kn fun D2 ds wz => ∀ X : Kont, (∀ (I3 : Nat → Prop) (x3 : Bool) (w' : World), g7_j2 p0 p1 p2 x3 = some r → St w1 M I3 ((.blk b2 (.cells #[.int .u64 (IntKind.u64.wrap (p0.Epoch + 1)), .int .i64 p0.Pages, .slice A3 p1.Maps.length u3, .slice A4 p1.User.length u4] 28 (0, 0))) :: (.blk b1 (.cells #[.int .u64 p0.Epoch, .int .i64 p0.Pages, .slice A1 p0.Maps.length u1, .slice A2 p0.User.length u2] 28 (0, 0))) :: F) w' → Kp I w I3 w' → Elems (Rp.int .u8) I3 w' A5 p2 → Elems (Rp.int .i64) I3 w' A3 p1.Maps → Elems (Rp.int .u8) I3 w' A4 p1.User → Elems (Rp.int .i64) I3 w' A1 p0.Maps → Elems (Rp.int .u8) I3 w' A2 p0.User → Elems (Rp.int .u32) I3 w' (some ⟨2, 0, none⟩) TAB2 → X [(D2.getD 0 undef), (D2.getD 1 undef), .slice A5 p2.length u5, .pointer (some ⟨b1, 0, none⟩), .pointer (some ⟨b2, 0, none⟩), (D2.getD 5 undef), .bool false, undef, undef, undef, undef, undef, (D2.getD 12 undef), (D2.getD 13 undef), (D2.getD 14 undef), (D2.getD 15 undef), (D2.getD 16 undef), (D2.getD 17 undef), (D2.getD 18 undef), (D2.getD 19 undef), (D2.getD 20 undef), (D2.getD 21 undef), (D2.getD 22 undef), (D2.getD 23 undef), (D2.getD 24 undef), (D2.getD 25 undef), (D2.getD 26 undef), (D2.getD 27 undef), (D2.getD 28 undef), (D2.getD 29 undef), (D2.getD 30 undef), (D2.getD 31 undef), (D2.getD 32 undef), (D2.getD 33 undef), (D2.getD 34 undef), (D2.getD 35 undef), (D2.getD 36 undef), (D2.getD 37 undef), (D2.getD 38 undef), (D2.getD 39 undef), (D2.getD 40 undef), (D2.getD 41 undef), (D2.getD 42 undef), (D2.getD 43 undef), (D2.getD 44 undef), (D2.getD 45 undef), .bool x3, undef, undef, undef, undef, undef, undef, undef, undef, undef, undef, undef, undef, undef, undef, undef, undef, undef, undef, undef, undef, undef, undef, undef, undef, undef, undef, undef, undef, undef, undef, undef, undef, undef, undef, undef, undef, undef, undef, undef, undef, undef, undef, undef, undef, undef, undef, undef, undef, undef, undef, (D2.getD 97 undef), (D2.getD 98 undef), undef, undef, undef, undef, undef, undef, undef, undef, undef, undef, undef, undef, undef, undef, undef, (D2.getD 114 undef), (D2.getD 115 undef), undef, undef, undef, undef, undef, undef, undef, undef, undef, undef, undef, undef, undef, undef, undef, undef, undef, undef, undef, undef, undef, undef, undef, undef] [] w') → X D2 ds wz) ?_ ?_
  intro X3 hX3
  refine fun D2 _ _ hJ => hJ X3 ?_
  clear s
  intro I3 x3 w8 hf s kk e5 e3 e4 e1 e2 eg2
  refine hX3 _ _ _ ?_
  unfold g7_j2 at hf
  by_cases h2 : x3 = true
  have hf := iteT h2 hf
  refine WPK.condT (Eq.trans (b := .bool x3) (by kernel_rfl) (b_t h2)) ?_
  refine WPK.seq ?_
  refine WPK.region ?_
  refine RW.seg hT 1 [] [] [.bool true] [] (by kernel_rfl) (trivial) ?_
  refine RW.nil ?_
  refine WPK.ret (?_)
  obtain rfl := someS hf
  refine Fin.of (rs := [.tmp 6]) hT [] (.bool true) [] rfl (by kernel_rfl) (trivial) ?_
  replace s := s.pick [] 2 rfl
  exact fun X h => vc rfl (h I3 _ s kk)
  have hf := iteF h2 hf
  refine WPK.condF (Eq.trans (b := .bool x3) (by kernel_rfl) (b_f h2)) ?_
  refine WPK.skip ?_
  refine WPK.seq ?_
  refine WPK.region ?_
  obtain ⟨x4, hx2, hf⟩ := bindS hf
  refine RW.seg hT 5 [.int .u64 (IntKind.u64.wrap (p0.Epoch + 1)), undef] [(50, .int .i64 x4)] [.pointer (some ⟨b2, 0, none⟩), .int .u64 (IntKind.u64.wrap (p0.Epoch + 1)), .int .u64 (Int.tmod (IntKind.u64.wrap (p0.Epoch + 1)) 2), .int .i64 x4, .int .i64 x4] [.cell ⟨b2, 0, none⟩ (.int .u64 (IntKind.u64.wrap (p0.Epoch + 1))), .ne0 2, .veq (.int .i64 (IntKind.i64.wrap (Int.tmod (IntKind.u64.wrap (p0.Epoch + 1)) 2))) (.int .i64 x4)] (by kernel_rfl) (⟨s.cell (i := 0) (off := 0) rfl rfl, (show (2 : Int) ≠ 0 by decide), int_v (someS hx2)⟩) ?_
  refine RW.nil ?_
  refine WPK.seq ?_
  have e5S1 := e5
  have e3S1 := e3
  have e4S1 := e4
  have e1S1 := e1
  have e2S1 := e2
  have eg2S50385 := eg2
  have kS1 : Kp I3 w8 I3 w8 := Kp.refl
  refine WPK.drawM (fun w' => ∃ I' : Nat → Prop, St w1 M I' ((.blk b2 (.cells #[.int .u64 (IntKind.u64.wrap (p0.Epoch + 1)), .int .i64 p0.Pages, .slice A3 p1.Maps.length u3, .slice A4 p1.User.length u4] 28 (0, 0))) :: (.blk b1 (.cells #[.int .u64 p0.Epoch, .int .i64 p0.Pages, .slice A1 p0.Maps.length u1, .slice A2 p0.User.length u2] 28 (0, 0))) :: F) w' ∧ Kp I3 w8 I' w') 6 [0, 1, 0, 7, 15, 31] (by kernel_rfl) (by kernel_rfl) ?_
  intro ht1 w9 hd1
  have k6 := Kp.dr s hd1
  replace s := s.dr hd1
  replace e5 := e5.st k6
  replace e3 := e3.st k6
  replace e4 := e4.st k6
  replace e1 := e1.st k6
  replace e2 := e2.st k6
  replace eg2 := eg2.st k6
  replace kk := kk.trans k6
  replace kS1 := kS1.trans k6
  refine RD.segM hT ht1 (by kernel_rfl) [0, 2] [.agg #[.int .u64 p0.Epoch, .int .i64 p0.Pages, .slice A1 p0.Maps.length u1, .slice A2 p0.User.length u2], .agg #[.int .u64 (IntKind.u64.wrap (p0.Epoch + 1)), .int .i64 p0.Pages, .slice A3 p1.Maps.length u3, .slice A4 p1.User.length u4]] [] [.agg #[.int .u64 p0.Epoch, .int .i64 p0.Pages, .slice A1 p0.Maps.length u1, .slice A2 p0.User.length u2], .agg #[.int .u64 (IntKind.u64.wrap (p0.Epoch + 1)), .int .i64 p0.Pages, .slice A3 p1.Maps.length u3, .slice A4 p1.User.length u4]] [.cells ⟨b1, 0, none⟩ [.int .u64 p0.Epoch, .int .i64 p0.Pages, .slice A1 p0.Maps.length u1, .slice A2 p0.User.length u2] 4, .cells ⟨b2, 0, none⟩ [.int .u64 (IntKind.u64.wrap (p0.Epoch + 1)), .int .i64 p0.Pages, .slice A3 p1.Maps.length u3, .slice A4 p1.User.length u4] 4] (by kernel_rfl) (by rintro w' ⟨I', s, k⟩; have e5 := e5S1.st k; have e3 := e3S1.st k; have e4 := e4S1.st k; have e1 := e1S1.st k; have e2 := e2S1.st k; have eg2 := eg2S50385.st k; exact ⟨s.cells (i := 1) rfl rfl rfl, s.cells (i := 0) rfl rfl rfl⟩) ⟨_, s.pick [0, 1] 2 rfl, kS1⟩ ?_
  obtain ⟨x5, hx3, hf⟩ := bindS hf
  refine RD.op (i := 1) rfl (by kernel_rfl) (by kernel_rfl) (OK.call' en27 (by kernel_rfl) (c27 (F := (.blk b2 (.cells #[.int .u64 (IntKind.u64.wrap (p0.Epoch + 1)), .int .i64 p0.Pages, .slice A3 p1.Maps.length u3, .slice A4 p1.User.length u4] 28 (0, 0))) :: (.blk b1 (.cells #[.int .u64 p0.Epoch, .int .i64 p0.Pages, .slice A1 p0.Maps.length u1, .slice A2 p0.User.length u2] 28 (0, 0))) :: F) p0 A1 u1 A2 u2 hc1 e1 hc2 e2 eg2 s hx3) ?_)
  intro X4 hX4
  refine fun _ _ hJ => hJ X4 ?_
  clear s
  intro I4 A6 n1 u6 cl1 w10 s k7 hn1 rp1
  refine hX4 _ _ ?_
  replace e5 := e5.st k7
  replace e1 := e1.st k7
  replace e2 := e2.st k7
  replace e3 := e3.st k7
  replace e4 := e4.st k7
  replace eg2 := eg2.st k7
  replace kk := kk.trans k7
  replace kS1 := kS1.trans k7
  refine ⟨fun _ => ⟨_, s.pick [1, 2] 3 rfl, kS1⟩, RD.fold ?_⟩
  obtain ⟨x6, hx4, hf⟩ := bindS hf
  refine RD.op (i := 3) rfl (by kernel_rfl) (by kernel_rfl) (OK.call' en27 (by kernel_rfl) (c27 (F := (.sl (.slice A6 n1 u6) 91 1 n1 cl1) :: (.blk b2 (.cells #[.int .u64 (IntKind.u64.wrap (p0.Epoch + 1)), .int .i64 p0.Pages, .slice A3 p1.Maps.length u3, .slice A4 p1.User.length u4] 28 (0, 0))) :: (.blk b1 (.cells #[.int .u64 p0.Epoch, .int .i64 p0.Pages, .slice A1 p0.Maps.length u1, .slice A2 p0.User.length u2] 28 (0, 0))) :: F) (T_api_Head.mk (IntKind.u64.wrap (p0.Epoch + 1)) p0.Pages p1.Maps p1.User) A3 u3 A4 u4 hc3 e3 hc4 e4 eg2 s hx4) ?_)
  intro X5 hX5
  refine fun _ _ hJ => hJ X5 ?_
  clear s
  intro I5 A7 n2 u7 cl2 w11 s k8 hn2 rp2
  refine hX5 _ _ ?_
  replace e5 := e5.st k8
  replace e1 := e1.st k8
  replace e2 := e2.st k8
  replace e3 := e3.st k8
  replace e4 := e4.st k8
  replace rp1 := rp1.st k8
  replace eg2 := eg2.st k8
  replace kk := kk.trans k8
  replace kS1 := kS1.trans k8
  refine ⟨fun _ => ⟨_, s.pick [2, 3] 4 rfl, kS1⟩, RD.fold ?_⟩
  rw [hn1] at s
  try rw [hn1]
  obtain ⟨I6, s', k9, hc6, e6⟩ := St.give s (i := 1) rfl rfl rp1
  replace s := s'; clear s'
  replace e5 := e5.st k9
  replace e1 := e1.st k9
  replace e2 := e2.st k9
  replace e3 := e3.st k9
  replace e4 := e4.st k9
  replace rp2 := rp2.st k9
  replace eg2 := eg2.st k9
  replace kk := kk.trans k9
  replace kS1 := kS1.trans k9
  rw [hn2] at s
  try rw [hn2]
  obtain ⟨I7, s', k10, hc7, e7⟩ := St.give s (i := 0) rfl rfl rp2
  replace s := s'; clear s'
  replace e5 := e5.st k10
  replace e1 := e1.st k10
  replace e2 := e2.st k10
  replace e6 := e6.st k10
  replace e3 := e3.st k10
  replace e4 := e4.st k10
  replace eg2 := eg2.st k10
  replace kk := kk.trans k10
  replace kS1 := kS1.trans k10
  refine RD.op (i := 4) rfl (by kernel_rfl) (by kernel_rfl) (OK.new hT (f := fun b => .slice (some ⟨b, 0, none⟩) 2 2) (cs := [.slice A6 x5.length u6, .slice A7 x6.length u7]) (e := 24) (c := .tt) s (by kernel_rfl) trivial ?_)
  clear s
  rintro w12 b3 s k11 -
  replace e5 := e5.st k11
  replace e1 := e1.st k11
  replace e2 := e2.st k11
  replace e6 := e6.st k11
  replace e3 := e3.st k11
  replace e4 := e4.st k11
  replace e7 := e7.st k11
  replace eg2 := eg2.st k11
  replace kk := kk.trans k11
  replace kS1 := kS1.trans k11
  have rp3 : RepL (Rp.slice (Rp.int .u8)) I7 w12 [.slice A6 x5.length u6, .slice A7 x6.length u7] ([x5, x6] : List (List Int)) := RepL.cons (c := [.slice A6 x5.length u6]) (d := [.slice A7 x6.length u7]) (⟨_, _, rfl, hc6.1, hc6.2, e6⟩) (RepL.cons (c := [.slice A7 x6.length u7]) (d := []) (⟨_, _, rfl, hc7.1, hc7.2, e7⟩) (RepL.nil))
  replace s : St w1 M I7 ((.sl (.slice (some ⟨b3, 0, none⟩) 2 2) 24 1 2 [.slice A6 x5.length u6, .slice A7 x6.length u7]) :: (.blk b2 (.cells #[.int .u64 (IntKind.u64.wrap (p0.Epoch + 1)), .int .i64 p0.Pages, .slice A3 p1.Maps.length u3, .slice A4 p1.User.length u4] 28 (0, 0))) :: (.blk b1 (.cells #[.int .u64 p0.Epoch, .int .i64 p0.Pages, .slice A1 p0.Maps.length u1, .slice A2 p0.User.length u2] 28 (0, 0))) :: F) w12 := s.blkSl (i := 0) (n := 2) (c := 2) (size := 1) rfl rfl (Nat.le_refl _) (by decide)
  refine ⟨fun _ => ⟨_, s.pick [1, 2] 3 rfl, kS1⟩, RD.fold ?_⟩
  refine RD.segM hT ht1 (by kernel_rfl) [5] [] [] [.slice (some ⟨b3, 0, none⟩) 2 2] [] (by kernel_rfl) (fun _ _ => trivial) ⟨_, s.pick [1, 2] 3 rfl, kS1⟩ ?_
  refine RD.done (by kernel_rfl) ?_
  refine WPK.seq ?_
  refine WPK.cut' (Kn fun D3 ds wz => ∀ X : Kont, (∀ (I8 : Nat → Prop) (x7 : (List (List Int))) (A8 : Option Addr) (u8 : Nat) (cl3 : List Value) (w' : World), g7_j3 p0 p1 p2 x4 x7 = some r → St w1 M I8 ((.sl (.slice A8 x7.length u8) 24 1 x7.length cl3) :: (.blk b2 (.cells #[.int .u64 (IntKind.u64.wrap (p0.Epoch + 1)), .int .i64 p0.Pages, .slice A3 p1.Maps.length u3, .slice A4 p1.User.length u4] 28 (0, 0))) :: (.blk b1 (.cells #[.int .u64 p0.Epoch, .int .i64 p0.Pages, .slice A1 p0.Maps.length u1, .slice A2 p0.User.length u2] 28 (0, 0))) :: F) w' → Kp I w I8 w' → Elems (Rp.int .u8) I8 w' A5 p2 → RepL (Rp.slice (Rp.int .u8)) I8 w' cl3 x7 → Elems (Rp.int .i64) I8 w' A3 p1.Maps → Elems (Rp.int .u8) I8 w' A4 p1.User → Elems (Rp.int .i64) I8 w' A1 p0.Maps → Elems (Rp.int .u8) I8 w' A2 p0.User → Elems (Rp.int .u32) I8 w' (some ⟨2, 0, none⟩) TAB2 → X [(D3.getD 0 undef), (D3.getD 1 undef), .slice A5 p2.length u5, .pointer (some ⟨b1, 0, none⟩), .pointer (some ⟨b2, 0, none⟩), (D3.getD 5 undef), .bool false, .int .i64 x4, .slice A8 x7.length u8, undef, undef, undef, (D3.getD 12 undef), (D3.getD 13 undef), (D3.getD 14 undef), (D3.getD 15 undef), (D3.getD 16 undef), (D3.getD 17 undef), (D3.getD 18 undef), (D3.getD 19 undef), (D3.getD 20 undef), (D3.getD 21 undef), (D3.getD 22 undef), (D3.getD 23 undef), (D3.getD 24 undef), (D3.getD 25 undef), (D3.getD 26 undef), (D3.getD 27 undef), (D3.getD 28 undef), (D3.getD 29 undef), (D3.getD 30 undef), (D3.getD 31 undef), (D3.getD 32 undef), (D3.getD 33 undef), (D3.getD 34 undef), (D3.getD 35 undef), (D3.getD 36 undef), (D3.getD 37 undef), (D3.getD 38 undef), (D3.getD 39 undef), (D3.getD 40 undef), (D3.getD 41 undef), (D3.getD 42 undef), (D3.getD 43 undef), (D3.getD 44 undef), (D3.getD 45 undef), (D3.getD 46 undef), (D3.getD 47 undef), (D3.getD 48 undef), (D3.getD 49 undef), (D3.getD 50 undef), (D3.getD 51 undef), (D3.getD 52 undef), (D3.getD 53 undef), (D3.getD 54 undef), (D3.getD 55 undef), (D3.getD 56 undef), (D3.getD 57 undef), (D3.getD 58 undef), (D3.getD 59 undef), (D3.getD 60 undef), (D3.getD 61 undef), (D3.getD 62 undef), undef, undef, undef, undef, undef, undef, undef, undef, undef, undef, undef, undef, undef, undef, undef, undef, undef, undef, undef, undef, undef, undef, undef, undef, undef, undef, undef, undef, undef, undef, undef, undef, undef, undef, (D3.getD 97 undef), (D3.getD 98 undef), undef, undef, undef, undef, undef, undef, undef, undef, undef, undef, undef, undef, undef, undef, undef, (D3.getD 114 undef), (D3.getD 115 undef), undef, undef, undef, undef, undef, undef, undef, undef, undef, undef, undef, undef, undef, undef, undef, undef, undef, undef, undef, undef, undef, undef, undef, undef] [] w') → X D3 ds wz) ?_ ?_
  intro X6 hX6
  refine fun D3 _ _ hJ => hJ X6 ?_
  clear s
  intro I8 x7 A8 u8 cl3 w13 hf s kk e5 rp4 e3 e4 e1 e2 eg2
  refine hX6 _ _ _ ?_
  unfold g7_j3 at hf
  refine WPK.seq ?_
  refine WPK.region ?_
  refine RW.seg hT 3 [.int .i64 p0.Pages] [] [.pointer (some ⟨b1, 1, none⟩), .int .i64 p0.Pages, .slice A8 x7.length u8] [.cell ⟨b1, 1, none⟩ (.int .i64 p0.Pages)] (by kernel_rfl) (s.cell (i := 2) (off := 1) rfl rfl) ?_
  refine RW.op (by kernel_rfl) (OK.inl (args := [.int .i64 p0.Pages, .slice A8 x7.length u8]) en10 (by kernel_rfl) ?_)
  intro R1 hR1
  refine Ret.cut (fun v wz => ∀ X : Value → World → Prop, (∀ (I9 : Nat → Prop) (x8 : Int) (x9 : Int) (x10 : (List Int)) (x11 : (List Int)) (x12 : Int) (x13 : Int) (A9 : Option Addr) (u9 : Nat) (A10 : Option Addr) (u10 : Nat) (w' : World), g7_j4 p0 p1 p2 x4 x7 x8 x9 x10 x11 x12 x13 = some r → St w1 M I9 ((.sl (.slice A8 x7.length u8) 24 1 x7.length cl3) :: (.blk b2 (.cells #[.int .u64 (IntKind.u64.wrap (p0.Epoch + 1)), .int .i64 p0.Pages, .slice A3 p1.Maps.length u3, .slice A4 p1.User.length u4] 28 (0, 0))) :: (.blk b1 (.cells #[.int .u64 p0.Epoch, .int .i64 p0.Pages, .slice A1 p0.Maps.length u1, .slice A2 p0.User.length u2] 28 (0, 0))) :: F) w' → Kp I w I9 w' → Elems (Rp.int .u8) I9 w' A5 p2 → (x10.length ≤ u9 ∧ u9 ≤ 9223372036854775807) → Elems (Rp.int .i64) I9 w' A9 x10 → (x11.length ≤ u10 ∧ u10 ≤ 9223372036854775807) → Elems (Rp.int .u8) I9 w' A10 x11 → Elems (Rp.int .i64) I9 w' A3 p1.Maps → Elems (Rp.int .u8) I9 w' A4 p1.User → Elems (Rp.int .i64) I9 w' A1 p0.Maps → Elems (Rp.int .u8) I9 w' A2 p0.User → RepL (Rp.slice (Rp.int .u8)) I9 w' cl3 x7 → Elems (Rp.int .u32) I9 w' (some ⟨2, 0, none⟩) TAB2 → X (.tuple #[.agg #[.int .u64 x8, .int .i64 x9, .slice A9 x10.length u9, .slice A10 x11.length u10], .int .i64 x12, .int .i64 x13]) w') → X v wz) ?_ ?_
  refine fun _ _ hJ => hJ R1 ?_
  clear s
  intro I9 x8 x9 x10 x11 x12 x13 A9 u9 A10 u10 w14 hf s kk e5 hc8 e8 hc9 e9 e3 e4 e1 e2 rp4 eg2
  refine hR1 _ _ ?_
  unfold g7_j4 at hf
  refine RW.seg hT 4 [] [] [.tuple #[.agg #[.int .u64 x8, .int .i64 x9, .slice A9 x10.length u9, .slice A10 x11.length u10], .int .i64 x12, .int .i64 x13], .agg #[.int .u64 x8, .int .i64 x9, .slice A9 x10.length u9, .slice A10 x11.length u10], .int .i64 x12, .int .i64 x13] [] (by kernel_rfl) (trivial) ?_
  refine RW.op (by kernel_rfl) (OK.new hT (f := fun b => .pointer (some ⟨b, 0, none⟩)) (cs := [.int .u64 0, .int .i64 0, .slice none 0 0, .slice none 0 0]) (e := 28) (c := .tt) s (by kernel_rfl) trivial ?_)
  clear s
  rintro w15 b4 s k12 -
  replace e5 := e5.st k12
  replace e8 := e8.st k12
  replace e9 := e9.st k12
  replace e3 := e3.st k12
  replace e4 := e4.st k12
  replace e1 := e1.st k12
  replace e2 := e2.st k12
  replace rp4 := rp4.st k12
  replace eg2 := eg2.st k12
  replace kk := kk.trans k12
  refine RW.op (by kernel_rfl) (OK.store hT (i := 0) (b := b4) (off := 0) (n := 4) (vs := [.int .u64 x8, .int .i64 x9, .slice A9 x10.length u9, .slice A10 x11.length u10]) (cs := [.int .u64 0, .int .i64 0, .slice none 0 0, .slice none 0 0]) (e := 28) s (by kernel_rfl) rfl rfl (flat_ok rfl) (Nat.le_of_ble_eq_true rfl) ?_)
  clear s
  rintro w16 s k13 -
  replace e5 := e5.st k13
  replace e8 := e8.st k13
  replace e9 := e9.st k13
  replace e3 := e3.st k13
  replace e4 := e4.st k13
  replace e1 := e1.st k13
  replace e2 := e2.st k13
  replace rp4 := rp4.st k13
  replace eg2 := eg2.st k13
  replace kk := kk.trans k13
  refine RW.seg hT 2 [] [] [.int .i64 x12, .int .i64 x13] [] (by kernel_rfl) (trivial) ?_
  refine RW.nil ?_
  refine WPK.seq ?_
  refine WPK.seq ?_
  refine WPK.cut' (Kn fun D4 ds wz => ∀ X : Kont, (∀ (I10 : Nat → Prop) (x14 : Bool) (w' : World), g7_j5 p0 p2 x4 x7 x14 = some r → St w1 M I10 ((.blk b4 (.cells #[.int .u64 x8, .int .i64 x9, .slice A9 x10.length u9, .slice A10 x11.length u10] 28 (0, 0))) :: (.sl (.slice A8 x7.length u8) 24 1 x7.length cl3) :: (.blk b1 (.cells #[.int .u64 p0.Epoch, .int .i64 p0.Pages, .slice A1 p0.Maps.length u1, .slice A2 p0.User.length u2] 28 (0, 0))) :: F) w' → Kp I w I10 w' → Elems (Rp.int .u8) I10 w' A5 p2 → Elems (Rp.int .i64) I10 w' A9 x10 → Elems (Rp.int .u8) I10 w' A10 x11 → Elems (Rp.int .i64) I10 w' A1 p0.Maps → Elems (Rp.int .u8) I10 w' A2 p0.User → RepL (Rp.slice (Rp.int .u8)) I10 w' cl3 x7 → Elems (Rp.int .u32) I10 w' (some ⟨2, 0, none⟩) TAB2 → X [(D4.getD 0 undef), (D4.getD 1 undef), .slice A5 p2.length u5, .pointer (some ⟨b1, 0, none⟩), (D4.getD 4 undef), (D4.getD 5 undef), .bool false, .int .i64 x4, .slice A8 x7.length u8, .pointer (some ⟨b4, 0, none⟩), .int .i64 x12, .int .i64 x13, (D4.getD 12 undef), (D4.getD 13 undef), (D4.getD 14 undef), (D4.getD 15 undef), (D4.getD 16 undef), (D4.getD 17 undef), (D4.getD 18 undef), (D4.getD 19 undef), (D4.getD 20 undef), (D4.getD 21 undef), (D4.getD 22 undef), (D4.getD 23 undef), (D4.getD 24 undef), (D4.getD 25 undef), (D4.getD 26 undef), (D4.getD 27 undef), (D4.getD 28 undef), (D4.getD 29 undef), (D4.getD 30 undef), (D4.getD 31 undef), (D4.getD 32 undef), (D4.getD 33 undef), (D4.getD 34 undef), (D4.getD 35 undef), (D4.getD 36 undef), (D4.getD 37 undef), (D4.getD 38 undef), (D4.getD 39 undef), (D4.getD 40 undef), (D4.getD 41 undef), (D4.getD 42 undef), (D4.getD 43 undef), (D4.getD 44 undef), (D4.getD 45 undef), (D4.getD 46 undef), (D4.getD 47 undef), (D4.getD 48 undef), (D4.getD 49 undef), (D4.getD 50 undef), (D4.getD 51 undef), (D4.getD 52 undef), (D4.getD 53 undef), (D4.getD 54 undef), (D4.getD 55 undef), (D4.getD 56 undef), (D4.getD 57 undef), (D4.getD 58 undef), (D4.getD 59 undef), (D4.getD 60 undef), (D4.getD 61 undef), (D4.getD 62 undef), (D4.getD 63 undef), (D4.getD 64 undef), (D4.getD 65 undef), (D4.getD 66 undef), (D4.getD 67 undef), (D4.getD 68 undef), (D4.getD 69 undef), (D4.getD 70 undef), (D4.getD 71 undef), (D4.getD 72 undef), (D4.getD 73 undef), (D4.getD 74 undef), (D4.getD 75 undef), (D4.getD 76 undef), (D4.getD 77 undef), (D4.getD 78 undef), (D4.getD 79 undef), (D4.getD 80 undef), (D4.getD 81 undef), (D4.getD 82 undef), .bool x14, undef, undef, undef, undef, undef, undef, undef, undef, undef, undef, undef, undef, undef, (D4.getD 97 undef), (D4.getD 98 undef), undef, undef, undef, undef, undef, undef, undef, undef, undef, undef, undef, undef, undef, undef, undef, (D4.getD 114 undef), (D4.getD 115 undef), undef, undef, undef, undef, undef, undef, undef, undef, undef, undef, undef, undef, undef, undef, undef, undef, undef, undef, undef, undef, undef, undef, undef, undef] [] w') → X D4 ds wz) ?_ ?_
  intro X7 hX7
  refine fun D4 _ _ hJ => hJ X7 ?_
  clear s
  intro I10 x14 w17 hf s kk e5 e8 e9 e1 e2 rp4 eg2
  refine hX7 _ _ _ ?_
  unfold g7_j5 at hf
  by_cases h3 : x14 = true
  have hf := iteT h3 hf
  refine WPK.condT (Eq.trans (b := .bool x14) (by kernel_rfl) (b_t h3)) ?_
  refine WPK.seq ?_
  refine WPK.region ?_
  refine RW.seg hT 1 [] [] [.bool false] [] (by kernel_rfl) (trivial) ?_
  refine RW.nil ?_
  refine WPK.ret (?_)
  obtain rfl := someS hf
  refine Fin.of (rs := [.tmp 6]) hT [] (.bool false) [] rfl (by kernel_rfl) (trivial) ?_
  replace s := s.pick [] 3 rfl
  exact fun X h => vc rfl (h I10 _ s kk)
  have hf := iteF h3 hf
  refine WPK.condF (Eq.trans (b := .bool x14) (by kernel_rfl) (b_f h3)) ?_
  refine WPK.skip ?_
  refine WPK.seq ?_
  refine WPK.region ?_
  obtain ⟨x15, hx5, hf⟩ := bindS hf
  obtain ⟨h4, hx5⟩ := getS hx5
  obtain ⟨b5, rfl⟩ := (St.elem s (i := 1) rfl rfl rp4 hx5).1
  refine RW.seg hT 4 [] [] [.slice (some ⟨b5, 0, none⟩) x7.length u8, .int .i64 x4, .slice A5 p2.length u5, .pointer (some ⟨b5, 0 + x4.toNat * 1, none⟩)] [.idx x4 x7.length] (by kernel_rfl) (h4) ?_
  obtain ⟨y1, hy1, hf⟩ := bindS hf
  obtain ⟨h5, hq1⟩ := setS hy1
  obtain ⟨cl4, hcl1⟩ : ∃ q, setL cl3 (0 + x4.toNat * 1) [.slice A5 p2.length u5] = q := ⟨_, rfl⟩
  have rp5 : RepL (Rp.slice (Rp.int .u8)) I10 w17 cl4 y1 := by rw [hq1, ← hcl1, Nat.zero_add]; exact RepL.set rp4 (by omega) (⟨_, _, rfl, hc5.1, hc5.2, e5⟩)
  have hn3 : x7.length = y1.length := by rw [hq1, List.length_set]
  refine RW.op (by kernel_rfl) (OK.storeSl hT (i := 1) (b := b5) (off := 0 + x4.toNat * 1) (m := 1) (vs := [.slice A5 p2.length u5]) (c := u8) (e := 24) (size := 1) (n := x7.length) (cl := cl3) (cl' := cl4) s (by kernel_rfl) rfl rfl (flat_ok rfl) (by have h6 := RepL.length rp4; simp only [List.length_cons, List.length_nil, h6]; exact row_bd (n := 1) h5 rfl) hcl1 ?_)
  clear s
  rintro w18 s k14
  replace e5 := e5.st k14
  replace e8 := e8.st k14
  replace e9 := e9.st k14
  replace e1 := e1.st k14
  replace e2 := e2.st k14
  replace rp5 := rp5.st k14
  replace eg2 := eg2.st k14
  replace kk := kk.trans k14
  refine RW.nil ?_
  refine WPK.seq ?_
  refine WPK.cut' (Kn fun D5 ds wz => ∀ X : Kont, (∀ (I11 : Nat → Prop) (x16 : Int) (w' : World), g7_j6 p0 p2 x4 y1 x16 = some r → St w1 M I11 ((.blk b4 (.cells #[.int .u64 x8, .int .i64 x9, .slice A9 x10.length u9, .slice A10 x11.length u10] 28 (0, 0))) :: (.sl (.slice (some ⟨b5, 0, none⟩) x7.length u8) 24 1 x7.length cl4) :: (.blk b1 (.cells #[.int .u64 p0.Epoch, .int .i64 p0.Pages, .slice A1 p0.Maps.length u1, .slice A2 p0.User.length u2] 28 (0, 0))) :: F) w' → Kp I w I11 w' → Elems (Rp.int .u8) I11 w' A5 p2 → Elems (Rp.int .i64) I11 w' A9 x10 → Elems (Rp.int .u8) I11 w' A10 x11 → Elems (Rp.int .i64) I11 w' A1 p0.Maps → Elems (Rp.int .u8) I11 w' A2 p0.User → RepL (Rp.slice (Rp.int .u8)) I11 w' cl4 y1 → Elems (Rp.int .u32) I11 w' (some ⟨2, 0, none⟩) TAB2 → X [(D5.getD 0 undef), (D5.getD 1 undef), .slice A5 p2.length u5, .pointer (some ⟨b1, 0, none⟩), (D5.getD 4 undef), (D5.getD 5 undef), .bool false, .int .i64 x4, .slice (some ⟨b5, 0, none⟩) x7.length u8, .pointer (some ⟨b4, 0, none⟩), .int .i64 x12, .int .i64 x16, (D5.getD 12 undef), (D5.getD 13 undef), (D5.getD 14 undef), (D5.getD 15 undef), (D5.getD 16 undef), (D5.getD 17 undef), (D5.getD 18 undef), (D5.getD 19 undef), (D5.getD 20 undef), (D5.getD 21 undef), (D5.getD 22 undef), (D5.getD 23 undef), (D5.getD 24 undef), (D5.getD 25 undef), (D5.getD 26 undef), (D5.getD 27 undef), (D5.getD 28 undef), (D5.getD 29 undef), (D5.getD 30 undef), (D5.getD 31 undef), (D5.getD 32 undef), (D5.getD 33 undef), (D5.getD 34 undef), (D5.getD 35 undef), (D5.getD 36 undef), (D5.getD 37 undef), (D5.getD 38 undef), (D5.getD 39 undef), (D5.getD 40 undef), (D5.getD 41 undef), (D5.getD 42 undef), (D5.getD 43 undef), (D5.getD 44 undef), (D5.getD 45 undef), (D5.getD 46 undef), (D5.getD 47 undef), (D5.getD 48 undef), (D5.getD 49 undef), (D5.getD 50 undef), (D5.getD 51 undef), (D5.getD 52 undef), (D5.getD 53 undef), (D5.getD 54 undef), (D5.getD 55 undef), (D5.getD 56 undef), (D5.getD 57 undef), (D5.getD 58 undef), (D5.getD 59 undef), (D5.getD 60 undef), (D5.getD 61 undef), (D5.getD 62 undef), (D5.getD 63 undef), (D5.getD 64 undef), (D5.getD 65 undef), (D5.getD 66 undef), (D5.getD 67 undef), (D5.getD 68 undef), (D5.getD 69 undef), (D5.getD 70 undef), (D5.getD 71 undef), (D5.getD 72 undef), (D5.getD 73 undef), (D5.getD 74 undef), (D5.getD 75 undef), (D5.getD 76 undef), (D5.getD 77 undef), (D5.getD 78 undef), (D5.getD 79 undef), (D5.getD 80 undef), (D5.getD 81 undef), (D5.getD 82 undef), (D5.getD 83 undef), (D5.getD 84 undef), (D5.getD 85 undef), (D5.getD 86 undef), (D5.getD 87 undef), (D5.getD 88 undef), (D5.getD 89 undef), (D5.getD 90 undef), (D5.getD 91 undef), (D5.getD 92 undef), (D5.getD 93 undef), (D5.getD 94 undef), (D5.getD 95 undef), (D5.getD 96 undef), (D5.getD 97 undef), (D5.getD 98 undef), (D5.getD 99 undef), (D5.getD 100 undef), (D5.getD 101 undef), (D5.getD 102 undef), (D5.getD 103 undef), (D5.getD 104 undef), (D5.getD 105 undef), undef, undef, undef, undef, undef, undef, undef, undef, (D5.getD 114 undef), (D5.getD 115 undef), undef, undef, undef, undef, undef, undef, undef, undef, undef, undef, undef, undef, undef, undef, undef, undef, undef, undef, undef, undef, undef, undef, undef, undef] [] w') → X D5 ds wz) ?_ ?_
  intro X8 hX8
  refine fun D5 _ _ hJ => hJ X8 ?_
  clear s
  intro I11 x16 w19 hf s kk e5 e8 e9 e1 e2 rp5 eg2
  refine hX8 _ _ _ ?_
  unfold g7_j6 at hf
  refine WPK.seq ?_
  refine WPK.cut' (Kn fun D6 ds wz => ∀ X : Kont, (∀ (I12 : Nat → Prop) (x17 : Int) (w' : World), g7_j7 p0 x4 y1 x17 = some r → St w1 M I12 ((.blk b4 (.cells #[.int .u64 x8, .int .i64 x9, .slice A9 x10.length u9, .slice A10 x11.length u10] 28 (0, 0))) :: (.sl (.slice (some ⟨b5, 0, none⟩) x7.length u8) 24 1 x7.length cl4) :: (.blk b1 (.cells #[.int .u64 p0.Epoch, .int .i64 p0.Pages, .slice A1 p0.Maps.length u1, .slice A2 p0.User.length u2] 28 (0, 0))) :: F) w' → Kp I w I12 w' → Elems (Rp.int .i64) I12 w' A9 x10 → Elems (Rp.int .u8) I12 w' A10 x11 → Elems (Rp.int .i64) I12 w' A1 p0.Maps → Elems (Rp.int .u8) I12 w' A2 p0.User → RepL (Rp.slice (Rp.int .u8)) I12 w' cl4 y1 → Elems (Rp.int .u32) I12 w' (some ⟨2, 0, none⟩) TAB2 → X [(D6.getD 0 undef), (D6.getD 1 undef), (D6.getD 2 undef), .pointer (some ⟨b1, 0, none⟩), (D6.getD 4 undef), (D6.getD 5 undef), .bool false, .int .i64 x4, .slice (some ⟨b5, 0, none⟩) x7.length u8, .pointer (some ⟨b4, 0, none⟩), .int .i64 x12, .int .i64 x17, (D6.getD 12 undef), (D6.getD 13 undef), (D6.getD 14 undef), (D6.getD 15 undef), (D6.getD 16 undef), (D6.getD 17 undef), (D6.getD 18 undef), (D6.getD 19 undef), (D6.getD 20 undef), (D6.getD 21 undef), (D6.getD 22 undef), (D6.getD 23 undef), (D6.getD 24 undef), (D6.getD 25 undef), (D6.getD 26 undef), (D6.getD 27 undef), (D6.getD 28 undef), (D6.getD 29 undef), (D6.getD 30 undef), (D6.getD 31 undef), (D6.getD 32 undef), (D6.getD 33 undef), (D6.getD 34 undef), (D6.getD 35 undef), (D6.getD 36 undef), (D6.getD 37 undef), (D6.getD 38 undef), (D6.getD 39 undef), (D6.getD 40 undef), (D6.getD 41 undef), (D6.getD 42 undef), (D6.getD 43 undef), (D6.getD 44 undef), (D6.getD 45 undef), (D6.getD 46 undef), (D6.getD 47 undef), (D6.getD 48 undef), (D6.getD 49 undef), (D6.getD 50 undef), (D6.getD 51 undef), (D6.getD 52 undef), (D6.getD 53 undef), (D6.getD 54 undef), (D6.getD 55 undef), (D6.getD 56 undef), (D6.getD 57 undef), (D6.getD 58 undef), (D6.getD 59 undef), (D6.getD 60 undef), (D6.getD 61 undef), (D6.getD 62 undef), (D6.getD 63 undef), (D6.getD 64 undef), (D6.getD 65 undef), (D6.getD 66 undef), (D6.getD 67 undef), (D6.getD 68 undef), (D6.getD 69 undef), (D6.getD 70 undef), (D6.getD 71 undef), (D6.getD 72 undef), (D6.getD 73 undef), (D6.getD 74 undef), (D6.getD 75 undef), (D6.getD 76 undef), (D6.getD 77 undef), (D6.getD 78 undef), (D6.getD 79 undef), (D6.getD 80 undef), (D6.getD 81 undef), (D6.getD 82 undef), (D6.getD 83 undef), (D6.getD 84 undef), (D6.getD 85 undef), (D6.getD 86 undef), (D6.getD 87 undef), (D6.getD 88 undef), (D6.getD 89 undef), (D6.getD 90 undef), (D6.getD 91 undef), (D6.getD 92 undef), (D6.getD 93 undef), (D6.getD 94 undef), (D6.getD 95 undef), (D6.getD 96 undef), (D6.getD 97 undef), (D6.getD 98 undef), (D6.getD 99 undef), (D6.getD 100 undef), (D6.getD 101 undef), (D6.getD 102 undef), (D6.getD 103 undef), (D6.getD 104 undef), (D6.getD 105 undef), (D6.getD 106 undef), (D6.getD 107 undef), (D6.getD 108 undef), (D6.getD 109 undef), (D6.getD 110 undef), (D6.getD 111 undef), (D6.getD 112 undef), (D6.getD 113 undef), (D6.getD 114 undef), (D6.getD 115 undef), (D6.getD 116 undef), (D6.getD 117 undef), (D6.getD 118 undef), undef, undef, undef, undef, undef, undef, undef, undef, undef, undef, undef, undef, undef, undef, undef, undef, undef, undef, undef, undef, undef] [] w') → X D6 ds wz) ?_ ?_
  intro X9 hX9
  refine fun D6 _ _ hJ => hJ X9 ?_
  clear s
  intro I12 x17 w20 hf s kk e8 e9 e1 e2 rp5 eg2
  refine hX9 _ _ _ ?_
  unfold g7_j7 at hf
  refine WPK.seq ?_
  refine WPK.region ?_
  refine RW.seg hT 3 [.int .i64 p0.Pages] [] [.pointer (some ⟨b1, 1, none⟩), .int .i64 p0.Pages, .slice (some ⟨b5, 0, none⟩) x7.length u8] [.cell ⟨b1, 1, none⟩ (.int .i64 p0.Pages)] (by kernel_rfl) (s.cell (i := 2) (off := 1) rfl rfl) ?_
  refine RW.op (by kernel_rfl) (OK.inl (args := [.int .i64 p0.Pages, .slice (some ⟨b5, 0, none⟩) x7.length u8]) en10 (by kernel_rfl) ?_)
  intro R2 hR2
  refine Ret.cut (fun v wz => ∀ X : Value → World → Prop, (∀ (I13 : Nat → Prop) (x18 : Int) (x19 : Int) (x20 : (List Int)) (x21 : (List Int)) (x22 : Int) (x23 : Int) (A11 : Option Addr) (u11 : Nat) (A12 : Option Addr) (u12 : Nat) (w' : World), g7_j8 p0 x4 x18 x19 x20 x21 x22 x23 = some r → St w1 M I13 ((.blk b4 (.cells #[.int .u64 x8, .int .i64 x9, .slice A9 x10.length u9, .slice A10 x11.length u10] 28 (0, 0))) :: (.blk b1 (.cells #[.int .u64 p0.Epoch, .int .i64 p0.Pages, .slice A1 p0.Maps.length u1, .slice A2 p0.User.length u2] 28 (0, 0))) :: F) w' → Kp I w I13 w' → (x20.length ≤ u11 ∧ u11 ≤ 9223372036854775807) → Elems (Rp.int .i64) I13 w' A11 x20 → (x21.length ≤ u12 ∧ u12 ≤ 9223372036854775807) → Elems (Rp.int .u8) I13 w' A12 x21 → Elems (Rp.int .i64) I13 w' A9 x10 → Elems (Rp.int .u8) I13 w' A10 x11 → Elems (Rp.int .i64) I13 w' A1 p0.Maps → Elems (Rp.int .u8) I13 w' A2 p0.User → Elems (Rp.int .u32) I13 w' (some ⟨2, 0, none⟩) TAB2 → X (.tuple #[.agg #[.int .u64 x18, .int .i64 x19, .slice A11 x20.length u11, .slice A12 x21.length u12], .int .i64 x22, .int .i64 x23]) w') → X v wz) ?_ ?_
  refine fun _ _ hJ => hJ R2 ?_
  clear s
  intro I13 x18 x19 x20 x21 x22 x23 A11 u11 A12 u12 w21 hf s kk hc10 e10 hc11 e11 e8 e9 e1 e2 eg2
  refine hR2 _ _ ?_
  unfold g7_j8 at hf
  refine RW.seg hT 4 [] [] [.tuple #[.agg #[.int .u64 x18, .int .i64 x19, .slice A11 x20.length u11, .slice A12 x21.length u12], .int .i64 x22, .int .i64 x23], .agg #[.int .u64 x18, .int .i64 x19, .slice A11 x20.length u11, .slice A12 x21.length u12], .int .i64 x22, .int .i64 x23] [] (by kernel_rfl) (trivial) ?_
  refine RW.op (by kernel_rfl) (OK.store hT (i := 0) (b := b4) (off := 0) (n := 4) (vs := [.int .u64 x18, .int .i64 x19, .slice A11 x20.length u11, .slice A12 x21.length u12]) (cs := [.int .u64 x8, .int .i64 x9, .slice A9 x10.length u9, .slice A10 x11.length u10]) (e := 28) s (by kernel_rfl) rfl rfl (flat_ok rfl) (Nat.le_of_ble_eq_true rfl) ?_)
  clear s
  rintro w22 s k15 -
  replace e10 := e10.st k15
  replace e11 := e11.st k15
  replace e8 := e8.st k15
  replace e9 := e9.st k15
  replace e1 := e1.st k15
  replace e2 := e2.st k15
  replace eg2 := eg2.st k15
  replace kk := kk.trans k15
  refine RW.seg hT 2 [] [] [.int .i64 x22, .int .i64 x23] [] (by kernel_rfl) (trivial) ?_
  refine RW.nil ?_
  refine WPK.seq ?_
  refine WPK.region ?_
  refine RW.seg hT 2 [] [(128, .bool (decide (x23 = 0)))] [.int .i64 x23, .bool (decide (x23 = 0))] [.veq (.bool (x23 == 0)) (.bool (decide (x23 = 0)))] (by kernel_rfl) (eq_v) ?_
  by_cases h7 : x23 = 0
  have hf := iteT h7 hf
  refine RW.seg hT 6 [] [(129, .bool true), (133, .bool (decide (x22 = (IntKind.i64.wrap (1 - x4)))))] [.bool true, .int .i64 x22, .int .i64 x4, .int .i64 (IntKind.i64.wrap (1 - x4)), .bool (decide (x22 = (IntKind.i64.wrap (1 - x4)))), .bool (decide (x22 = (IntKind.i64.wrap (1 - x4))))] [.veq (.bool (decide (x23 = 0))) (.bool true), .veq (.bool (x22 == (IntKind.i64.wrap (1 - x4)))) (.bool (decide (x22 = (IntKind.i64.wrap (1 - x4)))))] (by kernel_rfl) (⟨bo_t h7, eq_v⟩) ?_
  by_cases h8 : x22 = (IntKind.i64.wrap (1 - x4))
  have hf := iteT h8 hf
  refine RW.seg hT 3 [.agg #[.int .u64 x18, .int .i64 x19, .slice A11 x20.length u11, .slice A12 x21.length u12], .agg #[.int .u64 p0.Epoch, .int .i64 p0.Pages, .slice A1 p0.Maps.length u1, .slice A2 p0.User.length u2]] [(135, .bool true)] [.bool true, .agg #[.int .u64 x18, .int .i64 x19, .slice A11 x20.length u11, .slice A12 x21.length u12], .agg #[.int .u64 p0.Epoch, .int .i64 p0.Pages, .slice A1 p0.Maps.length u1, .slice A2 p0.User.length u2]] [.veq (.bool (decide (x22 = (IntKind.i64.wrap (1 - x4))))) (.bool true), .cells ⟨b4, 0, none⟩ [.int .u64 x18, .int .i64 x19, .slice A11 x20.length u11, .slice A12 x21.length u12] 4, .cells ⟨b1, 0, none⟩ [.int .u64 p0.Epoch, .int .i64 p0.Pages, .slice A1 p0.Maps.length u1, .slice A2 p0.User.length u2] 4] (by kernel_rfl) (⟨bo_t h8, s.cells (i := 0) rfl rfl rfl, s.cells (i := 1) rfl rfl rfl⟩) ?_
  obtain ⟨x24, hx6, hf⟩ := bindS hf
  refine RW.op (by kernel_rfl) (OK.call' en23 (by kernel_rfl) (c23 (F := (.blk b4 (.cells #[.int .u64 x18, .int .i64 x19, .slice A11 x20.length u11, .slice A12 x21.length u12] 28 (0, 0))) :: (.blk b1 (.cells #[.int .u64 p0.Epoch, .int .i64 p0.Pages, .slice A1 p0.Maps.length u1, .slice A2 p0.User.length u2] 28 (0, 0))) :: F) (T_api_Head.mk x18 x19 x20 x21) p0 A11 u11 A12 u12 A1 u1 A2 u2 hc10 e10 hc11 e11 hc1 e1 hc2 e2 s hx6) ?_)
  intro X10 hX10
  refine fun _ _ hJ => hJ X10 ?_
  clear s
  intro I14 w23 s k16
  refine hX10 _ _ ?_
  replace e10 := e10.st k16
  replace e11 := e11.st k16
  replace e1 := e1.st k16
  replace e2 := e2.st k16
  replace eg2 := eg2.st k16
  replace kk := kk.trans k16
  refine RW.seg hT 2 [] [] [.bool x24, .bool x24] [] (by kernel_rfl) (trivial) ?_
  refine RW.nil ?_
  refine WPK.ret (?_)
  obtain rfl := someS hf
  refine Fin.of (rs := [.tmp 6]) hT [] (.bool x24) [] rfl (by kernel_rfl) (trivial) ?_
  replace s := s.pick [] 2 rfl
  exact fun X h => vc rfl (h I14 _ s kk)
  have hf := iteF h8 hf
  refine RW.seg hT 6 [] [(135, .bool false)] [.bool false, undef, undef, undef, .bool false, .bool false] [.veq (.bool (decide (x22 = (IntKind.i64.wrap (1 - x4))))) (.bool false)] (by kernel_rfl) (bo_f h8) ?_
  refine RW.nil ?_
  refine WPK.ret (?_)
  obtain rfl := someS hf
  refine Fin.of (rs := [.tmp 6]) hT [] (.bool false) [] rfl (by kernel_rfl) (trivial) ?_
  replace s := s.pick [] 2 rfl
  exact fun X h => vc rfl (h I13 _ s kk)
  have hf := iteF h7 hf
  refine RW.seg hT 12 [] [(129, .bool false)] [.bool false, undef, undef, undef, undef, .bool false, .bool false, undef, undef, undef, .bool false, .bool false] [.veq (.bool (decide (x23 = 0))) (.bool false)] (by kernel_rfl) (bo_f h7) ?_
  refine RW.nil ?_
  refine WPK.ret (?_)
  obtain rfl := someS hf
  refine Fin.of (rs := [.tmp 6]) hT [] (.bool false) [] rfl (by kernel_rfl) (trivial) ?_
  replace s := s.pick [] 2 rfl
  exact fun X h => vc rfl (h I13 _ s kk)
  refine Ret.of Tryd.func10 rfl ?_
  refine WPK.seq ?_
  refine WPK.region ?_
  refine RW.op (by kernel_rfl) (OK.new hT (f := fun b => .pointer (some ⟨b, 0, none⟩)) (cs := [.int .u64 0, .int .i64 0, .slice none 0 0, .slice none 0 0]) (e := 28) (c := .tt) s (by kernel_rfl) trivial ?_)
  clear s
  rintro w24 b6 s k17 -
  replace e8 := e8.st k17
  replace e9 := e9.st k17
  replace e1 := e1.st k17
  replace e2 := e2.st k17
  replace rp5 := rp5.st k17
  replace eg2 := eg2.st k17
  replace kk := kk.trans k17
  refine RW.seg hT 2 [] [] [.int .i64 0, .int .i64 0] [] (by kernel_rfl) (trivial) ?_
  refine RW.nil ?_
  refine WPK.seq ?_
  refine WPK.region ?_
  refine RW.seg hT 1 [] [] [.int .i64 (-1)] [] (by kernel_rfl) (trivial) ?_
  refine RW.nil ?_
  refine WPK.seq ?_
  refine WPK.region ?_
  refine RW.op (by kernel_rfl) (OK.new hT (f := fun b => .pointer (some ⟨b, 0, none⟩)) (cs := [.int .u64 0, .int .i64 0, .slice none 0 0, .slice none 0 0]) (e := 28) (c := .tt) s (by kernel_rfl) trivial ?_)
  clear s
  rintro w25 b7 s k18 -
  replace e8 := e8.st k18
  replace e9 := e9.st k18
  replace e1 := e1.st k18
  replace e2 := e2.st k18
  replace rp5 := rp5.st k18
  replace eg2 := eg2.st k18
  replace kk := kk.trans k18
  refine RW.nil ?_
  refine WPK.seq ?_
  refine WPK.seq ?_
  refine WPK.region ?_
  refine RW.seg hT 4 [] [(15, .int .i64 (y1.length : Int))] [.slice (some ⟨b5, 0, none⟩) x7.length u8, .slice (some ⟨b5, 0, none⟩) x7.length u8, .int .i64 (y1.length : Int), .int .i64 (if 2 < (y1.length : Int) then 2 else (y1.length : Int))] [.veq (.int .i64 (x7.length : Nat)) (.int .i64 (y1.length : Int))] (by kernel_rfl) (len_v hn3) ?_
  obtain ⟨h9, hf⟩ := iteS hf
  have hc12 := row_hc (s.at (i := 3) rfl)
  have hb1 : (if 2 < (y1.length : Int) then 2 else (y1.length : Int)).toNat ≤ x7.length := by have hnn := hn3; omega
  refine RW.seg hT 1 [] [] [.slice (some ⟨b5, 0, none⟩) (if 2 < (y1.length : Int) then 2 else (y1.length : Int)).toNat u8] [.cut 0 (if 2 < (y1.length : Int) then 2 else (y1.length : Int)) u8 u8] (by kernel_rfl) (⟨Int.le_refl _, h9.1, by omega, Int.le_refl _⟩) ?_
  obtain ⟨s', rp6, hn4⟩ := St.shrinkA s (i := 3) (h := (if 2 < (y1.length : Int) then 2 else (y1.length : Int)).toNat) rfl rfl hn3 rp5 hb1
  replace s := s'; clear s'
  refine RW.seg hT 2 [] [(18, .int .i64 ((List.take ((if 2 < (y1.length : Int) then 2 else (y1.length : Int)).toNat) y1).length : Int))] [.int .i64 ((List.take ((if 2 < (y1.length : Int) then 2 else (y1.length : Int)).toNat) y1).length : Int), .int .i64 0] [.veq (.int .i64 ((if 2 < (y1.length : Int) then 2 else (y1.length : Int)).toNat : Nat)) (.int .i64 ((List.take ((if 2 < (y1.length : Int) then 2 else (y1.length : Int)).toNat) y1).length : Int))] (by kernel_rfl) (len_v hn4) ?_
  refine RW.nil ?_
  refine WPK.block ?_
  refine WPK.loop' (J := fun n3 D7 ds wz => ∀ X : Kont, (∀ (I15 : Nat → Prop) (x25 : Int) (x26 : Int) (x27 : Int) (x28 : Int) (x29 : (List Int)) (x30 : (List Int)) (A13 : Option Addr) (u13 : Nat) (A14 : Option Addr) (u14 : Nat) (w' : World), g7_l9 p0 x4 y1 n3 x25 x26 x27 x28 x29 x30 = some r → St w1 M I15 ((.blk b7 (.cells #[.int .u64 x27, .int .i64 x28, .slice A13 x29.length u13, .slice A14 x30.length u14] 28 (0, 0))) :: (.blk b6 (.cells #[.int .u64 0, .int .i64 0, .slice none 0 0, .slice none 0 0] 28 (0, 0))) :: (.blk b4 (.cells #[.int .u64 x8, .int .i64 x9, .slice A9 x10.length u9, .slice A10 x11.length u10] 28 (0, 0))) :: (.sl (.slice (some ⟨b5, 0, none⟩) ((if 2 < (y1.length : Int) then 2 else (y1.length : Int)).toNat) u8) 24 1 ((if 2 < (y1.length : Int) then 2 else (y1.length : Int)).toNat) (cl4.take ((if 2 < (y1.length : Int) then 2 else (y1.length : Int)).toNat * 1))) :: (.blk b1 (.cells #[.int .u64 p0.Epoch, .int .i64 p0.Pages, .slice A1 p0.Maps.length u1, .slice A2 p0.User.length u2] 28 (0, 0))) :: F) w' → Kp I w I15 w' → (x29.length ≤ u13 ∧ u13 ≤ 9223372036854775807) → Elems (Rp.int .i64) I15 w' A13 x29 → (x30.length ≤ u14 ∧ u14 ≤ 9223372036854775807) → Elems (Rp.int .u8) I15 w' A14 x30 → Elems (Rp.int .i64) I15 w' A9 x10 → Elems (Rp.int .u8) I15 w' A10 x11 → Elems (Rp.int .i64) I15 w' A1 p0.Maps → Elems (Rp.int .u8) I15 w' A2 p0.User → RepL (Rp.slice (Rp.int .u8)) I15 w' (cl4.take ((if 2 < (y1.length : Int) then 2 else (y1.length : Int)).toNat * 1)) (List.take ((if 2 < (y1.length : Int) then 2 else (y1.length : Int)).toNat) y1) → Elems (Rp.int .u32) I15 w' (some ⟨2, 0, none⟩) TAB2 → X [.int .i64 p0.Pages, (D7.getD 1 undef), (D7.getD 2 undef), (D7.getD 3 undef), .pointer (some ⟨b6, 0, none⟩), .int .i64 0, .int .i64 0, .int .i64 x25, .pointer (some ⟨b7, 0, none⟩), (D7.getD 9 undef), (D7.getD 10 undef), (D7.getD 11 undef), (D7.getD 12 undef), (D7.getD 13 undef), (D7.getD 14 undef), (D7.getD 15 undef), (D7.getD 16 undef), .slice (some ⟨b5, 0, none⟩) ((if 2 < (y1.length : Int) then 2 else (y1.length : Int)).toNat) u8, .int .i64 ((List.take ((if 2 < (y1.length : Int) then 2 else (y1.length : Int)).toNat) y1).length : Int), .int .i64 x26, (D7.getD 20 undef), (D7.getD 21 undef), (D7.getD 22 undef), (D7.getD 23 undef), (D7.getD 24 undef), (D7.getD 25 undef), (D7.getD 26 undef), (D7.getD 27 undef), (D7.getD 28 undef), (D7.getD 29 undef), (D7.getD 30 undef), (D7.getD 31 undef), (D7.getD 32 undef), (D7.getD 33 undef), (D7.getD 34 undef), (D7.getD 35 undef), (D7.getD 36 undef), (D7.getD 37 undef), (D7.getD 38 undef), (D7.getD 39 undef), (D7.getD 40 undef), (D7.getD 41 undef), (D7.getD 42 undef), (D7.getD 43 undef), (D7.getD 44 undef), (D7.getD 45 undef), (D7.getD 46 undef), undef, undef, undef, undef, undef] [] w') → X D7 ds wz) FUEL (fun X h => kc (by kernel_rfl) rfl (h I12 (-1) 0 0 0 [] [] none 0 none 0 _ hf s kk nil_hc Elems.nil nil_hc Elems.nil e8 e9 e1 e2 rp6 eg2)) (fun _ _ _ hJ => hJ (fun _ _ _ => False) (by intro I15 x25 x26 x27 x28 x29 x30 A13 u13 A14 u14 w26 hf s kk hc13 e12 hc14 e13 e8 e9 e1 e2 rp6 eg2; exact noneS hf)) ?_
  intro X11 hX11
  refine fun n3 D7 _ _ hJ => hJ (X11 n3) ?_
  clear s
  intro I15 x25 x26 x27 x28 x29 x30 A13 u13 A14 u14 w26 hf s kk hc13 e12 hc14 e13 e8 e9 e1 e2 rp6 eg2
  refine hX11 _ _ _ _ ?_
  replace hf : g7_l9B p0 x4 y1 (g7_l9 p0 x4 y1 n3) x25 x26 x27 x28 x29 x30 = some r := hf
  generalize hrec1 : g7_l9 p0 x4 y1 n3 = rec1 at hf
  unfold g7_l9B at hf
  refine WPK.seq ?_
  refine WPK.region ?_
  refine RW.seg hT 1 [] [] [.bool (decide (x26 < ((List.take ((if 2 < (y1.length : Int) then 2 else (y1.length : Int)).toNat) y1).length : Int)))] [] (by kernel_rfl) (trivial) ?_
  refine RW.nil ?_
  refine WPK.seq ?_
  by_cases h10 : x26 < ((List.take ((if 2 < (y1.length : Int) then 2 else (y1.length : Int)).toNat) y1).length : Int)
  have hf := iteT h10 hf
  refine WPK.condT (Eq.trans (b := .bool (decide (x26 < ((List.take ((if 2 < (y1.length : Int) then 2 else (y1.length : Int)).toNat) y1).length : Int)))) (by kernel_rfl) (bo_t h10)) ?_
  refine WPK.skip ?_
  refine WPK.seq ?_
  refine WPK.cut' (Kn fun D8 ds wz => ∀ X : Kont, (∀ (I16 : Nat → Prop) (x31 : Int) (x32 : (List Int)) (x33 : Bool) (x34 : (List Int)) (x35 : Int) (x36 : Int) (x37 : (List Int)) (x38 : (List Int)) (x39 : Bool) (x40 : (List Int)) (x41 : Int) (x42 : Int) (x43 : (List Int)) (x44 : (List Int)) (x45 : Bool) (x46 : Int) (x47 : Int) (x48 : (List Int)) (x49 : (List Int)) (x50 : Bool) (x51 : Bool) (x52 : Bool) (x53 : Bool) (x54 : Bool) (x55 : Int) (x56 : Int) (x57 : (List Int)) (x58 : (List Int)) (x59 : Int) (x60 : Int) (x61 : (List Int)) (x62 : (List Int)) (b8 : Nat) (A15 : Option Addr) (u15 : Nat) (d1 : Value) (A16 : Option Addr) (u16 : Nat) (A17 : Option Addr) (u17 : Nat) (A18 : Option Addr) (u18 : Nat) (A19 : Option Addr) (u19 : Nat) (A20 : Option Addr) (u20 : Nat) (A21 : Option Addr) (u21 : Nat) (A22 : Option Addr) (u22 : Nat) (A23 : Option Addr) (u23 : Nat) (A24 : Option Addr) (u24 : Nat) (A25 : Option Addr) (u25 : Nat) (A26 : Option Addr) (u26 : Nat) (A27 : Option Addr) (u27 : Nat) (w' : World), g7_j10 x26 rec1 x31 x32 x33 x34 x35 x36 x37 x38 x39 x40 x41 x42 x43 x44 x45 x46 x47 x48 x49 x50 x51 x52 x53 x54 x55 x56 x57 x58 x59 x60 x61 x62 = some r → St w1 M I16 ((.blk b8 (.cells #[.int .u64 x55, .int .i64 x56, .slice A24 x57.length u24, .slice A25 x58.length u25] 28 (0, 0))) :: (.blk b7 (.cells #[.int .u64 x59, .int .i64 x60, .slice A26 x61.length u26, .slice A27 x62.length u27] 28 (0, 0))) :: (.blk b6 (.cells #[.int .u64 0, .int .i64 0, .slice none 0 0, .slice none 0 0] 28 (0, 0))) :: (.blk b4 (.cells #[.int .u64 x8, .int .i64 x9, .slice A9 x10.length u9, .slice A10 x11.length u10] 28 (0, 0))) :: (.sl (.slice (some ⟨b5, 0, none⟩) ((if 2 < (y1.length : Int) then 2 else (y1.length : Int)).toNat) u8) 24 1 ((if 2 < (y1.length : Int) then 2 else (y1.length : Int)).toNat) (cl4.take ((if 2 < (y1.length : Int) then 2 else (y1.length : Int)).toNat * 1))) :: (.blk b1 (.cells #[.int .u64 p0.Epoch, .int .i64 p0.Pages, .slice A1 p0.Maps.length u1, .slice A2 p0.User.length u2] 28 (0, 0))) :: F) w' → Kp I w I16 w' → (x32.length ≤ u15 ∧ u15 ≤ 9223372036854775807) → Elems (Rp.int .u8) I16 w' A15 x32 → (x34.length ≤ u16 ∧ u16 ≤ 9223372036854775807) → Elems (Rp.int .u8) I16 w' A16 x34 → (x37.length ≤ u17 ∧ u17 ≤ 9223372036854775807) → Elems (Rp.int .i64) I16 w' A17 x37 → (x38.length ≤ u18 ∧ u18 ≤ 9223372036854775807) → Elems (Rp.int .u8) I16 w' A18 x38 → (x40.length ≤ u19 ∧ u19 ≤ 9223372036854775807) → Elems (Rp.int .u8) I16 w' A19 x40 → (x43.length ≤ u20 ∧ u20 ≤ 9223372036854775807) → Elems (Rp.int .i64) I16 w' A20 x43 → (x44.length ≤ u21 ∧ u21 ≤ 9223372036854775807) → Elems (Rp.int .u8) I16 w' A21 x44 → (x48.length ≤ u22 ∧ u22 ≤ 9223372036854775807) → Elems (Rp.int .i64) I16 w' A22 x48 → (x49.length ≤ u23 ∧ u23 ≤ 9223372036854775807) → Elems (Rp.int .u8) I16 w' A23 x49 → (x57.length ≤ u24 ∧ u24 ≤ 9223372036854775807) → Elems (Rp.int .i64) I16 w' A24 x57 → (x58.length ≤ u25 ∧ u25 ≤ 9223372036854775807) → Elems (Rp.int .u8) I16 w' A25 x58 → (x61.length ≤ u26 ∧ u26 ≤ 9223372036854775807) → Elems (Rp.int .i64) I16 w' A26 x61 → (x62.length ≤ u27 ∧ u27 ≤ 9223372036854775807) → Elems (Rp.int .u8) I16 w' A27 x62 → Elems (Rp.int .i64) I16 w' A9 x10 → Elems (Rp.int .u8) I16 w' A10 x11 → Elems (Rp.int .i64) I16 w' A1 p0.Maps → Elems (Rp.int .u8) I16 w' A2 p0.User → RepL (Rp.slice (Rp.int .u8)) I16 w' (cl4.take ((if 2 < (y1.length : Int) then 2 else (y1.length : Int)).toNat * 1)) (List.take ((if 2 < (y1.length : Int) then 2 else (y1.length : Int)).toNat) y1) → Elems (Rp.int .u32) I16 w' (some ⟨2, 0, none⟩) TAB2 → X [.int .i64 p0.Pages, (D8.getD 1 undef), (D8.getD 2 undef), (D8.getD 3 undef), .pointer (some ⟨b6, 0, none⟩), .int .i64 0, .int .i64 0, .int .i64 x31, .pointer (some ⟨b7, 0, none⟩), .int .i64 x26, .slice A15 x32.length u15, .pointer (some ⟨b8, 0, none⟩), .bool x33, (D8.getD 13 undef), (D8.getD 14 undef), (D8.getD 15 undef), (D8.getD 16 undef), .slice (some ⟨b5, 0, none⟩) ((if 2 < (y1.length : Int) then 2 else (y1.length : Int)).toNat) u8, .int .i64 ((List.take ((if 2 < (y1.length : Int) then 2 else (y1.length : Int)).toNat) y1).length : Int), .int .i64 x26, .bool (decide (x26 < ((List.take ((if 2 < (y1.length : Int) then 2 else (y1.length : Int)).toNat) y1).length : Int))), .int .i64 x26, d1, .slice A16 x34.length u16, .tuple #[.agg #[.int .u64 x35, .int .i64 x36, .slice A17 x37.length u17, .slice A18 x38.length u18], .bool x39], .int .i64 p0.Pages, .int .i64 x26, .slice A19 x40.length u19, .tuple #[.agg #[.int .u64 x41, .int .i64 x42, .slice A20 x43.length u20, .slice A21 x44.length u21], .bool x45], .agg #[.int .u64 x46, .int .i64 x47, .slice A22 x48.length u22, .slice A23 x49.length u23], .bool x50, .bool x51, .bool x52, .bool x53, (D8.getD 34 undef), (D8.getD 35 undef), (D8.getD 36 undef), (D8.getD 37 undef), (D8.getD 38 undef), (D8.getD 39 undef), (D8.getD 40 undef), (D8.getD 41 undef), (D8.getD 42 undef), .bool x54, (D8.getD 44 undef), (D8.getD 45 undef), (D7.getD 46 undef), undef, undef, undef, undef, undef] [] w') → X D8 ds wz) ?_ ?_
  intro X12 hX12
  refine fun D8 _ _ hJ => hJ X12 ?_
  clear s
  intro I16 x31 x32 x33 x34 x35 x36 x37 x38 x39 x40 x41 x42 x43 x44 x45 x46 x47 x48 x49 x50 x51 x52 x53 x54 x55 x56 x57 x58 x59 x60 x61 x62 b8 A15 u15 d1 A16 u16 A17 u17 A18 u18 A19 u19 A20 u20 A21 u21 A22 u22 A23 u23 A24 u24 A25 u25 A26 u26 A27 u27 w27 hf s kk hc15 e14 hc16 e15 hc17 e16 hc18 e17 hc19 e18 hc20 e19 hc21 e20 hc22 e21 hc23 e22 hc24 e23 hc25 e24 hc26 e25 hc27 e26 e8 e9 e1 e2 rp6 eg2
  refine hX12 _ _ _ ?_
  unfold g7_j10 at hf
  refine WPK.region ?_
  refine RW.seg hT 2 [] [] [.int .i64 (IntKind.i64.wrap (x26 + 1)), .int .i64 (IntKind.i64.wrap (x26 + 1))] [] (by kernel_rfl) (trivial) ?_
  refine RW.nil ?_
  subst hrec1
  replace s := s.pick [1, 2, 3, 4, 5] 6 rfl
  exact ⟨n3, Nat.le_refl _, fun X h => kc (by kernel_rfl) rfl (h I16 x31 (IntKind.i64.wrap (x26 + 1)) x59 x60 x61 x62 A26 u26 A27 u27 _ hf s kk hc26 e25 hc27 e26 e8 e9 e1 e2 rp6 eg2)⟩
  refine WPK.block ?_
  refine WPK.seq ?_
  refine WPK.region ?_
  obtain ⟨x63, hx7, hf⟩ := bindS hf
  obtain ⟨h11, hx7⟩ := getS hx7
  obtain ⟨-, cs1, hr1, ha1⟩ := St.elem s (i := 3) rfl hn4 rp6 hx7
  replace ha1 := ha1 _ rfl
  obtain ⟨A28, u28, rfl, q1, q2, e27⟩ := hr1
  have hc28 := And.intro q1 q2
  refine RW.seg hT 5 [.slice A28 x63.length u28] [] [.int .i64 x26, .pointer (some ⟨b5, 0 + x26.toNat * 1, none⟩), .slice A28 x63.length u28, .int .i64 x26, .slice A28 x63.length u28] [.idx x26 ((if 2 < (y1.length : Int) then 2 else (y1.length : Int)).toNat), .cell ⟨b5, 0 + x26.toNat * 1, none⟩ (.slice A28 x63.length u28)] (by kernel_rfl) (⟨(by rw [hn4]; exact h11), ha1 0 _ rfl⟩) ?_
  refine RW.nil ?_
  refine WPK.seq ?_
  refine WPK.region ?_
  refine RW.seg hT 3 [] [] [.int .i64 p0.Pages, .int .i64 x26, .slice A28 x63.length u28] [] (by kernel_rfl) (trivial) ?_
  obtain ⟨x64, hx8, hf⟩ := bindS hf
  refine RW.op (by kernel_rfl) (OK.call' en30 (by kernel_rfl) (c30 (F := (.blk b7 (.cells #[.int .u64 x27, .int .i64 x28, .slice A13 x29.length u13, .slice A14 x30.length u14] 28 (0, 0))) :: (.blk b6 (.cells #[.int .u64 0, .int .i64 0, .slice none 0 0, .slice none 0 0] 28 (0, 0))) :: (.blk b4 (.cells #[.int .u64 x8, .int .i64 x9, .slice A9 x10.length u9, .slice A10 x11.length u10] 28 (0, 0))) :: (.sl (.slice (some ⟨b5, 0, none⟩) ((if 2 < (y1.length : Int) then 2 else (y1.length : Int)).toNat) u8) 24 1 ((if 2 < (y1.length : Int) then 2 else (y1.length : Int)).toNat) (cl4.take ((if 2 < (y1.length : Int) then 2 else (y1.length : Int)).toNat * 1))) :: (.blk b1 (.cells #[.int .u64 p0.Epoch, .int .i64 p0.Pages, .slice A1 p0.Maps.length u1, .slice A2 p0.User.length u2] 28 (0, 0))) :: F) p0.Pages x26 x63 A28 u28 hc28 e27 eg2 s hx8) ?_)
  intro X13 hX13
  refine fun _ _ hJ => hJ X13 ?_
  clear s
  intro I17 A29 n4 u29 cl5 A30 u30 w28 s k19 hn5 rp7 hc29 e28
  refine hX13 _ _ ?_
  replace e27 := e27.st k19
  replace e12 := e12.st k19
  replace e13 := e13.st k19
  replace e8 := e8.st k19
  replace e9 := e9.st k19
  replace e1 := e1.st k19
  replace e2 := e2.st k19
  replace rp6 := rp6.st k19
  replace eg2 := eg2.st k19
  replace kk := kk.trans k19
  rw [hn5] at s
  try rw [hn5]
  obtain ⟨I18, s', k20, hc30, e29⟩ := St.give s (i := 0) rfl rfl rp7
  replace s := s'; clear s'
  replace e27 := e27.st k20
  replace e28 := e28.st k20
  replace e12 := e12.st k20
  replace e13 := e13.st k20
  replace e8 := e8.st k20
  replace e9 := e9.st k20
  replace e1 := e1.st k20
  replace e2 := e2.st k20
  replace rp6 := rp6.st k20
  replace eg2 := eg2.st k20
  replace kk := kk.trans k20
  refine RW.seg hT 3 [] [] [.tuple #[.agg #[.int .u64 x64.1.Epoch, .int .i64 x64.1.Pages, .slice A29 x64.1.Maps.length u29, .slice A30 x64.1.User.length u30], .bool x64.2], .agg #[.int .u64 x64.1.Epoch, .int .i64 x64.1.Pages, .slice A29 x64.1.Maps.length u29, .slice A30 x64.1.User.length u30], .bool x64.2] [] (by kernel_rfl) (trivial) ?_
  refine RW.op (by kernel_rfl) (OK.new hT (f := fun b => .pointer (some ⟨b, 0, none⟩)) (cs := [.int .u64 0, .int .i64 0, .slice none 0 0, .slice none 0 0]) (e := 28) (c := .tt) s (by kernel_rfl) trivial ?_)
  clear s
  rintro w29 b9 s k21 -
  replace e27 := e27.st k21
  replace e29 := e29.st k21
  replace e28 := e28.st k21
  replace e12 := e12.st k21
  replace e13 := e13.st k21
  replace e8 := e8.st k21
  replace e9 := e9.st k21
  replace e1 := e1.st k21
  replace e2 := e2.st k21
  replace rp6 := rp6.st k21
  replace eg2 := eg2.st k21
  replace kk := kk.trans k21
  refine RW.op (by kernel_rfl) (OK.store hT (i := 0) (b := b9) (off := 0) (n := 4) (vs := [.int .u64 x64.1.Epoch, .int .i64 x64.1.Pages, .slice A29 x64.1.Maps.length u29, .slice A30 x64.1.User.length u30]) (cs := [.int .u64 0, .int .i64 0, .slice none 0 0, .slice none 0 0]) (e := 28) s (by kernel_rfl) rfl rfl (flat_ok rfl) (Nat.le_of_ble_eq_true rfl) ?_)
  clear s
  rintro w30 s k22 -
  replace e27 := e27.st k22
  replace e29 := e29.st k22
  replace e28 := e28.st k22
  replace e12 := e12.st k22
  replace e13 := e13.st k22
  replace e8 := e8.st k22
  replace e9 := e9.st k22
  replace e1 := e1.st k22
  replace e2 := e2.st k22
  replace rp6 := rp6.st k22
  replace eg2 := eg2.st k22
  replace kk := kk.trans k22
  refine RW.seg hT 1 [] [] [.bool x64.2] [] (by kernel_rfl) (trivial) ?_
  refine RW.nil ?_
  refine WPK.seq ?_
  refine WPK.seq ?_
  refine WPK.region ?_
  refine RW.seg hT 2 [] [(32, .bool (decide (¬ (x64.2 = true))))] [.bool x64.2, .bool (decide (¬ (x64.2 = true)))] [.veq (.bool (!x64.2)) (.bool (decide (¬ (x64.2 = true))))] (by kernel_rfl) (not_b) ?_
  by_cases h12 : ¬ (x64.2 = true)
  have hf := iteT h12 hf
  refine RW.seg hT 11 [] [(33, .bool true)] [.bool true, undef, undef, undef, undef, undef, undef, undef, undef, undef, .bool true] [.veq (.bool (decide (¬ (x64.2 = true)))) (.bool true)] (by kernel_rfl) (bo_t h12) ?_
  refine RW.nil ?_
  refine WPK.condT (by kernel_rfl) ?_
  refine WPK.exit (blockQ.same ?_)
  exact fun X h => kc (by kernel_rfl) rfl (h I18 x25 x63 x64.2 x63 x64.1.Epoch x64.1.Pages x64.1.Maps x64.1.User x64.2 x63 x64.1.Epoch x64.1.Pages x64.1.Maps x64.1.User x64.2 x64.1.Epoch x64.1.Pages x64.1.Maps x64.1.User x64.2 x64.2 (decide (¬ (x64.2 = true))) true true x64.1.Epoch x64.1.Pages x64.1.Maps x64.1.User x27 x28 x29 x30 b9 A28 u28 (.pointer (some ⟨b5, 0 + x26.toNat * 1, none⟩)) A28 u28 A29 u29 A30 u30 A28 u28 A29 u29 A30 u30 A29 u29 A30 u30 A29 u29 A30 u30 A13 u13 A14 u14 _ hf s kk hc28 e27 hc28 e27 hc30 e29 hc29 e28 hc28 e27 hc30 e29 hc29 e28 hc30 e29 hc29 e28 hc30 e29 hc29 e28 hc13 e12 hc14 e13 e8 e9 e1 e2 rp6 eg2)
  have hf := iteF h12 hf
  refine RW.seg hT 3 [] [(33, .bool false)] [.bool false, .int .i64 x25, .bool (decide (x25 ≥ 0))] [.veq (.bool (decide (¬ (x64.2 = true)))) (.bool false)] (by kernel_rfl) (bo_f h12) ?_
  by_cases h13 : x25 ≥ 0
  have hf := iteT h13 hf
  refine RW.seg hT 8 [.int .u64 x64.1.Epoch, .int .u64 x27] [(36, .bool true)] [.bool true, .pointer (some ⟨b9, 0, none⟩), .int .u64 x64.1.Epoch, .pointer (some ⟨b7, 0, none⟩), .int .u64 x27, .bool (decide (x64.1.Epoch ≤ x27)), .bool (decide (x64.1.Epoch ≤ x27)), .bool (decide (x64.1.Epoch ≤ x27))] [.veq (.bool (decide (x25 ≥ 0))) (.bool true), .cell ⟨b9, 0, none⟩ (.int .u64 x64.1.Epoch), .cell ⟨b7, 0, none⟩ (.int .u64 x27)] (by kernel_rfl) (⟨bo_t h13, s.cell (i := 0) (off := 0) rfl rfl, s.cell (i := 1) (off := 0) rfl rfl⟩) ?_
  refine RW.nil ?_
  by_cases h14 : x64.1.Epoch ≤ x27
  have hf := iteT h14 hf
  refine WPK.condT (Eq.trans (b := .bool (decide (x64.1.Epoch ≤ x27))) (by kernel_rfl) (bo_t h14)) ?_
  refine WPK.exit (blockQ.same ?_)
  exact fun X h => kc (by kernel_rfl) rfl (h I18 x25 x63 x64.2 x63 x64.1.Epoch x64.1.Pages x64.1.Maps x64.1.User x64.2 x63 x64.1.Epoch x64.1.Pages x64.1.Maps x64.1.User x64.2 x64.1.Epoch x64.1.Pages x64.1.Maps x64.1.User x64.2 x64.2 (decide (¬ (x64.2 = true))) false (decide (x64.1.Epoch ≤ x27)) x64.1.Epoch x64.1.Pages x64.1.Maps x64.1.User x27 x28 x29 x30 b9 A28 u28 (.pointer (some ⟨b5, 0 + x26.toNat * 1, none⟩)) A28 u28 A29 u29 A30 u30 A28 u28 A29 u29 A30 u30 A29 u29 A30 u30 A29 u29 A30 u30 A13 u13 A14 u14 _ hf s kk hc28 e27 hc28 e27 hc30 e29 hc29 e28 hc28 e27 hc30 e29 hc29 e28 hc30 e29 hc29 e28 hc30 e29 hc29 e28 hc13 e12 hc14 e13 e8 e9 e1 e2 rp6 eg2)
  have hf := iteF h14 hf
  refine WPK.condF (Eq.trans (b := .bool (decide (x64.1.Epoch ≤ x27))) (by kernel_rfl) (bo_f h14)) ?_
  refine WPK.skip ?_
  refine WPK.region ?_
  refine RW.seg hT 2 [.agg #[.int .u64 x64.1.Epoch, .int .i64 x64.1.Pages, .slice A29 x64.1.Maps.length u29, .slice A30 x64.1.User.length u30]] [] [.agg #[.int .u64 x64.1.Epoch, .int .i64 x64.1.Pages, .slice A29 x64.1.Maps.length u29, .slice A30 x64.1.User.length u30], .int .i64 x26] [.cells ⟨b9, 0, none⟩ [.int .u64 x64.1.Epoch, .int .i64 x64.1.Pages, .slice A29 x64.1.Maps.length u29, .slice A30 x64.1.User.length u30] 4] (by kernel_rfl) (s.cells (i := 0) rfl rfl rfl) ?_
  refine RW.op (by kernel_rfl) (OK.store hT (i := 1) (b := b7) (off := 0) (n := 4) (vs := [.int .u64 x64.1.Epoch, .int .i64 x64.1.Pages, .slice A29 x64.1.Maps.length u29, .slice A30 x64.1.User.length u30]) (cs := [.int .u64 x27, .int .i64 x28, .slice A13 x29.length u13, .slice A14 x30.length u14]) (e := 28) s (by kernel_rfl) rfl rfl (flat_ok rfl) (Nat.le_of_ble_eq_true rfl) ?_)
  clear s
  rintro w31 s k23 -
  replace e27 := e27.st k23
  replace e29 := e29.st k23
  replace e28 := e28.st k23
  replace e12 := e12.st k23
  replace e13 := e13.st k23
  replace e8 := e8.st k23
  replace e9 := e9.st k23
  replace e1 := e1.st k23
  replace e2 := e2.st k23
  replace rp6 := rp6.st k23
  replace eg2 := eg2.st k23
  replace kk := kk.trans k23
  refine RW.seg hT 1 [] [] [.int .i64 x26] [] (by kernel_rfl) (trivial) ?_
  refine RW.nil ?_
  exact fun X h => kc (by kernel_rfl) rfl (h I18 x26 x63 x64.2 x63 x64.1.Epoch x64.1.Pages x64.1.Maps x64.1.User x64.2 x63 x64.1.Epoch x64.1.Pages x64.1.Maps x64.1.User x64.2 x64.1.Epoch x64.1.Pages x64.1.Maps x64.1.User x64.2 x64.2 (decide (¬ (x64.2 = true))) false (decide (x64.1.Epoch ≤ x27)) x64.1.Epoch x64.1.Pages x64.1.Maps x64.1.User x64.1.Epoch x64.1.Pages x64.1.Maps x64.1.User b9 A28 u28 (.pointer (some ⟨b5, 0 + x26.toNat * 1, none⟩)) A28 u28 A29 u29 A30 u30 A28 u28 A29 u29 A30 u30 A29 u29 A30 u30 A29 u29 A30 u30 A29 u29 A30 u30 _ hf s kk hc28 e27 hc28 e27 hc30 e29 hc29 e28 hc28 e27 hc30 e29 hc29 e28 hc30 e29 hc29 e28 hc30 e29 hc29 e28 hc30 e29 hc29 e28 e8 e9 e1 e2 rp6 eg2)
  have hf := iteF h13 hf
  refine RW.seg hT 8 [] [(36, .bool false)] [.bool false, undef, undef, undef, undef, undef, .bool false, .bool false] [.veq (.bool (decide (x25 ≥ 0))) (.bool false)] (by kernel_rfl) (bo_f h13) ?_
  refine RW.nil ?_
  refine WPK.condF (by kernel_rfl) ?_
  refine WPK.skip ?_
  refine WPK.region ?_
  refine RW.seg hT 2 [.agg #[.int .u64 x64.1.Epoch, .int .i64 x64.1.Pages, .slice A29 x64.1.Maps.length u29, .slice A30 x64.1.User.length u30]] [] [.agg #[.int .u64 x64.1.Epoch, .int .i64 x64.1.Pages, .slice A29 x64.1.Maps.length u29, .slice A30 x64.1.User.length u30], .int .i64 x26] [.cells ⟨b9, 0, none⟩ [.int .u64 x64.1.Epoch, .int .i64 x64.1.Pages, .slice A29 x64.1.Maps.length u29, .slice A30 x64.1.User.length u30] 4] (by kernel_rfl) (s.cells (i := 0) rfl rfl rfl) ?_
  refine RW.op (by kernel_rfl) (OK.store hT (i := 1) (b := b7) (off := 0) (n := 4) (vs := [.int .u64 x64.1.Epoch, .int .i64 x64.1.Pages, .slice A29 x64.1.Maps.length u29, .slice A30 x64.1.User.length u30]) (cs := [.int .u64 x27, .int .i64 x28, .slice A13 x29.length u13, .slice A14 x30.length u14]) (e := 28) s (by kernel_rfl) rfl rfl (flat_ok rfl) (Nat.le_of_ble_eq_true rfl) ?_)
  clear s
  rintro w32 s k24 -
  replace e27 := e27.st k24
  replace e29 := e29.st k24
  replace e28 := e28.st k24
  replace e12 := e12.st k24
  replace e13 := e13.st k24
  replace e8 := e8.st k24
  replace e9 := e9.st k24
  replace e1 := e1.st k24
  replace e2 := e2.st k24
  replace rp6 := rp6.st k24
  replace eg2 := eg2.st k24
  replace kk := kk.trans k24
  refine RW.seg hT 1 [] [] [.int .i64 x26] [] (by kernel_rfl) (trivial) ?_
  refine RW.nil ?_
  exact fun X h => kc (by kernel_rfl) rfl (h I18 x26 x63 x64.2 x63 x64.1.Epoch x64.1.Pages x64.1.Maps x64.1.User x64.2 x63 x64.1.Epoch x64.1.Pages x64.1.Maps x64.1.User x64.2 x64.1.Epoch x64.1.Pages x64.1.Maps x64.1.User x64.2 x64.2 (decide (¬ (x64.2 = true))) false false x64.1.Epoch x64.1.Pages x64.1.Maps x64.1.User x64.1.Epoch x64.1.Pages x64.1.Maps x64.1.User b9 A28 u28 (.pointer (some ⟨b5, 0 + x26.toNat * 1, none⟩)) A28 u28 A29 u29 A30 u30 A28 u28 A29 u29 A30 u30 A29 u29 A30 u30 A29 u29 A30 u30 A29 u29 A30 u30 _ hf s kk hc28 e27 hc28 e27 hc30 e29 hc29 e28 hc28 e27 hc30 e29 hc29 e28 hc30 e29 hc29 e28 hc30 e29 hc29 e28 hc30 e29 hc29 e28 e8 e9 e1 e2 rp6 eg2)
  have hf := iteF h10 hf
  refine WPK.condF (Eq.trans (b := .bool (decide (x26 < ((List.take ((if 2 < (y1.length : Int) then 2 else (y1.length : Int)).toNat) y1).length : Int)))) (by kernel_rfl) (bo_f h10)) ?_
  refine WPK.exit (blockQ.same ?_)
  refine WPK.seq ?_
  refine WPK.seq ?_
  refine WPK.region ?_
  refine RW.seg hT 2 [] [] [.int .i64 x25, .bool (decide (x25 < 0))] [] (by kernel_rfl) (trivial) ?_
  refine RW.nil ?_
  by_cases h15 : x25 < 0
  have hf := iteT h15 hf
  refine WPK.condT (Eq.trans (b := .bool (decide (x25 < 0))) (by kernel_rfl) (bo_t h15)) ?_
  refine WPK.seq ?_
  refine WPK.region ?_
  refine RW.seg hT 1 [] [] [.agg #[.int .u64 0, .int .i64 0, .slice none 0 0, .slice none 0 0]] [] (by kernel_rfl) (trivial) ?_
  refine RW.op (by kernel_rfl) (OK.store hT (i := 1) (b := b6) (off := 0) (n := 4) (vs := [.int .u64 0, .int .i64 0, .slice none 0 0, .slice none 0 0]) (cs := [.int .u64 0, .int .i64 0, .slice none 0 0, .slice none 0 0]) (e := 28) s (by kernel_rfl) rfl rfl (flat_ok rfl) (Nat.le_of_ble_eq_true rfl) ?_)
  clear s
  rintro w33 s k25 -
  replace e12 := e12.st k25
  replace e13 := e13.st k25
  replace e8 := e8.st k25
  replace e9 := e9.st k25
  replace e1 := e1.st k25
  replace e2 := e2.st k25
  replace rp6 := rp6.st k25
  replace eg2 := eg2.st k25
  replace kk := kk.trans k25
  refine RW.seg hT 2 [] [] [.int .i64 0, .int .i64 60] [] (by kernel_rfl) (trivial) ?_
  refine RW.nil ?_
  refine WPK.ret (?_)
  refine Fin.of (rs := [.cell 4 28, .tmp 5, .tmp 6]) hT [.agg #[.int .u64 0, .int .i64 0, .slice none 0 0, .slice none 0 0]] (.tuple #[.agg #[.int .u64 0, .int .i64 0, .slice none 0 0, .slice none 0 0], .int .i64 0, .int .i64 60]) [.cells ⟨b6, 0, none⟩ [.int .u64 0, .int .i64 0, .slice none 0 0, .slice none 0 0] 4] rfl (by kernel_rfl) (s.cells (i := 1) rfl rfl rfl) ?_
  replace s := s.pick [2, 4] 5 rfl
  exact fun X h => vc rfl (h I15 0 0 [] [] 0 60 none 0 none 0 _ hf s kk nil_hc Elems.nil nil_hc Elems.nil e8 e9 e1 e2 eg2)
  have hf := iteF h15 hf
  refine WPK.condF (Eq.trans (b := .bool (decide (x25 < 0))) (by kernel_rfl) (bo_f h15)) ?_
  refine WPK.skip ?_
  refine WPK.seq ?_
  refine WPK.region ?_
  refine RW.seg hT 2 [.agg #[.int .u64 x27, .int .i64 x28, .slice A13 x29.length u13, .slice A14 x30.length u14]] [] [.agg #[.int .u64 x27, .int .i64 x28, .slice A13 x29.length u13, .slice A14 x30.length u14], .int .i64 x25] [.cells ⟨b7, 0, none⟩ [.int .u64 x27, .int .i64 x28, .slice A13 x29.length u13, .slice A14 x30.length u14] 4] (by kernel_rfl) (s.cells (i := 0) rfl rfl rfl) ?_
  refine RW.op (by kernel_rfl) (OK.store hT (i := 1) (b := b6) (off := 0) (n := 4) (vs := [.int .u64 x27, .int .i64 x28, .slice A13 x29.length u13, .slice A14 x30.length u14]) (cs := [.int .u64 0, .int .i64 0, .slice none 0 0, .slice none 0 0]) (e := 28) s (by kernel_rfl) rfl rfl (flat_ok rfl) (Nat.le_of_ble_eq_true rfl) ?_)
  clear s
  rintro w34 s k26 -
  replace e12 := e12.st k26
  replace e13 := e13.st k26
  replace e8 := e8.st k26
  replace e9 := e9.st k26
  replace e1 := e1.st k26
  replace e2 := e2.st k26
  replace rp6 := rp6.st k26
  replace eg2 := eg2.st k26
  replace kk := kk.trans k26
  refine RW.seg hT 2 [] [] [.int .i64 x25, .int .i64 0] [] (by kernel_rfl) (trivial) ?_
  refine RW.nil ?_
  refine WPK.ret (?_)
  refine Fin.of (rs := [.cell 4 28, .tmp 5, .tmp 6]) hT [.agg #[.int .u64 x27, .int .i64 x28, .slice A13 x29.length u13, .slice A14 x30.length u14]] (.tuple #[.agg #[.int .u64 x27, .int .i64 x28, .slice A13 x29.length u13, .slice A14 x30.length u14], .int .i64 x25, .int .i64 0]) [.cells ⟨b6, 0, none⟩ [.int .u64 x27, .int .i64 x28, .slice A13 x29.length u13, .slice A14 x30.length u14] 4] rfl (by kernel_rfl) (s.cells (i := 1) rfl rfl rfl) ?_
  replace s := s.pick [2, 4] 5 rfl
  exact fun X h => vc rfl (h I15 x27 x28 x29 x30 x25 0 A13 u13 A14 u14 _ hf s kk hc13 e12 hc14 e13 e8 e9 e1 e2 eg2)
  refine WPK.seq ?_
  refine WPK.region ?_
  refine RW.seg hT 2 [] [(107, .bool (decide (x4 = 1)))] [.int .i64 x4, .bool (decide (x4 = 1))] [.veq (.bool (x4 == 1)) (.bool (decide (x4 = 1)))] (by kernel_rfl) (eq_v) ?_
  refine RW.nil ?_
  by_cases h16 : x4 = 1
  have hf := iteT h16 hf
  refine WPK.condT (Eq.trans (b := .bool (decide (x4 = 1))) (by kernel_rfl) (bo_t h16)) ?_
  refine WPK.seq ?_
  refine WPK.region ?_
  refine RW.seg hT 3 [.int .i64 p0.Pages] [] [.pointer (some ⟨b1, 1, none⟩), .int .i64 p0.Pages, .slice A5 p2.length u5] [.cell ⟨b1, 1, none⟩ (.int .i64 p0.Pages)] (by kernel_rfl) (s.cell (i := 2) (off := 1) rfl rfl) ?_
  refine RW.op (by kernel_rfl) (OK.new hT (f := fun b => .slice (some ⟨b, 0, none⟩) 2 2) (cs := [.slice none 0 0, .slice A5 p2.length u5]) (e := 24) (c := .tt) s (by kernel_rfl) trivial ?_)
  clear s
  rintro w35 b10 s k27 -
  replace e5 := e5.st k27
  replace e8 := e8.st k27
  replace e9 := e9.st k27
  replace e1 := e1.st k27
  replace e2 := e2.st k27
  replace rp5 := rp5.st k27
  replace eg2 := eg2.st k27
  replace kk := kk.trans k27
  have rp8 : RepL (Rp.slice (Rp.int .u8)) I11 w35 [.slice none 0 0, .slice A5 p2.length u5] ([[], p2] : List (List Int)) := RepL.cons (c := [.slice none 0 0]) (d := [.slice A5 p2.length u5]) (⟨_, _, rfl, nil_hc.1, nil_hc.2, Elems.nil⟩) (RepL.cons (c := [.slice A5 p2.length u5]) (d := []) (⟨_, _, rfl, hc5.1, hc5.2, e5⟩) (RepL.nil))
  replace s : St w1 M I11 ((.sl (.slice (some ⟨b10, 0, none⟩) 2 2) 24 1 2 [.slice none 0 0, .slice A5 p2.length u5]) :: (.blk b4 (.cells #[.int .u64 x8, .int .i64 x9, .slice A9 x10.length u9, .slice A10 x11.length u10] 28 (0, 0))) :: (.sl (.slice (some ⟨b5, 0, none⟩) x7.length u8) 24 1 x7.length cl4) :: (.blk b1 (.cells #[.int .u64 p0.Epoch, .int .i64 p0.Pages, .slice A1 p0.Maps.length u1, .slice A2 p0.User.length u2] 28 (0, 0))) :: F) w35 := s.blkSl (i := 0) (n := 2) (c := 2) (size := 1) rfl rfl (Nat.le_refl _) (by decide)
  refine RW.op (by kernel_rfl) (OK.inl (args := [.int .i64 p0.Pages, .slice (some ⟨b10, 0, none⟩) 2 2]) en10 (by kernel_rfl) ?_)
  intro R3 hR3
  refine Ret.cut (fun v wz => ∀ X : Value → World → Prop, (∀ (I19 : Nat → Prop) (x65 : Int) (x66 : Int) (x67 : (List Int)) (x68 : (List Int)) (x69 : Int) (x70 : Int) (A31 : Option Addr) (u31 : Nat) (A32 : Option Addr) (u32 : Nat) (w' : World), g7_j11 p0 x4 y1 x65 x66 x67 x68 x69 x70 = some r → St w1 M I19 ((.blk b4 (.cells #[.int .u64 x8, .int .i64 x9, .slice A9 x10.length u9, .slice A10 x11.length u10] 28 (0, 0))) :: (.sl (.slice (some ⟨b5, 0, none⟩) x7.length u8) 24 1 x7.length cl4) :: (.blk b1 (.cells #[.int .u64 p0.Epoch, .int .i64 p0.Pages, .slice A1 p0.Maps.length u1, .slice A2 p0.User.length u2] 28 (0, 0))) :: F) w' → Kp I w I19 w' → (x67.length ≤ u31 ∧ u31 ≤ 9223372036854775807) → Elems (Rp.int .i64) I19 w' A31 x67 → (x68.length ≤ u32 ∧ u32 ≤ 9223372036854775807) → Elems (Rp.int .u8) I19 w' A32 x68 → Elems (Rp.int .i64) I19 w' A9 x10 → Elems (Rp.int .u8) I19 w' A10 x11 → Elems (Rp.int .i64) I19 w' A1 p0.Maps → Elems (Rp.int .u8) I19 w' A2 p0.User → RepL (Rp.slice (Rp.int .u8)) I19 w' cl4 y1 → Elems (Rp.int .u32) I19 w' (some ⟨2, 0, none⟩) TAB2 → X (.tuple #[.agg #[.int .u64 x65, .int .i64 x66, .slice A31 x67.length u31, .slice A32 x68.length u32], .int .i64 x69, .int .i64 x70]) w') → X v wz) ?_ ?_
  refine fun _ _ hJ => hJ R3 ?_
  clear s
  intro I19 x65 x66 x67 x68 x69 x70 A31 u31 A32 u32 w36 hf s kk hc31 e30 hc32 e31 e8 e9 e1 e2 rp5 eg2
  refine hR3 _ _ ?_
  unfold g7_j11 at hf
  refine RW.seg hT 5 [] [] [.tuple #[.agg #[.int .u64 x65, .int .i64 x66, .slice A31 x67.length u31, .slice A32 x68.length u32], .int .i64 x69, .int .i64 x70], .agg #[.int .u64 x65, .int .i64 x66, .slice A31 x67.length u31, .slice A32 x68.length u32], .int .i64 x69, .int .i64 x70, .int .i64 x70] [] (by kernel_rfl) (trivial) ?_
  refine RW.nil ?_
  refine WPK.seq ?_
  refine WPK.region ?_
  refine RW.seg hT 2 [] [(118, .bool (decide (x70 = 0)))] [.int .i64 x70, .bool (decide (x70 = 0))] [.veq (.bool (x70 == 0)) (.bool (decide (x70 = 0)))] (by kernel_rfl) (eq_v) ?_
  refine RW.nil ?_
  by_cases h17 : x70 = 0
  have hf := iteT h17 hf
  refine WPK.condT (Eq.trans (b := .bool (decide (x70 = 0))) (by kernel_rfl) (bo_t h17)) ?_
  refine WPK.seq ?_
  refine WPK.region ?_
  refine RW.seg hT 1 [] [] [.bool true] [] (by kernel_rfl) (trivial) ?_
  refine RW.nil ?_
  refine WPK.ret (?_)
  obtain rfl := someS hf
  refine Fin.of (rs := [.tmp 6]) hT [] (.bool true) [] rfl (by kernel_rfl) (trivial) ?_
  replace s := s.pick [] 3 rfl
  exact fun X h => vc rfl (h I19 _ s kk)
  have hf := iteF h17 hf
  refine WPK.condF (Eq.trans (b := .bool (decide (x70 = 0))) (by kernel_rfl) (bo_f h17)) ?_
  refine WPK.skip ?_
  exact fun X h => kc (by kernel_rfl) rfl (h I19 x70 _ hf s kk e8 e9 e1 e2 rp5 eg2)
  refine Ret.of Tryd.func10 rfl ?_
  refine WPK.seq ?_
  refine WPK.region ?_
  refine RW.op (by kernel_rfl) (OK.new hT (f := fun b => .pointer (some ⟨b, 0, none⟩)) (cs := [.int .u64 0, .int .i64 0, .slice none 0 0, .slice none 0 0]) (e := 28) (c := .tt) s (by kernel_rfl) trivial ?_)
  clear s
  rintro w37 b11 s k28 -
  replace e8 := e8.st k28
  replace e9 := e9.st k28
  replace e1 := e1.st k28
  replace e2 := e2.st k28
  replace rp8 := rp8.st k28
  replace rp5 := rp5.st k28
  replace eg2 := eg2.st k28
  replace kk := kk.trans k28
  refine RW.seg hT 2 [] [] [.int .i64 0, .int .i64 0] [] (by kernel_rfl) (trivial) ?_
  refine RW.nil ?_
  refine WPK.seq ?_
  refine WPK.region ?_
  refine RW.seg hT 1 [] [] [.int .i64 (-1)] [] (by kernel_rfl) (trivial) ?_
  refine RW.nil ?_
  refine WPK.seq ?_
  refine WPK.region ?_
  refine RW.op (by kernel_rfl) (OK.new hT (f := fun b => .pointer (some ⟨b, 0, none⟩)) (cs := [.int .u64 0, .int .i64 0, .slice none 0 0, .slice none 0 0]) (e := 28) (c := .tt) s (by kernel_rfl) trivial ?_)
  clear s
  rintro w38 b12 s k29 -
  replace e8 := e8.st k29
  replace e9 := e9.st k29
  replace e1 := e1.st k29
  replace e2 := e2.st k29
  replace rp8 := rp8.st k29
  replace rp5 := rp5.st k29
  replace eg2 := eg2.st k29
  replace kk := kk.trans k29
  refine RW.nil ?_
  refine WPK.seq ?_
  refine WPK.seq ?_
  refine WPK.region ?_
  refine RW.seg hT 4 [] [(15, .int .i64 (([[], p2] : List (List Int)).length : Int))] [.slice (some ⟨b10, 0, none⟩) 2 2, .slice (some ⟨b10, 0, none⟩) 2 2, .int .i64 (([[], p2] : List (List Int)).length : Int), .int .i64 (if 2 < (([[], p2] : List (List Int)).length : Int) then 2 else (([[], p2] : List (List Int)).length : Int))] [.veq (.int .i64 (2 : Nat)) (.int .i64 (([[], p2] : List (List Int)).length : Int))] (by kernel_rfl) (len_v rfl) ?_
  obtain ⟨h18, hf⟩ := iteS hf
  have hc33 := row_hc (s.at (i := 2) rfl)
  have hb2 : (if 2 < (([[], p2] : List (List Int)).length : Int) then 2 else (([[], p2] : List (List Int)).length : Int)).toNat ≤ 2 := by have hnn := (rfl : 2 = 2); omega
  refine RW.seg hT 1 [] [] [.slice (some ⟨b10, 0, none⟩) (if 2 < (([[], p2] : List (List Int)).length : Int) then 2 else (([[], p2] : List (List Int)).length : Int)).toNat 2] [.cut 0 (if 2 < (([[], p2] : List (List Int)).length : Int) then 2 else (([[], p2] : List (List Int)).length : Int)) 2 2] (by kernel_rfl) (⟨Int.le_refl _, h18.1, by omega, Int.le_refl _⟩) ?_
  obtain ⟨s', rp9, hn6⟩ := St.shrinkA s (i := 2) (h := (if 2 < (([[], p2] : List (List Int)).length : Int) then 2 else (([[], p2] : List (List Int)).length : Int)).toNat) rfl rfl rfl rp8 hb2
  replace s := s'; clear s'
  refine RW.seg hT 2 [] [(18, .int .i64 ((List.take ((if 2 < (([[], p2] : List (List Int)).length : Int) then 2 else (([[], p2] : List (List Int)).length : Int)).toNat) ([[], p2] : List (List Int))).length : Int))] [.int .i64 ((List.take ((if 2 < (([[], p2] : List (List Int)).length : Int) then 2 else (([[], p2] : List (List Int)).length : Int)).toNat) ([[], p2] : List (List Int))).length : Int), .int .i64 0] [.veq (.int .i64 ((if 2 < (([[], p2] : List (List Int)).length : Int) then 2 else (([[], p2] : List (List Int)).length : Int)).toNat : Nat)) (.int .i64 ((List.take ((if 2 < (([[], p2] : List (List Int)).length : Int) then 2 else (([[], p2] : List (List Int)).length : Int)).toNat) ([[], p2] : List (List Int))).length : Int))] (by kernel_rfl) (len_v hn6) ?_
  refine RW.nil ?_
  refine WPK.block ?_
  refine WPK.loop' (J := fun n5 D9 ds wz => ∀ X : Kont, (∀ (I20 : Nat → Prop) (x71 : Int) (x72 : Int) (x73 : Int) (x74 : Int) (x75 : (List Int)) (x76 : (List Int)) (A33 : Option Addr) (u33 : Nat) (A34 : Option Addr) (u34 : Nat) (w' : World), g7_l12 p0 p2 x4 y1 n5 x71 x72 x73 x74 x75 x76 = some r → St w1 M I20 ((.blk b12 (.cells #[.int .u64 x73, .int .i64 x74, .slice A33 x75.length u33, .slice A34 x76.length u34] 28 (0, 0))) :: (.blk b11 (.cells #[.int .u64 0, .int .i64 0, .slice none 0 0, .slice none 0 0] 28 (0, 0))) :: (.sl (.slice (some ⟨b10, 0, none⟩) ((if 2 < (([[], p2] : List (List Int)).length : Int) then 2 else (([[], p2] : List (List Int)).length : Int)).toNat) 2) 24 1 ((if 2 < (([[], p2] : List (List Int)).length : Int) then 2 else (([[], p2] : List (List Int)).length : Int)).toNat) ([.slice none 0 0, .slice A5 p2.length u5].take ((if 2 < (([[], p2] : List (List Int)).length : Int) then 2 else (([[], p2] : List (List Int)).length : Int)).toNat * 1))) :: (.blk b4 (.cells #[.int .u64 x8, .int .i64 x9, .slice A9 x10.length u9, .slice A10 x11.length u10] 28 (0, 0))) :: (.sl (.slice (some ⟨b5, 0, none⟩) x7.length u8) 24 1 x7.length cl4) :: (.blk b1 (.cells #[.int .u64 p0.Epoch, .int .i64 p0.Pages, .slice A1 p0.Maps.length u1, .slice A2 p0.User.length u2] 28 (0, 0))) :: F) w' → Kp I w I20 w' → (x75.length ≤ u33 ∧ u33 ≤ 9223372036854775807) → Elems (Rp.int .i64) I20 w' A33 x75 → (x76.length ≤ u34 ∧ u34 ≤ 9223372036854775807) → Elems (Rp.int .u8) I20 w' A34 x76 → Elems (Rp.int .i64) I20 w' A9 x10 → Elems (Rp.int .u8) I20 w' A10 x11 → Elems (Rp.int .i64) I20 w' A1 p0.Maps → Elems (Rp.int .u8) I20 w' A2 p0.User → RepL (Rp.slice (Rp.int .u8)) I20 w' ([.slice none 0 0, .slice A5 p2.length u5].take ((if 2 < (([[], p2] : List (List Int)).length : Int) then 2 else (([[], p2] : List (List Int)).length : Int)).toNat * 1)) (List.take ((if 2 < (([[], p2] : List (List Int)).length : Int) then 2 else (([[], p2] : List (List Int)).length : Int)).toNat) ([[], p2] : List (List Int))) → RepL (Rp.slice (Rp.int .u8)) I20 w' cl4 y1 → Elems (Rp.int .u32) I20 w' (some ⟨2, 0, none⟩) TAB2 → X [.int .i64 p0.Pages, (D9.getD 1 undef), (D9.getD 2 undef), (D9.getD 3 undef), .pointer (some ⟨b11, 0, none⟩), .int .i64 0, .int .i64 0, .int .i64 x71, .pointer (some ⟨b12, 0, none⟩), (D9.getD 9 undef), (D9.getD 10 undef), (D9.getD 11 undef), (D9.getD 12 undef), (D9.getD 13 undef), (D9.getD 14 undef), (D9.getD 15 undef), (D9.getD 16 undef), .slice (some ⟨b10, 0, none⟩) ((if 2 < (([[], p2] : List (List Int)).length : Int) then 2 else (([[], p2] : List (List Int)).length : Int)).toNat) 2, .int .i64 ((List.take ((if 2 < (([[], p2] : List (List Int)).length : Int) then 2 else (([[], p2] : List (List Int)).length : Int)).toNat) ([[], p2] : List (List Int))).length : Int), .int .i64 x72, (D9.getD 20 undef), (D9.getD 21 undef), (D9.getD 22 undef), (D9.getD 23 undef), (D9.getD 24 undef), (D9.getD 25 undef), (D9.getD 26 undef), (D9.getD 27 undef), (D9.getD 28 undef), (D9.getD 29 undef), (D9.getD 30 undef), (D9.getD 31 undef), (D9.getD 32 undef), (D9.getD 33 undef), (D9.getD 34 undef), (D9.getD 35 undef), (D9.getD 36 undef), (D9.getD 37 undef), (D9.getD 38 undef), (D9.getD 39 undef), (D9.getD 40 undef), (D9.getD 41 undef), (D9.getD 42 undef), (D9.getD 43 undef), (D9.getD 44 undef), (D9.getD 45 undef), (D9.getD 46 undef), undef, undef, undef, undef, undef] [] w') → X D9 ds wz) FUEL (fun X h => kc (by kernel_rfl) rfl (h I11 (-1) 0 0 0 [] [] none 0 none 0 _ hf s kk nil_hc Elems.nil nil_hc Elems.nil e8 e9 e1 e2 rp9 rp5 eg2)) (fun _ _ _ hJ => hJ (fun _ _ _ => False) (by intro I20 x71 x72 x73 x74 x75 x76 A33 u33 A34 u34 w39 hf s kk hc34 e32 hc35 e33 e8 e9 e1 e2 rp9 rp5 eg2; exact noneS hf)) ?_
  intro X14 hX14
  refine fun n5 D9 _ _ hJ => hJ (X14 n5) ?_
  clear s
  intro I20 x71 x72 x73 x74 x75 x76 A33 u33 A34 u34 w39 hf s kk hc34 e32 hc35 e33 e8 e9 e1 e2 rp9 rp5 eg2
  refine hX14 _ _ _ _ ?_
  replace hf : g7_l12B p0 p2 x4 y1 (g7_l12 p0 p2 x4 y1 n5) x71 x72 x73 x74 x75 x76 = some r := hf
  generalize hrec2 : g7_l12 p0 p2 x4 y1 n5 = rec2 at hf
  unfold g7_l12B at hf
  refine WPK.seq ?_
  refine WPK.region ?_
  refine RW.seg hT 1 [] [] [.bool (decide (x72 < ((List.take ((if 2 < (([[], p2] : List (List Int)).length : Int) then 2 else (([[], p2] : List (List Int)).length : Int)).toNat) ([[], p2] : List (List Int))).length : Int)))] [] (by kernel_rfl) (trivial) ?_
  refine RW.nil ?_
  refine WPK.seq ?_
  by_cases h19 : x72 < ((List.take ((if 2 < (([[], p2] : List (List Int)).length : Int) then 2 else (([[], p2] : List (List Int)).length : Int)).toNat) ([[], p2] : List (List Int))).length : Int)
  have hf := iteT h19 hf
  refine WPK.condT (Eq.trans (b := .bool (decide (x72 < ((List.take ((if 2 < (([[], p2] : List (List Int)).length : Int) then 2 else (([[], p2] : List (List Int)).length : Int)).toNat) ([[], p2] : List (List Int))).length : Int)))) (by kernel_rfl) (bo_t h19)) ?_
  refine WPK.skip ?_
  refine WPK.seq ?_
  refine WPK.cut' (Kn fun D10 ds wz => ∀ X : Kont, (∀ (I21 : Nat → Prop) (x77 : Int) (x78 : (List Int)) (x79 : Bool) (x80 : (List Int)) (x81 : Int) (x82 : Int) (x83 : (List Int)) (x84 : (List Int)) (x85 : Bool) (x86 : (List Int)) (x87 : Int) (x88 : Int) (x89 : (List Int)) (x90 : (List Int)) (x91 : Bool) (x92 : Int) (x93 : Int) (x94 : (List Int)) (x95 : (List Int)) (x96 : Bool) (x97 : Bool) (x98 : Bool) (x99 : Bool) (x100 : Bool) (x101 : Int) (x102 : Int) (x103 : (List Int)) (x104 : (List Int)) (x105 : Int) (x106 : Int) (x107 : (List Int)) (x108 : (List Int)) (b13 : Nat) (A35 : Option Addr) (u35 : Nat) (d2 : Value) (A36 : Option Addr) (u36 : Nat) (A37 : Option Addr) (u37 : Nat) (A38 : Option Addr) (u38 : Nat) (A39 : Option Addr) (u39 : Nat) (A40 : Option Addr) (u40 : Nat) (A41 : Option Addr) (u41 : Nat) (A42 : Option Addr) (u42 : Nat) (A43 : Option Addr) (u43 : Nat) (A44 : Option Addr) (u44 : Nat) (A45 : Option Addr) (u45 : Nat) (A46 : Option Addr) (u46 : Nat) (A47 : Option Addr) (u47 : Nat) (w' : World), g7_j13 x72 rec2 x77 x78 x79 x80 x81 x82 x83 x84 x85 x86 x87 x88 x89 x90 x91 x92 x93 x94 x95 x96 x97 x98 x99 x100 x101 x102 x103 x104 x105 x106 x107 x108 = some r → St w1 M I21 ((.blk b13 (.cells #[.int .u64 x101, .int .i64 x102, .slice A44 x103.length u44, .slice A45 x104.length u45] 28 (0, 0))) :: (.blk b12 (.cells #[.int .u64 x105, .int .i64 x106, .slice A46 x107.length u46, .slice A47 x108.length u47] 28 (0, 0))) :: (.blk b11 (.cells #[.int .u64 0, .int .i64 0, .slice none 0 0, .slice none 0 0] 28 (0, 0))) :: (.sl (.slice (some ⟨b10, 0, none⟩) ((if 2 < (([[], p2] : List (List Int)).length : Int) then 2 else (([[], p2] : List (List Int)).length : Int)).toNat) 2) 24 1 ((if 2 < (([[], p2] : List (List Int)).length : Int) then 2 else (([[], p2] : List (List Int)).length : Int)).toNat) ([.slice none 0 0, .slice A5 p2.length u5].take ((if 2 < (([[], p2] : List (List Int)).length : Int) then 2 else (([[], p2] : List (List Int)).length : Int)).toNat * 1))) :: (.blk b4 (.cells #[.int .u64 x8, .int .i64 x9, .slice A9 x10.length u9, .slice A10 x11.length u10] 28 (0, 0))) :: (.sl (.slice (some ⟨b5, 0, none⟩) x7.length u8) 24 1 x7.length cl4) :: (.blk b1 (.cells #[.int .u64 p0.Epoch, .int .i64 p0.Pages, .slice A1 p0.Maps.length u1, .slice A2 p0.User.length u2] 28 (0, 0))) :: F) w' → Kp I w I21 w' → (x78.length ≤ u35 ∧ u35 ≤ 9223372036854775807) → Elems (Rp.int .u8) I21 w' A35 x78 → (x80.length ≤ u36 ∧ u36 ≤ 9223372036854775807) → Elems (Rp.int .u8) I21 w' A36 x80 → (x83.length ≤ u37 ∧ u37 ≤ 9223372036854775807) → Elems (Rp.int .i64) I21 w' A37 x83 → (x84.length ≤ u38 ∧ u38 ≤ 9223372036854775807) → Elems (Rp.int .u8) I21 w' A38 x84 → (x86.length ≤ u39 ∧ u39 ≤ 9223372036854775807) → Elems (Rp.int .u8) I21 w' A39 x86 → (x89.length ≤ u40 ∧ u40 ≤ 9223372036854775807) → Elems (Rp.int .i64) I21 w' A40 x89 → (x90.length ≤ u41 ∧ u41 ≤ 9223372036854775807) → Elems (Rp.int .u8) I21 w' A41 x90 → (x94.length ≤ u42 ∧ u42 ≤ 9223372036854775807) → Elems (Rp.int .i64) I21 w' A42 x94 → (x95.length ≤ u43 ∧ u43 ≤ 9223372036854775807) → Elems (Rp.int .u8) I21 w' A43 x95 → (x103.length ≤ u44 ∧ u44 ≤ 9223372036854775807) → Elems (Rp.int .i64) I21 w' A44 x103 → (x104.length ≤ u45 ∧ u45 ≤ 9223372036854775807) → Elems (Rp.int .u8) I21 w' A45 x104 → (x107.length ≤ u46 ∧ u46 ≤ 9223372036854775807) → Elems (Rp.int .i64) I21 w' A46 x107 → (x108.length ≤ u47 ∧ u47 ≤ 9223372036854775807) → Elems (Rp.int .u8) I21 w' A47 x108 → Elems (Rp.int .i64) I21 w' A9 x10 → Elems (Rp.int .u8) I21 w' A10 x11 → Elems (Rp.int .i64) I21 w' A1 p0.Maps → Elems (Rp.int .u8) I21 w' A2 p0.User → RepL (Rp.slice (Rp.int .u8)) I21 w' ([.slice none 0 0, .slice A5 p2.length u5].take ((if 2 < (([[], p2] : List (List Int)).length : Int) then 2 else (([[], p2] : List (List Int)).length : Int)).toNat * 1)) (List.take ((if 2 < (([[], p2] : List (List Int)).length : Int) then 2 else (([[], p2] : List (List Int)).length : Int)).toNat) ([[], p2] : List (List Int))) → RepL (Rp.slice (Rp.int .u8)) I21 w' cl4 y1 → Elems (Rp.int .u32) I21 w' (some ⟨2, 0, none⟩) TAB2 → X [.int .i64 p0.Pages, (D10.getD 1 undef), (D10.getD 2 undef), (D10.getD 3 undef), .pointer (some ⟨b11, 0, none⟩), .int .i64 0, .int .i64 0, .int .i64 x77, .pointer (some ⟨b12, 0, none⟩), .int .i64 x72, .slice A35 x78.length u35, .pointer (some ⟨b13, 0, none⟩), .bool x79, (D10.getD 13 undef), (D10.getD 14 undef), (D10.getD 15 undef), (D10.getD 16 undef), .slice (some ⟨b10, 0, none⟩) ((if 2 < (([[], p2] : List (List Int)).length : Int) then 2 else (([[], p2] : List (List Int)).length : Int)).toNat) 2, .int .i64 ((List.take ((if 2 < (([[], p2] : List (List Int)).length : Int) then 2 else (([[], p2] : List (List Int)).length : Int)).toNat) ([[], p2] : List (List Int))).length : Int), .int .i64 x72, .bool (decide (x72 < ((List.take ((if 2 < (([[], p2] : List (List Int)).length : Int) then 2 else (([[], p2] : List (List Int)).length : Int)).toNat) ([[], p2] : List (List Int))).length : Int))), .int .i64 x72, d2, .slice A36 x80.length u36, .tuple #[.agg #[.int .u64 x81, .int .i64 x82, .slice A37 x83.length u37, .slice A38 x84.length u38], .bool x85], .int .i64 p0.Pages, .int .i64 x72, .slice A39 x86.length u39, .tuple #[.agg #[.int .u64 x87, .int .i64 x88, .slice A40 x89.length u40, .slice A41 x90.length u41], .bool x91], .agg #[.int .u64 x92, .int .i64 x93, .slice A42 x94.length u42, .slice A43 x95.length u43], .bool x96, .bool x97, .bool x98, .bool x99, (D10.getD 34 undef), (D10.getD 35 undef), (D10.getD 36 undef), (D10.getD 37 undef), (D10.getD 38 undef), (D10.getD 39 undef), (D10.getD 40 undef), (D10.getD 41 undef), (D10.getD 42 undef), .bool x100, (D10.getD 44 undef), (D10.getD 45 undef), (D9.getD 46 undef), undef, undef, undef, undef, undef] [] w') → X D10 ds wz) ?_ ?_
  intro X15 hX15
  refine fun D10 _ _ hJ => hJ X15 ?_
  clear s
  intro I21 x77 x78 x79 x80 x81 x82 x83 x84 x85 x86 x87 x88 x89 x90 x91 x92 x93 x94 x95 x96 x97 x98 x99 x100 x101 x102 x103 x104 x105 x106 x107 x108 b13 A35 u35 d2 A36 u36 A37 u37 A38 u38 A39 u39 A40 u40 A41 u41 A42 u42 A43 u43 A44 u44 A45 u45 A46 u46 A47 u47 w40 hf s kk hc36 e34 hc37 e35 hc38 e36 hc39 e37 hc40 e38 hc41 e39 hc42 e40 hc43 e41 hc44 e42 hc45 e43 hc46 e44 hc47 e45 hc48 e46 e8 e9 e1 e2 rp9 rp5 eg2
  refine hX15 _ _ _ ?_
  unfold g7_j13 at hf
  refine WPK.region ?_
  refine RW.seg hT 2 [] [] [.int .i64 (IntKind.i64.wrap (x72 + 1)), .int .i64 (IntKind.i64.wrap (x72 + 1))] [] (by kernel_rfl) (trivial) ?_
  refine RW.nil ?_
  subst hrec2
  replace s := s.pick [1, 2, 3, 4, 5, 6] 7 rfl
  exact ⟨n5, Nat.le_refl _, fun X h => kc (by kernel_rfl) rfl (h I21 x77 (IntKind.i64.wrap (x72 + 1)) x105 x106 x107 x108 A46 u46 A47 u47 _ hf s kk hc47 e45 hc48 e46 e8 e9 e1 e2 rp9 rp5 eg2)⟩
  refine WPK.block ?_
  refine WPK.seq ?_
  refine WPK.region ?_
  obtain ⟨x109, hx9, hf⟩ := bindS hf
  obtain ⟨h20, hx9⟩ := getS hx9
  obtain ⟨-, cs2, hr2, ha2⟩ := St.elem s (i := 2) rfl hn6 rp9 hx9
  replace ha2 := ha2 _ rfl
  obtain ⟨A48, u48, rfl, q3, q4, e47⟩ := hr2
  have hc49 := And.intro q3 q4
  refine RW.seg hT 5 [.slice A48 x109.length u48] [] [.int .i64 x72, .pointer (some ⟨b10, 0 + x72.toNat * 1, none⟩), .slice A48 x109.length u48, .int .i64 x72, .slice A48 x109.length u48] [.idx x72 ((if 2 < (([[], p2] : List (List Int)).length : Int) then 2 else (([[], p2] : List (List Int)).length : Int)).toNat), .cell ⟨b10, 0 + x72.toNat * 1, none⟩ (.slice A48 x109.length u48)] (by kernel_rfl) (⟨(by rw [hn6]; exact h20), ha2 0 _ rfl⟩) ?_
  refine RW.nil ?_
  refine WPK.seq ?_
  refine WPK.region ?_
  refine RW.seg hT 3 [] [] [.int .i64 p0.Pages, .int .i64 x72, .slice A48 x109.length u48] [] (by kernel_rfl) (trivial) ?_
  obtain ⟨x110, hx10, hf⟩ := bindS hf
  refine RW.op (by kernel_rfl) (OK.call' en30 (by kernel_rfl) (c30 (F := (.blk b12 (.cells #[.int .u64 x73, .int .i64 x74, .slice A33 x75.length u33, .slice A34 x76.length u34] 28 (0, 0))) :: (.blk b11 (.cells #[.int .u64 0, .int .i64 0, .slice none 0 0, .slice none 0 0] 28 (0, 0))) :: (.sl (.slice (some ⟨b10, 0, none⟩) ((if 2 < (([[], p2] : List (List Int)).length : Int) then 2 else (([[], p2] : List (List Int)).length : Int)).toNat) 2) 24 1 ((if 2 < (([[], p2] : List (List Int)).length : Int) then 2 else (([[], p2] : List (List Int)).length : Int)).toNat) ([.slice none 0 0, .slice A5 p2.length u5].take ((if 2 < (([[], p2] : List (List Int)).length : Int) then 2 else (([[], p2] : List (List Int)).length : Int)).toNat * 1))) :: (.blk b4 (.cells #[.int .u64 x8, .int .i64 x9, .slice A9 x10.length u9, .slice A10 x11.length u10] 28 (0, 0))) :: (.sl (.slice (some ⟨b5, 0, none⟩) x7.length u8) 24 1 x7.length cl4) :: (.blk b1 (.cells #[.int .u64 p0.Epoch, .int .i64 p0.Pages, .slice A1 p0.Maps.length u1, .slice A2 p0.User.length u2] 28 (0, 0))) :: F) p0.Pages x72 x109 A48 u48 hc49 e47 eg2 s hx10) ?_)
  intro X16 hX16
  refine fun _ _ hJ => hJ X16 ?_
  clear s
  intro I22 A49 n6 u49 cl6 A50 u50 w41 s k30 hn7 rp10 hc50 e48
  refine hX16 _ _ ?_
  replace e47 := e47.st k30
  replace e32 := e32.st k30
  replace e33 := e33.st k30
  replace e8 := e8.st k30
  replace e9 := e9.st k30
  replace e1 := e1.st k30
  replace e2 := e2.st k30
  replace rp9 := rp9.st k30
  replace rp5 := rp5.st k30
  replace eg2 := eg2.st k30
  replace kk := kk.trans k30
  rw [hn7] at s
  try rw [hn7]
  obtain ⟨I23, s', k31, hc51, e49⟩ := St.give s (i := 0) rfl rfl rp10
  replace s := s'; clear s'
  replace e47 := e47.st k31
  replace e48 := e48.st k31
  replace e32 := e32.st k31
  replace e33 := e33.st k31
  replace e8 := e8.st k31
  replace e9 := e9.st k31
  replace e1 := e1.st k31
  replace e2 := e2.st k31
  replace rp9 := rp9.st k31
  replace rp5 := rp5.st k31
  replace eg2 := eg2.st k31
  replace kk := kk.trans k31
  refine RW.seg hT 3 [] [] [.tuple #[.agg #[.int .u64 x110.1.Epoch, .int .i64 x110.1.Pages, .slice A49 x110.1.Maps.length u49, .slice A50 x110.1.User.length u50], .bool x110.2], .agg #[.int .u64 x110.1.Epoch, .int .i64 x110.1.Pages, .slice A49 x110.1.Maps.length u49, .slice A50 x110.1.User.length u50], .bool x110.2] [] (by kernel_rfl) (trivial) ?_
  refine RW.op (by kernel_rfl) (OK.new hT (f := fun b => .pointer (some ⟨b, 0, none⟩)) (cs := [.int .u64 0, .int .i64 0, .slice none 0 0, .slice none 0 0]) (e := 28) (c := .tt) s (by kernel_rfl) trivial ?_)
  clear s
  rintro w42 b14 s k32 -
  replace e47 := e47.st k32
  replace e49 := e49.st k32
  replace e48 := e48.st k32
  replace e32 := e32.st k32
  replace e33 := e33.st k32
  replace e8 := e8.st k32
  replace e9 := e9.st k32
  replace e1 := e1.st k32
  replace e2 := e2.st k32
  replace rp9 := rp9.st k32
  replace rp5 := rp5.st k32
  replace eg2 := eg2.st k32
  replace kk := kk.trans k32
  refine RW.op (by kernel_rfl) (OK.store hT (i := 0) (b := b14) (off := 0) (n := 4) (vs := [.int .u64 x110.1.Epoch, .int .i64 x110.1.Pages, .slice A49 x110.1.Maps.length u49, .slice A50 x110.1.User.length u50]) (cs := [.int .u64 0, .int .i64 0, .slice none 0 0, .slice none 0 0]) (e := 28) s (by kernel_rfl) rfl rfl (flat_ok rfl) (Nat.le_of_ble_eq_true rfl) ?_)
  clear s
  rintro w43 s k33 -
  replace e47 := e47.st k33
  replace e49 := e49.st k33
  replace e48 := e48.st k33
  replace e32 := e32.st k33
  replace e33 := e33.st k33
  replace e8 := e8.st k33
  replace e9 := e9.st k33
  replace e1 := e1.st k33
  replace e2 := e2.st k33
  replace rp9 := rp9.st k33
  replace rp5 := rp5.st k33
  replace eg2 := eg2.st k33
  replace kk := kk.trans k33
  refine RW.seg hT 1 [] [] [.bool x110.2] [] (by kernel_rfl) (trivial) ?_
  refine RW.nil ?_
  refine WPK.seq ?_
  refine WPK.seq ?_
  refine WPK.region ?_
  refine RW.seg hT 2 [] [(32, .bool (decide (¬ (x110.2 = true))))] [.bool x110.2, .bool (decide (¬ (x110.2 = true)))] [.veq (.bool (!x110.2)) (.bool (decide (¬ (x110.2 = true))))] (by kernel_rfl) (not_b) ?_
  by_cases h21 : ¬ (x110.2 = true)
  have hf := iteT h21 hf
  refine RW.seg hT 11 [] [(33, .bool true)] [.bool true, undef, undef, undef, undef, undef, undef, undef, undef, undef, .bool true] [.veq (.bool (decide (¬ (x110.2 = true)))) (.bool true)] (by kernel_rfl) (bo_t h21) ?_
  refine RW.nil ?_
  refine WPK.condT (by kernel_rfl) ?_
  refine WPK.exit (blockQ.same ?_)
  exact fun X h => kc (by kernel_rfl) rfl (h I23 x71 x109 x110.2 x109 x110.1.Epoch x110.1.Pages x110.1.Maps x110.1.User x110.2 x109 x110.1.Epoch x110.1.Pages x110.1.Maps x110.1.User x110.2 x110.1.Epoch x110.1.Pages x110.1.Maps x110.1.User x110.2 x110.2 (decide (¬ (x110.2 = true))) true true x110.1.Epoch x110.1.Pages x110.1.Maps x110.1.User x73 x74 x75 x76 b14 A48 u48 (.pointer (some ⟨b10, 0 + x72.toNat * 1, none⟩)) A48 u48 A49 u49 A50 u50 A48 u48 A49 u49 A50 u50 A49 u49 A50 u50 A49 u49 A50 u50 A33 u33 A34 u34 _ hf s kk hc49 e47 hc49 e47 hc51 e49 hc50 e48 hc49 e47 hc51 e49 hc50 e48 hc51 e49 hc50 e48 hc51 e49 hc50 e48 hc34 e32 hc35 e33 e8 e9 e1 e2 rp9 rp5 eg2)
  have hf := iteF h21 hf
  refine RW.seg hT 3 [] [(33, .bool false)] [.bool false, .int .i64 x71, .bool (decide (x71 ≥ 0))] [.veq (.bool (decide (¬ (x110.2 = true)))) (.bool false)] (by kernel_rfl) (bo_f h21) ?_
  by_cases h22 : x71 ≥ 0
  have hf := iteT h22 hf
  refine RW.seg hT 8 [.int .u64 x110.1.Epoch, .int .u64 x73] [(36, .bool true)] [.bool true, .pointer (some ⟨b14, 0, none⟩), .int .u64 x110.1.Epoch, .pointer (some ⟨b12, 0, none⟩), .int .u64 x73, .bool (decide (x110.1.Epoch ≤ x73)), .bool (decide (x110.1.Epoch ≤ x73)), .bool (decide (x110.1.Epoch ≤ x73))] [.veq (.bool (decide (x71 ≥ 0))) (.bool true), .cell ⟨b14, 0, none⟩ (.int .u64 x110.1.Epoch), .cell ⟨b12, 0, none⟩ (.int .u64 x73)] (by kernel_rfl) (⟨bo_t h22, s.cell (i := 0) (off := 0) rfl rfl, s.cell (i := 1) (off := 0) rfl rfl⟩) ?_
  refine RW.nil ?_
  by_cases h23 : x110.1.Epoch ≤ x73
  have hf := iteT h23 hf
  refine WPK.condT (Eq.trans (b := .bool (decide (x110.1.Epoch ≤ x73))) (by kernel_rfl) (bo_t h23)) ?_
  refine WPK.exit (blockQ.same ?_)
  exact fun X h => kc (by kernel_rfl) rfl (h I23 x71 x109 x110.2 x109 x110.1.Epoch x110.1.Pages x110.1.Maps x110.1.User x110.2 x109 x110.1.Epoch x110.1.Pages x110.1.Maps x110.1.User x110.2 x110.1.Epoch x110.1.Pages x110.1.Maps x110.1.User x110.2 x110.2 (decide (¬ (x110.2 = true))) false (decide (x110.1.Epoch ≤ x73)) x110.1.Epoch x110.1.Pages x110.1.Maps x110.1.User x73 x74 x75 x76 b14 A48 u48 (.pointer (some ⟨b10, 0 + x72.toNat * 1, none⟩)) A48 u48 A49 u49 A50 u50 A48 u48 A49 u49 A50 u50 A49 u49 A50 u50 A49 u49 A50 u50 A33 u33 A34 u34 _ hf s kk hc49 e47 hc49 e47 hc51 e49 hc50 e48 hc49 e47 hc51 e49 hc50 e48 hc51 e49 hc50 e48 hc51 e49 hc50 e48 hc34 e32 hc35 e33 e8 e9 e1 e2 rp9 rp5 eg2)
  have hf := iteF h23 hf
  refine WPK.condF (Eq.trans (b := .bool (decide (x110.1.Epoch ≤ x73))) (by kernel_rfl) (bo_f h23)) ?_
  refine WPK.skip ?_
  refine WPK.region ?_
  refine RW.seg hT 2 [.agg #[.int .u64 x110.1.Epoch, .int .i64 x110.1.Pages, .slice A49 x110.1.Maps.length u49, .slice A50 x110.1.User.length u50]] [] [.agg #[.int .u64 x110.1.Epoch, .int .i64 x110.1.Pages, .slice A49 x110.1.Maps.length u49, .slice A50 x110.1.User.length u50], .int .i64 x72] [.cells ⟨b14, 0, none⟩ [.int .u64 x110.1.Epoch, .int .i64 x110.1.Pages, .slice A49 x110.1.Maps.length u49, .slice A50 x110.1.User.length u50] 4] (by kernel_rfl) (s.cells (i := 0) rfl rfl rfl) ?_
  refine RW.op (by kernel_rfl) (OK.store hT (i := 1) (b := b12) (off := 0) (n := 4) (vs := [.int .u64 x110.1.Epoch, .int .i64 x110.1.Pages, .slice A49 x110.1.Maps.length u49, .slice A50 x110.1.User.length u50]) (cs := [.int .u64 x73, .int .i64 x74, .slice A33 x75.length u33, .slice A34 x76.length u34]) (e := 28) s (by kernel_rfl) rfl rfl (flat_ok rfl) (Nat.le_of_ble_eq_true rfl) ?_)
  clear s
  rintro w44 s k34 -
  replace e47 := e47.st k34
  replace e49 := e49.st k34
  replace e48 := e48.st k34
  replace e32 := e32.st k34
  replace e33 := e33.st k34
  replace e8 := e8.st k34
  replace e9 := e9.st k34
  replace e1 := e1.st k34
  replace e2 := e2.st k34
  replace rp9 := rp9.st k34
  replace rp5 := rp5.st k34
  replace eg2 := eg2.st k34
  replace kk := kk.trans k34
  refine RW.seg hT 1 [] [] [.int .i64 x72] [] (by kernel_rfl) (trivial) ?_
  refine RW.nil ?_
  exact fun X h => kc (by kernel_rfl) rfl (h I23 x72 x109 x110.2 x109 x110.1.Epoch x110.1.Pages x110.1.Maps x110.1.User x110.2 x109 x110.1.Epoch x110.1.Pages x110.1.Maps x110.1.User x110.2 x110.1.Epoch x110.1.Pages x110.1.Maps x110.1.User x110.2 x110.2 (decide (¬ (x110.2 = true))) false (decide (x110.1.Epoch ≤ x73)) x110.1.Epoch x110.1.Pages x110.1.Maps x110.1.User x110.1.Epoch x110.1.Pages x110.1.Maps x110.1.User b14 A48 u48 (.pointer (some ⟨b10, 0 + x72.toNat * 1, none⟩)) A48 u48 A49 u49 A50 u50 A48 u48 A49 u49 A50 u50 A49 u49 A50 u50 A49 u49 A50 u50 A49 u49 A50 u50 _ hf s kk hc49 e47 hc49 e47 hc51 e49 hc50 e48 hc49 e47 hc51 e49 hc50 e48 hc51 e49 hc50 e48 hc51 e49 hc50 e48 hc51 e49 hc50 e48 e8 e9 e1 e2 rp9 rp5 eg2)
  have hf := iteF h22 hf
  refine RW.seg hT 8 [] [(36, .bool false)] [.bool false, undef, undef, undef, undef, undef, .bool false, .bool false] [.veq (.bool (decide (x71 ≥ 0))) (.bool false)] (by kernel_rfl) (bo_f h22) ?_
  refine RW.nil ?_
  refine WPK.condF (by kernel_rfl) ?_
  refine WPK.skip ?_
  refine WPK.region ?_
  refine RW.seg hT 2 [.agg #[.int .u64 x110.1.Epoch, .int .i64 x110.1.Pages, .slice A49 x110.1.Maps.length u49, .slice A50 x110.1.User.length u50]] [] [.agg #[.int .u64 x110.1.Epoch, .int .i64 x110.1.Pages, .slice A49 x110.1.Maps.length u49, .slice A50 x110.1.User.length u50], .int .i64 x72] [.cells ⟨b14, 0, none⟩ [.int .u64 x110.1.Epoch, .int .i64 x110.1.Pages, .slice A49 x110.1.Maps.length u49, .slice A50 x110.1.User.length u50] 4] (by kernel_rfl) (s.cells (i := 0) rfl rfl rfl) ?_
  refine RW.op (by kernel_rfl) (OK.store hT (i := 1) (b := b12) (off := 0) (n := 4) (vs := [.int .u64 x110.1.Epoch, .int .i64 x110.1.Pages, .slice A49 x110.1.Maps.length u49, .slice A50 x110.1.User.length u50]) (cs := [.int .u64 x73, .int .i64 x74, .slice A33 x75.length u33, .slice A34 x76.length u34]) (e := 28) s (by kernel_rfl) rfl rfl (flat_ok rfl) (Nat.le_of_ble_eq_true rfl) ?_)
  clear s
  rintro w45 s k35 -
  replace e47 := e47.st k35
  replace e49 := e49.st k35
  replace e48 := e48.st k35
  replace e32 := e32.st k35
  replace e33 := e33.st k35
  replace e8 := e8.st k35
  replace e9 := e9.st k35
  replace e1 := e1.st k35
  replace e2 := e2.st k35
  replace rp9 := rp9.st k35
  replace rp5 := rp5.st k35
  replace eg2 := eg2.st k35
  replace kk := kk.trans k35
  refine RW.seg hT 1 [] [] [.int .i64 x72] [] (by kernel_rfl) (trivial) ?_
  refine RW.nil ?_
  exact fun X h => kc (by kernel_rfl) rfl (h I23 x72 x109 x110.2 x109 x110.1.Epoch x110.1.Pages x110.1.Maps x110.1.User x110.2 x109 x110.1.Epoch x110.1.Pages x110.1.Maps x110.1.User x110.2 x110.1.Epoch x110.1.Pages x110.1.Maps x110.1.User x110.2 x110.2 (decide (¬ (x110.2 = true))) false false x110.1.Epoch x110.1.Pages x110.1.Maps x110.1.User x110.1.Epoch x110.1.Pages x110.1.Maps x110.1.User b14 A48 u48 (.pointer (some ⟨b10, 0 + x72.toNat * 1, none⟩)) A48 u48 A49 u49 A50 u50 A48 u48 A49 u49 A50 u50 A49 u49 A50 u50 A49 u49 A50 u50 A49 u49 A50 u50 _ hf s kk hc49 e47 hc49 e47 hc51 e49 hc50 e48 hc49 e47 hc51 e49 hc50 e48 hc51 e49 hc50 e48 hc51 e49 hc50 e48 hc51 e49 hc50 e48 e8 e9 e1 e2 rp9 rp5 eg2)
  have hf := iteF h19 hf
  refine WPK.condF (Eq.trans (b := .bool (decide (x72 < ((List.take ((if 2 < (([[], p2] : List (List Int)).length : Int) then 2 else (([[], p2] : List (List Int)).length : Int)).toNat) ([[], p2] : List (List Int))).length : Int)))) (by kernel_rfl) (bo_f h19)) ?_
  refine WPK.exit (blockQ.same ?_)
  refine WPK.seq ?_
  refine WPK.seq ?_
  refine WPK.region ?_
  refine RW.seg hT 2 [] [] [.int .i64 x71, .bool (decide (x71 < 0))] [] (by kernel_rfl) (trivial) ?_
  refine RW.nil ?_
  by_cases h24 : x71 < 0
  have hf := iteT h24 hf
  refine WPK.condT (Eq.trans (b := .bool (decide (x71 < 0))) (by kernel_rfl) (bo_t h24)) ?_
  refine WPK.seq ?_
  refine WPK.region ?_
  refine RW.seg hT 1 [] [] [.agg #[.int .u64 0, .int .i64 0, .slice none 0 0, .slice none 0 0]] [] (by kernel_rfl) (trivial) ?_
  refine RW.op (by kernel_rfl) (OK.store hT (i := 1) (b := b11) (off := 0) (n := 4) (vs := [.int .u64 0, .int .i64 0, .slice none 0 0, .slice none 0 0]) (cs := [.int .u64 0, .int .i64 0, .slice none 0 0, .slice none 0 0]) (e := 28) s (by kernel_rfl) rfl rfl (flat_ok rfl) (Nat.le_of_ble_eq_true rfl) ?_)
  clear s
  rintro w46 s k36 -
  replace e32 := e32.st k36
  replace e33 := e33.st k36
  replace e8 := e8.st k36
  replace e9 := e9.st k36
  replace e1 := e1.st k36
  replace e2 := e2.st k36
  replace rp9 := rp9.st k36
  replace rp5 := rp5.st k36
  replace eg2 := eg2.st k36
  replace kk := kk.trans k36
  refine RW.seg hT 2 [] [] [.int .i64 0, .int .i64 60] [] (by kernel_rfl) (trivial) ?_
  refine RW.nil ?_
  refine WPK.ret (?_)
  refine Fin.of (rs := [.cell 4 28, .tmp 5, .tmp 6]) hT [.agg #[.int .u64 0, .int .i64 0, .slice none 0 0, .slice none 0 0]] (.tuple #[.agg #[.int .u64 0, .int .i64 0, .slice none 0 0, .slice none 0 0], .int .i64 0, .int .i64 60]) [.cells ⟨b11, 0, none⟩ [.int .u64 0, .int .i64 0, .slice none 0 0, .slice none 0 0] 4] rfl (by kernel_rfl) (s.cells (i := 1) rfl rfl rfl) ?_
  replace s := s.pick [3, 4, 5] 6 rfl
  exact fun X h => vc rfl (h I20 0 0 [] [] 0 60 none 0 none 0 _ hf s kk nil_hc Elems.nil nil_hc Elems.nil e8 e9 e1 e2 rp5 eg2)
  have hf := iteF h24 hf
  refine WPK.condF (Eq.trans (b := .bool (decide (x71 < 0))) (by kernel_rfl) (bo_f h24)) ?_
  refine WPK.skip ?_
  refine WPK.seq ?_
  refine WPK.region ?_
  refine RW.seg hT 2 [.agg #[.int .u64 x73, .int .i64 x74, .slice A33 x75.length u33, .slice A34 x76.length u34]] [] [.agg #[.int .u64 x73, .int .i64 x74, .slice A33 x75.length u33, .slice A34 x76.length u34], .int .i64 x71] [.cells ⟨b12, 0, none⟩ [.int .u64 x73, .int .i64 x74, .slice A33 x75.length u33, .slice A34 x76.length u34] 4] (by kernel_rfl) (s.cells (i := 0) rfl rfl rfl) ?_
  refine RW.op (by kernel_rfl) (OK.store hT (i := 1) (b := b11) (off := 0) (n := 4) (vs := [.int .u64 x73, .int .i64 x74, .slice A33 x75.length u33, .slice A34 x76.length u34]) (cs := [.int .u64 0, .int .i64 0, .slice none 0 0, .slice none 0 0]) (e := 28) s (by kernel_rfl) rfl rfl (flat_ok rfl) (Nat.le_of_ble_eq_true rfl) ?_)
  clear s
  rintro w47 s k37 -
  replace e32 := e32.st k37
  replace e33 := e33.st k37
  replace e8 := e8.st k37
  replace e9 := e9.st k37
  replace e1 := e1.st k37
  replace e2 := e2.st k37
  replace rp9 := rp9.st k37
  replace rp5 := rp5.st k37
  replace eg2 := eg2.st k37
  replace kk := kk.trans k37
  refine RW.seg hT 2 [] [] [.int .i64 x71, .int .i64 0] [] (by kernel_rfl) (trivial) ?_
  refine RW.nil ?_
  refine WPK.ret (?_)
  refine Fin.of (rs := [.cell 4 28, .tmp 5, .tmp 6]) hT [.agg #[.int .u64 x73, .int .i64 x74, .slice A33 x75.length u33, .slice A34 x76.length u34]] (.tuple #[.agg #[.int .u64 x73, .int .i64 x74, .slice A33 x75.length u33, .slice A34 x76.length u34], .int .i64 x71, .int .i64 0]) [.cells ⟨b11, 0, none⟩ [.int .u64 x73, .int .i64 x74, .slice A33 x75.length u33, .slice A34 x76.length u34] 4] rfl (by kernel_rfl) (s.cells (i := 1) rfl rfl rfl) ?_
  replace s := s.pick [3, 4, 5] 6 rfl
  exact fun X h => vc rfl (h I20 x73 x74 x75 x76 x71 0 A33 u33 A34 u34 _ hf s kk hc34 e32 hc35 e33 e8 e9 e1 e2 rp5 eg2)
  have hf := iteF h16 hf
  refine WPK.condF (Eq.trans (b := .bool (decide (x4 = 1))) (by kernel_rfl) (bo_f h16)) ?_
  refine WPK.skip ?_
  exact fun X h => kc (by kernel_rfl) rfl (h I11 x16 _ hf s kk e8 e9 e1 e2 rp5 eg2)
  refine WPK.seq ?_
  have e5S2 := e5
  have e8S2 := e8
  have e9S2 := e9
  have e1S2 := e1
  have e2S2 := e2
  have rp5S2 := rp5
  have eg2S64373 := eg2
  have kS2 : Kp I10 w18 I10 w18 := Kp.refl
  refine WPK.drawM (fun w' => ∃ I' : Nat → Prop, St w1 M I' ((.blk b4 (.cells #[.int .u64 x8, .int .i64 x9, .slice A9 x10.length u9, .slice A10 x11.length u10] 28 (0, 0))) :: (.sl (.slice (some ⟨b5, 0, none⟩) x7.length u8) 24 1 x7.length cl4) :: (.blk b1 (.cells #[.int .u64 p0.Epoch, .int .i64 p0.Pages, .slice A1 p0.Maps.length u1, .slice A2 p0.User.length u2] 28 (0, 0))) :: F) w' ∧ Kp I10 w18 I' w') 13 [0, 1, 0, 0, 0, 16, 60, 127, 255, 511, 511, 511, 4095] (by kernel_rfl) (by kernel_rfl) ?_
  intro ht2 w48 hd2
  have k38 := Kp.dr s hd2
  replace s := s.dr hd2
  replace e5 := e5.st k38
  replace e8 := e8.st k38
  replace e9 := e9.st k38
  replace e1 := e1.st k38
  replace e2 := e2.st k38
  replace rp5 := rp5.st k38
  replace eg2 := eg2.st k38
  replace kk := kk.trans k38
  replace kS2 := kS2.trans k38
  obtain ⟨h25, hf⟩ := iteS hf
  replace h25 : (0 : Int) ≤ x4 ∧ x4 ≤ IntKind.i64.wrap (x4 + 1) ∧ IntKind.i64.wrap (x4 + 1) ≤ ((x7.length : Nat) : Int) - 0 := by have hnn := hn3; omega
  obtain ⟨o1, n7, u51, q5, q6, q7, q8, q9, pt1⟩ := partS (b := b5) (c := u8) (Pt.whole (size := 1) (row_hc (s.at (i := 1) rfl)).1) (Nat.le_refl _) h25
  rw [Int.zero_add, Int.zero_add] at pt1
  refine RD.segM hT ht2 (by kernel_rfl) [0, 1, 2, 3, 4, 5, 6] [.int .i64 p0.Pages] [(95, .slice (some ⟨b5, o1, none⟩) n7 u51)] [.pointer (some ⟨b1, 1, none⟩), .int .i64 p0.Pages, .slice (some ⟨b5, 0, none⟩) x7.length u8, .int .i64 x4, .int .i64 x4, .int .i64 (IntKind.i64.wrap (x4 + 1)), .slice (some ⟨b5, o1, none⟩) n7 u51] [.cell ⟨b1, 1, none⟩ (.int .i64 p0.Pages), .both (.cut x4 (IntKind.i64.wrap (x4 + 1)) u8 u8) (.veq (.slice (cutA (some ⟨b5, 0, none⟩) x4.toNat u8 1) ((IntKind.i64.wrap (x4 + 1)).toNat - x4.toNat) (u8 - x4.toNat)) (.slice (some ⟨b5, o1, none⟩) n7 u51))] (by kernel_rfl) (by rintro w' ⟨I', s, k⟩; have e5 := e5S2.st k; have e8 := e8S2.st k; have e9 := e9S2.st k; have e1 := e1S2.st k; have e2 := e2S2.st k; have rp5 := rp5S2.st k; have eg2 := eg2S64373.st k; exact ⟨s.cell (i := 2) (off := 1) rfl rfl, ⟨⟨(q9).1, by have := (q9).2.1; omega, by have := (q9).2.2; omega, by omega⟩, sl_eq q5 q6 q7⟩⟩) ⟨_, s.pick [0, 1, 2] 3 rfl, kS2⟩ ?_
  refine RD.op (i := 7) rfl (by kernel_rfl) (by kernel_rfl) (OK.inl (args := [.int .i64 p0.Pages, .slice (some ⟨b5, o1, none⟩) n7 u51]) en10 (by kernel_rfl) ?_)
  intro R4 hR4
  refine Ret.cut (fun v wz => ∀ X : Value → World → Prop, (∀ (I24 : Nat → Prop) (x111 : Int) (x112 : Int) (x113 : (List Int)) (x114 : (List Int)) (x115 : Int) (x116 : Int) (A51 : Option Addr) (u52 : Nat) (A52 : Option Addr) (u53 : Nat) (w' : World), g7_j14 p0 p2 x4 y1 x111 x112 x113 x114 x115 x116 = some r → St w1 M I24 ((.blk b4 (.cells #[.int .u64 x8, .int .i64 x9, .slice A9 x10.length u9, .slice A10 x11.length u10] 28 (0, 0))) :: (.sl (.slice (some ⟨b5, 0, none⟩) x7.length u8) 24 1 x7.length cl4) :: (.blk b1 (.cells #[.int .u64 p0.Epoch, .int .i64 p0.Pages, .slice A1 p0.Maps.length u1, .slice A2 p0.User.length u2] 28 (0, 0))) :: F) w' → Kp I w I24 w' → Kp I10 w18 I24 w' → Elems (Rp.int .u8) I24 w' A5 p2 → (x113.length ≤ u52 ∧ u52 ≤ 9223372036854775807) → Elems (Rp.int .i64) I24 w' A51 x113 → (x114.length ≤ u53 ∧ u53 ≤ 9223372036854775807) → Elems (Rp.int .u8) I24 w' A52 x114 → Elems (Rp.int .i64) I24 w' A9 x10 → Elems (Rp.int .u8) I24 w' A10 x11 → Elems (Rp.int .i64) I24 w' A1 p0.Maps → Elems (Rp.int .u8) I24 w' A2 p0.User → RepL (Rp.slice (Rp.int .u8)) I24 w' cl4 y1 → Elems (Rp.int .u32) I24 w' (some ⟨2, 0, none⟩) TAB2 → X (.tuple #[.agg #[.int .u64 x111, .int .i64 x112, .slice A51 x113.length u52, .slice A52 x114.length u53], .int .i64 x115, .int .i64 x116]) w') → X v wz) ?_ ?_
  refine fun _ _ hJ => hJ R4 ?_
  clear s
  intro I24 x111 x112 x113 x114 x115 x116 A51 u52 A52 u53 w49 hf s kk kS2 e5 hc52 e50 hc53 e51 e8 e9 e1 e2 rp5 eg2
  refine hR4 _ _ ?_
  unfold g7_j14 at hf
  refine ⟨fun _ => ⟨_, s.pick [0, 1, 2] 3 rfl, kS2⟩, RD.fold ?_⟩
  refine RD.segM hT ht2 (by kernel_rfl) [8, 9, 10, 11, 12] [] [] [.tuple #[.agg #[.int .u64 x111, .int .i64 x112, .slice A51 x113.length u52, .slice A52 x114.length u53], .int .i64 x115, .int .i64 x116], .agg #[.int .u64 x111, .int .i64 x112, .slice A51 x113.length u52, .slice A52 x114.length u53], .int .i64 x115, .int .i64 x116, .int .i64 x116] [] (by kernel_rfl) (fun _ _ => trivial) ⟨_, s.pick [0, 1, 2] 3 rfl, kS2⟩ ?_
  refine RD.done (by kernel_rfl) ?_
  refine WPK.seq ?_
  refine WPK.region ?_
  refine RW.seg hT 2 [] [(101, .bool (decide (x4 = 0)))] [.int .i64 x4, .bool (decide (x4 = 0))] [.veq (.bool (x4 == 0)) (.bool (decide (x4 = 0)))] (by kernel_rfl) (eq_v) ?_
  by_cases h26 : x4 = 0
  have hf := iteT h26 hf
  refine RW.seg hT 4 [] [(102, .bool true), (104, .bool (decide (x116 = 0)))] [.bool true, .int .i64 x116, .bool (decide (x116 = 0)), .bool (decide (x116 = 0))] [.veq (.bool (decide (x4 = 0))) (.bool true), .veq (.bool (x116 == 0)) (.bool (decide (x116 = 0)))] (by kernel_rfl) (⟨bo_t h26, eq_v⟩) ?_
  refine RW.nil ?_
  by_cases h27 : x116 = 0
  have hf := iteT h27 hf
  refine WPK.condT (Eq.trans (b := .bool (decide (x116 = 0))) (by kernel_rfl) (bo_t h27)) ?_
  refine WPK.seq ?_
  refine WPK.region ?_
  refine RW.seg hT 1 [] [] [.bool true] [] (by kernel_rfl) (trivial) ?_
  refine RW.nil ?_
  refine WPK.ret (?_)
  obtain rfl := someS hf
  refine Fin.of (rs := [.tmp 6]) hT [] (.bool true) [] rfl (by kernel_rfl) (trivial) ?_
  replace s := s.pick [] 3 rfl
  exact fun X h => vc rfl (h I24 _ s kk)
  have hf := iteF h27 hf
  refine WPK.condF (Eq.trans (b := .bool (decide (x116 = 0))) (by kernel_rfl) (bo_f h27)) ?_
  refine WPK.skip ?_
  exact fun X h => kc (by kernel_rfl) rfl (h I24 x116 _ hf s kk e5 e8 e9 e1 e2 rp5 eg2)
  have hf := iteF h26 hf
  refine RW.seg hT 4 [] [(102, .bool false)] [.bool false, undef, undef, .bool false] [.veq (.bool (decide (x4 = 0))) (.bool false)] (by kernel_rfl) (bo_f h26) ?_
  refine RW.nil ?_
  refine WPK.condF (by kernel_rfl) ?_
  refine WPK.skip ?_
  exact fun X h => kc (by kernel_rfl) rfl (h I24 x116 _ hf s kk e5 e8 e9 e1 e2 rp5 eg2)
  refine Ret.of Tryd.func10 rfl ?_
  refine WPK.seq ?_
  refine WPK.region ?_
  refine RW.op (by kernel_rfl) (OK.new hT (f := fun b => .pointer (some ⟨b, 0, none⟩)) (cs := [.int .u64 0, .int .i64 0, .slice none 0 0, .slice none 0 0]) (e := 28) (c := .tt) s (by kernel_rfl) trivial ?_)
  clear s
  rintro w50 b15 s k39 -
  replace e5 := e5.st k39
  replace e8 := e8.st k39
  replace e9 := e9.st k39
  replace e1 := e1.st k39
  replace e2 := e2.st k39
  replace rp5 := rp5.st k39
  replace eg2 := eg2.st k39
  replace kk := kk.trans k39
  replace kS2 := kS2.trans k39
  refine RW.seg hT 2 [] [] [.int .i64 0, .int .i64 0] [] (by kernel_rfl) (trivial) ?_
  refine RW.nil ?_
  refine WPK.seq ?_
  refine WPK.region ?_
  refine RW.seg hT 1 [] [] [.int .i64 (-1)] [] (by kernel_rfl) (trivial) ?_
  refine RW.nil ?_
  refine WPK.seq ?_
  refine WPK.region ?_
  refine RW.op (by kernel_rfl) (OK.new hT (f := fun b => .pointer (some ⟨b, 0, none⟩)) (cs := [.int .u64 0, .int .i64 0, .slice none 0 0, .slice none 0 0]) (e := 28) (c := .tt) s (by kernel_rfl) trivial ?_)
  clear s
  rintro w51 b16 s k40 -
  replace e5 := e5.st k40
  replace e8 := e8.st k40
  replace e9 := e9.st k40
  replace e1 := e1.st k40
  replace e2 := e2.st k40
  replace rp5 := rp5.st k40
  replace eg2 := eg2.st k40
  replace kk := kk.trans k40
  replace kS2 := kS2.trans k40
  refine RW.nil ?_
  refine WPK.seq ?_
  refine WPK.seq ?_
  refine WPK.region ?_
  obtain ⟨h28, hf⟩ := iteS hf
  obtain ⟨o2, n8, u54, q10, q11, q12, q13, q14, pt2⟩ := partS (b := b5) (c := u8) pt1 q8 h28
  rw [Int.add_zero] at pt2
  refine RW.seg hT 7 [] [(15, .int .i64 ((IntKind.i64.wrap (x4 + 1)) - x4)), (17, .slice (some ⟨b5, o2, none⟩) n8 u54), (18, .int .i64 ((x4 + (if 2 < (IntKind.i64.wrap (x4 + 1)) - x4 then 2 else (IntKind.i64.wrap (x4 + 1)) - x4)) - x4))] [.slice (some ⟨b5, o1, none⟩) n7 u51, .slice (some ⟨b5, o1, none⟩) n7 u51, .int .i64 ((IntKind.i64.wrap (x4 + 1)) - x4), .int .i64 (if 2 < (IntKind.i64.wrap (x4 + 1)) - x4 then 2 else (IntKind.i64.wrap (x4 + 1)) - x4), .slice (some ⟨b5, o2, none⟩) n8 u54, .int .i64 ((x4 + (if 2 < (IntKind.i64.wrap (x4 + 1)) - x4 then 2 else (IntKind.i64.wrap (x4 + 1)) - x4)) - x4), .int .i64 0] [.veq (.int .i64 (n7 : Nat)) (.int .i64 ((IntKind.i64.wrap (x4 + 1)) - x4)), .both (.cut 0 (if 2 < (IntKind.i64.wrap (x4 + 1)) - x4 then 2 else (IntKind.i64.wrap (x4 + 1)) - x4) u51 u51) (.veq (.slice (some ⟨b5, o1, none⟩) (if 2 < (IntKind.i64.wrap (x4 + 1)) - x4 then 2 else (IntKind.i64.wrap (x4 + 1)) - x4).toNat u51) (.slice (some ⟨b5, o2, none⟩) n8 u54)), .veq (.int .i64 (n8 : Nat)) (.int .i64 ((x4 + (if 2 < (IntKind.i64.wrap (x4 + 1)) - x4 then 2 else (IntKind.i64.wrap (x4 + 1)) - x4)) - x4))] (by kernel_rfl) (⟨Pt.len_v pt1, ⟨⟨(q14).1, by have := (q14).2.1; omega, by have := (q14).2.2; omega, by omega⟩, by have e52 := q10; have e53 := q11; have e54 := q12; rw [show (0 : Int).toNat = 0 from rfl] at e52 e53 e54; rw [cutA_zero] at e52; rw [Nat.sub_zero] at e53 e54; exact sl_eq e52 e53 e54⟩, Pt.len_v pt2⟩) ?_
  refine RW.nil ?_
  refine WPK.block ?_
  refine WPK.loop' (J := fun n9 D11 ds wz => ∀ X : Kont, (∀ (I25 : Nat → Prop) (x117 : Int) (x118 : Int) (x119 : Int) (x120 : Int) (x121 : (List Int)) (x122 : (List Int)) (A53 : Option Addr) (u55 : Nat) (A54 : Option Addr) (u56 : Nat) (w' : World), g7_l15 p0 p2 x4 y1 n9 x117 x118 x119 x120 x121 x122 = some r → St w1 M I25 ((.blk b16 (.cells #[.int .u64 x119, .int .i64 x120, .slice A53 x121.length u55, .slice A54 x122.length u56] 28 (0, 0))) :: (.blk b15 (.cells #[.int .u64 0, .int .i64 0, .slice none 0 0, .slice none 0 0] 28 (0, 0))) :: (.blk b4 (.cells #[.int .u64 x8, .int .i64 x9, .slice A9 x10.length u9, .slice A10 x11.length u10] 28 (0, 0))) :: (.sl (.slice (some ⟨b5, 0, none⟩) x7.length u8) 24 1 x7.length cl4) :: (.blk b1 (.cells #[.int .u64 p0.Epoch, .int .i64 p0.Pages, .slice A1 p0.Maps.length u1, .slice A2 p0.User.length u2] 28 (0, 0))) :: F) w' → Kp I w I25 w' → Kp I10 w18 I25 w' → (x121.length ≤ u55 ∧ u55 ≤ 9223372036854775807) → Elems (Rp.int .i64) I25 w' A53 x121 → (x122.length ≤ u56 ∧ u56 ≤ 9223372036854775807) → Elems (Rp.int .u8) I25 w' A54 x122 → Elems (Rp.int .i64) I25 w' A9 x10 → Elems (Rp.int .u8) I25 w' A10 x11 → Elems (Rp.int .i64) I25 w' A1 p0.Maps → Elems (Rp.int .u8) I25 w' A2 p0.User → RepL (Rp.slice (Rp.int .u8)) I25 w' cl4 y1 → Elems (Rp.int .u8) I25 w' A5 p2 → Elems (Rp.int .u32) I25 w' (some ⟨2, 0, none⟩) TAB2 → X [.int .i64 p0.Pages, (D11.getD 1 undef), (D11.getD 2 undef), (D11.getD 3 undef), .pointer (some ⟨b15, 0, none⟩), .int .i64 0, .int .i64 0, .int .i64 x117, .pointer (some ⟨b16, 0, none⟩), (D11.getD 9 undef), (D11.getD 10 undef), (D11.getD 11 undef), (D11.getD 12 undef), (D11.getD 13 undef), (D11.getD 14 undef), (D11.getD 15 undef), (D11.getD 16 undef), .slice (some ⟨b5, o2, none⟩) n8 u54, .int .i64 ((x4 + (if 2 < (IntKind.i64.wrap (x4 + 1)) - x4 then 2 else (IntKind.i64.wrap (x4 + 1)) - x4)) - x4), .int .i64 x118, (D11.getD 20 undef), (D11.getD 21 undef), (D11.getD 22 undef), (D11.getD 23 undef), (D11.getD 24 undef), (D11.getD 25 undef), (D11.getD 26 undef), (D11.getD 27 undef), (D11.getD 28 undef), (D11.getD 29 undef), (D11.getD 30 undef), (D11.getD 31 undef), (D11.getD 32 undef), (D11.getD 33 undef), (D11.getD 34 undef), (D11.getD 35 undef), (D11.getD 36 undef), (D11.getD 37 undef), (D11.getD 38 undef), (D11.getD 39 undef), (D11.getD 40 undef), (D11.getD 41 undef), (D11.getD 42 undef), (D11.getD 43 undef), (D11.getD 44 undef), (D11.getD 45 undef), (D11.getD 46 undef), undef, undef, undef, undef, undef] [] w') → X D11 ds wz) FUEL (fun X h => kc (by kernel_rfl) rfl (h I10 (-1) 0 0 0 [] [] none 0 none 0 _ hf s kk kS2 nil_hc Elems.nil nil_hc Elems.nil e8 e9 e1 e2 rp5 e5 eg2)) (fun _ _ _ hJ => hJ (fun _ _ _ => False) (by intro I25 x117 x118 x119 x120 x121 x122 A53 u55 A54 u56 w52 hf s kk kS2 hc54 e55 hc55 e56 e8 e9 e1 e2 rp5 e5 eg2; exact noneS hf)) ?_
  intro X17 hX17
  refine fun n9 D11 _ _ hJ => hJ (X17 n9) ?_
  clear s
  intro I25 x117 x118 x119 x120 x121 x122 A53 u55 A54 u56 w52 hf s kk kS2 hc54 e55 hc55 e56 e8 e9 e1 e2 rp5 e5 eg2
  refine hX17 _ _ _ _ ?_
  replace hf : g7_l15B p0 p2 x4 y1 (g7_l15 p0 p2 x4 y1 n9) x117 x118 x119 x120 x121 x122 = some r := hf
  generalize hrec3 : g7_l15 p0 p2 x4 y1 n9 = rec3 at hf
  unfold g7_l15B at hf
  refine WPK.seq ?_
  refine WPK.region ?_
  refine RW.seg hT 1 [] [] [.bool (decide (x118 < ((x4 + (if 2 < (IntKind.i64.wrap (x4 + 1)) - x4 then 2 else (IntKind.i64.wrap (x4 + 1)) - x4)) - x4)))] [] (by kernel_rfl) (trivial) ?_
  refine RW.nil ?_
  refine WPK.seq ?_
  by_cases h29 : x118 < ((x4 + (if 2 < (IntKind.i64.wrap (x4 + 1)) - x4 then 2 else (IntKind.i64.wrap (x4 + 1)) - x4)) - x4)
  have hf := iteT h29 hf
  refine WPK.condT (Eq.trans (b := .bool (decide (x118 < ((x4 + (if 2 < (IntKind.i64.wrap (x4 + 1)) - x4 then 2 else (IntKind.i64.wrap (x4 + 1)) - x4)) - x4)))) (by kernel_rfl) (bo_t h29)) ?_
  refine WPK.skip ?_
  refine WPK.seq ?_
  refine WPK.cut' (Kn fun D12 ds wz => ∀ X : Kont, (∀ (I26 : Nat → Prop) (x123 : Int) (x124 : (List Int)) (x125 : Bool) (x126 : (List Int)) (x127 : Int) (x128 : Int) (x129 : (List Int)) (x130 : (List Int)) (x131 : Bool) (x132 : (List Int)) (x133 : Int) (x134 : Int) (x135 : (List Int)) (x136 : (List Int)) (x137 : Bool) (x138 : Int) (x139 : Int) (x140 : (List Int)) (x141 : (List Int)) (x142 : Bool) (x143 : Bool) (x144 : Bool) (x145 : Bool) (x146 : Bool) (x147 : Int) (x148 : Int) (x149 : (List Int)) (x150 : (List Int)) (x151 : Int) (x152 : Int) (x153 : (List Int)) (x154 : (List Int)) (b17 : Nat) (A55 : Option Addr) (u57 : Nat) (d3 : Value) (A56 : Option Addr) (u58 : Nat) (A57 : Option Addr) (u59 : Nat) (A58 : Option Addr) (u60 : Nat) (A59 : Option Addr) (u61 : Nat) (A60 : Option Addr) (u62 : Nat) (A61 : Option Addr) (u63 : Nat) (A62 : Option Addr) (u64 : Nat) (A63 : Option Addr) (u65 : Nat) (A64 : Option Addr) (u66 : Nat) (A65 : Option Addr) (u67 : Nat) (A66 : Option Addr) (u68 : Nat) (A67 : Option Addr) (u69 : Nat) (w' : World), g7_j16 x118 rec3 x123 x124 x125 x126 x127 x128 x129 x130 x131 x132 x133 x134 x135 x136 x137 x138 x139 x140 x141 x142 x143 x144 x145 x146 x147 x148 x149 x150 x151 x152 x153 x154 = some r → St w1 M I26 ((.blk b17 (.cells #[.int .u64 x147, .int .i64 x148, .slice A64 x149.length u66, .slice A65 x150.length u67] 28 (0, 0))) :: (.blk b16 (.cells #[.int .u64 x151, .int .i64 x152, .slice A66 x153.length u68, .slice A67 x154.length u69] 28 (0, 0))) :: (.blk b15 (.cells #[.int .u64 0, .int .i64 0, .slice none 0 0, .slice none 0 0] 28 (0, 0))) :: (.blk b4 (.cells #[.int .u64 x8, .int .i64 x9, .slice A9 x10.length u9, .slice A10 x11.length u10] 28 (0, 0))) :: (.sl (.slice (some ⟨b5, 0, none⟩) x7.length u8) 24 1 x7.length cl4) :: (.blk b1 (.cells #[.int .u64 p0.Epoch, .int .i64 p0.Pages, .slice A1 p0.Maps.length u1, .slice A2 p0.User.length u2] 28 (0, 0))) :: F) w' → Kp I w I26 w' → Kp I10 w18 I26 w' → (x124.length ≤ u57 ∧ u57 ≤ 9223372036854775807) → Elems (Rp.int .u8) I26 w' A55 x124 → (x126.length ≤ u58 ∧ u58 ≤ 9223372036854775807) → Elems (Rp.int .u8) I26 w' A56 x126 → (x129.length ≤ u59 ∧ u59 ≤ 9223372036854775807) → Elems (Rp.int .i64) I26 w' A57 x129 → (x130.length ≤ u60 ∧ u60 ≤ 9223372036854775807) → Elems (Rp.int .u8) I26 w' A58 x130 → (x132.length ≤ u61 ∧ u61 ≤ 9223372036854775807) → Elems (Rp.int .u8) I26 w' A59 x132 → (x135.length ≤ u62 ∧ u62 ≤ 9223372036854775807) → Elems (Rp.int .i64) I26 w' A60 x135 → (x136.length ≤ u63 ∧ u63 ≤ 9223372036854775807) → Elems (Rp.int .u8) I26 w' A61 x136 → (x140.length ≤ u64 ∧ u64 ≤ 9223372036854775807) → Elems (Rp.int .i64) I26 w' A62 x140 → (x141.length ≤ u65 ∧ u65 ≤ 9223372036854775807) → Elems (Rp.int .u8) I26 w' A63 x141 → (x149.length ≤ u66 ∧ u66 ≤ 9223372036854775807) → Elems (Rp.int .i64) I26 w' A64 x149 → (x150.length ≤ u67 ∧ u67 ≤ 9223372036854775807) → Elems (Rp.int .u8) I26 w' A65 x150 → (x153.length ≤ u68 ∧ u68 ≤ 9223372036854775807) → Elems (Rp.int .i64) I26 w' A66 x153 → (x154.length ≤ u69 ∧ u69 ≤ 9223372036854775807) → Elems (Rp.int .u8) I26 w' A67 x154 → Elems (Rp.int .i64) I26 w' A9 x10 → Elems (Rp.int .u8) I26 w' A10 x11 → Elems (Rp.int .i64) I26 w' A1 p0.Maps → Elems (Rp.int .u8) I26 w' A2 p0.User → RepL (Rp.slice (Rp.int .u8)) I26 w' cl4 y1 → Elems (Rp.int .u8) I26 w' A5 p2 → Elems (Rp.int .u32) I26 w' (some ⟨2, 0, none⟩) TAB2 → X [.int .i64 p0.Pages, (D12.getD 1 undef), (D12.getD 2 undef), (D12.getD 3 undef), .pointer (some ⟨b15, 0, none⟩), .int .i64 0, .int .i64 0, .int .i64 x123, .pointer (some ⟨b16, 0, none⟩), .int .i64 x118, .slice A55 x124.length u57, .pointer (some ⟨b17, 0, none⟩), .bool x125, (D12.getD 13 undef), (D12.getD 14 undef), (D12.getD 15 undef), (D12.getD 16 undef), .slice (some ⟨b5, o2, none⟩) n8 u54, .int .i64 ((x4 + (if 2 < (IntKind.i64.wrap (x4 + 1)) - x4 then 2 else (IntKind.i64.wrap (x4 + 1)) - x4)) - x4), .int .i64 x118, .bool (decide (x118 < ((x4 + (if 2 < (IntKind.i64.wrap (x4 + 1)) - x4 then 2 else (IntKind.i64.wrap (x4 + 1)) - x4)) - x4))), .int .i64 x118, d3, .slice A56 x126.length u58, .tuple #[.agg #[.int .u64 x127, .int .i64 x128, .slice A57 x129.length u59, .slice A58 x130.length u60], .bool x131], .int .i64 p0.Pages, .int .i64 x118, .slice A59 x132.length u61, .tuple #[.agg #[.int .u64 x133, .int .i64 x134, .slice A60 x135.length u62, .slice A61 x136.length u63], .bool x137], .agg #[.int .u64 x138, .int .i64 x139, .slice A62 x140.length u64, .slice A63 x141.length u65], .bool x142, .bool x143, .bool x144, .bool x145, (D12.getD 34 undef), (D12.getD 35 undef), (D12.getD 36 undef), (D12.getD 37 undef), (D12.getD 38 undef), (D12.getD 39 undef), (D12.getD 40 undef), (D12.getD 41 undef), (D12.getD 42 undef), .bool x146, (D12.getD 44 undef), (D12.getD 45 undef), (D11.getD 46 undef), undef, undef, undef, undef, undef] [] w') → X D12 ds wz) ?_ ?_
  intro X18 hX18
  refine fun D12 _ _ hJ => hJ X18 ?_
  clear s
  intro I26 x123 x124 x125 x126 x127 x128 x129 x130 x131 x132 x133 x134 x135 x136 x137 x138 x139 x140 x141 x142 x143 x144 x145 x146 x147 x148 x149 x150 x151 x152 x153 x154 b17 A55 u57 d3 A56 u58 A57 u59 A58 u60 A59 u61 A60 u62 A61 u63 A62 u64 A63 u65 A64 u66 A65 u67 A66 u68 A67 u69 w53 hf s kk kS2 hc56 e57 hc57 e58 hc58 e59 hc59 e60 hc60 e61 hc61 e62 hc62 e63 hc63 e64 hc64 e65 hc65 e66 hc66 e67 hc67 e68 hc68 e69 e8 e9 e1 e2 rp5 e5 eg2
  refine hX18 _ _ _ ?_
  unfold g7_j16 at hf
  refine WPK.region ?_
  refine RW.seg hT 2 [] [] [.int .i64 (IntKind.i64.wrap (x118 + 1)), .int .i64 (IntKind.i64.wrap (x118 + 1))] [] (by kernel_rfl) (trivial) ?_
  refine RW.nil ?_
  subst hrec3
  replace s := s.pick [1, 2, 3, 4, 5] 6 rfl
  exact ⟨n9, Nat.le_refl _, fun X h => kc (by kernel_rfl) rfl (h I26 x123 (IntKind.i64.wrap (x118 + 1)) x151 x152 x153 x154 A66 u68 A67 u69 _ hf s kk kS2 hc67 e68 hc68 e69 e8 e9 e1 e2 rp5 e5 eg2)⟩
  refine WPK.block ?_
  refine WPK.seq ?_
  refine WPK.region ?_
  obtain ⟨h30, hf⟩ := iteS hf
  obtain ⟨x155, hx11, hf⟩ := bindS hf
  obtain ⟨-, hx11⟩ := getS hx11
  obtain ⟨-, cs3, hr3, ha3⟩ := St.elem s (i := 3) rfl hn3 rp5 hx11
  replace ha3 := ha3 _ rfl
  obtain ⟨A68, u70, rfl, q15, q16, e70⟩ := hr3
  have hc69 := And.intro q15 q16
  refine RW.seg hT 5 [.slice A68 x155.length u70] [(22, .pointer (some ⟨b5, 0 + (x4 + x118).toNat * 1, none⟩))] [.int .i64 x118, .pointer (some ⟨b5, 0 + (x4 + x118).toNat * 1, none⟩), .slice A68 x155.length u70, .int .i64 x118, .slice A68 x155.length u70] [.both (.idx x118 n8) (.veq (.pointer (some ⟨b5, o2 + x118.toNat * 1, none⟩)) (.pointer (some ⟨b5, 0 + (x4 + x118).toNat * 1, none⟩))), .cell ⟨b5, 0 + (x4 + x118).toNat * 1, none⟩ (.slice A68 x155.length u70)] (by kernel_rfl) (⟨⟨(Pt.idx (b := b5) pt2 h30).1, (Pt.idx (b := b5) pt2 h30).2⟩, ha3 0 _ rfl⟩) ?_
  refine RW.nil ?_
  refine WPK.seq ?_
  refine WPK.region ?_
  refine RW.seg hT 3 [] [] [.int .i64 p0.Pages, .int .i64 x118, .slice A68 x155.length u70] [] (by kernel_rfl) (trivial) ?_
  obtain ⟨x156, hx12, hf⟩ := bindS hf
  refine RW.op (by kernel_rfl) (OK.call' en30 (by kernel_rfl) (c30 (F := (.blk b16 (.cells #[.int .u64 x119, .int .i64 x120, .slice A53 x121.length u55, .slice A54 x122.length u56] 28 (0, 0))) :: (.blk b15 (.cells #[.int .u64 0, .int .i64 0, .slice none 0 0, .slice none 0 0] 28 (0, 0))) :: (.blk b4 (.cells #[.int .u64 x8, .int .i64 x9, .slice A9 x10.length u9, .slice A10 x11.length u10] 28 (0, 0))) :: (.sl (.slice (some ⟨b5, 0, none⟩) x7.length u8) 24 1 x7.length cl4) :: (.blk b1 (.cells #[.int .u64 p0.Epoch, .int .i64 p0.Pages, .slice A1 p0.Maps.length u1, .slice A2 p0.User.length u2] 28 (0, 0))) :: F) p0.Pages x118 x155 A68 u70 hc69 e70 eg2 s hx12) ?_)
  intro X19 hX19
  refine fun _ _ hJ => hJ X19 ?_
  clear s
  intro I27 A69 n10 u71 cl7 A70 u72 w54 s k41 hn8 rp11 hc70 e71
  refine hX19 _ _ ?_
  replace e70 := e70.st k41
  replace e5 := e5.st k41
  replace e55 := e55.st k41
  replace e56 := e56.st k41
  replace e8 := e8.st k41
  replace e9 := e9.st k41
  replace e1 := e1.st k41
  replace e2 := e2.st k41
  replace rp5 := rp5.st k41
  replace eg2 := eg2.st k41
  replace kk := kk.trans k41
  replace kS2 := kS2.trans k41
  rw [hn8] at s
  try rw [hn8]
  obtain ⟨I28, s', k42, hc71, e72⟩ := St.give s (i := 0) rfl rfl rp11
  replace s := s'; clear s'
  replace e70 := e70.st k42
  replace e71 := e71.st k42
  replace e5 := e5.st k42
  replace e55 := e55.st k42
  replace e56 := e56.st k42
  replace e8 := e8.st k42
  replace e9 := e9.st k42
  replace e1 := e1.st k42
  replace e2 := e2.st k42
  replace rp5 := rp5.st k42
  replace eg2 := eg2.st k42
  replace kk := kk.trans k42
  replace kS2 := kS2.trans k42
  refine RW.seg hT 3 [] [] [.tuple #[.agg #[.int .u64 x156.1.Epoch, .int .i64 x156.1.Pages, .slice A69 x156.1.Maps.length u71, .slice A70 x156.1.User.length u72], .bool x156.2], .agg #[.int .u64 x156.1.Epoch, .int .i64 x156.1.Pages, .slice A69 x156.1.Maps.length u71, .slice A70 x156.1.User.length u72], .bool x156.2] [] (by kernel_rfl) (trivial) ?_
  refine RW.op (by kernel_rfl) (OK.new hT (f := fun b => .pointer (some ⟨b, 0, none⟩)) (cs := [.int .u64 0, .int .i64 0, .slice none 0 0, .slice none 0 0]) (e := 28) (c := .tt) s (by kernel_rfl) trivial ?_)
  clear s
  rintro w55 b18 s k43 -
  replace e70 := e70.st k43
  replace e72 := e72.st k43
  replace e71 := e71.st k43
  replace e5 := e5.st k43
  replace e55 := e55.st k43
  replace e56 := e56.st k43
  replace e8 := e8.st k43
  replace e9 := e9.st k43
  replace e1 := e1.st k43
  replace e2 := e2.st k43
  replace rp5 := rp5.st k43
  replace eg2 := eg2.st k43
  replace kk := kk.trans k43
  replace kS2 := kS2.trans k43
  refine RW.op (by kernel_rfl) (OK.store hT (i := 0) (b := b18) (off := 0) (n := 4) (vs := [.int .u64 x156.1.Epoch, .int .i64 x156.1.Pages, .slice A69 x156.1.Maps.length u71, .slice A70 x156.1.User.length u72]) (cs := [.int .u64 0, .int .i64 0, .slice none 0 0, .slice none 0 0]) (e := 28) s (by kernel_rfl) rfl rfl (flat_ok rfl) (Nat.le_of_ble_eq_true rfl) ?_)
  clear s
  rintro w56 s k44 -
  replace e70 := e70.st k44
  replace e72 := e72.st k44
  replace e71 := e71.st k44
  replace e5 := e5.st k44
  replace e55 := e55.st k44
  replace e56 := e56.st k44
  replace e8 := e8.st k44
  replace e9 := e9.st k44
  replace e1 := e1.st k44
  replace e2 := e2.st k44
  replace rp5 := rp5.st k44
  replace eg2 := eg2.st k44
  replace kk := kk.trans k44
  replace kS2 := kS2.trans k44
  refine RW.seg hT 1 [] [] [.bool x156.2] [] (by kernel_rfl) (trivial) ?_
  refine RW.nil ?_
  refine WPK.seq ?_
  refine WPK.seq ?_
  refine WPK.region ?_
  refine RW.seg hT 2 [] [(32, .bool (decide (¬ (x156.2 = true))))] [.bool x156.2, .bool (decide (¬ (x156.2 = true)))] [.veq (.bool (!x156.2)) (.bool (decide (¬ (x156.2 = true))))] (by kernel_rfl) (not_b) ?_
  by_cases h31 : ¬ (x156.2 = true)
  have hf := iteT h31 hf
  refine RW.seg hT 11 [] [(33, .bool true)] [.bool true, undef, undef, undef, undef, undef, undef, undef, undef, undef, .bool true] [.veq (.bool (decide (¬ (x156.2 = true)))) (.bool true)] (by kernel_rfl) (bo_t h31) ?_
  refine RW.nil ?_
  refine WPK.condT (by kernel_rfl) ?_
  refine WPK.exit (blockQ.same ?_)
  exact fun X h => kc (by kernel_rfl) rfl (h I28 x117 x155 x156.2 x155 x156.1.Epoch x156.1.Pages x156.1.Maps x156.1.User x156.2 x155 x156.1.Epoch x156.1.Pages x156.1.Maps x156.1.User x156.2 x156.1.Epoch x156.1.Pages x156.1.Maps x156.1.User x156.2 x156.2 (decide (¬ (x156.2 = true))) true true x156.1.Epoch x156.1.Pages x156.1.Maps x156.1.User x119 x120 x121 x122 b18 A68 u70 (.pointer (some ⟨b5, 0 + (x4 + x118).toNat * 1, none⟩)) A68 u70 A69 u71 A70 u72 A68 u70 A69 u71 A70 u72 A69 u71 A70 u72 A69 u71 A70 u72 A53 u55 A54 u56 _ hf s kk kS2 hc69 e70 hc69 e70 hc71 e72 hc70 e71 hc69 e70 hc71 e72 hc70 e71 hc71 e72 hc70 e71 hc71 e72 hc70 e71 hc54 e55 hc55 e56 e8 e9 e1 e2 rp5 e5 eg2)
  have hf := iteF h31 hf
  refine RW.seg hT 3 [] [(33, .bool false)] [.bool false, .int .i64 x117, .bool (decide (x117 ≥ 0))] [.veq (.bool (decide (¬ (x156.2 = true)))) (.bool false)] (by kernel_rfl) (bo_f h31) ?_
  by_cases h32 : x117 ≥ 0
  have hf := iteT h32 hf
  refine RW.seg hT 8 [.int .u64 x156.1.Epoch, .int .u64 x119] [(36, .bool true)] [.bool true, .pointer (some ⟨b18, 0, none⟩), .int .u64 x156.1.Epoch, .pointer (some ⟨b16, 0, none⟩), .int .u64 x119, .bool (decide (x156.1.Epoch ≤ x119)), .bool (decide (x156.1.Epoch ≤ x119)), .bool (decide (x156.1.Epoch ≤ x119))] [.veq (.bool (decide (x117 ≥ 0))) (.bool true), .cell ⟨b18, 0, none⟩ (.int .u64 x156.1.Epoch), .cell ⟨b16, 0, none⟩ (.int .u64 x119)] (by kernel_rfl) (⟨bo_t h32, s.cell (i := 0) (off := 0) rfl rfl, s.cell (i := 1) (off := 0) rfl rfl⟩) ?_
  refine RW.nil ?_
  by_cases h33 : x156.1.Epoch ≤ x119
  have hf := iteT h33 hf
  refine WPK.condT (Eq.trans (b := .bool (decide (x156.1.Epoch ≤ x119))) (by kernel_rfl) (bo_t h33)) ?_
  refine WPK.exit (blockQ.same ?_)
  exact fun X h => kc (by kernel_rfl) rfl (h I28 x117 x155 x156.2 x155 x156.1.Epoch x156.1.Pages x156.1.Maps x156.1.User x156.2 x155 x156.1.Epoch x156.1.Pages x156.1.Maps x156.1.User x156.2 x156.1.Epoch x156.1.Pages x156.1.Maps x156.1.User x156.2 x156.2 (decide (¬ (x156.2 = true))) false (decide (x156.1.Epoch ≤ x119)) x156.1.Epoch x156.1.Pages x156.1.Maps x156.1.User x119 x120 x121 x122 b18 A68 u70 (.pointer (some ⟨b5, 0 + (x4 + x118).toNat * 1, none⟩)) A68 u70 A69 u71 A70 u72 A68 u70 A69 u71 A70 u72 A69 u71 A70 u72 A69 u71 A70 u72 A53 u55 A54 u56 _ hf s kk kS2 hc69 e70 hc69 e70 hc71 e72 hc70 e71 hc69 e70 hc71 e72 hc70 e71 hc71 e72 hc70 e71 hc71 e72 hc70 e71 hc54 e55 hc55 e56 e8 e9 e1 e2 rp5 e5 eg2)
  have hf := iteF h33 hf
  refine WPK.condF (Eq.trans (b := .bool (decide (x156.1.Epoch ≤ x119))) (by kernel_rfl) (bo_f h33)) ?_
  refine WPK.skip ?_
  refine WPK.region ?_
  refine RW.seg hT 2 [.agg #[.int .u64 x156.1.Epoch, .int .i64 x156.1.Pages, .slice A69 x156.1.Maps.length u71, .slice A70 x156.1.User.length u72]] [] [.agg #[.int .u64 x156.1.Epoch, .int .i64 x156.1.Pages, .slice A69 x156.1.Maps.length u71, .slice A70 x156.1.User.length u72], .int .i64 x118] [.cells ⟨b18, 0, none⟩ [.int .u64 x156.1.Epoch, .int .i64 x156.1.Pages, .slice A69 x156.1.Maps.length u71, .slice A70 x156.1.User.length u72] 4] (by kernel_rfl) (s.cells (i := 0) rfl rfl rfl) ?_
  refine RW.op (by kernel_rfl) (OK.store hT (i := 1) (b := b16) (off := 0) (n := 4) (vs := [.int .u64 x156.1.Epoch, .int .i64 x156.1.Pages, .slice A69 x156.1.Maps.length u71, .slice A70 x156.1.User.length u72]) (cs := [.int .u64 x119, .int .i64 x120, .slice A53 x121.length u55, .slice A54 x122.length u56]) (e := 28) s (by kernel_rfl) rfl rfl (flat_ok rfl) (Nat.le_of_ble_eq_true rfl) ?_)
  clear s
  rintro w57 s k45 -
  replace e70 := e70.st k45
  replace e72 := e72.st k45
  replace e71 := e71.st k45
  replace e5 := e5.st k45
  replace e55 := e55.st k45
  replace e56 := e56.st k45
  replace e8 := e8.st k45
  replace e9 := e9.st k45
  replace e1 := e1.st k45
  replace e2 := e2.st k45
  replace rp5 := rp5.st k45
  replace eg2 := eg2.st k45
  replace kk := kk.trans k45
  replace kS2 := kS2.trans k45
  refine RW.seg hT 1 [] [] [.int .i64 x118] [] (by kernel_rfl) (trivial) ?_
  refine RW.nil ?_
  exact fun X h => kc (by kernel_rfl) rfl (h I28 x118 x155 x156.2 x155 x156.1.Epoch x156.1.Pages x156.1.Maps x156.1.User x156.2 x155 x156.1.Epoch x156.1.Pages x156.1.Maps x156.1.User x156.2 x156.1.Epoch x156.1.Pages x156.1.Maps x156.1.User x156.2 x156.2 (decide (¬ (x156.2 = true))) false (decide (x156.1.Epoch ≤ x119)) x156.1.Epoch x156.1.Pages x156.1.Maps x156.1.User x156.1.Epoch x156.1.Pages x156.1.Maps x156.1.User b18 A68 u70 (.pointer (some ⟨b5, 0 + (x4 + x118).toNat * 1, none⟩)) A68 u70 A69 u71 A70 u72 A68 u70 A69 u71 A70 u72 A69 u71 A70 u72 A69 u71 A70 u72 A69 u71 A70 u72 _ hf s kk kS2 hc69 e70 hc69 e70 hc71 e72 hc70 e71 hc69 e70 hc71 e72 hc70 e71 hc71 e72 hc70 e71 hc71 e72 hc70 e71 hc71 e72 hc70 e71 e8 e9 e1 e2 rp5 e5 eg2)
  have hf := iteF h32 hf
  refine RW.seg hT 8 [] [(36, .bool false)] [.bool false, undef, undef, undef, undef, undef, .bool false, .bool false] [.veq (.bool (decide (x117 ≥ 0))) (.bool false)] (by kernel_rfl) (bo_f h32) ?_
  refine RW.nil ?_
  refine WPK.condF (by kernel_rfl) ?_
  refine WPK.skip ?_
  refine WPK.region ?_
  refine RW.seg hT 2 [.agg #[.int .u64 x156.1.Epoch, .int .i64 x156.1.Pages, .slice A69 x156.1.Maps.length u71, .slice A70 x156.1.User.length u72]] [] [.agg #[.int .u64 x156.1.Epoch, .int .i64 x156.1.Pages, .slice A69 x156.1.Maps.length u71, .slice A70 x156.1.User.length u72], .int .i64 x118] [.cells ⟨b18, 0, none⟩ [.int .u64 x156.1.Epoch, .int .i64 x156.1.Pages, .slice A69 x156.1.Maps.length u71, .slice A70 x156.1.User.length u72] 4] (by kernel_rfl) (s.cells (i := 0) rfl rfl rfl) ?_
  refine RW.op (by kernel_rfl) (OK.store hT (i := 1) (b := b16) (off := 0) (n := 4) (vs := [.int .u64 x156.1.Epoch, .int .i64 x156.1.Pages, .slice A69 x156.1.Maps.length u71, .slice A70 x156.1.User.length u72]) (cs := [.int .u64 x119, .int .i64 x120, .slice A53 x121.length u55, .slice A54 x122.length u56]) (e := 28) s (by kernel_rfl) rfl rfl (flat_ok rfl) (Nat.le_of_ble_eq_true rfl) ?_)
  clear s
  rintro w58 s k46 -
  replace e70 := e70.st k46
  replace e72 := e72.st k46
  replace e71 := e71.st k46
  replace e5 := e5.st k46
  replace e55 := e55.st k46
  replace e56 := e56.st k46
  replace e8 := e8.st k46
  replace e9 := e9.st k46
  replace e1 := e1.st k46
  replace e2 := e2.st k46
  replace rp5 := rp5.st k46
  replace eg2 := eg2.st k46
  replace kk := kk.trans k46
  replace kS2 := kS2.trans k46
  refine RW.seg hT 1 [] [] [.int .i64 x118] [] (by kernel_rfl) (trivial) ?_
  refine RW.nil ?_
  exact fun X h => kc (by kernel_rfl) rfl (h I28 x118 x155 x156.2 x155 x156.1.Epoch x156.1.Pages x156.1.Maps x156.1.User x156.2 x155 x156.1.Epoch x156.1.Pages x156.1.Maps x156.1.User x156.2 x156.1.Epoch x156.1.Pages x156.1.Maps x156.1.User x156.2 x156.2 (decide (¬ (x156.2 = true))) false false x156.1.Epoch x156.1.Pages x156.1.Maps x156.1.User x156.1.Epoch x156.1.Pages x156.1.Maps x156.1.User b18 A68 u70 (.pointer (some ⟨b5, 0 + (x4 + x118).toNat * 1, none⟩)) A68 u70 A69 u71 A70 u72 A68 u70 A69 u71 A70 u72 A69 u71 A70 u72 A69 u71 A70 u72 A69 u71 A70 u72 _ hf s kk kS2 hc69 e70 hc69 e70 hc71 e72 hc70 e71 hc69 e70 hc71 e72 hc70 e71 hc71 e72 hc70 e71 hc71 e72 hc70 e71 hc71 e72 hc70 e71 e8 e9 e1 e2 rp5 e5 eg2)
  have hf := iteF h29 hf
  refine WPK.condF (Eq.trans (b := .bool (decide (x118 < ((x4 + (if 2 < (IntKind.i64.wrap (x4 + 1)) - x4 then 2 else (IntKind.i64.wrap (x4 + 1)) - x4)) - x4)))) (by kernel_rfl) (bo_f h29)) ?_
  refine WPK.exit (blockQ.same ?_)
  refine WPK.seq ?_
  refine WPK.seq ?_
  refine WPK.region ?_
  refine RW.seg hT 2 [] [] [.int .i64 x117, .bool (decide (x117 < 0))] [] (by kernel_rfl) (trivial) ?_
  refine RW.nil ?_
  by_cases h34 : x117 < 0
  have hf := iteT h34 hf
  refine WPK.condT (Eq.trans (b := .bool (decide (x117 < 0))) (by kernel_rfl) (bo_t h34)) ?_
  refine WPK.seq ?_
  refine WPK.region ?_
  refine RW.seg hT 1 [] [] [.agg #[.int .u64 0, .int .i64 0, .slice none 0 0, .slice none 0 0]] [] (by kernel_rfl) (trivial) ?_
  refine RW.op (by kernel_rfl) (OK.store hT (i := 1) (b := b15) (off := 0) (n := 4) (vs := [.int .u64 0, .int .i64 0, .slice none 0 0, .slice none 0 0]) (cs := [.int .u64 0, .int .i64 0, .slice none 0 0, .slice none 0 0]) (e := 28) s (by kernel_rfl) rfl rfl (flat_ok rfl) (Nat.le_of_ble_eq_true rfl) ?_)
  clear s
  rintro w59 s k47 -
  replace e5 := e5.st k47
  replace e55 := e55.st k47
  replace e56 := e56.st k47
  replace e8 := e8.st k47
  replace e9 := e9.st k47
  replace e1 := e1.st k47
  replace e2 := e2.st k47
  replace rp5 := rp5.st k47
  replace eg2 := eg2.st k47
  replace kk := kk.trans k47
  replace kS2 := kS2.trans k47
  refine RW.seg hT 2 [] [] [.int .i64 0, .int .i64 60] [] (by kernel_rfl) (trivial) ?_
  refine RW.nil ?_
  refine WPK.ret (?_)
  refine Fin.of (rs := [.cell 4 28, .tmp 5, .tmp 6]) hT [.agg #[.int .u64 0, .int .i64 0, .slice none 0 0, .slice none 0 0]] (.tuple #[.agg #[.int .u64 0, .int .i64 0, .slice none 0 0, .slice none 0 0], .int .i64 0, .int .i64 60]) [.cells ⟨b15, 0, none⟩ [.int .u64 0, .int .i64 0, .slice none 0 0, .slice none 0 0] 4] rfl (by kernel_rfl) (s.cells (i := 1) rfl rfl rfl) ?_
  replace s := s.pick [2, 3, 4] 5 rfl
  exact fun X h => vc rfl (h I25 0 0 [] [] 0 60 none 0 none 0 _ hf s kk kS2 e5 nil_hc Elems.nil nil_hc Elems.nil e8 e9 e1 e2 rp5 eg2)
  have hf := iteF h34 hf
  refine WPK.condF (Eq.trans (b := .bool (decide (x117 < 0))) (by kernel_rfl) (bo_f h34)) ?_
  refine WPK.skip ?_
  refine WPK.seq ?_
  refine WPK.region ?_
  refine RW.seg hT 2 [.agg #[.int .u64 x119, .int .i64 x120, .slice A53 x121.length u55, .slice A54 x122.length u56]] [] [.agg #[.int .u64 x119, .int .i64 x120, .slice A53 x121.length u55, .slice A54 x122.length u56], .int .i64 x117] [.cells ⟨b16, 0, none⟩ [.int .u64 x119, .int .i64 x120, .slice A53 x121.length u55, .slice A54 x122.length u56] 4] (by kernel_rfl) (s.cells (i := 0) rfl rfl rfl) ?_
  refine RW.op (by kernel_rfl) (OK.store hT (i := 1) (b := b15) (off := 0) (n := 4) (vs := [.int .u64 x119, .int .i64 x120, .slice A53 x121.length u55, .slice A54 x122.length u56]) (cs := [.int .u64 0, .int .i64 0, .slice none 0 0, .slice none 0 0]) (e := 28) s (by kernel_rfl) rfl rfl (flat_ok rfl) (Nat.le_of_ble_eq_true rfl) ?_)
  clear s
  rintro w60 s k48 -
  replace e55 := e55.st k48
  replace e56 := e56.st k48
  replace e5 := e5.st k48
  replace e8 := e8.st k48
  replace e9 := e9.st k48
  replace e1 := e1.st k48
  replace e2 := e2.st k48
  replace rp5 := rp5.st k48
  replace eg2 := eg2.st k48
  replace kk := kk.trans k48
  replace kS2 := kS2.trans k48
  refine RW.seg hT 2 [] [] [.int .i64 x117, .int .i64 0] [] (by kernel_rfl) (trivial) ?_
  refine RW.nil ?_
  refine WPK.ret (?_)
  refine Fin.of (rs := [.cell 4 28, .tmp 5, .tmp 6]) hT [.agg #[.int .u64 x119, .int .i64 x120, .slice A53 x121.length u55, .slice A54 x122.length u56]] (.tuple #[.agg #[.int .u64 x119, .int .i64 x120, .slice A53 x121.length u55, .slice A54 x122.length u56], .int .i64 x117, .int .i64 0]) [.cells ⟨b15, 0, none⟩ [.int .u64 x119, .int .i64 x120, .slice A53 x121.length u55, .slice A54 x122.length u56] 4] rfl (by kernel_rfl) (s.cells (i := 1) rfl rfl rfl) ?_
  replace s := s.pick [2, 3, 4] 5 rfl
  exact fun X h => vc rfl (h I25 x119 x120 x121 x122 x117 0 A53 u55 A54 u56 _ hf s kk kS2 e5 hc54 e55 hc55 e56 e8 e9 e1 e2 rp5 eg2)
  refine WPK.region ?_
  refine RW.seg hT 2 [] [(72, .bool (decide (x13 ≠ 0)))] [.int .i64 x13, .bool (decide (x13 ≠ 0))] [.veq (.bool (x13 != 0)) (.bool (decide (x13 ≠ 0)))] (by kernel_rfl) (ne_v) ?_
  by_cases h35 : x13 ≠ 0
  have hf := iteT h35 hf
  refine RW.seg hT 11 [] [(73, .bool true)] [.bool true, undef, undef, undef, .bool true, .bool true, undef, undef, undef, undef, .bool true] [.veq (.bool (decide (x13 ≠ 0))) (.bool true)] (by kernel_rfl) (bo_t h35) ?_
  refine RW.nil ?_
  replace s := s.pick [0, 1, 3] 4 rfl
  exact fun X h => kc (by kernel_rfl) rfl (h I9 true _ hf s kk e5 e8 e9 e1 e2 rp4 eg2)
  have hf := iteF h35 hf
  refine RW.seg hT 5 [] [(73, .bool false), (76, .bool (decide (x12 ≠ x4)))] [.bool false, .int .i64 x12, .int .i64 x4, .bool (decide (x12 ≠ x4)), .bool (decide (x12 ≠ x4))] [.veq (.bool (decide (x13 ≠ 0))) (.bool false), .veq (.bool (x12 != x4)) (.bool (decide (x12 ≠ x4)))] (by kernel_rfl) (⟨bo_f h35, ne_v⟩) ?_
  by_cases h36 : x12 ≠ x4
  have hf := iteT h36 hf
  refine RW.seg hT 6 [] [(78, .bool true)] [.bool true, undef, undef, undef, undef, .bool true] [.veq (.bool (decide (x12 ≠ x4))) (.bool true)] (by kernel_rfl) (bo_t h36) ?_
  refine RW.nil ?_
  replace s := s.pick [0, 1, 3] 4 rfl
  exact fun X h => kc (by kernel_rfl) rfl (h I9 true _ hf s kk e5 e8 e9 e1 e2 rp4 eg2)
  have hf := iteF h36 hf
  refine RW.seg hT 3 [.agg #[.int .u64 x8, .int .i64 x9, .slice A9 x10.length u9, .slice A10 x11.length u10], .agg #[.int .u64 (IntKind.u64.wrap (p0.Epoch + 1)), .int .i64 p0.Pages, .slice A3 p1.Maps.length u3, .slice A4 p1.User.length u4]] [(78, .bool false)] [.bool false, .agg #[.int .u64 x8, .int .i64 x9, .slice A9 x10.length u9, .slice A10 x11.length u10], .agg #[.int .u64 (IntKind.u64.wrap (p0.Epoch + 1)), .int .i64 p0.Pages, .slice A3 p1.Maps.length u3, .slice A4 p1.User.length u4]] [.veq (.bool (decide (x12 ≠ x4))) (.bool false), .cells ⟨b4, 0, none⟩ [.int .u64 x8, .int .i64 x9, .slice A9 x10.length u9, .slice A10 x11.length u10] 4, .cells ⟨b2, 0, none⟩ [.int .u64 (IntKind.u64.wrap (p0.Epoch + 1)), .int .i64 p0.Pages, .slice A3 p1.Maps.length u3, .slice A4 p1.User.length u4] 4] (by kernel_rfl) (⟨bo_f h36, s.cells (i := 0) rfl rfl rfl, s.cells (i := 2) rfl rfl rfl⟩) ?_
  obtain ⟨x157, hx13, hf⟩ := bindS hf
  refine RW.op (by kernel_rfl) (OK.call' en23 (by kernel_rfl) (c23 (F := (.blk b4 (.cells #[.int .u64 x8, .int .i64 x9, .slice A9 x10.length u9, .slice A10 x11.length u10] 28 (0, 0))) :: (.sl (.slice A8 x7.length u8) 24 1 x7.length cl3) :: (.blk b2 (.cells #[.int .u64 (IntKind.u64.wrap (p0.Epoch + 1)), .int .i64 p0.Pages, .slice A3 p1.Maps.length u3, .slice A4 p1.User.length u4] 28 (0, 0))) :: (.blk b1 (.cells #[.int .u64 p0.Epoch, .int .i64 p0.Pages, .slice A1 p0.Maps.length u1, .slice A2 p0.User.length u2] 28 (0, 0))) :: F) (T_api_Head.mk x8 x9 x10 x11) (T_api_Head.mk (IntKind.u64.wrap (p0.Epoch + 1)) p0.Pages p1.Maps p1.User) A9 u9 A10 u10 A3 u3 A4 u4 hc8 e8 hc9 e9 hc3 e3 hc4 e4 s hx13) ?_)
  intro X20 hX20
  refine fun _ _ hJ => hJ X20 ?_
  clear s
  intro I29 w61 s k49
  refine hX20 _ _ ?_
  replace e5 := e5.st k49
  replace e8 := e8.st k49
  replace e9 := e9.st k49
  replace e3 := e3.st k49
  replace e4 := e4.st k49
  replace e1 := e1.st k49
  replace e2 := e2.st k49
  replace rp4 := rp4.st k49
  replace eg2 := eg2.st k49
  replace kk := kk.trans k49
  refine RW.seg hT 2 [] [(82, .bool (decide (¬ (x157 = true))))] [.bool (decide (¬ (x157 = true))), .bool (decide (¬ (x157 = true)))] [.veq (.bool (!x157)) (.bool (decide (¬ (x157 = true))))] (by kernel_rfl) (not_b) ?_
  refine RW.nil ?_
  replace s := s.pick [0, 1, 3] 4 rfl
  exact fun X h => kc (by kernel_rfl) rfl (h I29 (decide (¬ (x157 = true))) _ hf s kk e5 e8 e9 e1 e2 rp4 eg2)
  refine Ret.of Tryd.func10 rfl ?_
  refine WPK.seq ?_
  refine WPK.region ?_
  refine RW.op (by kernel_rfl) (OK.new hT (f := fun b => .pointer (some ⟨b, 0, none⟩)) (cs := [.int .u64 0, .int .i64 0, .slice none 0 0, .slice none 0 0]) (e := 28) (c := .tt) s (by kernel_rfl) trivial ?_)
  clear s
  rintro w62 b19 s k50 -
  replace e5 := e5.st k50
  replace e3 := e3.st k50
  replace e4 := e4.st k50
  replace e1 := e1.st k50
  replace e2 := e2.st k50
  replace rp4 := rp4.st k50
  replace eg2 := eg2.st k50
  replace kk := kk.trans k50
  refine RW.seg hT 2 [] [] [.int .i64 0, .int .i64 0] [] (by kernel_rfl) (trivial) ?_
  refine RW.nil ?_
  refine WPK.seq ?_
  refine WPK.region ?_
  refine RW.seg hT 1 [] [] [.int .i64 (-1)] [] (by kernel_rfl) (trivial) ?_
  refine RW.nil ?_
  refine WPK.seq ?_
  refine WPK.region ?_
  refine RW.op (by kernel_rfl) (OK.new hT (f := fun b => .pointer (some ⟨b, 0, none⟩)) (cs := [.int .u64 0, .int .i64 0, .slice none 0 0, .slice none 0 0]) (e := 28) (c := .tt) s (by kernel_rfl) trivial ?_)
  clear s
  rintro w63 b20 s k51 -
  replace e5 := e5.st k51
  replace e3 := e3.st k51
  replace e4 := e4.st k51
  replace e1 := e1.st k51
  replace e2 := e2.st k51
  replace rp4 := rp4.st k51
  replace eg2 := eg2.st k51
  replace kk := kk.trans k51
  refine RW.nil ?_
  refine WPK.seq ?_
  refine WPK.seq ?_
  refine WPK.region ?_
  refine RW.seg hT 4 [] [(15, .int .i64 (x7.length : Int))] [.slice A8 x7.length u8, .slice A8 x7.length u8, .int .i64 (x7.length : Int), .int .i64 (if 2 < (x7.length : Int) then 2 else (x7.length : Int))] [.veq (.int .i64 (x7.length : Nat)) (.int .i64 (x7.length : Int))] (by kernel_rfl) (len_v rfl) ?_
  obtain ⟨h37, hf⟩ := iteS hf
  obtain ⟨b21, rfl⟩ := row_addr (s.at (i := 2) rfl) (by have hnn := (rfl : x7.length = x7.length); omega)
  obtain ⟨h38, hf⟩ := iteS hf
  replace h38 : (0 : Int) ≤ 0 ∧ 0 ≤ (if 2 < (x7.length : Int) then 2 else (x7.length : Int)) ∧ (if 2 < (x7.length : Int) then 2 else (x7.length : Int)) ≤ ((x7.length : Nat) : Int) - 0 := by have hnn := (rfl : x7.length = x7.length); omega
  obtain ⟨o3, n11, u73, q17, q18, q19, q20, q21, pt3⟩ := partS (b := b21) (c := u8) (Pt.whole (size := 1) (row_hc (s.at (i := 2) rfl)).1) (Nat.le_refl _) h38
  rw [Int.zero_add, Int.zero_add] at pt3
  refine RW.seg hT 3 [] [(17, .slice (some ⟨b21, o3, none⟩) n11 u73), (18, .int .i64 (if 2 < (x7.length : Int) then 2 else (x7.length : Int)))] [.slice (some ⟨b21, o3, none⟩) n11 u73, .int .i64 (if 2 < (x7.length : Int) then 2 else (x7.length : Int)), .int .i64 0] [.both (.cut 0 (if 2 < (x7.length : Int) then 2 else (x7.length : Int)) u8 u8) (.veq (.slice (some ⟨b21, 0, none⟩) (if 2 < (x7.length : Int) then 2 else (x7.length : Int)).toNat u8) (.slice (some ⟨b21, o3, none⟩) n11 u73)), .veq (.int .i64 (n11 : Nat)) (.int .i64 (if 2 < (x7.length : Int) then 2 else (x7.length : Int)))] (by kernel_rfl) (⟨⟨⟨(q21).1, by have := (q21).2.1; omega, by have := (q21).2.2; omega, by omega⟩, by have e52 := q17; have e53 := q18; have e54 := q19; rw [show (0 : Int).toNat = 0 from rfl] at e52 e53 e54; rw [cutA_zero] at e52; rw [Nat.sub_zero] at e53 e54; exact sl_eq e52 e53 e54⟩, (Pt.len_v pt3).trans (int_v (Int.sub_zero _))⟩) ?_
  refine RW.nil ?_
  refine WPK.block ?_
  refine WPK.loop' (J := fun n12 D13 ds wz => ∀ X : Kont, (∀ (I30 : Nat → Prop) (x158 : Int) (x159 : Int) (x160 : Int) (x161 : Int) (x162 : (List Int)) (x163 : (List Int)) (A71 : Option Addr) (u74 : Nat) (A72 : Option Addr) (u75 : Nat) (w' : World), g7_l17 p0 p1 p2 x4 x7 n12 x158 x159 x160 x161 x162 x163 = some r → St w1 M I30 ((.blk b20 (.cells #[.int .u64 x160, .int .i64 x161, .slice A71 x162.length u74, .slice A72 x163.length u75] 28 (0, 0))) :: (.blk b19 (.cells #[.int .u64 0, .int .i64 0, .slice none 0 0, .slice none 0 0] 28 (0, 0))) :: (.sl (.slice (some ⟨b21, 0, none⟩) x7.length u8) 24 1 x7.length cl3) :: (.blk b2 (.cells #[.int .u64 (IntKind.u64.wrap (p0.Epoch + 1)), .int .i64 p0.Pages, .slice A3 p1.Maps.length u3, .slice A4 p1.User.length u4] 28 (0, 0))) :: (.blk b1 (.cells #[.int .u64 p0.Epoch, .int .i64 p0.Pages, .slice A1 p0.Maps.length u1, .slice A2 p0.User.length u2] 28 (0, 0))) :: F) w' → Kp I w I30 w' → (x162.length ≤ u74 ∧ u74 ≤ 9223372036854775807) → Elems (Rp.int .i64) I30 w' A71 x162 → (x163.length ≤ u75 ∧ u75 ≤ 9223372036854775807) → Elems (Rp.int .u8) I30 w' A72 x163 → Elems (Rp.int .i64) I30 w' A3 p1.Maps → Elems (Rp.int .u8) I30 w' A4 p1.User → Elems (Rp.int .i64) I30 w' A1 p0.Maps → Elems (Rp.int .u8) I30 w' A2 p0.User → RepL (Rp.slice (Rp.int .u8)) I30 w' cl3 x7 → Elems (Rp.int .u8) I30 w' A5 p2 → Elems (Rp.int .u32) I30 w' (some ⟨2, 0, none⟩) TAB2 → X [.int .i64 p0.Pages, (D13.getD 1 undef), (D13.getD 2 undef), (D13.getD 3 undef), .pointer (some ⟨b19, 0, none⟩), .int .i64 0, .int .i64 0, .int .i64 x158, .pointer (some ⟨b20, 0, none⟩), (D13.getD 9 undef), (D13.getD 10 undef), (D13.getD 11 undef), (D13.getD 12 undef), (D13.getD 13 undef), (D13.getD 14 undef), (D13.getD 15 undef), (D13.getD 16 undef), .slice (some ⟨b21, o3, none⟩) n11 u73, .int .i64 (if 2 < (x7.length : Int) then 2 else (x7.length : Int)), .int .i64 x159, (D13.getD 20 undef), (D13.getD 21 undef), (D13.getD 22 undef), (D13.getD 23 undef), (D13.getD 24 undef), (D13.getD 25 undef), (D13.getD 26 undef), (D13.getD 27 undef), (D13.getD 28 undef), (D13.getD 29 undef), (D13.getD 30 undef), (D13.getD 31 undef), (D13.getD 32 undef), (D13.getD 33 undef), (D13.getD 34 undef), (D13.getD 35 undef), (D13.getD 36 undef), (D13.getD 37 undef), (D13.getD 38 undef), (D13.getD 39 undef), (D13.getD 40 undef), (D13.getD 41 undef), (D13.getD 42 undef), (D13.getD 43 undef), (D13.getD 44 undef), (D13.getD 45 undef), (D13.getD 46 undef), undef, undef, undef, undef, undef] [] w') → X D13 ds wz) FUEL (fun X h => kc (by kernel_rfl) rfl (h I8 (-1) 0 0 0 [] [] none 0 none 0 _ hf s kk nil_hc Elems.nil nil_hc Elems.nil e3 e4 e1 e2 rp4 e5 eg2)) (fun _ _ _ hJ => hJ (fun _ _ _ => False) (by intro I30 x158 x159 x160 x161 x162 x163 A71 u74 A72 u75 w64 hf s kk hc72 e73 hc73 e74 e3 e4 e1 e2 rp4 e5 eg2; exact noneS hf)) ?_
  intro X21 hX21
  refine fun n12 D13 _ _ hJ => hJ (X21 n12) ?_
  clear s
  intro I30 x158 x159 x160 x161 x162 x163 A71 u74 A72 u75 w64 hf s kk hc72 e73 hc73 e74 e3 e4 e1 e2 rp4 e5 eg2
  refine hX21 _ _ _ _ ?_
  replace hf : g7_l17B p0 p1 p2 x4 x7 (g7_l17 p0 p1 p2 x4 x7 n12) x158 x159 x160 x161 x162 x163 = some r := hf
  generalize hrec4 : g7_l17 p0 p1 p2 x4 x7 n12 = rec4 at hf
  unfold g7_l17B at hf
  refine WPK.seq ?_
  refine WPK.region ?_
  refine RW.seg hT 1 [] [] [.bool (decide (x159 < (if 2 < (x7.length : Int) then 2 else (x7.length : Int))))] [] (by kernel_rfl) (trivial) ?_
  refine RW.nil ?_
  refine WPK.seq ?_
  by_cases h39 : x159 < (if 2 < (x7.length : Int) then 2 else (x7.length : Int))
  have hf := iteT h39 hf
  refine WPK.condT (Eq.trans (b := .bool (decide (x159 < (if 2 < (x7.length : Int) then 2 else (x7.length : Int))))) (by kernel_rfl) (bo_t h39)) ?_
  refine WPK.skip ?_
  refine WPK.seq ?_
  refine WPK.cut' (Kn fun D14 ds wz => ∀ X : Kont, (∀ (I31 : Nat → Prop) (x164 : Int) (x165 : (List Int)) (x166 : Bool) (x167 : (List Int)) (x168 : Int) (x169 : Int) (x170 : (List Int)) (x171 : (List Int)) (x172 : Bool) (x173 : (List Int)) (x174 : Int) (x175 : Int) (x176 : (List Int)) (x177 : (List Int)) (x178 : Bool) (x179 : Int) (x180 : Int) (x181 : (List Int)) (x182 : (List Int)) (x183 : Bool) (x184 : Bool) (x185 : Bool) (x186 : Bool) (x187 : Bool) (x188 : Int) (x189 : Int) (x190 : (List Int)) (x191 : (List Int)) (x192 : Int) (x193 : Int) (x194 : (List Int)) (x195 : (List Int)) (b22 : Nat) (A73 : Option Addr) (u76 : Nat) (d4 : Value) (A74 : Option Addr) (u77 : Nat) (A75 : Option Addr) (u78 : Nat) (A76 : Option Addr) (u79 : Nat) (A77 : Option Addr) (u80 : Nat) (A78 : Option Addr) (u81 : Nat) (A79 : Option Addr) (u82 : Nat) (A80 : Option Addr) (u83 : Nat) (A81 : Option Addr) (u84 : Nat) (A82 : Option Addr) (u85 : Nat) (A83 : Option Addr) (u86 : Nat) (A84 : Option Addr) (u87 : Nat) (A85 : Option Addr) (u88 : Nat) (w' : World), g7_j18 x159 rec4 x164 x165 x166 x167 x168 x169 x170 x171 x172 x173 x174 x175 x176 x177 x178 x179 x180 x181 x182 x183 x184 x185 x186 x187 x188 x189 x190 x191 x192 x193 x194 x195 = some r → St w1 M I31 ((.blk b22 (.cells #[.int .u64 x188, .int .i64 x189, .slice A82 x190.length u85, .slice A83 x191.length u86] 28 (0, 0))) :: (.blk b20 (.cells #[.int .u64 x192, .int .i64 x193, .slice A84 x194.length u87, .slice A85 x195.length u88] 28 (0, 0))) :: (.blk b19 (.cells #[.int .u64 0, .int .i64 0, .slice none 0 0, .slice none 0 0] 28 (0, 0))) :: (.sl (.slice (some ⟨b21, 0, none⟩) x7.length u8) 24 1 x7.length cl3) :: (.blk b2 (.cells #[.int .u64 (IntKind.u64.wrap (p0.Epoch + 1)), .int .i64 p0.Pages, .slice A3 p1.Maps.length u3, .slice A4 p1.User.length u4] 28 (0, 0))) :: (.blk b1 (.cells #[.int .u64 p0.Epoch, .int .i64 p0.Pages, .slice A1 p0.Maps.length u1, .slice A2 p0.User.length u2] 28 (0, 0))) :: F) w' → Kp I w I31 w' → (x165.length ≤ u76 ∧ u76 ≤ 9223372036854775807) → Elems (Rp.int .u8) I31 w' A73 x165 → (x167.length ≤ u77 ∧ u77 ≤ 9223372036854775807) → Elems (Rp.int .u8) I31 w' A74 x167 → (x170.length ≤ u78 ∧ u78 ≤ 9223372036854775807) → Elems (Rp.int .i64) I31 w' A75 x170 → (x171.length ≤ u79 ∧ u79 ≤ 9223372036854775807) → Elems (Rp.int .u8) I31 w' A76 x171 → (x173.length ≤ u80 ∧ u80 ≤ 9223372036854775807) → Elems (Rp.int .u8) I31 w' A77 x173 → (x176.length ≤ u81 ∧ u81 ≤ 9223372036854775807) → Elems (Rp.int .i64) I31 w' A78 x176 → (x177.length ≤ u82 ∧ u82 ≤ 9223372036854775807) → Elems (Rp.int .u8) I31 w' A79 x177 → (x181.length ≤ u83 ∧ u83 ≤ 9223372036854775807) → Elems (Rp.int .i64) I31 w' A80 x181 → (x182.length ≤ u84 ∧ u84 ≤ 9223372036854775807) → Elems (Rp.int .u8) I31 w' A81 x182 → (x190.length ≤ u85 ∧ u85 ≤ 9223372036854775807) → Elems (Rp.int .i64) I31 w' A82 x190 → (x191.length ≤ u86 ∧ u86 ≤ 9223372036854775807) → Elems (Rp.int .u8) I31 w' A83 x191 → (x194.length ≤ u87 ∧ u87 ≤ 9223372036854775807) → Elems (Rp.int .i64) I31 w' A84 x194 → (x195.length ≤ u88 ∧ u88 ≤ 9223372036854775807) → Elems (Rp.int .u8) I31 w' A85 x195 → Elems (Rp.int .i64) I31 w' A3 p1.Maps → Elems (Rp.int .u8) I31 w' A4 p1.User → Elems (Rp.int .i64) I31 w' A1 p0.Maps → Elems (Rp.int .u8) I31 w' A2 p0.User → RepL (Rp.slice (Rp.int .u8)) I31 w' cl3 x7 → Elems (Rp.int .u8) I31 w' A5 p2 → Elems (Rp.int .u32) I31 w' (some ⟨2, 0, none⟩) TAB2 → X [.int .i64 p0.Pages, (D14.getD 1 undef), (D14.getD 2 undef), (D14.getD 3 undef), .pointer (some ⟨b19, 0, none⟩), .int .i64 0, .int .i64 0, .int .i64 x164, .pointer (some ⟨b20, 0, none⟩), .int .i64 x159, .slice A73 x165.length u76, .pointer (some ⟨b22, 0, none⟩), .bool x166, (D14.getD 13 undef), (D14.getD 14 undef), (D14.getD 15 undef), (D14.getD 16 undef), .slice (some ⟨b21, o3, none⟩) n11 u73, .int .i64 (if 2 < (x7.length : Int) then 2 else (x7.length : Int)), .int .i64 x159, .bool (decide (x159 < (if 2 < (x7.length : Int) then 2 else (x7.length : Int)))), .int .i64 x159, d4, .slice A74 x167.length u77, .tuple #[.agg #[.int .u64 x168, .int .i64 x169, .slice A75 x170.length u78, .slice A76 x171.length u79], .bool x172], .int .i64 p0.Pages, .int .i64 x159, .slice A77 x173.length u80, .tuple #[.agg #[.int .u64 x174, .int .i64 x175, .slice A78 x176.length u81, .slice A79 x177.length u82], .bool x178], .agg #[.int .u64 x179, .int .i64 x180, .slice A80 x181.length u83, .slice A81 x182.length u84], .bool x183, .bool x184, .bool x185, .bool x186, (D14.getD 34 undef), (D14.getD 35 undef), (D14.getD 36 undef), (D14.getD 37 undef), (D14.getD 38 undef), (D14.getD 39 undef), (D14.getD 40 undef), (D14.getD 41 undef), (D14.getD 42 undef), .bool x187, (D14.getD 44 undef), (D14.getD 45 undef), (D13.getD 46 undef), undef, undef, undef, undef, undef] [] w') → X D14 ds wz) ?_ ?_
  intro X22 hX22
  refine fun D14 _ _ hJ => hJ X22 ?_
  clear s
  intro I31 x164 x165 x166 x167 x168 x169 x170 x171 x172 x173 x174 x175 x176 x177 x178 x179 x180 x181 x182 x183 x184 x185 x186 x187 x188 x189 x190 x191 x192 x193 x194 x195 b22 A73 u76 d4 A74 u77 A75 u78 A76 u79 A77 u80 A78 u81 A79 u82 A80 u83 A81 u84 A82 u85 A83 u86 A84 u87 A85 u88 w65 hf s kk hc74 e75 hc75 e76 hc76 e77 hc77 e78 hc78 e79 hc79 e80 hc80 e81 hc81 e82 hc82 e83 hc83 e84 hc84 e85 hc85 e86 hc86 e87 e3 e4 e1 e2 rp4 e5 eg2
  refine hX22 _ _ _ ?_
  unfold g7_j18 at hf
  refine WPK.region ?_
  refine RW.seg hT 2 [] [] [.int .i64 (IntKind.i64.wrap (x159 + 1)), .int .i64 (IntKind.i64.wrap (x159 + 1))] [] (by kernel_rfl) (trivial) ?_
  refine RW.nil ?_
  subst hrec4
  replace s := s.pick [1, 2, 3, 4, 5] 6 rfl
  exact ⟨n12, Nat.le_refl _, fun X h => kc (by kernel_rfl) rfl (h I31 x164 (IntKind.i64.wrap (x159 + 1)) x192 x193 x194 x195 A84 u87 A85 u88 _ hf s kk hc85 e86 hc86 e87 e3 e4 e1 e2 rp4 e5 eg2)⟩
  refine WPK.block ?_
  refine WPK.seq ?_
  refine WPK.region ?_
  obtain ⟨h40, hf⟩ := iteS hf
  obtain ⟨x196, hx14, hf⟩ := bindS hf
  obtain ⟨-, hx14⟩ := getS hx14
  obtain ⟨-, cs4, hr4, ha4⟩ := St.elem s (i := 2) rfl rfl rp4 hx14
  replace ha4 := ha4 _ rfl
  obtain ⟨A86, u89, rfl, q22, q23, e88⟩ := hr4
  have hc87 := And.intro q22 q23
  refine RW.seg hT 5 [.slice A86 x196.length u89] [(22, .pointer (some ⟨b21, 0 + (0 + x159).toNat * 1, none⟩))] [.int .i64 x159, .pointer (some ⟨b21, 0 + (0 + x159).toNat * 1, none⟩), .slice A86 x196.length u89, .int .i64 x159, .slice A86 x196.length u89] [.both (.idx x159 n11) (.veq (.pointer (some ⟨b21, o3 + x159.toNat * 1, none⟩)) (.pointer (some ⟨b21, 0 + (0 + x159).toNat * 1, none⟩))), .cell ⟨b21, 0 + (0 + x159).toNat * 1, none⟩ (.slice A86 x196.length u89)] (by kernel_rfl) (⟨⟨(Pt.idx (b := b21) pt3 h40).1, (Pt.idx (b := b21) pt3 h40).2⟩, ha4 0 _ rfl⟩) ?_
  refine RW.nil ?_
  refine WPK.seq ?_
  refine WPK.region ?_
  refine RW.seg hT 3 [] [] [.int .i64 p0.Pages, .int .i64 x159, .slice A86 x196.length u89] [] (by kernel_rfl) (trivial) ?_
  obtain ⟨x197, hx15, hf⟩ := bindS hf
  refine RW.op (by kernel_rfl) (OK.call' en30 (by kernel_rfl) (c30 (F := (.blk b20 (.cells #[.int .u64 x160, .int .i64 x161, .slice A71 x162.length u74, .slice A72 x163.length u75] 28 (0, 0))) :: (.blk b19 (.cells #[.int .u64 0, .int .i64 0, .slice none 0 0, .slice none 0 0] 28 (0, 0))) :: (.sl (.slice (some ⟨b21, 0, none⟩) x7.length u8) 24 1 x7.length cl3) :: (.blk b2 (.cells #[.int .u64 (IntKind.u64.wrap (p0.Epoch + 1)), .int .i64 p0.Pages, .slice A3 p1.Maps.length u3, .slice A4 p1.User.length u4] 28 (0, 0))) :: (.blk b1 (.cells #[.int .u64 p0.Epoch, .int .i64 p0.Pages, .slice A1 p0.Maps.length u1, .slice A2 p0.User.length u2] 28 (0, 0))) :: F) p0.Pages x159 x196 A86 u89 hc87 e88 eg2 s hx15) ?_)
  intro X23 hX23
  refine fun _ _ hJ => hJ X23 ?_
  clear s
  intro I32 A87 n13 u90 cl8 A88 u91 w66 s k52 hn9 rp12 hc88 e89
  refine hX23 _ _ ?_
  replace e88 := e88.st k52
  replace e5 := e5.st k52
  replace e73 := e73.st k52
  replace e74 := e74.st k52
  replace e3 := e3.st k52
  replace e4 := e4.st k52
  replace e1 := e1.st k52
  replace e2 := e2.st k52
  replace rp4 := rp4.st k52
  replace eg2 := eg2.st k52
  replace kk := kk.trans k52
  rw [hn9] at s
  try rw [hn9]
  obtain ⟨I33, s', k53, hc89, e90⟩ := St.give s (i := 0) rfl rfl rp12
  replace s := s'; clear s'
  replace e88 := e88.st k53
  replace e89 := e89.st k53
  replace e5 := e5.st k53
  replace e73 := e73.st k53
  replace e74 := e74.st k53
  replace e3 := e3.st k53
  replace e4 := e4.st k53
  replace e1 := e1.st k53
  replace e2 := e2.st k53
  replace rp4 := rp4.st k53
  replace eg2 := eg2.st k53
  replace kk := kk.trans k53
  refine RW.seg hT 3 [] [] [.tuple #[.agg #[.int .u64 x197.1.Epoch, .int .i64 x197.1.Pages, .slice A87 x197.1.Maps.length u90, .slice A88 x197.1.User.length u91], .bool x197.2], .agg #[.int .u64 x197.1.Epoch, .int .i64 x197.1.Pages, .slice A87 x197.1.Maps.length u90, .slice A88 x197.1.User.length u91], .bool x197.2] [] (by kernel_rfl) (trivial) ?_
  refine RW.op (by kernel_rfl) (OK.new hT (f := fun b => .pointer (some ⟨b, 0, none⟩)) (cs := [.int .u64 0, .int .i64 0, .slice none 0 0, .slice none 0 0]) (e := 28) (c := .tt) s (by kernel_rfl) trivial ?_)
  clear s
  rintro w67 b23 s k54 -
  replace e88 := e88.st k54
  replace e90 := e90.st k54
  replace e89 := e89.st k54
  replace e5 := e5.st k54
  replace e73 := e73.st k54
  replace e74 := e74.st k54
  replace e3 := e3.st k54
  replace e4 := e4.st k54
  replace e1 := e1.st k54
  replace e2 := e2.st k54
  replace rp4 := rp4.st k54
  replace eg2 := eg2.st k54
  replace kk := kk.trans k54
  refine RW.op (by kernel_rfl) (OK.store hT (i := 0) (b := b23) (off := 0) (n := 4) (vs := [.int .u64 x197.1.Epoch, .int .i64 x197.1.Pages, .slice A87 x197.1.Maps.length u90, .slice A88 x197.1.User.length u91]) (cs := [.int .u64 0, .int .i64 0, .slice none 0 0, .slice none 0 0]) (e := 28) s (by kernel_rfl) rfl rfl (flat_ok rfl) (Nat.le_of_ble_eq_true rfl) ?_)
  clear s
  rintro w68 s k55 -
  replace e88 := e88.st k55
  replace e90 := e90.st k55
  replace e89 := e89.st k55
  replace e5 := e5.st k55
  replace e73 := e73.st k55
  replace e74 := e74.st k55
  replace e3 := e3.st k55
  replace e4 := e4.st k55
  replace e1 := e1.st k55
  replace e2 := e2.st k55
  replace rp4 := rp4.st k55
  replace eg2 := eg2.st k55
  replace kk := kk.trans k55
  refine RW.seg hT 1 [] [] [.bool x197.2] [] (by kernel_rfl) (trivial) ?_
  refine RW.nil ?_
  refine WPK.seq ?_
  refine WPK.seq ?_
  refine WPK.region ?_
  refine RW.seg hT 2 [] [(32, .bool (decide (¬ (x197.2 = true))))] [.bool x197.2, .bool (decide (¬ (x197.2 = true)))] [.veq (.bool (!x197.2)) (.bool (decide (¬ (x197.2 = true))))] (by kernel_rfl) (not_b) ?_
  by_cases h41 : ¬ (x197.2 = true)
  have hf := iteT h41 hf
  refine RW.seg hT 11 [] [(33, .bool true)] [.bool true, undef, undef, undef, undef, undef, undef, undef, undef, undef, .bool true] [.veq (.bool (decide (¬ (x197.2 = true)))) (.bool true)] (by kernel_rfl) (bo_t h41) ?_
  refine RW.nil ?_
  refine WPK.condT (by kernel_rfl) ?_
  refine WPK.exit (blockQ.same ?_)
  exact fun X h => kc (by kernel_rfl) rfl (h I33 x158 x196 x197.2 x196 x197.1.Epoch x197.1.Pages x197.1.Maps x197.1.User x197.2 x196 x197.1.Epoch x197.1.Pages x197.1.Maps x197.1.User x197.2 x197.1.Epoch x197.1.Pages x197.1.Maps x197.1.User x197.2 x197.2 (decide (¬ (x197.2 = true))) true true x197.1.Epoch x197.1.Pages x197.1.Maps x197.1.User x160 x161 x162 x163 b23 A86 u89 (.pointer (some ⟨b21, 0 + (0 + x159).toNat * 1, none⟩)) A86 u89 A87 u90 A88 u91 A86 u89 A87 u90 A88 u91 A87 u90 A88 u91 A87 u90 A88 u91 A71 u74 A72 u75 _ hf s kk hc87 e88 hc87 e88 hc89 e90 hc88 e89 hc87 e88 hc89 e90 hc88 e89 hc89 e90 hc88 e89 hc89 e90 hc88 e89 hc72 e73 hc73 e74 e3 e4 e1 e2 rp4 e5 eg2)
  have hf := iteF h41 hf
  refine RW.seg hT 3 [] [(33, .bool false)] [.bool false, .int .i64 x158, .bool (decide (x158 ≥ 0))] [.veq (.bool (decide (¬ (x197.2 = true)))) (.bool false)] (by kernel_rfl) (bo_f h41) ?_
  by_cases h42 : x158 ≥ 0
  have hf := iteT h42 hf
  refine RW.seg hT 8 [.int .u64 x197.1.Epoch, .int .u64 x160] [(36, .bool true)] [.bool true, .pointer (some ⟨b23, 0, none⟩), .int .u64 x197.1.Epoch, .pointer (some ⟨b20, 0, none⟩), .int .u64 x160, .bool (decide (x197.1.Epoch ≤ x160)), .bool (decide (x197.1.Epoch ≤ x160)), .bool (decide (x197.1.Epoch ≤ x160))] [.veq (.bool (decide (x158 ≥ 0))) (.bool true), .cell ⟨b23, 0, none⟩ (.int .u64 x197.1.Epoch), .cell ⟨b20, 0, none⟩ (.int .u64 x160)] (by kernel_rfl) (⟨bo_t h42, s.cell (i := 0) (off := 0) rfl rfl, s.cell (i := 1) (off := 0) rfl rfl⟩) ?_
  refine RW.nil ?_
  by_cases h43 : x197.1.Epoch ≤ x160
  have hf := iteT h43 hf
  refine WPK.condT (Eq.trans (b := .bool (decide (x197.1.Epoch ≤ x160))) (by kernel_rfl) (bo_t h43)) ?_
  refine WPK.exit (blockQ.same ?_)
  exact fun X h => kc (by kernel_rfl) rfl (h I33 x158 x196 x197.2 x196 x197.1.Epoch x197.1.Pages x197.1.Maps x197.1.User x197.2 x196 x197.1.Epoch x197.1.Pages x197.1.Maps x197.1.User x197.2 x197.1.Epoch x197.1.Pages x197.1.Maps x197.1.User x197.2 x197.2 (decide (¬ (x197.2 = true))) false (decide (x197.1.Epoch ≤ x160)) x197.1.Epoch x197.1.Pages x197.1.Maps x197.1.User x160 x161 x162 x163 b23 A86 u89 (.pointer (some ⟨b21, 0 + (0 + x159).toNat * 1, none⟩)) A86 u89 A87 u90 A88 u91 A86 u89 A87 u90 A88 u91 A87 u90 A88 u91 A87 u90 A88 u91 A71 u74 A72 u75 _ hf s kk hc87 e88 hc87 e88 hc89 e90 hc88 e89 hc87 e88 hc89 e90 hc88 e89 hc89 e90 hc88 e89 hc89 e90 hc88 e89 hc72 e73 hc73 e74 e3 e4 e1 e2 rp4 e5 eg2)
  have hf := iteF h43 hf
  refine WPK.condF (Eq.trans (b := .bool (decide (x197.1.Epoch ≤ x160))) (by kernel_rfl) (bo_f h43)) ?_
  refine WPK.skip ?_
  refine WPK.region ?_
  refine RW.seg hT 2 [.agg #[.int .u64 x197.1.Epoch, .int .i64 x197.1.Pages, .slice A87 x197.1.Maps.length u90, .slice A88 x197.1.User.length u91]] [] [.agg #[.int .u64 x197.1.Epoch, .int .i64 x197.1.Pages, .slice A87 x197.1.Maps.length u90, .slice A88 x197.1.User.length u91], .int .i64 x159] [.cells ⟨b23, 0, none⟩ [.int .u64 x197.1.Epoch, .int .i64 x197.1.Pages, .slice A87 x197.1.Maps.length u90, .slice A88 x197.1.User.length u91] 4] (by kernel_rfl) (s.cells (i := 0) rfl rfl rfl) ?_
  refine RW.op (by kernel_rfl) (OK.store hT (i := 1) (b := b20) (off := 0) (n := 4) (vs := [.int .u64 x197.1.Epoch, .int .i64 x197.1.Pages, .slice A87 x197.1.Maps.length u90, .slice A88 x197.1.User.length u91]) (cs := [.int .u64 x160, .int .i64 x161, .slice A71 x162.length u74, .slice A72 x163.length u75]) (e := 28) s (by kernel_rfl) rfl rfl (flat_ok rfl) (Nat.le_of_ble_eq_true rfl) ?_)
  clear s
  rintro w69 s k56 -
  replace e88 := e88.st k56
  replace e90 := e90.st k56
  replace e89 := e89.st k56
  replace e5 := e5.st k56
  replace e73 := e73.st k56
  replace e74 := e74.st k56
  replace e3 := e3.st k56
  replace e4 := e4.st k56
  replace e1 := e1.st k56
  replace e2 := e2.st k56
  replace rp4 := rp4.st k56
  replace eg2 := eg2.st k56
  replace kk := kk.trans k56
  refine RW.seg hT 1 [] [] [.int .i64 x159] [] (by kernel_rfl) (trivial) ?_
  refine RW.nil ?_
  exact fun X h => kc (by kernel_rfl) rfl (h I33 x159 x196 x197.2 x196 x197.1.Epoch x197.1.Pages x197.1.Maps x197.1.User x197.2 x196 x197.1.Epoch x197.1.Pages x197.1.Maps x197.1.User x197.2 x197.1.Epoch x197.1.Pages x197.1.Maps x197.1.User x197.2 x197.2 (decide (¬ (x197.2 = true))) false (decide (x197.1.Epoch ≤ x160)) x197.1.Epoch x197.1.Pages x197.1.Maps x197.1.User x197.1.Epoch x197.1.Pages x197.1.Maps x197.1.User b23 A86 u89 (.pointer (some ⟨b21, 0 + (0 + x159).toNat * 1, none⟩)) A86 u89 A87 u90 A88 u91 A86 u89 A87 u90 A88 u91 A87 u90 A88 u91 A87 u90 A88 u91 A87 u90 A88 u91 _ hf s kk hc87 e88 hc87 e88 hc89 e90 hc88 e89 hc87 e88 hc89 e90 hc88 e89 hc89 e90 hc88 e89 hc89 e90 hc88 e89 hc89 e90 hc88 e89 e3 e4 e1 e2 rp4 e5 eg2)
  have hf := iteF h42 hf
  refine RW.seg hT 8 [] [(36, .bool false)] [.bool false, undef, undef, undef, undef, undef, .bool false, .bool false] [.veq (.bool (decide (x158 ≥ 0))) (.bool false)] (by kernel_rfl) (bo_f h42) ?_
  refine RW.nil ?_
  refine WPK.condF (by kernel_rfl) ?_
  refine WPK.skip ?_
  refine WPK.region ?_
  refine RW.seg hT 2 [.agg #[.int .u64 x197.1.Epoch, .int .i64 x197.1.Pages, .slice A87 x197.1.Maps.length u90, .slice A88 x197.1.User.length u91]] [] [.agg #[.int .u64 x197.1.Epoch, .int .i64 x197.1.Pages, .slice A87 x197.1.Maps.length u90, .slice A88 x197.1.User.length u91], .int .i64 x159] [.cells ⟨b23, 0, none⟩ [.int .u64 x197.1.Epoch, .int .i64 x197.1.Pages, .slice A87 x197.1.Maps.length u90, .slice A88 x197.1.User.length u91] 4] (by kernel_rfl) (s.cells (i := 0) rfl rfl rfl) ?_
  refine RW.op (by kernel_rfl) (OK.store hT (i := 1) (b := b20) (off := 0) (n := 4) (vs := [.int .u64 x197.1.Epoch, .int .i64 x197.1.Pages, .slice A87 x197.1.Maps.length u90, .slice A88 x197.1.User.length u91]) (cs := [.int .u64 x160, .int .i64 x161, .slice A71 x162.length u74, .slice A72 x163.length u75]) (e := 28) s (by kernel_rfl) rfl rfl (flat_ok rfl) (Nat.le_of_ble_eq_true rfl) ?_)
  clear s
  rintro w70 s k57 -
  replace e88 := e88.st k57
  replace e90 := e90.st k57
  replace e89 := e89.st k57
  replace e5 := e5.st k57
  replace e73 := e73.st k57
  replace e74 := e74.st k57
  replace e3 := e3.st k57
  replace e4 := e4.st k57
  replace e1 := e1.st k57
  replace e2 := e2.st k57
  replace rp4 := rp4.st k57
  replace eg2 := eg2.st k57
  replace kk := kk.trans k57
  refine RW.seg hT 1 [] [] [.int .i64 x159] [] (by kernel_rfl) (trivial) ?_
  refine RW.nil ?_
  exact fun X h => kc (by kernel_rfl) rfl (h I33 x159 x196 x197.2 x196 x197.1.Epoch x197.1.Pages x197.1.Maps x197.1.User x197.2 x196 x197.1.Epoch x197.1.Pages x197.1.Maps x197.1.User x197.2 x197.1.Epoch x197.1.Pages x197.1.Maps x197.1.User x197.2 x197.2 (decide (¬ (x197.2 = true))) false false x197.1.Epoch x197.1.Pages x197.1.Maps x197.1.User x197.1.Epoch x197.1.Pages x197.1.Maps x197.1.User b23 A86 u89 (.pointer (some ⟨b21, 0 + (0 + x159).toNat * 1, none⟩)) A86 u89 A87 u90 A88 u91 A86 u89 A87 u90 A88 u91 A87 u90 A88 u91 A87 u90 A88 u91 A87 u90 A88 u91 _ hf s kk hc87 e88 hc87 e88 hc89 e90 hc88 e89 hc87 e88 hc89 e90 hc88 e89 hc89 e90 hc88 e89 hc89 e90 hc88 e89 hc89 e90 hc88 e89 e3 e4 e1 e2 rp4 e5 eg2)
  have hf := iteF h39 hf
  refine WPK.condF (Eq.trans (b := .bool (decide (x159 < (if 2 < (x7.length : Int) then 2 else (x7.length : Int))))) (by kernel_rfl) (bo_f h39)) ?_
  refine WPK.exit (blockQ.same ?_)
  refine WPK.seq ?_
  refine WPK.seq ?_
  refine WPK.region ?_
  refine RW.seg hT 2 [] [] [.int .i64 x158, .bool (decide (x158 < 0))] [] (by kernel_rfl) (trivial) ?_
  refine RW.nil ?_
  by_cases h44 : x158 < 0
  have hf := iteT h44 hf
  refine WPK.condT (Eq.trans (b := .bool (decide (x158 < 0))) (by kernel_rfl) (bo_t h44)) ?_
  refine WPK.seq ?_
  refine WPK.region ?_
  refine RW.seg hT 1 [] [] [.agg #[.int .u64 0, .int .i64 0, .slice none 0 0, .slice none 0 0]] [] (by kernel_rfl) (trivial) ?_
  refine RW.op (by kernel_rfl) (OK.store hT (i := 1) (b := b19) (off := 0) (n := 4) (vs := [.int .u64 0, .int .i64 0, .slice none 0 0, .slice none 0 0]) (cs := [.int .u64 0, .int .i64 0, .slice none 0 0, .slice none 0 0]) (e := 28) s (by kernel_rfl) rfl rfl (flat_ok rfl) (Nat.le_of_ble_eq_true rfl) ?_)
  clear s
  rintro w71 s k58 -
  replace e5 := e5.st k58
  replace e73 := e73.st k58
  replace e74 := e74.st k58
  replace e3 := e3.st k58
  replace e4 := e4.st k58
  replace e1 := e1.st k58
  replace e2 := e2.st k58
  replace rp4 := rp4.st k58
  replace eg2 := eg2.st k58
  replace kk := kk.trans k58
  refine RW.seg hT 2 [] [] [.int .i64 0, .int .i64 60] [] (by kernel_rfl) (trivial) ?_
  refine RW.nil ?_
  refine WPK.ret (?_)
  refine Fin.of (rs := [.cell 4 28, .tmp 5, .tmp 6]) hT [.agg #[.int .u64 0, .int .i64 0, .slice none 0 0, .slice none 0 0]] (.tuple #[.agg #[.int .u64 0, .int .i64 0, .slice none 0 0, .slice none 0 0], .int .i64 0, .int .i64 60]) [.cells ⟨b19, 0, none⟩ [.int .u64 0, .int .i64 0, .slice none 0 0, .slice none 0 0] 4] rfl (by kernel_rfl) (s.cells (i := 1) rfl rfl rfl) ?_
  replace s := s.pick [2, 3, 4] 5 rfl
  exact fun X h => vc rfl (h I30 0 0 [] [] 0 60 none 0 none 0 _ hf s kk e5 nil_hc Elems.nil nil_hc Elems.nil e3 e4 e1 e2 rp4 eg2)
  have hf := iteF h44 hf
  refine WPK.condF (Eq.trans (b := .bool (decide (x158 < 0))) (by kernel_rfl) (bo_f h44)) ?_
  refine WPK.skip ?_
  refine WPK.seq ?_
  refine WPK.region ?_
  refine RW.seg hT 2 [.agg #[.int .u64 x160, .int .i64 x161, .slice A71 x162.length u74, .slice A72 x163.length u75]] [] [.agg #[.int .u64 x160, .int .i64 x161, .slice A71 x162.length u74, .slice A72 x163.length u75], .int .i64 x158] [.cells ⟨b20, 0, none⟩ [.int .u64 x160, .int .i64 x161, .slice A71 x162.length u74, .slice A72 x163.length u75] 4] (by kernel_rfl) (s.cells (i := 0) rfl rfl rfl) ?_
  refine RW.op (by kernel_rfl) (OK.store hT (i := 1) (b := b19) (off := 0) (n := 4) (vs := [.int .u64 x160, .int .i64 x161, .slice A71 x162.length u74, .slice A72 x163.length u75]) (cs := [.int .u64 0, .int .i64 0, .slice none 0 0, .slice none 0 0]) (e := 28) s (by kernel_rfl) rfl rfl (flat_ok rfl) (Nat.le_of_ble_eq_true rfl) ?_)
  clear s
  rintro w72 s k59 -
  replace e73 := e73.st k59
  replace e74 := e74.st k59
  replace e5 := e5.st k59
  replace e3 := e3.st k59
  replace e4 := e4.st k59
  replace e1 := e1.st k59
  replace e2 := e2.st k59
  replace rp4 := rp4.st k59
  replace eg2 := eg2.st k59
  replace kk := kk.trans k59
  refine RW.seg hT 2 [] [] [.int .i64 x158, .int .i64 0] [] (by kernel_rfl) (trivial) ?_
  refine RW.nil ?_
  refine WPK.ret (?_)
  refine Fin.of (rs := [.cell 4 28, .tmp 5, .tmp 6]) hT [.agg #[.int .u64 x160, .int .i64 x161, .slice A71 x162.length u74, .slice A72 x163.length u75]] (.tuple #[.agg #[.int .u64 x160, .int .i64 x161, .slice A71 x162.length u74, .slice A72 x163.length u75], .int .i64 x158, .int .i64 0]) [.cells ⟨b19, 0, none⟩ [.int .u64 x160, .int .i64 x161, .slice A71 x162.length u74, .slice A72 x163.length u75] 4] rfl (by kernel_rfl) (s.cells (i := 1) rfl rfl rfl) ?_
  replace s := s.pick [2, 3, 4] 5 rfl
  exact fun X h => vc rfl (h I30 x160 x161 x162 x163 x158 0 A71 u74 A72 u75 _ hf s kk e5 hc72 e73 hc73 e74 e3 e4 e1 e2 rp4 eg2)
  refine WPK.seq ?_
  refine WPK.region ?_
  refine RW.seg hT 2 [] [(57, .bool (decide (x4 = 0)))] [.int .i64 x4, .bool (decide (x4 = 0))] [.veq (.bool (x4 == 0)) (.bool (decide (x4 = 0)))] (by kernel_rfl) (eq_v) ?_
  refine RW.nil ?_
  by_cases h45 : x4 = 0
  have hf := iteT h45 hf
  refine WPK.condT (Eq.trans (b := .bool (decide (x4 = 0))) (by kernel_rfl) (bo_t h45)) ?_
  have e5S3 := e5
  have e1S3 := e1
  have e2S3 := e2
  have e6S3 := e6
  have e3S3 := e3
  have e4S3 := e4
  have e7S3 := e7
  have rp3S3 := rp3
  have eg2S68929 := eg2
  have kS3 : Kp I7 w12 I7 w12 := Kp.refl
  refine WPK.drawM (fun w' => ∃ I' : Nat → Prop, St w1 M I' ((.sl (.slice (some ⟨b3, 0, none⟩) 2 2) 24 1 2 [.slice A6 x5.length u6, .slice A7 x6.length u7]) :: (.blk b2 (.cells #[.int .u64 (IntKind.u64.wrap (p0.Epoch + 1)), .int .i64 p0.Pages, .slice A3 p1.Maps.length u3, .slice A4 p1.User.length u4] 28 (0, 0))) :: (.blk b1 (.cells #[.int .u64 p0.Epoch, .int .i64 p0.Pages, .slice A1 p0.Maps.length u1, .slice A2 p0.User.length u2] 28 (0, 0))) :: F) w' ∧ Kp I7 w12 I' w') 6 [0, 1, 0, 7, 15, 31] (by kernel_rfl) (by kernel_rfl) ?_
  intro ht3 w73 hd3
  have k60 := Kp.dr s hd3
  replace s := s.dr hd3
  replace e5 := e5.st k60
  replace e1 := e1.st k60
  replace e2 := e2.st k60
  replace e6 := e6.st k60
  replace e3 := e3.st k60
  replace e4 := e4.st k60
  replace e7 := e7.st k60
  replace rp3 := rp3.st k60
  replace eg2 := eg2.st k60
  replace kk := kk.trans k60
  replace kS3 := kS3.trans k60
  refine RD.segM hT ht3 (by kernel_rfl) [0, 2] [.agg #[.int .u64 (IntKind.u64.wrap (p0.Epoch + 1)), .int .i64 p0.Pages, .slice A3 p1.Maps.length u3, .slice A4 p1.User.length u4], .agg #[.int .u64 p0.Epoch, .int .i64 p0.Pages, .slice A1 p0.Maps.length u1, .slice A2 p0.User.length u2]] [] [.agg #[.int .u64 (IntKind.u64.wrap (p0.Epoch + 1)), .int .i64 p0.Pages, .slice A3 p1.Maps.length u3, .slice A4 p1.User.length u4], .agg #[.int .u64 p0.Epoch, .int .i64 p0.Pages, .slice A1 p0.Maps.length u1, .slice A2 p0.User.length u2]] [.cells ⟨b2, 0, none⟩ [.int .u64 (IntKind.u64.wrap (p0.Epoch + 1)), .int .i64 p0.Pages, .slice A3 p1.Maps.length u3, .slice A4 p1.User.length u4] 4, .cells ⟨b1, 0, none⟩ [.int .u64 p0.Epoch, .int .i64 p0.Pages, .slice A1 p0.Maps.length u1, .slice A2 p0.User.length u2] 4] (by kernel_rfl) (by rintro w' ⟨I', s, k⟩; have e5 := e5S3.st k; have e1 := e1S3.st k; have e2 := e2S3.st k; have e6 := e6S3.st k; have e3 := e3S3.st k; have e4 := e4S3.st k; have e7 := e7S3.st k; have rp3 := rp3S3.st k; have eg2 := eg2S68929.st k; exact ⟨s.cells (i := 1) rfl rfl rfl, s.cells (i := 2) rfl rfl rfl⟩) ⟨_, s.pick [0, 1, 2] 3 rfl, kS3⟩ ?_
  obtain ⟨x198, hx16, hf⟩ := bindS hf
  refine RD.op (i := 1) rfl (by kernel_rfl) (by kernel_rfl) (OK.call' en27 (by kernel_rfl) (c27 (F := (.sl (.slice (some ⟨b3, 0, none⟩) 2 2) 24 1 2 [.slice A6 x5.length u6, .slice A7 x6.length u7]) :: (.blk b2 (.cells #[.int .u64 (IntKind.u64.wrap (p0.Epoch + 1)), .int .i64 p0.Pages, .slice A3 p1.Maps.length u3, .slice A4 p1.User.length u4] 28 (0, 0))) :: (.blk b1 (.cells #[.int .u64 p0.Epoch, .int .i64 p0.Pages, .slice A1 p0.Maps.length u1, .slice A2 p0.User.length u2] 28 (0, 0))) :: F) (T_api_Head.mk (IntKind.u64.wrap (p0.Epoch + 1)) p0.Pages p1.Maps p1.User) A3 u3 A4 u4 hc3 e3 hc4 e4 eg2 s hx16) ?_)
  intro X24 hX24
  refine fun _ _ hJ => hJ X24 ?_
  clear s
  intro I34 A89 n14 u92 cl9 w74 s k61 hn10 rp13
  refine hX24 _ _ ?_
  replace e5 := e5.st k61
  replace e1 := e1.st k61
  replace e2 := e2.st k61
  replace e6 := e6.st k61
  replace e3 := e3.st k61
  replace e4 := e4.st k61
  replace e7 := e7.st k61
  replace rp3 := rp3.st k61
  replace eg2 := eg2.st k61
  replace kk := kk.trans k61
  replace kS3 := kS3.trans k61
  refine ⟨fun _ => ⟨_, s.pick [1, 2, 3] 4 rfl, kS3⟩, RD.fold ?_⟩
  obtain ⟨x199, hx17, hf⟩ := bindS hf
  refine RD.op (i := 3) rfl (by kernel_rfl) (by kernel_rfl) (OK.call' en27 (by kernel_rfl) (c27 (F := (.sl (.slice A89 n14 u92) 91 1 n14 cl9) :: (.sl (.slice (some ⟨b3, 0, none⟩) 2 2) 24 1 2 [.slice A6 x5.length u6, .slice A7 x6.length u7]) :: (.blk b2 (.cells #[.int .u64 (IntKind.u64.wrap (p0.Epoch + 1)), .int .i64 p0.Pages, .slice A3 p1.Maps.length u3, .slice A4 p1.User.length u4] 28 (0, 0))) :: (.blk b1 (.cells #[.int .u64 p0.Epoch, .int .i64 p0.Pages, .slice A1 p0.Maps.length u1, .slice A2 p0.User.length u2] 28 (0, 0))) :: F) p0 A1 u1 A2 u2 hc1 e1 hc2 e2 eg2 s hx17) ?_)
  intro X25 hX25
  refine fun _ _ hJ => hJ X25 ?_
  clear s
  intro I35 A90 n15 u93 cl10 w75 s k62 hn11 rp14
  refine hX25 _ _ ?_
  replace e5 := e5.st k62
  replace e1 := e1.st k62
  replace e2 := e2.st k62
  replace e6 := e6.st k62
  replace e3 := e3.st k62
  replace e4 := e4.st k62
  replace e7 := e7.st k62
  replace rp13 := rp13.st k62
  replace rp3 := rp3.st k62
  replace eg2 := eg2.st k62
  replace kk := kk.trans k62
  replace kS3 := kS3.trans k62
  refine ⟨fun _ => ⟨_, s.pick [2, 3, 4] 5 rfl, kS3⟩, RD.fold ?_⟩
  rw [hn10] at s
  try rw [hn10]
  obtain ⟨I36, s', k63, hc90, e91⟩ := St.give s (i := 1) rfl rfl rp13
  replace s := s'; clear s'
  replace e5 := e5.st k63
  replace e1 := e1.st k63
  replace e2 := e2.st k63
  replace e6 := e6.st k63
  replace e3 := e3.st k63
  replace e4 := e4.st k63
  replace e7 := e7.st k63
  replace rp14 := rp14.st k63
  replace rp3 := rp3.st k63
  replace eg2 := eg2.st k63
  replace kk := kk.trans k63
  replace kS3 := kS3.trans k63
  rw [hn11] at s
  try rw [hn11]
  obtain ⟨I37, s', k64, hc91, e92⟩ := St.give s (i := 0) rfl rfl rp14
  replace s := s'; clear s'
  replace e5 := e5.st k64
  replace e1 := e1.st k64
  replace e2 := e2.st k64
  replace e6 := e6.st k64
  replace e3 := e3.st k64
  replace e4 := e4.st k64
  replace e7 := e7.st k64
  replace e91 := e91.st k64
  replace rp3 := rp3.st k64
  replace eg2 := eg2.st k64
  replace kk := kk.trans k64
  replace kS3 := kS3.trans k64
  refine RD.op (i := 4) rfl (by kernel_rfl) (by kernel_rfl) (OK.new hT (f := fun b => .slice (some ⟨b, 0, none⟩) 2 2) (cs := [.slice A89 x198.length u92, .slice A90 x199.length u93]) (e := 24) (c := .tt) s (by kernel_rfl) trivial ?_)
  clear s
  rintro w76 b24 s k65 -
  replace e5 := e5.st k65
  replace e1 := e1.st k65
  replace e2 := e2.st k65
  replace e6 := e6.st k65
  replace e3 := e3.st k65
  replace e4 := e4.st k65
  replace e7 := e7.st k65
  replace e91 := e91.st k65
  replace e92 := e92.st k65
  replace rp3 := rp3.st k65
  replace eg2 := eg2.st k65
  replace kk := kk.trans k65
  replace kS3 := kS3.trans k65
  have rp15 : RepL (Rp.slice (Rp.int .u8)) I37 w76 [.slice A89 x198.length u92, .slice A90 x199.length u93] ([x198, x199] : List (List Int)) := RepL.cons (c := [.slice A89 x198.length u92]) (d := [.slice A90 x199.length u93]) (⟨_, _, rfl, hc90.1, hc90.2, e91⟩) (RepL.cons (c := [.slice A90 x199.length u93]) (d := []) (⟨_, _, rfl, hc91.1, hc91.2, e92⟩) (RepL.nil))
  replace s : St w1 M I37 ((.sl (.slice (some ⟨b24, 0, none⟩) 2 2) 24 1 2 [.slice A89 x198.length u92, .slice A90 x199.length u93]) :: (.sl (.slice (some ⟨b3, 0, none⟩) 2 2) 24 1 2 [.slice A6 x5.length u6, .slice A7 x6.length u7]) :: (.blk b2 (.cells #[.int .u64 (IntKind.u64.wrap (p0.Epoch + 1)), .int .i64 p0.Pages, .slice A3 p1.Maps.length u3, .slice A4 p1.User.length u4] 28 (0, 0))) :: (.blk b1 (.cells #[.int .u64 p0.Epoch, .int .i64 p0.Pages, .slice A1 p0.Maps.length u1, .slice A2 p0.User.length u2] 28 (0, 0))) :: F) w76 := s.blkSl (i := 0) (n := 2) (c := 2) (size := 1) rfl rfl (Nat.le_refl _) (by decide)
  refine ⟨fun _ => ⟨_, s.pick [1, 2, 3] 4 rfl, kS3⟩, RD.fold ?_⟩
  refine RD.segM hT ht3 (by kernel_rfl) [5] [] [] [.slice (some ⟨b24, 0, none⟩) 2 2] [] (by kernel_rfl) (fun _ _ => trivial) ⟨_, s.pick [1, 2, 3] 4 rfl, kS3⟩ ?_
  refine RD.done (by kernel_rfl) ?_
  replace s := s.pick [0, 2, 3] 4 rfl
  exact fun X h => kc (by kernel_rfl) rfl (h I37 ([x198, x199] : List (List Int)) (some ⟨b24, 0, none⟩) 2 [.slice A89 x198.length u92, .slice A90 x199.length u93] _ hf s kk e5 rp15 e3 e4 e1 e2 eg2)
  have hf := iteF h45 hf
  refine WPK.condF (Eq.trans (b := .bool (decide (x4 = 0))) (by kernel_rfl) (bo_f h45)) ?_
  refine WPK.skip ?_
  exact fun X h => kc (by kernel_rfl) rfl (h I7 ([x5, x6] : List (List Int)) (some ⟨b3, 0, none⟩) 2 [.slice A6 x5.length u6, .slice A7 x6.length u7] _ hf s kk e5 rp3 e3 e4 e1 e2 eg2)
  refine WPK.region ?_
  refine RW.seg hT 1 [.agg #[.int .u64 p0.Epoch, .int .i64 p0.Pages, .slice A1 p0.Maps.length u1, .slice A2 p0.User.length u2]] [] [.agg #[.int .u64 p0.Epoch, .int .i64 p0.Pages, .slice A1 p0.Maps.length u1, .slice A2 p0.User.length u2]] [.cells ⟨b1, 0, none⟩ [.int .u64 p0.Epoch, .int .i64 p0.Pages, .slice A1 p0.Maps.length u1, .slice A2 p0.User.length u2] 4] (by kernel_rfl) (s.cells (i := 1) rfl rfl rfl) ?_
  obtain ⟨x200, hx18, hf⟩ := bindS hf
  refine RW.op (by kernel_rfl) (OK.call' en21 (by kernel_rfl) (c21 (F := (.blk b2 (.cells #[.int .u64 (IntKind.u64.wrap (p0.Epoch + 1)), .int .i64 p0.Pages, .slice A3 p1.Maps.length u3, .slice A4 p1.User.length u4] 28 (0, 0))) :: (.blk b1 (.cells #[.int .u64 p0.Epoch, .int .i64 p0.Pages, .slice A1 p0.Maps.length u1, .slice A2 p0.User.length u2] 28 (0, 0))) :: F) p0 A1 u1 A2 u2 hc1 e1 hc2 e2 s hx18) ?_)
  intro X26 hX26
  refine fun _ _ hJ => hJ X26 ?_
  clear s
  intro I38 w77 s k66
  refine hX26 _ _ ?_
  replace e5 := e5.st k66
  replace e1 := e1.st k66
  replace e2 := e2.st k66
  replace e3 := e3.st k66
  replace e4 := e4.st k66
  replace eg2 := eg2.st k66
  replace kk := kk.trans k66
  refine RW.seg hT 1 [] [(41, .bool (decide (x200 ≠ 0)))] [.bool (decide (x200 ≠ 0))] [.veq (.bool (x200 != 0)) (.bool (decide (x200 ≠ 0)))] (by kernel_rfl) (ne_v) ?_
  by_cases h46 : x200 ≠ 0
  have hf := iteT h46 hf
  refine RW.seg hT 5 [] [(42, .bool true)] [.bool true, undef, undef, undef, .bool true] [.veq (.bool (decide (x200 ≠ 0))) (.bool true)] (by kernel_rfl) (bo_t h46) ?_
  refine RW.nil ?_
  exact fun X h => kc (by kernel_rfl) rfl (h I38 true _ hf s kk e5 e3 e4 e1 e2 eg2)
  have hf := iteF h46 hf
  refine RW.seg hT 2 [.agg #[.int .u64 (IntKind.u64.wrap (p0.Epoch + 1)), .int .i64 p0.Pages, .slice A3 p1.Maps.length u3, .slice A4 p1.User.length u4]] [(42, .bool false)] [.bool false, .agg #[.int .u64 (IntKind.u64.wrap (p0.Epoch + 1)), .int .i64 p0.Pages, .slice A3 p1.Maps.length u3, .slice A4 p1.User.length u4]] [.veq (.bool (decide (x200 ≠ 0))) (.bool false), .cells ⟨b2, 0, none⟩ [.int .u64 (IntKind.u64.wrap (p0.Epoch + 1)), .int .i64 p0.Pages, .slice A3 p1.Maps.length u3, .slice A4 p1.User.length u4] 4] (by kernel_rfl) (⟨bo_f h46, s.cells (i := 0) rfl rfl rfl⟩) ?_
  obtain ⟨x201, hx19, hf⟩ := bindS hf
  refine RW.op (by kernel_rfl) (OK.call' en21 (by kernel_rfl) (c21 (F := (.blk b2 (.cells #[.int .u64 (IntKind.u64.wrap (p0.Epoch + 1)), .int .i64 p0.Pages, .slice A3 p1.Maps.length u3, .slice A4 p1.User.length u4] 28 (0, 0))) :: (.blk b1 (.cells #[.int .u64 p0.Epoch, .int .i64 p0.Pages, .slice A1 p0.Maps.length u1, .slice A2 p0.User.length u2] 28 (0, 0))) :: F) (T_api_Head.mk (IntKind.u64.wrap (p0.Epoch + 1)) p0.Pages p1.Maps p1.User) A3 u3 A4 u4 hc3 e3 hc4 e4 s hx19) ?_)
  intro X27 hX27
  refine fun _ _ hJ => hJ X27 ?_
  clear s
  intro I39 w78 s k67
  refine hX27 _ _ ?_
  replace e5 := e5.st k67
  replace e1 := e1.st k67
  replace e2 := e2.st k67
  replace e3 := e3.st k67
  replace e4 := e4.st k67
  replace eg2 := eg2.st k67
  replace kk := kk.trans k67
  refine RW.seg hT 2 [] [(45, .bool (decide (x201 ≠ 0)))] [.bool (decide (x201 ≠ 0)), .bool (decide (x201 ≠ 0))] [.veq (.bool (x201 != 0)) (.bool (decide (x201 ≠ 0)))] (by kernel_rfl) (ne_v) ?_
  refine RW.nil ?_
  exact fun X h => kc (by kernel_rfl) rfl (h I39 (decide (x201 ≠ 0)) _ hf s kk e5 e3 e4 e1 e2 eg2)
  refine WPK.region ?_
  obtain ⟨x202, hx20, hf⟩ := bindS hf
  refine RW.op (by kernel_rfl) (OK.call' en9 (by kernel_rfl) (c9 (F := (.blk b2 (.cells #[.int .u64 p1.Epoch, .int .i64 p1.Pages, .slice A3 p1.Maps.length u3, .slice A4 p1.User.length u4] 28 (0, 0))) :: (.blk b1 (.cells #[.int .u64 p0.Epoch, .int .i64 p0.Pages, .slice A1 p0.Maps.length u1, .slice A2 p0.User.length u2] 28 (0, 0))) :: F) eg2 s hx20) ?_)
  intro X28 hX28
  refine fun _ _ hJ => hJ X28 ?_
  clear s
  intro I40 w79 s k68
  refine hX28 _ _ ?_
  replace e1 := e1.st k68
  replace e2 := e2.st k68
  replace e3 := e3.st k68
  replace e4 := e4.st k68
  replace e5 := e5.st k68
  replace eg2 := eg2.st k68
  replace kk := kk.trans k68
  refine RW.seg hT 1 [] [(13, .bool (decide (¬ (x202 = true))))] [.bool (decide (¬ (x202 = true)))] [.veq (.bool (!x202)) (.bool (decide (¬ (x202 = true))))] (by kernel_rfl) (not_b) ?_
  by_cases h47 : ¬ (x202 = true)
  have hf := iteT h47 hf
  refine RW.seg hT 17 [] [(14, .bool true)] [.bool true, undef, undef, undef, undef, undef, .bool true, .bool true, undef, undef, undef, .bool true, .bool true, undef, undef, undef, .bool true] [.veq (.bool (decide (¬ (x202 = true)))) (.bool true)] (by kernel_rfl) (bo_t h47) ?_
  refine RW.nil ?_
  exact fun X h => kc (by kernel_rfl) rfl (h I40 true _ hf s kk e5 e3 e4 e1 e2 eg2)
  have hf := iteF h47 hf
  refine RW.seg hT 3 [.agg #[.int .u64 p0.Epoch, .int .i64 p0.Pages, .slice A1 p0.Maps.length u1, .slice A2 p0.User.length u2], .agg #[.int .u64 p1.Epoch, .int .i64 p1.Pages, .slice A3 p1.Maps.length u3, .slice A4 p1.User.length u4]] [(14, .bool false)] [.bool false, .agg #[.int .u64 p0.Epoch, .int .i64 p0.Pages, .slice A1 p0.Maps.length u1, .slice A2 p0.User.length u2], .agg #[.int .u64 p1.Epoch, .int .i64 p1.Pages, .slice A3 p1.Maps.length u3, .slice A4 p1.User.length u4]] [.veq (.bool (decide (¬ (x202 = true)))) (.bool false), .cells ⟨b1, 0, none⟩ [.int .u64 p0.Epoch, .int .i64 p0.Pages, .slice A1 p0.Maps.length u1, .slice A2 p0.User.length u2] 4, .cells ⟨b2, 0, none⟩ [.int .u64 p1.Epoch, .int .i64 p1.Pages, .slice A3 p1.Maps.length u3, .slice A4 p1.User.length u4] 4] (by kernel_rfl) (⟨bo_f h47, s.cells (i := 1) rfl rfl rfl, s.cells (i := 0) rfl rfl rfl⟩) ?_
  refine RW.op (by kernel_rfl) (OK.new hT (f := fun b => .slice (some ⟨b, 0, none⟩) 2 2) (cs := [.int .u64 p0.Epoch, .int .i64 p0.Pages, .slice A1 p0.Maps.length u1, .slice A2 p0.User.length u2, .int .u64 p1.Epoch, .int .i64 p1.Pages, .slice A3 p1.Maps.length u3, .slice A4 p1.User.length u4]) (e := 28) (c := .tt) s (by kernel_rfl) trivial ?_)
  clear s
  rintro w80 b25 s k69 -
  replace e1 := e1.st k69
  replace e2 := e2.st k69
  replace e3 := e3.st k69
  replace e4 := e4.st k69
  replace e5 := e5.st k69
  replace eg2 := eg2.st k69
  replace kk := kk.trans k69
  have rp16 : RepL rp_T_api_Head I40 w80 [.int .u64 p0.Epoch, .int .i64 p0.Pages, .slice A1 p0.Maps.length u1, .slice A2 p0.User.length u2, .int .u64 p1.Epoch, .int .i64 p1.Pages, .slice A3 p1.Maps.length u3, .slice A4 p1.User.length u4] ([p0, p1] : List T_api_Head) := RepL.cons (c := [.int .u64 p0.Epoch, .int .i64 p0.Pages, .slice A1 p0.Maps.length u1, .slice A2 p0.User.length u2]) (d := [.int .u64 p1.Epoch, .int .i64 p1.Pages, .slice A3 p1.Maps.length u3, .slice A4 p1.User.length u4]) (⟨[.int .u64 p0.Epoch], [.int .i64 p0.Pages, .slice A1 p0.Maps.length u1, .slice A2 p0.User.length u2], rfl, rfl, ⟨[.int .i64 p0.Pages], [.slice A1 p0.Maps.length u1, .slice A2 p0.User.length u2], rfl, rfl, ⟨[.slice A1 p0.Maps.length u1], [.slice A2 p0.User.length u2], rfl, ⟨_, _, rfl, hc1.1, hc1.2, e1⟩, ⟨_, _, rfl, hc2.1, hc2.2, e2⟩⟩⟩⟩) (RepL.cons (c := [.int .u64 p1.Epoch, .int .i64 p1.Pages, .slice A3 p1.Maps.length u3, .slice A4 p1.User.length u4]) (d := []) (⟨[.int .u64 p1.Epoch], [.int .i64 p1.Pages, .slice A3 p1.Maps.length u3, .slice A4 p1.User.length u4], rfl, rfl, ⟨[.int .i64 p1.Pages], [.slice A3 p1.Maps.length u3, .slice A4 p1.User.length u4], rfl, rfl, ⟨[.slice A3 p1.Maps.length u3], [.slice A4 p1.User.length u4], rfl, ⟨_, _, rfl, hc3.1, hc3.2, e3⟩, ⟨_, _, rfl, hc4.1, hc4.2, e4⟩⟩⟩⟩) (RepL.nil))
  replace s : St w1 M I40 ((.sl (.slice (some ⟨b25, 0, none⟩) 2 2) 28 4 2 [.int .u64 p0.Epoch, .int .i64 p0.Pages, .slice A1 p0.Maps.length u1, .slice A2 p0.User.length u2, .int .u64 p1.Epoch, .int .i64 p1.Pages, .slice A3 p1.Maps.length u3, .slice A4 p1.User.length u4]) :: (.blk b2 (.cells #[.int .u64 p1.Epoch, .int .i64 p1.Pages, .slice A3 p1.Maps.length u3, .slice A4 p1.User.length u4] 28 (0, 0))) :: (.blk b1 (.cells #[.int .u64 p0.Epoch, .int .i64 p0.Pages, .slice A1 p0.Maps.length u1, .slice A2 p0.User.length u2] 28 (0, 0))) :: F) w80 := s.blkSl (i := 0) (n := 2) (c := 2) (size := 4) rfl rfl (Nat.le_refl _) (by decide)
  have sa1 := s
  obtain ⟨hc92, e93⟩ := St.lend s (i := 0) rfl rfl rp16
  have k70 := Kp.shut (I := I40) (w := w80) (p := .sl (.slice (some ⟨b25, 0, none⟩) 2 2) 28 4 2 [.int .u64 p0.Epoch, .int .i64 p0.Pages, .slice A1 p0.Maps.length u1, .slice A2 p0.User.length u2, .int .u64 p1.Epoch, .int .i64 p1.Pages, .slice A3 p1.Maps.length u3, .slice A4 p1.User.length u4])
  replace s := s.shut 0 rfl
  obtain ⟨x203, hx21, hf⟩ := bindS hf
  refine RW.op (by kernel_rfl) (OK.call' en16 (by kernel_rfl) (c16 (F := (.blk b2 (.cells #[.int .u64 p1.Epoch, .int .i64 p1.Pages, .slice A3 p1.Maps.length u3, .slice A4 p1.User.length u4] 28 (0, 0))) :: (.blk b1 (.cells #[.int .u64 p0.Epoch, .int .i64 p0.Pages, .slice A1 p0.Maps.length u1, .slice A2 p0.User.length u2] 28 (0, 0))) :: F) ([p0, p1] : List T_api_Head) (some ⟨b25, 0, none⟩) 2 hc92 e93 s hx21) ?_)
  intro X29 hX29
  refine fun _ _ hJ => hJ X29 ?_
  clear s
  intro I41 w81 s k71
  refine hX29 _ _ ?_
  have s' := St.back sa1 (i := 0) rfl s k71
  replace k71 := Kp.back sa1 (i := 0) rfl k71
  replace s := s'; clear s'
  obtain ⟨I42, s, k71⟩ : ∃ I : Nat → Prop, St w1 M I ((.sl (.slice (some ⟨b25, 0, none⟩) 2 2) 28 4 2 [.int .u64 p0.Epoch, .int .i64 p0.Pages, .slice A1 p0.Maps.length u1, .slice A2 p0.User.length u2, .int .u64 p1.Epoch, .int .i64 p1.Pages, .slice A3 p1.Maps.length u3, .slice A4 p1.User.length u4]) :: (.blk b2 (.cells #[.int .u64 p1.Epoch, .int .i64 p1.Pages, .slice A3 p1.Maps.length u3, .slice A4 p1.User.length u4] 28 (0, 0))) :: (.blk b1 (.cells #[.int .u64 p0.Epoch, .int .i64 p0.Pages, .slice A1 p0.Maps.length u1, .slice A2 p0.User.length u2] 28 (0, 0))) :: F) w81 ∧ Kp _ _ I _ := ⟨_, s, k71⟩
  replace e1 := e1.st k71
  replace e2 := e2.st k71
  replace e3 := e3.st k71
  replace e4 := e4.st k71
  replace e5 := e5.st k71
  replace eg2 := eg2.st k71
  replace rp16 := rp16.st k71
  replace kk := kk.trans k71
  refine RW.seg hT 2 [] [(19, .bool (decide (¬ (x203 = true))))] [.bool (decide (¬ (x203 = true))), .bool (decide (¬ (x203 = true)))] [.veq (.bool (!x203)) (.bool (decide (¬ (x203 = true))))] (by kernel_rfl) (not_b) ?_
  by_cases h48 : ¬ (x203 = true)
  have hf := iteT h48 hf
  refine RW.seg hT 10 [] [(21, .bool true)] [.bool true, undef, undef, undef, .bool true, .bool true, undef, undef, undef, .bool true] [.veq (.bool (decide (¬ (x203 = true)))) (.bool true)] (by kernel_rfl) (bo_t h48) ?_
  refine RW.nil ?_
  replace s := s.pick [1, 2] 3 rfl
  exact fun X h => kc (by kernel_rfl) rfl (h I42 true _ hf s kk e5 e3 e4 e1 e2 eg2)
  have hf := iteF h48 hf
  refine RW.seg hT 5 [] [(21, .bool false)] [.bool false, .slice A5 p2.length u5, .int .i64 (p2.length : Int), .bool (decide ((p2.length : Int) > 3000)), .bool (decide ((p2.length : Int) > 3000))] [.veq (.bool (decide (¬ (x203 = true)))) (.bool false)] (by kernel_rfl) (bo_f h48) ?_
  by_cases h49 : (p2.length : Int) > 3000
  have hf := iteT h49 hf
  refine RW.seg hT 5 [] [(26, .bool true)] [.bool true, undef, undef, undef, .bool true] [.veq (.bool (decide ((p2.length : Int) > 3000))) (.bool true)] (by kernel_rfl) (bo_t h49) ?_
  refine RW.nil ?_
  replace s := s.pick [1, 2] 3 rfl
  exact fun X h => kc (by kernel_rfl) rfl (h I42 true _ hf s kk e5 e3 e4 e1 e2 eg2)
  have hf := iteF h49 hf
  refine RW.seg hT 5 [.int .u64 p0.Epoch] [(26, .bool false), (29, .bool (decide (p0.Epoch = 18446744073709551615)))] [.bool false, .pointer (some ⟨b1, 0, none⟩), .int .u64 p0.Epoch, .bool (decide (p0.Epoch = 18446744073709551615)), .bool (decide (p0.Epoch = 18446744073709551615))] [.veq (.bool (decide ((p2.length : Int) > 3000))) (.bool false), .cell ⟨b1, 0, none⟩ (.int .u64 p0.Epoch), .veq (.bool (p0.Epoch == 18446744073709551615)) (.bool (decide (p0.Epoch = 18446744073709551615)))] (by kernel_rfl) (⟨bo_f h49, s.cell (i := 2) (off := 0) rfl rfl, eq_v⟩) ?_
  refine RW.nil ?_
  replace s := s.pick [1, 2] 3 rfl
  exact fun X h => kc (by kernel_rfl) rfl (h I42 (decide (p0.Epoch = 18446744073709551615)) _ hf s kk e5 e3 e4 e1 e2 eg2)
end Go.Proofs.YtclnddebhjjpfaaDoor
