/- PRINTED BY sy.py: each call computes what the plain function of its number tells. -/
import Derived.Test.YtclnddebhjjpfaaDoorW5
namespace Go.Proofs.YtclnddebhjjpfaaDoor
open Go Go.SX Go.RowKit
set_option maxRecDepth 100000
set_option linter.unusedVariables false
attribute [local irreducible] WPK RW RD Ret SX.Fin SX.Any opK RoundBeg RoundEnd RangeEnd Rounds
theorem c4 {w1 w : World} {M I : Nat → Prop} {F : List It} (p0 : Int) (p1 : (List Int)) (A1 : Option Addr) (u1 : Nat) (hc1 : (p1.length ≤ u1 ∧ u1 ≤ 9223372036854775807)) (e1 : Elems (Rp.int .u8) I w A1 p1) (eg2 : Elems (Rp.int .u32) I w (some ⟨2, 0, none⟩) TAB2) (s : St w1 M I (F) w) {r : Bool} (hf : g4 p0 p1 = some r) :
    Ret Tryd.prog 4 [.int .u64 p0, .slice A1 p1.length u1] w fun v wz => ∀ X : Value → World → Prop, (∀ (I' : Nat → Prop) (w' : World), St w1 M I' (F) w' → Kp I w I' w' → X (.bool r) w') → X v wz := by
  have kk : Kp I w I w := Kp.refl
  unfold g4 at hf
  refine Ret.of Tryd.func4 rfl ?_
  refine WPK.seq ?_
  refine WPK.region ?_
  refine RW.seg hT 1 [] [] [.bool false] [] (by kernel_rfl) (trivial) ?_
  refine RW.nil ?_
  refine WPK.seq ?_
  refine WPK.seq ?_
  refine WPK.cut' (Kn fun D1 ds wz => ∀ X : Kont, (∀ (I1 : Nat → Prop) (x1 : Bool) (w' : World), g4_j1 p0 p1 x1 = some r → St w1 M I1 (F) w' → Kp I w I1 w' → Elems (Rp.int .u8) I1 w' A1 p1 → Elems (Rp.int .u32) I1 w' (some ⟨2, 0, none⟩) TAB2 → X [.int .u64 p0, .slice A1 p1.length u1, (D1.getD 2 undef), (D1.getD 3 undef), .bool false, undef, undef, undef, undef, undef, undef, (D1.getD 11 undef), (D1.getD 12 undef), (D1.getD 13 undef), (D1.getD 14 undef), (D1.getD 15 undef), (D1.getD 16 undef), .bool x1, undef, undef, undef, undef, undef, undef, undef, undef, undef, undef, undef, undef, undef, undef, undef, undef, undef, undef, undef, undef, undef, undef, undef, undef, undef, undef, undef, undef, undef, undef, undef, undef, undef, undef, undef] [] w') → X D1 ds wz) ?_ ?_
  intro X1 hX1
  refine fun D1 _ _ hJ => hJ X1 ?_
  clear s
  intro I1 x1 w2 hf s kk e1 eg2
  refine hX1 _ _ _ ?_
  unfold g4_j1 at hf
  by_cases h1 : x1 = true
  have hf := iteT h1 hf
  refine WPK.condT (Eq.trans (b := .bool x1) (by kernel_rfl) (b_t h1)) ?_
  refine WPK.seq ?_
  refine WPK.region ?_
  obtain ⟨x2, hx1, hf⟩ := bindS hf
  refine RW.op (by kernel_rfl) (OK.call' en9 (by kernel_rfl) (c9 (F := F) eg2 s hx1) ?_)
  intro X2 hX2
  refine fun _ _ hJ => hJ X2 ?_
  clear s
  intro I2 w3 s k1
  refine hX2 _ _ ?_
  replace e1 := e1.st k1
  replace eg2 := eg2.st k1
  replace kk := kk.trans k1
  refine RW.seg hT 1 [] [] [.bool x2] [] (by kernel_rfl) (trivial) ?_
  refine RW.nil ?_
  refine WPK.ret (?_)
  obtain rfl := someS hf
  refine Fin.of (rs := [.tmp 4]) hT [] (.bool x2) [] rfl (by kernel_rfl) (trivial) ?_
  exact fun X h => vc rfl (h I2 _ s kk)
  have hf := iteF h1 hf
  refine WPK.condF (Eq.trans (b := .bool x1) (by kernel_rfl) (b_f h1)) ?_
  refine WPK.skip ?_
  refine WPK.seq ?_
  refine WPK.region ?_
  refine RW.seg hT 1 [] [] [.slice A1 p1.length u1] [] (by kernel_rfl) (trivial) ?_
  obtain ⟨x3, hx2, hf⟩ := bindS hf
  refine RW.op (by kernel_rfl) (OK.call' en13 (by kernel_rfl) (c13 (F := F) p1 A1 u1 hc1 e1 s hx2) ?_)
  intro X3 hX3
  refine fun _ _ hJ => hJ X3 ?_
  clear s
  intro I3 A2 n1 u2 cl1 w4 s k2 hn1 rp1
  refine hX3 _ _ ?_
  replace e1 := e1.st k2
  replace eg2 := eg2.st k2
  replace kk := kk.trans k2
  refine RW.seg hT 1 [] [] [.slice A2 n1 u2] [] (by kernel_rfl) (trivial) ?_
  refine RW.nil ?_
  refine WPK.seq ?_
  refine WPK.region ?_
  refine RW.seg hT 2 [] [] [.int .u64 p0, .slice A2 n1 u2] [] (by kernel_rfl) (trivial) ?_
  refine RW.op (by kernel_rfl) (OK.inl (args := [.int .u64 p0, .slice A2 n1 u2]) en14 (by kernel_rfl) ?_)
  intro R1 hR1
  refine Ret.cut (fun v wz => ∀ X : Value → World → Prop, (∀ (I4 : Nat → Prop) (x4 : Int) (x5 : Int) (x6 : (List Int)) (x7 : (List Int)) (x8 : Int) (A3 : Option Addr) (u3 : Nat) (cl2 : List Value) (A4 : Option Addr) (u4 : Nat) (w' : World), g4_j2 p0 p1 x3 x4 x5 x6 x7 x8 = some r → St w1 M I4 ((.sl (.slice A3 x6.length u3) 3 1 x6.length cl2) :: (.sl (.slice A2 n1 u2) 5 1 n1 cl1) :: F) w' → Kp I w I4 w' → Elems (Rp.int .u8) I4 w' A1 p1 → RepL (Rp.int .i64) I4 w' cl2 x6 → (x7.length ≤ u4 ∧ u4 ≤ 9223372036854775807) → Elems (Rp.int .u8) I4 w' A4 x7 → RepL (Rp.int .u8) I4 w' cl1 x3 → Elems (Rp.int .u32) I4 w' (some ⟨2, 0, none⟩) TAB2 → X (.tuple #[.agg #[.int .u64 x4, .int .i64 x5, .slice A3 x6.length u3, .slice A4 x7.length u4], .int .i64 x8]) w') → X v wz) ?_ ?_
  refine fun _ _ hJ => hJ R1 ?_
  clear s
  intro I4 x4 x5 x6 x7 x8 A3 u3 cl2 A4 u4 w5 hf s kk e1 rp2 hc2 e2 rp1 eg2
  refine hR1 _ _ ?_
  unfold g4_j2 at hf
  refine RW.seg hT 3 [] [] [.tuple #[.agg #[.int .u64 x4, .int .i64 x5, .slice A3 x6.length u3, .slice A4 x7.length u4], .int .i64 x8], .agg #[.int .u64 x4, .int .i64 x5, .slice A3 x6.length u3, .slice A4 x7.length u4], .int .i64 x8] [] (by kernel_rfl) (trivial) ?_
  refine RW.op (by kernel_rfl) (OK.new hT (f := fun b => .pointer (some ⟨b, 0, none⟩)) (cs := [.int .u64 0, .int .i64 0, .slice none 0 0, .slice none 0 0]) (e := 28) (c := .tt) s (by kernel_rfl) trivial ?_)
  clear s
  rintro w6 b1 s k3 -
  replace e1 := e1.st k3
  replace e2 := e2.st k3
  replace rp2 := rp2.st k3
  replace rp1 := rp1.st k3
  replace eg2 := eg2.st k3
  replace kk := kk.trans k3
  refine RW.op (by kernel_rfl) (OK.store hT (i := 0) (b := b1) (off := 0) (n := 4) (vs := [.int .u64 x4, .int .i64 x5, .slice A3 x6.length u3, .slice A4 x7.length u4]) (cs := [.int .u64 0, .int .i64 0, .slice none 0 0, .slice none 0 0]) (e := 28) s (by kernel_rfl) rfl rfl (flat_ok rfl) (Nat.le_of_ble_eq_true rfl) ?_)
  clear s
  rintro w7 s k4 -
  replace e1 := e1.st k4
  replace e2 := e2.st k4
  replace rp2 := rp2.st k4
  replace rp1 := rp1.st k4
  replace eg2 := eg2.st k4
  replace kk := kk.trans k4
  refine RW.seg hT 1 [] [] [.int .i64 x8] [] (by kernel_rfl) (trivial) ?_
  refine RW.nil ?_
  refine WPK.seq ?_
  refine WPK.seq ?_
  refine WPK.region ?_
  refine RW.seg hT 3 [] [(28, .int .i64 (x3.length : Int))] [.slice A2 n1 u2, .int .i64 (x3.length : Int), .int .i64 0] [.veq (.int .i64 (n1 : Nat)) (.int .i64 (x3.length : Int))] (by kernel_rfl) (len_v hn1) ?_
  refine RW.nil ?_
  refine WPK.block ?_
  refine WPK.loop' (J := fun n2 D2 ds wz => ∀ X : Kont, (∀ (I5 : Nat → Prop) (x9 : Int) (x10 : (List Int)) (cl3 : List Value) (w' : World), g4_l3 p0 p1 x3 x4 x5 x6 x7 x8 n2 x9 x10 = some r → St w1 M I5 ((.blk b1 (.cells #[.int .u64 x4, .int .i64 x5, .slice A3 x6.length u3, .slice A4 x7.length u4] 28 (0, 0))) :: (.sl (.slice A3 x6.length u3) 3 1 x6.length cl2) :: (.sl (.slice A2 n1 u2) 5 1 n1 cl3) :: F) w' → Kp I w I5 w' → Elems (Rp.int .u8) I5 w' A1 p1 → Elems (Rp.int .u8) I5 w' A4 x7 → n1 = x10.length → RepL (Rp.int .u8) I5 w' cl3 x10 → RepL (Rp.int .i64) I5 w' cl2 x6 → Elems (Rp.int .u32) I5 w' (some ⟨2, 0, none⟩) TAB2 → X [.int .u64 p0, .slice A1 p1.length u1, (D2.getD 2 undef), (D2.getD 3 undef), .bool false, .slice A2 n1 u2, .pointer (some ⟨b1, 0, none⟩), .int .i64 x8, (D2.getD 8 undef), undef, undef, (D2.getD 11 undef), (D2.getD 12 undef), (D2.getD 13 undef), (D2.getD 14 undef), (D2.getD 15 undef), (D2.getD 16 undef), (D2.getD 17 undef), (D2.getD 18 undef), (D2.getD 19 undef), (D2.getD 20 undef), (D2.getD 21 undef), (D2.getD 22 undef), (D2.getD 23 undef), (D2.getD 24 undef), (D2.getD 25 undef), (D2.getD 26 undef), (D2.getD 27 undef), .int .i64 (x3.length : Int), .int .i64 x9, (D2.getD 30 undef), (D2.getD 31 undef), (D2.getD 32 undef), (D2.getD 33 undef), (D2.getD 34 undef), (D2.getD 35 undef), (D2.getD 36 undef), (D2.getD 37 undef), (D2.getD 38 undef), undef, undef, undef, undef, undef, undef, undef, undef, undef, undef, undef, undef, undef, undef] [] w') → X D2 ds wz) FUEL (fun X h => kc (by kernel_rfl) rfl (h I4 0 x3 cl1 _ hf s kk e1 e2 hn1 rp1 rp2 eg2)) (fun _ _ _ hJ => hJ (fun _ _ _ => False) (by intro I5 x9 x10 cl3 w8 hf s kk e1 e2 hn2 rp3 rp2 eg2; exact noneS hf)) ?_
  intro X4 hX4
  refine fun n2 D2 _ _ hJ => hJ (X4 n2) ?_
  clear s
  intro I5 x9 x10 cl3 w8 hf s kk e1 e2 hn2 rp3 rp2 eg2
  refine hX4 _ _ _ _ ?_
  replace hf : g4_l3B p0 p1 x3 x4 x5 x6 x7 x8 (g4_l3 p0 p1 x3 x4 x5 x6 x7 x8 n2) x9 x10 = some r := hf
  generalize hrec1 : g4_l3 p0 p1 x3 x4 x5 x6 x7 x8 n2 = rec1 at hf
  unfold g4_l3B at hf
  refine WPK.seq ?_
  refine WPK.region ?_
  refine RW.seg hT 1 [] [] [.bool (decide (x9 < (x3.length : Int)))] [] (by kernel_rfl) (trivial) ?_
  refine RW.nil ?_
  refine WPK.seq ?_
  by_cases h2 : x9 < (x3.length : Int)
  have hf := iteT h2 hf
  refine WPK.condT (Eq.trans (b := .bool (decide (x9 < (x3.length : Int)))) (by kernel_rfl) (bo_t h2)) ?_
  refine WPK.skip ?_
  refine WPK.seq ?_
  refine WPK.block ?_
  refine WPK.seq ?_
  refine WPK.region ?_
  refine RW.seg hT 2 [] [] [.int .i64 x9, .int .i64 x9] [] (by kernel_rfl) (trivial) ?_
  refine RW.nil ?_
  refine WPK.region ?_
  obtain ⟨x11, hx3, hf⟩ := bindS hf
  obtain ⟨h3, hx3⟩ := getS hx3
  obtain ⟨b2, rfl⟩ := (St.elem s (i := 2) rfl hn2 rp3 hx3).1
  obtain ⟨-, cs1, hr1, ha1⟩ := St.elem s (i := 2) rfl hn2 rp3 hx3
  replace ha1 := ha1 _ rfl
  obtain rfl : cs1 = [.int .u8 x11] := hr1
  obtain ⟨x12, hx4, hf⟩ := bindS hf
  obtain ⟨h4, hx4⟩ := getS hx4
  refine RW.seg hT 6 [.int .u8 x11] [] [.slice (some ⟨b2, 0, none⟩) n1 u2, .int .i64 x9, .pointer (some ⟨b2, 0 + x9.toNat * 1, none⟩), .int .u8 x11, .int .u8 (xorI .u8 x11 255), .pointer (some ⟨b2, 0 + x9.toNat * 1, none⟩)] [.idx x9 n1, .cell ⟨b2, 0 + x9.toNat * 1, none⟩ (.int .u8 x11), .idx x9 n1] (by kernel_rfl) (⟨(by rw [hn2]; exact h3), ha1 0 _ rfl, (by rw [hn2]; exact h4)⟩) ?_
  obtain ⟨y1, hy1, hf⟩ := bindS hf
  obtain ⟨h5, hq1⟩ := setS hy1
  obtain ⟨cl4, hcl1⟩ : ∃ q, setL cl3 (0 + x9.toNat * 1) [.int .u8 (xorI .u8 x11 255)] = q := ⟨_, rfl⟩
  have rp4 : RepL (Rp.int .u8) I5 w8 cl4 y1 := by rw [hq1, ← hcl1, Nat.zero_add]; exact RepL.set rp3 (by omega) (rfl)
  have hn3 : n1 = y1.length := by rw [hq1, List.length_set]; exact hn2
  refine RW.op (by kernel_rfl) (OK.storeSl hT (i := 2) (b := b2) (off := 0 + x9.toNat * 1) (m := 1) (vs := [.int .u8 (xorI .u8 x11 255)]) (c := u2) (e := 5) (size := 1) (n := n1) (cl := cl3) (cl' := cl4) s (by kernel_rfl) rfl rfl (flat_ok rfl) (by have h6 := RepL.length rp3; simp only [List.length_cons, List.length_nil, h6]; exact row_bd (n := 1) h5 rfl) hcl1 ?_)
  clear s
  rintro w9 s k5
  replace e1 := e1.st k5
  replace e2 := e2.st k5
  replace rp2 := rp2.st k5
  replace rp4 := rp4.st k5
  replace eg2 := eg2.st k5
  replace kk := kk.trans k5
  refine RW.nil ?_
  refine WPK.region ?_
  refine RW.seg hT 2 [] [] [.int .i64 (IntKind.i64.wrap (x9 + 1)), .int .i64 (IntKind.i64.wrap (x9 + 1))] [] (by kernel_rfl) (trivial) ?_
  refine RW.nil ?_
  subst hrec1
  exact ⟨n2, Nat.le_refl _, fun X h => kc (by kernel_rfl) rfl (h I5 (IntKind.i64.wrap (x9 + 1)) y1 cl4 _ hf s kk e1 e2 hn3 rp4 rp2 eg2)⟩
  have hf := iteF h2 hf
  refine WPK.condF (Eq.trans (b := .bool (decide (x9 < (x3.length : Int)))) (by kernel_rfl) (bo_f h2)) ?_
  refine WPK.exit (blockQ.same ?_)
  refine WPK.seq ?_
  refine WPK.region ?_
  refine RW.seg hT 2 [] [] [.int .u64 p0, .slice A1 p1.length u1] [] (by kernel_rfl) (trivial) ?_
  obtain ⟨x13, hx5, hf⟩ := bindS hf
  refine RW.op (by kernel_rfl) (OK.call' en15 (by kernel_rfl) (c15 (F := (.blk b1 (.cells #[.int .u64 x4, .int .i64 x5, .slice A3 x6.length u3, .slice A4 x7.length u4] 28 (0, 0))) :: (.sl (.slice A3 x6.length u3) 3 1 x6.length cl2) :: (.sl (.slice A2 n1 u2) 5 1 n1 cl3) :: F) p0 p1 A1 u1 hc1 e1 s hx5) ?_)
  intro X5 hX5
  refine fun _ _ hJ => hJ X5 ?_
  clear s
  intro I6 A5 n3 u5 cl5 A6 n4 u6 cl6 w10 s k6 hn4 rp5 hn5 rp6
  refine hX5 _ _ ?_
  replace e1 := e1.st k6
  replace e2 := e2.st k6
  replace rp2 := rp2.st k6
  replace rp3 := rp3.st k6
  replace eg2 := eg2.st k6
  replace kk := kk.trans k6
  refine RW.seg hT 3 [] [] [.tuple #[.agg #[.int .u64 x13.1.Epoch, .int .i64 x13.1.Pages, .slice A5 n3 u5, .slice A6 n4 u6], .int .i64 x13.2], .agg #[.int .u64 x13.1.Epoch, .int .i64 x13.1.Pages, .slice A5 n3 u5, .slice A6 n4 u6], .int .i64 x13.2] [] (by kernel_rfl) (trivial) ?_
  refine RW.op (by kernel_rfl) (OK.new hT (f := fun b => .pointer (some ⟨b, 0, none⟩)) (cs := [.int .u64 0, .int .i64 0, .slice none 0 0, .slice none 0 0]) (e := 28) (c := .tt) s (by kernel_rfl) trivial ?_)
  clear s
  rintro w11 b3 s k7 -
  replace e1 := e1.st k7
  replace e2 := e2.st k7
  replace rp5 := rp5.st k7
  replace rp6 := rp6.st k7
  replace rp2 := rp2.st k7
  replace rp3 := rp3.st k7
  replace eg2 := eg2.st k7
  replace kk := kk.trans k7
  refine RW.op (by kernel_rfl) (OK.store hT (i := 0) (b := b3) (off := 0) (n := 4) (vs := [.int .u64 x13.1.Epoch, .int .i64 x13.1.Pages, .slice A5 n3 u5, .slice A6 n4 u6]) (cs := [.int .u64 0, .int .i64 0, .slice none 0 0, .slice none 0 0]) (e := 28) s (by kernel_rfl) rfl rfl (flat_ok rfl) (Nat.le_of_ble_eq_true rfl) ?_)
  clear s
  rintro w12 s k8 -
  replace e1 := e1.st k8
  replace e2 := e2.st k8
  replace rp5 := rp5.st k8
  replace rp6 := rp6.st k8
  replace rp2 := rp2.st k8
  replace rp3 := rp3.st k8
  replace eg2 := eg2.st k8
  replace kk := kk.trans k8
  refine RW.seg hT 1 [] [] [.int .i64 x13.2] [] (by kernel_rfl) (trivial) ?_
  refine RW.nil ?_
  refine WPK.seq ?_
  refine WPK.region ?_
  refine RW.seg hT 2 [.agg #[.int .u64 x4, .int .i64 x5, .slice A3 x6.length u3, .slice A4 x7.length u4], .agg #[.int .u64 x13.1.Epoch, .int .i64 x13.1.Pages, .slice A5 n3 u5, .slice A6 n4 u6]] [] [.agg #[.int .u64 x4, .int .i64 x5, .slice A3 x6.length u3, .slice A4 x7.length u4], .agg #[.int .u64 x13.1.Epoch, .int .i64 x13.1.Pages, .slice A5 n3 u5, .slice A6 n4 u6]] [.cells ⟨b1, 0, none⟩ [.int .u64 x4, .int .i64 x5, .slice A3 x6.length u3, .slice A4 x7.length u4] 4, .cells ⟨b3, 0, none⟩ [.int .u64 x13.1.Epoch, .int .i64 x13.1.Pages, .slice A5 n3 u5, .slice A6 n4 u6] 4] (by kernel_rfl) (⟨s.cells (i := 3) rfl rfl rfl, s.cells (i := 0) rfl rfl rfl⟩) ?_
  have sa1 := s
  obtain ⟨hc3, e3⟩ := St.lend s (i := 4) rfl rfl rp2
  have k9 := Kp.shut (I := I6) (w := w12) (p := .sl (.slice A3 x6.length u3) 3 1 x6.length cl2)
  replace s := s.shut 4 rfl
  have sa2 := s
  obtain ⟨hc4, e4⟩ := St.lend s (i := 1) rfl hn4 (rp5.st k9)
  have k10 := Kp.shut (I := (fun k => I6 k ∨ (It.sl (.slice A3 x6.length u3) 3 1 x6.length cl2).foot = some k)) (w := w12) (p := .sl (.slice A5 n3 u5) 3 1 n3 cl5)
  replace s := s.shut 1 rfl
  replace e3 := e3.st k10
  have sa3 := s
  obtain ⟨hc5, e5⟩ := St.lend s (i := 1) rfl hn5 ((rp6.st k9).st k10)
  have k11 := Kp.shut (I := (fun k => (fun k => I6 k ∨ (It.sl (.slice A3 x6.length u3) 3 1 x6.length cl2).foot = some k) k ∨ (It.sl (.slice A5 n3 u5) 3 1 n3 cl5).foot = some k)) (w := w12) (p := .sl (.slice A6 n4 u6) 5 1 n4 cl6)
  replace s := s.shut 1 rfl
  replace e3 := e3.st k11
  replace e4 := e4.st k11
  obtain ⟨x14, hx6, hf⟩ := bindS hf
  have hc6 := c12 (F := (.blk b3 (.cells #[.int .u64 x13.1.Epoch, .int .i64 x13.1.Pages, .slice A5 n3 u5, .slice A6 n4 u6] 28 (0, 0))) :: (.blk b1 (.cells #[.int .u64 x4, .int .i64 x5, .slice A3 x6.length u3, .slice A4 x7.length u4] 28 (0, 0))) :: (.sl (.slice A2 n1 u2) 5 1 n1 cl3) :: F) (T_api_Head.mk x4 x5 x6 x7) x13.1 A3 u3 A4 u4 A5 u5 A6 u6 hc3 e3 hc2 (((e2.st k9).st k10).st k11) hc4 e4 hc5 e5 s hx6
  rw [← hn4, ← hn5] at hc6
  refine RW.op (by kernel_rfl) (OK.call' en12 (by kernel_rfl) (hc6) ?_)
  intro X6 hX6
  refine fun _ _ hJ => hJ X6 ?_
  clear s
  intro I7 w13 s k12
  refine hX6 _ _ ?_
  have s' := St.back sa3 (i := 1) rfl s k12
  replace k12 := Kp.back sa3 (i := 1) rfl k12
  replace s := s'; clear s'
  have s' := St.back sa2 (i := 1) rfl s k12
  replace k12 := Kp.back sa2 (i := 1) rfl k12
  replace s := s'; clear s'
  have s' := St.back sa1 (i := 4) rfl s k12
  replace k12 := Kp.back sa1 (i := 4) rfl k12
  replace s := s'; clear s'
  obtain ⟨I8, s, k12⟩ : ∃ I : Nat → Prop, St w1 M I ((.sl (.slice A3 x6.length u3) 3 1 x6.length cl2) :: (.sl (.slice A5 n3 u5) 3 1 n3 cl5) :: (.sl (.slice A6 n4 u6) 5 1 n4 cl6) :: (.blk b3 (.cells #[.int .u64 x13.1.Epoch, .int .i64 x13.1.Pages, .slice A5 n3 u5, .slice A6 n4 u6] 28 (0, 0))) :: (.blk b1 (.cells #[.int .u64 x4, .int .i64 x5, .slice A3 x6.length u3, .slice A4 x7.length u4] 28 (0, 0))) :: (.sl (.slice A2 n1 u2) 5 1 n1 cl3) :: F) w13 ∧ Kp _ _ I _ := ⟨_, s, k12⟩
  replace e1 := e1.st k12
  replace e2 := e2.st k12
  replace rp3 := rp3.st k12
  replace eg2 := eg2.st k12
  replace rp2 := rp2.st k12
  replace rp5 := rp5.st k12
  replace rp6 := rp6.st k12
  replace kk := kk.trans k12
  by_cases h7 : x14 = true
  have hf := iteT h7 hf
  refine RW.seg hT 6 [] [(48, .bool true), (51, .bool (decide (x8 = x13.2)))] [.bool true, .int .i64 x8, .int .i64 x13.2, .bool (decide (x8 = x13.2)), .bool (decide (x8 = x13.2)), .bool (decide (x8 = x13.2))] [.veq (.bool (x14)) (.bool true), .veq (.bool (x8 == x13.2)) (.bool (decide (x8 = x13.2)))] (by kernel_rfl) (⟨b_t h7, eq_v⟩) ?_
  refine RW.nil ?_
  refine WPK.ret (?_)
  obtain rfl := someS hf
  refine Fin.of (rs := [.tmp 4]) hT [] (.bool (decide (x8 = x13.2))) [] rfl (by kernel_rfl) (trivial) ?_
  replace s := s.pick [] 6 rfl
  exact fun X h => vc rfl (h I8 _ s kk)
  have hf := iteF h7 hf
  refine RW.seg hT 6 [] [(48, .bool false)] [.bool false, undef, undef, undef, .bool false, .bool false] [.veq (.bool (x14)) (.bool false)] (by kernel_rfl) (b_f h7) ?_
  refine RW.nil ?_
  refine WPK.ret (?_)
  obtain rfl := someS hf
  refine Fin.of (rs := [.tmp 4]) hT [] (.bool false) [] rfl (by kernel_rfl) (trivial) ?_
  replace s := s.pick [] 6 rfl
  exact fun X h => vc rfl (h I8 _ s kk)
  refine Ret.of Tryd.func14 rfl ?_
  refine WPK.seq ?_
  refine WPK.region ?_
  refine RW.op (by kernel_rfl) (OK.new hT (f := fun b => .pointer (some ⟨b, 0, none⟩)) (cs := [.int .u64 0, .int .i64 0, .slice none 0 0, .slice none 0 0]) (e := 28) (c := .tt) s (by kernel_rfl) trivial ?_)
  clear s
  rintro w14 b4 s k13 -
  replace e1 := e1.st k13
  replace rp1 := rp1.st k13
  replace eg2 := eg2.st k13
  replace kk := kk.trans k13
  refine RW.seg hT 1 [] [] [.int .i64 0] [] (by kernel_rfl) (trivial) ?_
  refine RW.nil ?_
  refine WPK.seq ?_
  refine WPK.region ?_
  refine RW.seg hT 1 [] [] [.slice A2 n1 u2] [] (by kernel_rfl) (trivial) ?_
  have sa4 := s
  obtain ⟨hc7, e6⟩ := St.lend s (i := 1) rfl hn1 rp1
  have k14 := Kp.shut (I := I3) (w := w14) (p := .sl (.slice A2 n1 u2) 5 1 n1 cl1)
  replace s := s.shut 1 rfl
  obtain ⟨x15, hx7, hf⟩ := bindS hf
  have hc8 := c32 (F := (.blk b4 (.cells #[.int .u64 0, .int .i64 0, .slice none 0 0, .slice none 0 0] 28 (0, 0))) :: F) x3 A2 u2 hc7 e6 s hx7
  rw [← hn1] at hc8
  refine RW.op (by kernel_rfl) (OK.call' en32 (by kernel_rfl) (hc8) ?_)
  intro X7 hX7
  refine fun _ _ hJ => hJ X7 ?_
  clear s
  intro I9 b5 A7 n5 u7 cl7 w15 s k15 hn6 rp7
  refine hX7 _ _ ?_
  have s' := St.back sa4 (i := 1) rfl s k15
  replace k15 := Kp.back sa4 (i := 1) rfl k15
  replace s := s'; clear s'
  obtain ⟨I10, s, k15⟩ : ∃ I : Nat → Prop, St w1 M I ((.sl (.slice A2 n1 u2) 5 1 n1 cl1) :: (.blk b5 (.cells #[.slice A7 n5 u7, .int .i64 x15.err, .bool x15.made] 85 (0, 0))) :: (.sl (.slice A7 n5 u7) 5 1 n5 cl7) :: (.blk b4 (.cells #[.int .u64 0, .int .i64 0, .slice none 0 0, .slice none 0 0] 28 (0, 0))) :: F) w15 ∧ Kp _ _ I _ := ⟨_, s, k15⟩
  replace rp7 := RepL.free (I' := I10) (w' := w15) free_int rp7
  replace e1 := e1.st k15
  replace eg2 := eg2.st k15
  replace rp1 := rp1.st k15
  replace kk := kk.trans k15
  refine RW.seg hT 1 [] [] [.pointer (some ⟨b5, 0, none⟩)] [] (by kernel_rfl) (trivial) ?_
  refine RW.nil ?_
  refine WPK.seq ?_
  refine WPK.region ?_
  refine RW.seg hT 2 [] [] [.int .u64 p0, .pointer (some ⟨b5, 0, none⟩)] [] (by kernel_rfl) (trivial) ?_
  replace s := s.pick [1, 2, 0, 3] 4 rfl
  obtain ⟨x16, hx8, hf⟩ := bindS hf
  refine RW.op (by kernel_rfl) (OK.call' en33 (by kernel_rfl) (c33_1 (F := (.sl (.slice A2 n1 u2) 5 1 n1 cl1) :: (.blk b4 (.cells #[.int .u64 0, .int .i64 0, .slice none 0 0, .slice none 0 0] 28 (0, 0))) :: F) x15 b5 A7 n5 u7 cl7 hn6 rp7 s hx8) ?_)
  intro X8 hX8
  refine fun _ _ hJ => hJ X8 ?_
  clear s
  intro I11 A8 u8 w16 s k16 hc9 e7
  refine hX8 _ _ ?_
  replace e1 := e1.st k16
  replace rp7 := rp7.st k16
  replace rp1 := rp1.st k16
  replace eg2 := eg2.st k16
  replace kk := kk.trans k16
  refine RW.seg hT 2 [undef] [] [.int .i64 (IntKind.i64.wrap x16.1), .agg #[.int .u64 p0, .int .i64 (IntKind.i64.wrap x16.1), .slice none 0 0, .slice none 0 0]] [] (by kernel_rfl) (trivial) ?_
  refine RW.op (by kernel_rfl) (OK.new hT (f := fun b => .pointer (some ⟨b, 0, none⟩)) (cs := [.int .u64 0, .int .i64 0, .slice none 0 0, .slice none 0 0]) (e := 28) (c := .tt) s (by kernel_rfl) trivial ?_)
  clear s
  rintro w17 b6 s k17 -
  replace e1 := e1.st k17
  replace e7 := e7.st k17
  replace rp1 := rp1.st k17
  replace eg2 := eg2.st k17
  replace kk := kk.trans k17
  refine RW.op (by kernel_rfl) (OK.store hT (i := 0) (b := b6) (off := 0) (n := 4) (vs := [.int .u64 p0, .int .i64 (IntKind.i64.wrap x16.1), .slice none 0 0, .slice none 0 0]) (cs := [.int .u64 0, .int .i64 0, .slice none 0 0, .slice none 0 0]) (e := 28) s (by kernel_rfl) rfl rfl (flat_ok rfl) (Nat.le_of_ble_eq_true rfl) ?_)
  clear s
  rintro w18 s k18 -
  replace e1 := e1.st k18
  replace e7 := e7.st k18
  replace rp1 := rp1.st k18
  replace eg2 := eg2.st k18
  replace kk := kk.trans k18
  refine RW.nil ?_
  refine WPK.seq ?_
  refine WPK.seq ?_
  refine WPK.region ?_
  refine RW.seg hT 1 [] [] [.pointer (some ⟨b5, 0, none⟩)] [] (by kernel_rfl) (trivial) ?_
  replace s := s.pick [1, 0, 2, 3] 4 rfl
  obtain ⟨x17, hx9, hf⟩ := bindS hf
  refine RW.op (by kernel_rfl) (OK.call' en34 (by kernel_rfl) (c34 (F := (.blk b6 (.cells #[.int .u64 p0, .int .i64 (IntKind.i64.wrap x16.1), .slice none 0 0, .slice none 0 0] 28 (0, 0))) :: (.sl (.slice A2 n1 u2) 5 1 n1 cl1) :: (.blk b4 (.cells #[.int .u64 0, .int .i64 0, .slice none 0 0, .slice none 0 0] 28 (0, 0))) :: F) x16.2 b5 A8 u8 hc9 e7 s hx9) ?_)
  intro X9 hX9
  refine fun _ _ hJ => hJ X9 ?_
  clear s
  intro I12 A9 u9 w19 s k19 hc10 e8
  refine hX9 _ _ ?_
  replace e1 := e1.st k19
  replace e7 := e7.st k19
  replace rp1 := rp1.st k19
  replace eg2 := eg2.st k19
  replace kk := kk.trans k19
  refine RW.seg hT 2 [] [] [.int .u8 (if 3 < x17.1 then 3 else x17.1), .int .u8 0] [] (by kernel_rfl) (trivial) ?_
  refine RW.nil ?_
  refine WPK.block ?_
  replace s := s.pushNil 3 1
  replace s := s.pick [1, 2, 3, 4, 0] 5 rfl
  refine WPK.loop' (J := fun n6 D3 ds wz => ∀ X : Kont, (∀ (I13 : Nat → Prop) (x18 : Int) (x19 : (List Int)) (x20 : Int) (x21 : Bool) (x22 : (List Int)) (A10 : Option Addr) (u10 : Nat) (A11 : Option Addr) (u11 : Nat) (cl8 : List Value) (w' : World), g4_l4 p0 p1 x3 x16 x17 n6 x18 x19 x20 x21 x22 = some r → St w1 M I13 ((.blk b5 (.cells #[.slice A10 x19.length u10, .int .i64 x20, .bool x21] 85 (0, 0))) :: (.blk b6 (.cells #[.int .u64 p0, .int .i64 (IntKind.i64.wrap x16.1), .slice A11 x22.length u11, .slice none 0 0] 28 (0, 0))) :: (.sl (.slice A2 n1 u2) 5 1 n1 cl1) :: (.blk b4 (.cells #[.int .u64 0, .int .i64 0, .slice none 0 0, .slice none 0 0] 28 (0, 0))) :: (.sl (.slice A11 x22.length u11) 3 1 x22.length cl8) :: F) w' → Kp I w I13 w' → (x19.length ≤ u10 ∧ u10 ≤ 9223372036854775807) → Elems (Rp.int .u8) I13 w' A10 x19 → RepL (Rp.int .i64) I13 w' cl8 x22 → RepL (Rp.int .u8) I13 w' cl1 x3 → Elems (Rp.int .u8) I13 w' A1 p1 → Elems (Rp.int .u32) I13 w' (some ⟨2, 0, none⟩) TAB2 → X [(D3.getD 0 undef), .slice A2 n1 u2, (D3.getD 2 undef), (D3.getD 3 undef), .pointer (some ⟨b4, 0, none⟩), .int .i64 0, .pointer (some ⟨b5, 0, none⟩), .pointer (some ⟨b6, 0, none⟩), undef, undef, (D3.getD 10 undef), (D3.getD 11 undef), (D3.getD 12 undef), (D3.getD 13 undef), (D3.getD 14 undef), (D3.getD 15 undef), (D3.getD 16 undef), (D3.getD 17 undef), (D3.getD 18 undef), .int .u8 (if 3 < x17.1 then 3 else x17.1), .int .u8 x18, (D3.getD 21 undef), (D3.getD 22 undef), (D3.getD 23 undef), (D3.getD 24 undef), (D3.getD 25 undef), (D3.getD 26 undef), (D3.getD 27 undef), (D3.getD 28 undef), (D3.getD 29 undef), (D3.getD 30 undef), undef, undef, undef, undef, undef, undef, undef, undef, undef, undef, undef, undef, undef, undef, undef, undef, undef, undef, undef, undef, undef, undef] [] w') → X D3 ds wz) FUEL (fun X h => kc (by kernel_rfl) rfl (h I12 0 x17.2.b x17.2.err x17.2.made ([] : List Int) A9 u9 none 0 [] _ hf s kk hc10 e8 (RepL.nil (r := (Rp.int .i64))) rp1 e1 eg2)) (fun _ _ _ hJ => hJ (fun _ _ _ => False) (by intro I13 x18 x19 x20 x21 x22 A10 u10 A11 u11 cl8 w20 hf s kk hc11 e9 rp8 rp1 e1 eg2; exact noneS hf)) ?_
  intro X10 hX10
  refine fun n6 D3 _ _ hJ => hJ (X10 n6) ?_
  clear s
  intro I13 x18 x19 x20 x21 x22 A10 u10 A11 u11 cl8 w20 hf s kk hc11 e9 rp8 rp1 e1 eg2
  refine hX10 _ _ _ _ ?_
  replace hf : g4_l4B p0 p1 x3 x16 x17 (g4_l4 p0 p1 x3 x16 x17 n6) x18 x19 x20 x21 x22 = some r := hf
  generalize hrec2 : g4_l4 p0 p1 x3 x16 x17 n6 = rec2 at hf
  unfold g4_l4B at hf
  refine WPK.seq ?_
  refine WPK.region ?_
  refine RW.seg hT 1 [] [] [.bool (decide (x18 < (if 3 < x17.1 then 3 else x17.1)))] [] (by kernel_rfl) (trivial) ?_
  refine RW.nil ?_
  refine WPK.seq ?_
  by_cases h8 : x18 < (if 3 < x17.1 then 3 else x17.1)
  have hf := iteT h8 hf
  refine WPK.condT (Eq.trans (b := .bool (decide (x18 < (if 3 < x17.1 then 3 else x17.1)))) (by kernel_rfl) (bo_t h8)) ?_
  refine WPK.skip ?_
  refine WPK.seq ?_
  refine WPK.block ?_
  have e1S1 := e1
  have e9S1 := e9
  have rp1S1 := rp1
  have rp8S1 := rp8
  have eg2S76926 := eg2
  have kS1 : Kp I13 w20 I13 w20 := Kp.refl
  refine WPK.drawM (fun w' => ∃ I' : Nat → Prop, St w1 M I' ((.sl (.slice A2 n1 u2) 5 1 n1 cl1) :: (.blk b4 (.cells #[.int .u64 0, .int .i64 0, .slice none 0 0, .slice none 0 0] 28 (0, 0))) :: F) w' ∧ Kp I13 w20 I' w') 9 [0, 1, 0, 4, 12, 28, 63, 127, 255] (by kernel_rfl) (by kernel_rfl) ?_
  intro ht1 w21 hd1
  have k20 := Kp.dr s hd1
  replace s := s.dr hd1
  replace e1 := e1.st k20
  replace e9 := e9.st k20
  replace rp1 := rp1.st k20
  replace rp8 := rp8.st k20
  replace eg2 := eg2.st k20
  replace kk := kk.trans k20
  replace kS1 := kS1.trans k20
  refine RD.segM hT ht1 (by kernel_rfl) [0, 2] [] [] [.pointer (some ⟨b6, 2, none⟩), .pointer (some ⟨b5, 0, none⟩)] [] (by kernel_rfl) (fun _ _ => trivial) ⟨_, s.pick [2, 3] 5 rfl, kS1⟩ ?_
  obtain ⟨x23, hx10, hf⟩ := bindS hf
  refine RD.ways [1, 3] (by kernel_rfl) (List.forall_mem_cons.2 ⟨?_, List.forall_mem_cons.2 ⟨?_, fun _ h => nomatch h⟩⟩)
  refine RWay.op rfl (by kernel_rfl) (OK.pure hT (ld := (.slice A11 x22.length u11)) (v := .slice A11 x22.length u11) (c := .cell ⟨b6, 2, none⟩ (.slice A11 x22.length u11)) (by kernel_rfl) (s.cell (i := 1) (off := 2) rfl rfl) ?_)
  refine ⟨fun _ => ⟨_, s.pick [2, 3] 5 rfl, kS1⟩, RD.fold ?_⟩
  refine RD.op (i := 3) rfl (by kernel_rfl) (by kernel_rfl) (OK.call' en33 (by kernel_rfl) (c33 (F := (.blk b6 (.cells #[.int .u64 p0, .int .i64 (IntKind.i64.wrap x16.1), .slice A11 x22.length u11, .slice none 0 0] 28 (0, 0))) :: (.sl (.slice A2 n1 u2) 5 1 n1 cl1) :: (.blk b4 (.cells #[.int .u64 0, .int .i64 0, .slice none 0 0, .slice none 0 0] 28 (0, 0))) :: (.sl (.slice A11 x22.length u11) 3 1 x22.length cl8) :: F) (T_pack_Reader.mk x19 x20 x21) b5 A10 u10 hc11 e9 s hx10) ?_)
  intro X11 hX11
  refine fun _ _ hJ => hJ X11 ?_
  clear s
  intro I14 A12 u12 w22 s k21 hc12 e10
  refine hX11 _ _ ?_
  replace e1 := e1.st k21
  replace e9 := e9.st k21
  replace rp1 := rp1.st k21
  replace rp8 := rp8.st k21
  replace eg2 := eg2.st k21
  replace kk := kk.trans k21
  replace kS1 := kS1.trans k21
  refine ⟨fun _ => ⟨_, s.pick [2, 3] 5 rfl, kS1⟩, RD.fold ?_⟩
  refine RD.segM hT ht1 (by kernel_rfl) [4] [undef] [] [.int .i64 (IntKind.i64.wrap x23.1)] [] (by kernel_rfl) (fun _ _ => trivial) ⟨_, s.pick [2, 3] 5 rfl, kS1⟩ ?_
  refine RD.op (i := 5) rfl (by kernel_rfl) (by kernel_rfl) (OK.new hT (f := fun b => .slice (some ⟨b, 0, none⟩) 1 1) (cs := [.int .i64 (IntKind.i64.wrap x23.1)]) (e := 3) (c := .tt) s (by kernel_rfl) trivial ?_)
  clear s
  rintro w23 b7 s k22 -
  replace e1 := e1.st k22
  replace e10 := e10.st k22
  replace rp1 := rp1.st k22
  replace rp8 := rp8.st k22
  replace eg2 := eg2.st k22
  replace kk := kk.trans k22
  replace kS1 := kS1.trans k22
  have rp9 : RepL (Rp.int .i64) I14 w23 [.int .i64 (IntKind.i64.wrap x23.1)] ([IntKind.i64.wrap x23.1] : List Int) := RepL.cons (c := [.int .i64 (IntKind.i64.wrap x23.1)]) (d := []) (rfl) (RepL.nil)
  replace s : St w1 M I14 ((.sl (.slice (some ⟨b7, 0, none⟩) 1 1) 3 1 1 [.int .i64 (IntKind.i64.wrap x23.1)]) :: (.blk b5 (.cells #[.slice A12 x23.2.b.length u12, .int .i64 x23.2.err, .bool x23.2.made] 85 (0, 0))) :: (.blk b6 (.cells #[.int .u64 p0, .int .i64 (IntKind.i64.wrap x16.1), .slice A11 x22.length u11, .slice none 0 0] 28 (0, 0))) :: (.sl (.slice A2 n1 u2) 5 1 n1 cl1) :: (.blk b4 (.cells #[.int .u64 0, .int .i64 0, .slice none 0 0, .slice none 0 0] 28 (0, 0))) :: (.sl (.slice A11 x22.length u11) 3 1 x22.length cl8) :: F) w23 := s.blkSl (i := 0) (n := 1) (c := 1) (size := 1) rfl rfl (Nat.le_refl _) (by decide)
  refine ⟨fun _ => ⟨_, s.pick [3, 4] 6 rfl, kS1⟩, RD.fold ?_⟩
  have hs1 := St.src s (i := 0) rfl rfl rp9
  have rq1 := rp9
  obtain ⟨x24, hx11, hf⟩ := bindS hf
  refine RD.op (i := 6) rfl (by kernel_rfl) (by kernel_rfl) (OK.app hT (r := (Rp.int .i64)) (i := 5) (t := 26) (e := 3) (size := 1) (bytes := 8) (c := u11) (n := x22.length) (m := 1) s (by kernel_rfl) rfl rfl rfl rfl rfl (by decide) rfl rfl rfl rfl rp8 hs1 rq1 flat_int rfl hx11 ?_)
  clear s
  rintro A13 u13 cl9 w24 s k23 rp10
  replace e1 := e1.st k23
  replace e10 := e10.st k23
  replace rp9 := rp9.st k23
  replace rp1 := rp1.st k23
  replace rp8 := rp8.st k23
  replace eg2 := eg2.st k23
  replace kk := kk.trans k23
  replace kS1 := kS1.trans k23
  refine ⟨fun _ => ⟨_, s.pick [3, 4] 6 rfl, kS1⟩, RD.fold ?_⟩
  refine RD.segM hT ht1 (by kernel_rfl) [7] [] [] [.pointer (some ⟨b6, 2, none⟩)] [] (by kernel_rfl) (fun _ _ => trivial) ⟨_, s.pick [3, 4] 6 rfl, kS1⟩ ?_
  refine RD.op (i := 8) rfl (by kernel_rfl) (by kernel_rfl) (OK.store hT (i := 2) (b := b6) (off := 2) (n := 1) (vs := [.slice A13 x24.length u13]) (cs := [.int .u64 p0, .int .i64 (IntKind.i64.wrap x16.1), (.slice A11 x22.length u11), .slice none 0 0]) (e := 28) s (by kernel_rfl) rfl rfl (flat_ok rfl) (Nat.le_of_ble_eq_true rfl) ?_)
  clear s
  rintro w25 s k24 -
  replace e1 := e1.st k24
  replace e10 := e10.st k24
  replace rp9 := rp9.st k24
  replace rp1 := rp1.st k24
  replace rp10 := rp10.st k24
  replace eg2 := eg2.st k24
  replace kk := kk.trans k24
  replace kS1 := kS1.trans k24
  refine ⟨fun _ => ⟨_, s.pick [3, 4] 6 rfl, kS1⟩, RD.fold ?_⟩
  refine RD.done (by kernel_rfl) ?_
  refine WPK.region ?_
  refine RW.seg hT 2 [] [] [.int .u8 (IntKind.u8.wrap (x18 + 1)), .int .u8 (IntKind.u8.wrap (x18 + 1))] [] (by kernel_rfl) (trivial) ?_
  refine RW.nil ?_
  subst hrec2
  replace s := s.pick [1, 2, 3, 4, 5] 6 rfl
  exact ⟨n6, Nat.le_refl _, fun X h => kc (by kernel_rfl) rfl (h I14 (IntKind.u8.wrap (x18 + 1)) x23.2.b x23.2.err x23.2.made x24 A12 u12 A13 u13 cl9 _ hf s kk hc12 e10 rp10 rp1 e1 eg2)⟩
  refine RWay.op rfl (by kernel_rfl) (OK.call' en33 (by kernel_rfl) (c33 (F := (.blk b6 (.cells #[.int .u64 p0, .int .i64 (IntKind.i64.wrap x16.1), .slice A11 x22.length u11, .slice none 0 0] 28 (0, 0))) :: (.sl (.slice A2 n1 u2) 5 1 n1 cl1) :: (.blk b4 (.cells #[.int .u64 0, .int .i64 0, .slice none 0 0, .slice none 0 0] 28 (0, 0))) :: (.sl (.slice A11 x22.length u11) 3 1 x22.length cl8) :: F) (T_pack_Reader.mk x19 x20 x21) b5 A10 u10 hc11 e9 s hx10) ?_)
  intro X12 hX12
  refine fun _ _ hJ => hJ X12 ?_
  clear s
  intro I15 A14 u14 w26 s k25 hc13 e11
  refine hX12 _ _ ?_
  replace e1 := e1.st k25
  replace e9 := e9.st k25
  replace rp1 := rp1.st k25
  replace rp8 := rp8.st k25
  replace eg2 := eg2.st k25
  replace kk := kk.trans k25
  replace kS1 := kS1.trans k25
  refine ⟨fun _ => ⟨_, s.pick [2, 3] 5 rfl, kS1⟩, RD.fold ?_⟩
  refine RD.segM hT ht1 (by kernel_rfl) [4] [undef] [] [.int .i64 (IntKind.i64.wrap x23.1)] [] (by kernel_rfl) (fun _ _ => trivial) ⟨_, s.pick [2, 3] 5 rfl, kS1⟩ ?_
  refine RD.ways [1, 5] (by kernel_rfl) (List.forall_mem_cons.2 ⟨?_, List.forall_mem_cons.2 ⟨?_, fun _ h => nomatch h⟩⟩)
  refine RWay.op rfl (by kernel_rfl) (OK.pure hT (ld := (.slice A11 x22.length u11)) (v := .slice A11 x22.length u11) (c := .cell ⟨b6, 2, none⟩ (.slice A11 x22.length u11)) (by kernel_rfl) (s.cell (i := 1) (off := 2) rfl rfl) ?_)
  refine ⟨fun _ => ⟨_, s.pick [2, 3] 5 rfl, kS1⟩, RD.fold ?_⟩
  refine RD.op (i := 5) rfl (by kernel_rfl) (by kernel_rfl) (OK.new hT (f := fun b => .slice (some ⟨b, 0, none⟩) 1 1) (cs := [.int .i64 (IntKind.i64.wrap x23.1)]) (e := 3) (c := .tt) s (by kernel_rfl) trivial ?_)
  clear s
  rintro w27 b8 s k26 -
  replace e1 := e1.st k26
  replace e11 := e11.st k26
  replace rp1 := rp1.st k26
  replace rp8 := rp8.st k26
  replace eg2 := eg2.st k26
  replace kk := kk.trans k26
  replace kS1 := kS1.trans k26
  have rp11 : RepL (Rp.int .i64) I15 w27 [.int .i64 (IntKind.i64.wrap x23.1)] ([IntKind.i64.wrap x23.1] : List Int) := RepL.cons (c := [.int .i64 (IntKind.i64.wrap x23.1)]) (d := []) (rfl) (RepL.nil)
  replace s : St w1 M I15 ((.sl (.slice (some ⟨b8, 0, none⟩) 1 1) 3 1 1 [.int .i64 (IntKind.i64.wrap x23.1)]) :: (.blk b5 (.cells #[.slice A14 x23.2.b.length u14, .int .i64 x23.2.err, .bool x23.2.made] 85 (0, 0))) :: (.blk b6 (.cells #[.int .u64 p0, .int .i64 (IntKind.i64.wrap x16.1), .slice A11 x22.length u11, .slice none 0 0] 28 (0, 0))) :: (.sl (.slice A2 n1 u2) 5 1 n1 cl1) :: (.blk b4 (.cells #[.int .u64 0, .int .i64 0, .slice none 0 0, .slice none 0 0] 28 (0, 0))) :: (.sl (.slice A11 x22.length u11) 3 1 x22.length cl8) :: F) w27 := s.blkSl (i := 0) (n := 1) (c := 1) (size := 1) rfl rfl (Nat.le_refl _) (by decide)
  refine ⟨fun _ => ⟨_, s.pick [3, 4] 6 rfl, kS1⟩, RD.fold ?_⟩
  have hs2 := St.src s (i := 0) rfl rfl rp11
  have rq2 := rp11
  obtain ⟨x25, hx12, hf⟩ := bindS hf
  refine RD.op (i := 6) rfl (by kernel_rfl) (by kernel_rfl) (OK.app hT (r := (Rp.int .i64)) (i := 5) (t := 26) (e := 3) (size := 1) (bytes := 8) (c := u11) (n := x22.length) (m := 1) s (by kernel_rfl) rfl rfl rfl rfl rfl (by decide) rfl rfl rfl rfl rp8 hs2 rq2 flat_int rfl hx12 ?_)
  clear s
  rintro A15 u15 cl10 w28 s k27 rp12
  replace e1 := e1.st k27
  replace e11 := e11.st k27
  replace rp11 := rp11.st k27
  replace rp1 := rp1.st k27
  replace rp8 := rp8.st k27
  replace eg2 := eg2.st k27
  replace kk := kk.trans k27
  replace kS1 := kS1.trans k27
  refine ⟨fun _ => ⟨_, s.pick [3, 4] 6 rfl, kS1⟩, RD.fold ?_⟩
  refine RD.segM hT ht1 (by kernel_rfl) [7] [] [] [.pointer (some ⟨b6, 2, none⟩)] [] (by kernel_rfl) (fun _ _ => trivial) ⟨_, s.pick [3, 4] 6 rfl, kS1⟩ ?_
  refine RD.op (i := 8) rfl (by kernel_rfl) (by kernel_rfl) (OK.store hT (i := 2) (b := b6) (off := 2) (n := 1) (vs := [.slice A15 x25.length u15]) (cs := [.int .u64 p0, .int .i64 (IntKind.i64.wrap x16.1), (.slice A11 x22.length u11), .slice none 0 0]) (e := 28) s (by kernel_rfl) rfl rfl (flat_ok rfl) (Nat.le_of_ble_eq_true rfl) ?_)
  clear s
  rintro w29 s k28 -
  replace e1 := e1.st k28
  replace e11 := e11.st k28
  replace rp11 := rp11.st k28
  replace rp1 := rp1.st k28
  replace rp12 := rp12.st k28
  replace eg2 := eg2.st k28
  replace kk := kk.trans k28
  replace kS1 := kS1.trans k28
  refine ⟨fun _ => ⟨_, s.pick [3, 4] 6 rfl, kS1⟩, RD.fold ?_⟩
  refine RD.done (by kernel_rfl) ?_
  refine WPK.region ?_
  refine RW.seg hT 2 [] [] [.int .u8 (IntKind.u8.wrap (x18 + 1)), .int .u8 (IntKind.u8.wrap (x18 + 1))] [] (by kernel_rfl) (trivial) ?_
  refine RW.nil ?_
  subst hrec2
  replace s := s.pick [1, 2, 3, 4, 5] 6 rfl
  exact ⟨n6, Nat.le_refl _, fun X h => kc (by kernel_rfl) rfl (h I15 (IntKind.u8.wrap (x18 + 1)) x23.2.b x23.2.err x23.2.made x25 A14 u14 A15 u15 cl10 _ hf s kk hc13 e11 rp12 rp1 e1 eg2)⟩
  refine RWay.op rfl (by kernel_rfl) (OK.new hT (f := fun b => .slice (some ⟨b, 0, none⟩) 1 1) (cs := [.int .i64 (IntKind.i64.wrap x23.1)]) (e := 3) (c := .tt) s (by kernel_rfl) trivial ?_)
  clear s
  rintro w27 b8 s k26 -
  replace e1 := e1.st k26
  replace e11 := e11.st k26
  replace rp1 := rp1.st k26
  replace rp8 := rp8.st k26
  replace eg2 := eg2.st k26
  replace kk := kk.trans k26
  replace kS1 := kS1.trans k26
  have rp11 : RepL (Rp.int .i64) I15 w27 [.int .i64 (IntKind.i64.wrap x23.1)] ([IntKind.i64.wrap x23.1] : List Int) := RepL.cons (c := [.int .i64 (IntKind.i64.wrap x23.1)]) (d := []) (rfl) (RepL.nil)
  replace s : St w1 M I15 ((.sl (.slice (some ⟨b8, 0, none⟩) 1 1) 3 1 1 [.int .i64 (IntKind.i64.wrap x23.1)]) :: (.blk b5 (.cells #[.slice A14 x23.2.b.length u14, .int .i64 x23.2.err, .bool x23.2.made] 85 (0, 0))) :: (.blk b6 (.cells #[.int .u64 p0, .int .i64 (IntKind.i64.wrap x16.1), .slice A11 x22.length u11, .slice none 0 0] 28 (0, 0))) :: (.sl (.slice A2 n1 u2) 5 1 n1 cl1) :: (.blk b4 (.cells #[.int .u64 0, .int .i64 0, .slice none 0 0, .slice none 0 0] 28 (0, 0))) :: (.sl (.slice A11 x22.length u11) 3 1 x22.length cl8) :: F) w27 := s.blkSl (i := 0) (n := 1) (c := 1) (size := 1) rfl rfl (Nat.le_refl _) (by decide)
  refine ⟨fun _ => ⟨_, s.pick [3, 4] 6 rfl, kS1⟩, RD.fold ?_⟩
  refine RD.op (i := 1) rfl (by kernel_rfl) (by kernel_rfl) (OK.pure hT (ld := (.slice A11 x22.length u11)) (v := .slice A11 x22.length u11) (c := .cell ⟨b6, 2, none⟩ (.slice A11 x22.length u11)) (by kernel_rfl) (s.cell (i := 2) (off := 2) rfl rfl) ?_)
  refine ⟨fun _ => ⟨_, s.pick [3, 4] 6 rfl, kS1⟩, RD.fold ?_⟩
  have hs3 := St.src s (i := 0) rfl rfl rp11
  have rq3 := rp11
  obtain ⟨x26, hx13, hf⟩ := bindS hf
  refine RD.op (i := 6) rfl (by kernel_rfl) (by kernel_rfl) (OK.app hT (r := (Rp.int .i64)) (i := 5) (t := 26) (e := 3) (size := 1) (bytes := 8) (c := u11) (n := x22.length) (m := 1) s (by kernel_rfl) rfl rfl rfl rfl rfl (by decide) rfl rfl rfl rfl rp8 hs3 rq3 flat_int rfl hx13 ?_)
  clear s
  rintro A16 u16 cl11 w30 s k29 rp13
  replace e1 := e1.st k29
  replace e11 := e11.st k29
  replace rp11 := rp11.st k29
  replace rp1 := rp1.st k29
  replace rp8 := rp8.st k29
  replace eg2 := eg2.st k29
  replace kk := kk.trans k29
  replace kS1 := kS1.trans k29
  refine ⟨fun _ => ⟨_, s.pick [3, 4] 6 rfl, kS1⟩, RD.fold ?_⟩
  refine RD.segM hT ht1 (by kernel_rfl) [7] [] [] [.pointer (some ⟨b6, 2, none⟩)] [] (by kernel_rfl) (fun _ _ => trivial) ⟨_, s.pick [3, 4] 6 rfl, kS1⟩ ?_
  refine RD.op (i := 8) rfl (by kernel_rfl) (by kernel_rfl) (OK.store hT (i := 2) (b := b6) (off := 2) (n := 1) (vs := [.slice A16 x26.length u16]) (cs := [.int .u64 p0, .int .i64 (IntKind.i64.wrap x16.1), (.slice A11 x22.length u11), .slice none 0 0]) (e := 28) s (by kernel_rfl) rfl rfl (flat_ok rfl) (Nat.le_of_ble_eq_true rfl) ?_)
  clear s
  rintro w31 s k30 -
  replace e1 := e1.st k30
  replace e11 := e11.st k30
  replace rp11 := rp11.st k30
  replace rp1 := rp1.st k30
  replace rp13 := rp13.st k30
  replace eg2 := eg2.st k30
  replace kk := kk.trans k30
  replace kS1 := kS1.trans k30
  refine ⟨fun _ => ⟨_, s.pick [3, 4] 6 rfl, kS1⟩, RD.fold ?_⟩
  refine RD.done (by kernel_rfl) ?_
  refine WPK.region ?_
  refine RW.seg hT 2 [] [] [.int .u8 (IntKind.u8.wrap (x18 + 1)), .int .u8 (IntKind.u8.wrap (x18 + 1))] [] (by kernel_rfl) (trivial) ?_
  refine RW.nil ?_
  subst hrec2
  replace s := s.pick [1, 2, 3, 4, 5] 6 rfl
  exact ⟨n6, Nat.le_refl _, fun X h => kc (by kernel_rfl) rfl (h I15 (IntKind.u8.wrap (x18 + 1)) x23.2.b x23.2.err x23.2.made x26 A14 u14 A16 u16 cl11 _ hf s kk hc13 e11 rp13 rp1 e1 eg2)⟩
  have hf := iteF h8 hf
  refine WPK.condF (Eq.trans (b := .bool (decide (x18 < (if 3 < x17.1 then 3 else x17.1)))) (by kernel_rfl) (bo_f h8)) ?_
  refine WPK.exit (blockQ.same ?_)
  refine WPK.seq ?_
  refine WPK.region ?_
  refine RW.seg hT 1 [] [] [.pointer (some ⟨b5, 0, none⟩)] [] (by kernel_rfl) (trivial) ?_
  obtain ⟨x27, hx14, hf⟩ := bindS hf
  refine RW.op (by kernel_rfl) (OK.call' en35 (by kernel_rfl) (c35 (F := (.blk b6 (.cells #[.int .u64 p0, .int .i64 (IntKind.i64.wrap x16.1), .slice A11 x22.length u11, .slice none 0 0] 28 (0, 0))) :: (.sl (.slice A2 n1 u2) 5 1 n1 cl1) :: (.blk b4 (.cells #[.int .u64 0, .int .i64 0, .slice none 0 0, .slice none 0 0] 28 (0, 0))) :: (.sl (.slice A11 x22.length u11) 3 1 x22.length cl8) :: F) (T_pack_Reader.mk x19 x20 x21) 32 b5 A10 u10 hc11 e9 s hx14) ?_)
  intro X13 hX13
  refine fun _ _ hJ => hJ X13 ?_
  clear s
  intro I16 A17 u17 A18 u18 w32 s k31 hc14 e12 hc15 e13
  refine hX13 _ _ ?_
  replace e1 := e1.st k31
  replace e9 := e9.st k31
  replace rp1 := rp1.st k31
  replace rp8 := rp8.st k31
  replace eg2 := eg2.st k31
  replace kk := kk.trans k31
  refine RW.seg hT 1 [] [] [.pointer (some ⟨b6, 3, none⟩)] [] (by kernel_rfl) (trivial) ?_
  refine RW.op (by kernel_rfl) (OK.store hT (i := 1) (b := b6) (off := 3) (n := 1) (vs := [.slice A17 x27.1.length u17]) (cs := [.int .u64 p0, .int .i64 (IntKind.i64.wrap x16.1), .slice A11 x22.length u11, .slice none 0 0]) (e := 28) s (by kernel_rfl) rfl rfl (flat_ok rfl) (Nat.le_of_ble_eq_true rfl) ?_)
  clear s
  rintro w33 s k32 -
  replace e12 := e12.st k32
  replace e1 := e1.st k32
  replace e13 := e13.st k32
  replace rp1 := rp1.st k32
  replace rp8 := rp8.st k32
  replace eg2 := eg2.st k32
  replace kk := kk.trans k32
  refine RW.nil ?_
  refine WPK.seq ?_
  refine WPK.seq ?_
  refine WPK.region ?_
  refine RW.seg hT 1 [] [] [.pointer (some ⟨b5, 0, none⟩)] [] (by kernel_rfl) (trivial) ?_
  obtain ⟨x28, hx15, hf⟩ := bindS hf
  refine RW.op (by kernel_rfl) (OK.call' en36 (by kernel_rfl) (c36 (F := (.blk b6 (.cells #[.int .u64 p0, .int .i64 (IntKind.i64.wrap x16.1), .slice A11 x22.length u11, .slice A17 x27.1.length u17] 28 (0, 0))) :: (.sl (.slice A2 n1 u2) 5 1 n1 cl1) :: (.blk b4 (.cells #[.int .u64 0, .int .i64 0, .slice none 0 0, .slice none 0 0] 28 (0, 0))) :: (.sl (.slice A11 x22.length u11) 3 1 x22.length cl8) :: F) x27.2 b5 A18 u18 hc15 e13 s hx15) ?_)
  intro X14 hX14
  refine fun _ _ hJ => hJ X14 ?_
  clear s
  intro I17 w34 s k33
  refine hX14 _ _ ?_
  replace e12 := e12.st k33
  replace e1 := e1.st k33
  replace e13 := e13.st k33
  replace rp1 := rp1.st k33
  replace rp8 := rp8.st k33
  replace eg2 := eg2.st k33
  replace kk := kk.trans k33
  refine RW.seg hT 1 [] [(36, .bool (decide (x28 ≠ 0)))] [.bool (decide (x28 ≠ 0))] [.veq (.bool (x28 != 0)) (.bool (decide (x28 ≠ 0)))] (by kernel_rfl) (ne_v) ?_
  refine RW.nil ?_
  by_cases h9 : x28 ≠ 0
  have hf := iteT h9 hf
  refine WPK.condT (Eq.trans (b := .bool (decide (x28 ≠ 0))) (by kernel_rfl) (bo_t h9)) ?_
  refine WPK.seq ?_
  refine WPK.region ?_
  refine RW.seg hT 1 [] [] [.agg #[.int .u64 0, .int .i64 0, .slice none 0 0, .slice none 0 0]] [] (by kernel_rfl) (trivial) ?_
  refine RW.op (by kernel_rfl) (OK.store hT (i := 3) (b := b4) (off := 0) (n := 4) (vs := [.int .u64 0, .int .i64 0, .slice none 0 0, .slice none 0 0]) (cs := [.int .u64 0, .int .i64 0, .slice none 0 0, .slice none 0 0]) (e := 28) s (by kernel_rfl) rfl rfl (flat_ok rfl) (Nat.le_of_ble_eq_true rfl) ?_)
  clear s
  rintro w35 s k34 -
  replace e12 := e12.st k34
  replace e1 := e1.st k34
  replace e13 := e13.st k34
  replace rp1 := rp1.st k34
  replace rp8 := rp8.st k34
  replace eg2 := eg2.st k34
  replace kk := kk.trans k34
  refine RW.seg hT 1 [] [] [.int .i64 60] [] (by kernel_rfl) (trivial) ?_
  refine RW.nil ?_
  refine WPK.ret (?_)
  refine Fin.of (rs := [.cell 4 28, .tmp 5]) hT [.agg #[.int .u64 0, .int .i64 0, .slice none 0 0, .slice none 0 0]] (.tuple #[.agg #[.int .u64 0, .int .i64 0, .slice none 0 0, .slice none 0 0], .int .i64 60]) [.cells ⟨b4, 0, none⟩ [.int .u64 0, .int .i64 0, .slice none 0 0, .slice none 0 0] 4] rfl (by kernel_rfl) (s.cells (i := 3) rfl rfl rfl) ?_
  replace s := s.pushNil 3 1
  replace s := s.pick [0, 3] 6 rfl
  exact fun X h => vc rfl (h I17 0 0 ([] : List Int) [] 60 none 0 [] none 0 _ hf s kk e1 (RepL.nil (r := (Rp.int .i64))) nil_hc Elems.nil rp1 eg2)
  have hf := iteF h9 hf
  refine WPK.condF (Eq.trans (b := .bool (decide (x28 ≠ 0))) (by kernel_rfl) (bo_f h9)) ?_
  refine WPK.skip ?_
  refine WPK.seq ?_
  refine WPK.seq ?_
  refine WPK.region ?_
  refine RW.seg hT 1 [.agg #[.int .u64 p0, .int .i64 (IntKind.i64.wrap x16.1), .slice A11 x22.length u11, .slice A17 x27.1.length u17]] [] [.agg #[.int .u64 p0, .int .i64 (IntKind.i64.wrap x16.1), .slice A11 x22.length u11, .slice A17 x27.1.length u17]] [.cells ⟨b6, 0, none⟩ [.int .u64 p0, .int .i64 (IntKind.i64.wrap x16.1), .slice A11 x22.length u11, .slice A17 x27.1.length u17] 4] (by kernel_rfl) (s.cells (i := 1) rfl rfl rfl) ?_
  have sa5 := s
  obtain ⟨hc16, e14⟩ := St.lend s (i := 4) rfl rfl rp8
  have k35 := Kp.shut (I := I17) (w := w34) (p := .sl (.slice A11 x22.length u11) 3 1 x22.length cl8)
  replace s := s.shut 4 rfl
  obtain ⟨x29, hx16, hf⟩ := bindS hf
  refine RW.op (by kernel_rfl) (OK.call' en17 (by kernel_rfl) (c17 (F := (.blk b5 (.cells #[.slice A18 x27.2.b.length u18, .int .i64 x27.2.err, .bool x27.2.made] 85 (0, 0))) :: (.blk b6 (.cells #[.int .u64 p0, .int .i64 (IntKind.i64.wrap x16.1), .slice A11 x22.length u11, .slice A17 x27.1.length u17] 28 (0, 0))) :: (.sl (.slice A2 n1 u2) 5 1 n1 cl1) :: (.blk b4 (.cells #[.int .u64 0, .int .i64 0, .slice none 0 0, .slice none 0 0] 28 (0, 0))) :: F) (T_api_Head.mk p0 (IntKind.i64.wrap x16.1) x22 x27.1) A11 u11 A17 u17 hc16 e14 hc14 (e12.st k35) s hx16) ?_)
  intro X15 hX15
  refine fun _ _ hJ => hJ X15 ?_
  clear s
  intro I18 A19 n7 u19 cl12 w36 s k36 hn7 rp14
  refine hX15 _ _ ?_
  have s' := St.back sa5 (i := 4) rfl s k36
  replace k36 := Kp.back sa5 (i := 4) rfl k36
  replace s := s'; clear s'
  obtain ⟨I19, s, k36⟩ : ∃ I : Nat → Prop, St w1 M I ((.sl (.slice A11 x22.length u11) 3 1 x22.length cl8) :: (.sl (.slice A19 n7 u19) 5 1 n7 cl12) :: (.blk b5 (.cells #[.slice A18 x27.2.b.length u18, .int .i64 x27.2.err, .bool x27.2.made] 85 (0, 0))) :: (.blk b6 (.cells #[.int .u64 p0, .int .i64 (IntKind.i64.wrap x16.1), .slice A11 x22.length u11, .slice A17 x27.1.length u17] 28 (0, 0))) :: (.sl (.slice A2 n1 u2) 5 1 n1 cl1) :: (.blk b4 (.cells #[.int .u64 0, .int .i64 0, .slice none 0 0, .slice none 0 0] 28 (0, 0))) :: F) w36 ∧ Kp _ _ I _ := ⟨_, s, k36⟩
  replace rp14 := RepL.free (I' := I19) (w' := w36) free_int rp14
  replace e12 := e12.st k36
  replace e1 := e1.st k36
  replace e13 := e13.st k36
  replace rp1 := rp1.st k36
  replace eg2 := eg2.st k36
  replace rp8 := rp8.st k36
  replace kk := kk.trans k36
  refine RW.seg hT 5 [] [] [.tuple #[.slice A19 n7 u19, .int .i64 x29.2], .slice A19 n7 u19, .int .i64 x29.2, .slice A19 n7 u19, .int .i64 x29.2] [] (by kernel_rfl) (trivial) ?_
  refine RW.nil ?_
  refine WPK.seq ?_
  refine WPK.cut' (Kn fun D4 ds wz => ∀ X : Kont, (∀ (I20 : Nat → Prop) (x30 : Bool) (w' : World), g4_j5 p0 p1 x3 x16 x22 x27 x30 = some r → St w1 M I20 ((.sl (.slice A11 x22.length u11) 3 1 x22.length cl8) :: (.blk b6 (.cells #[.int .u64 p0, .int .i64 (IntKind.i64.wrap x16.1), .slice A11 x22.length u11, .slice A17 x27.1.length u17] 28 (0, 0))) :: (.sl (.slice A2 n1 u2) 5 1 n1 cl1) :: (.blk b4 (.cells #[.int .u64 0, .int .i64 0, .slice none 0 0, .slice none 0 0] 28 (0, 0))) :: F) w' → Kp I w I20 w' → Elems (Rp.int .u8) I20 w' A17 x27.1 → RepL (Rp.int .i64) I20 w' cl8 x22 → RepL (Rp.int .u8) I20 w' cl1 x3 → Elems (Rp.int .u8) I20 w' A1 p1 → Elems (Rp.int .u32) I20 w' (some ⟨2, 0, none⟩) TAB2 → X [(D4.getD 0 undef), (D4.getD 1 undef), (D4.getD 2 undef), (D4.getD 3 undef), .pointer (some ⟨b4, 0, none⟩), .int .i64 0, (D4.getD 6 undef), .pointer (some ⟨b6, 0, none⟩), (D4.getD 8 undef), (D4.getD 9 undef), (D4.getD 10 undef), (D4.getD 11 undef), (D4.getD 12 undef), (D4.getD 13 undef), (D4.getD 14 undef), (D4.getD 15 undef), (D4.getD 16 undef), (D4.getD 17 undef), (D4.getD 18 undef), (D4.getD 19 undef), (D4.getD 20 undef), (D4.getD 21 undef), (D4.getD 22 undef), (D4.getD 23 undef), (D4.getD 24 undef), (D4.getD 25 undef), (D4.getD 26 undef), (D4.getD 27 undef), (D4.getD 28 undef), (D4.getD 29 undef), (D4.getD 30 undef), (D4.getD 31 undef), (D4.getD 32 undef), (D4.getD 33 undef), (D4.getD 34 undef), (D4.getD 35 undef), (D4.getD 36 undef), (D4.getD 37 undef), (D4.getD 38 undef), (D4.getD 39 undef), (D4.getD 40 undef), (D4.getD 41 undef), (D4.getD 42 undef), (D4.getD 43 undef), (D4.getD 44 undef), (D4.getD 45 undef), (D4.getD 46 undef), (D4.getD 47 undef), (D4.getD 48 undef), (D4.getD 49 undef), .bool x30, undef, undef] [] w') → X D4 ds wz) ?_ ?_
  intro X16 hX16
  refine fun D4 _ _ hJ => hJ X16 ?_
  clear s
  intro I20 x30 w37 hf s kk e12 rp8 rp1 e1 eg2
  refine hX16 _ _ _ ?_
  unfold g4_j5 at hf
  by_cases h10 : x30 = true
  have hf := iteT h10 hf
  refine WPK.condT (Eq.trans (b := .bool x30) (by kernel_rfl) (b_t h10)) ?_
  refine WPK.seq ?_
  refine WPK.region ?_
  refine RW.seg hT 1 [] [] [.agg #[.int .u64 0, .int .i64 0, .slice none 0 0, .slice none 0 0]] [] (by kernel_rfl) (trivial) ?_
  refine RW.op (by kernel_rfl) (OK.store hT (i := 3) (b := b4) (off := 0) (n := 4) (vs := [.int .u64 0, .int .i64 0, .slice none 0 0, .slice none 0 0]) (cs := [.int .u64 0, .int .i64 0, .slice none 0 0, .slice none 0 0]) (e := 28) s (by kernel_rfl) rfl rfl (flat_ok rfl) (Nat.le_of_ble_eq_true rfl) ?_)
  clear s
  rintro w38 s k37 -
  replace e1 := e1.st k37
  replace e12 := e12.st k37
  replace rp8 := rp8.st k37
  replace rp1 := rp1.st k37
  replace eg2 := eg2.st k37
  replace kk := kk.trans k37
  refine RW.seg hT 1 [] [] [.int .i64 60] [] (by kernel_rfl) (trivial) ?_
  refine RW.nil ?_
  refine WPK.ret (?_)
  refine Fin.of (rs := [.cell 4 28, .tmp 5]) hT [.agg #[.int .u64 0, .int .i64 0, .slice none 0 0, .slice none 0 0]] (.tuple #[.agg #[.int .u64 0, .int .i64 0, .slice none 0 0, .slice none 0 0], .int .i64 60]) [.cells ⟨b4, 0, none⟩ [.int .u64 0, .int .i64 0, .slice none 0 0, .slice none 0 0] 4] rfl (by kernel_rfl) (s.cells (i := 3) rfl rfl rfl) ?_
  replace s := s.pushNil 3 1
  replace s := s.pick [0, 3] 5 rfl
  exact fun X h => vc rfl (h I20 0 0 ([] : List Int) [] 60 none 0 [] none 0 _ hf s kk e1 (RepL.nil (r := (Rp.int .i64))) nil_hc Elems.nil rp1 eg2)
  have hf := iteF h10 hf
  refine WPK.condF (Eq.trans (b := .bool x30) (by kernel_rfl) (b_f h10)) ?_
  refine WPK.skip ?_
  refine WPK.seq ?_
  refine WPK.region ?_
  refine RW.seg hT 1 [.agg #[.int .u64 p0, .int .i64 (IntKind.i64.wrap x16.1), .slice A11 x22.length u11, .slice A17 x27.1.length u17]] [] [.agg #[.int .u64 p0, .int .i64 (IntKind.i64.wrap x16.1), .slice A11 x22.length u11, .slice A17 x27.1.length u17]] [.cells ⟨b6, 0, none⟩ [.int .u64 p0, .int .i64 (IntKind.i64.wrap x16.1), .slice A11 x22.length u11, .slice A17 x27.1.length u17] 4] (by kernel_rfl) (s.cells (i := 1) rfl rfl rfl) ?_
  refine RW.op (by kernel_rfl) (OK.store hT (i := 3) (b := b4) (off := 0) (n := 4) (vs := [.int .u64 p0, .int .i64 (IntKind.i64.wrap x16.1), .slice A11 x22.length u11, .slice A17 x27.1.length u17]) (cs := [.int .u64 0, .int .i64 0, .slice none 0 0, .slice none 0 0]) (e := 28) s (by kernel_rfl) rfl rfl (flat_ok rfl) (Nat.le_of_ble_eq_true rfl) ?_)
  clear s
  rintro w39 s k38 -
  replace e12 := e12.st k38
  replace e1 := e1.st k38
  replace rp8 := rp8.st k38
  replace rp1 := rp1.st k38
  replace eg2 := eg2.st k38
  replace kk := kk.trans k38
  refine RW.seg hT 1 [] [] [.int .i64 0] [] (by kernel_rfl) (trivial) ?_
  refine RW.nil ?_
  refine WPK.ret (?_)
  refine Fin.of (rs := [.cell 4 28, .tmp 5]) hT [.agg #[.int .u64 p0, .int .i64 (IntKind.i64.wrap x16.1), .slice A11 x22.length u11, .slice A17 x27.1.length u17]] (.tuple #[.agg #[.int .u64 p0, .int .i64 (IntKind.i64.wrap x16.1), .slice A11 x22.length u11, .slice A17 x27.1.length u17], .int .i64 0]) [.cells ⟨b4, 0, none⟩ [.int .u64 p0, .int .i64 (IntKind.i64.wrap x16.1), .slice A11 x22.length u11, .slice A17 x27.1.length u17] 4] rfl (by kernel_rfl) (s.cells (i := 3) rfl rfl rfl) ?_
  replace s := s.pick [0, 2] 4 rfl
  exact fun X h => vc rfl (h I20 p0 (IntKind.i64.wrap x16.1) x22 x27.1 0 A11 u11 cl8 A17 u17 _ hf s kk e1 rp8 hc14 e12 rp1 eg2)
  refine WPK.region ?_
  refine RW.seg hT 2 [] [(44, .bool (decide (x29.2 ≠ 0)))] [.int .i64 x29.2, .bool (decide (x29.2 ≠ 0))] [.veq (.bool (x29.2 != 0)) (.bool (decide (x29.2 ≠ 0)))] (by kernel_rfl) (ne_v) ?_
  by_cases h11 : x29.2 ≠ 0
  have hf := iteT h11 hf
  refine RW.seg hT 6 [] [(45, .bool true)] [.bool true, undef, undef, undef, undef, .bool true] [.veq (.bool (decide (x29.2 ≠ 0))) (.bool true)] (by kernel_rfl) (bo_t h11) ?_
  refine RW.nil ?_
  replace s := s.pick [0, 3, 4, 5] 6 rfl
  exact fun X h => kc (by kernel_rfl) rfl (h I19 true _ hf s kk e12 rp8 rp1 e1 eg2)
  have hf := iteF h11 hf
  refine RW.seg hT 3 [] [(45, .bool false)] [.bool false, .slice A19 n7 u19, .slice A2 n1 u2] [.veq (.bool (decide (x29.2 ≠ 0))) (.bool false)] (by kernel_rfl) (bo_f h11) ?_
  have sa6 := s
  obtain ⟨hc17, e15⟩ := St.lend s (i := 1) rfl hn7 rp14
  have k39 := Kp.shut (I := I19) (w := w36) (p := .sl (.slice A19 n7 u19) 5 1 n7 cl12)
  replace s := s.shut 1 rfl
  have sa7 := s
  obtain ⟨hc18, e16⟩ := St.lend s (i := 3) rfl hn1 (rp1.st k39)
  have k40 := Kp.shut (I := (fun k => I19 k ∨ (It.sl (.slice A19 n7 u19) 5 1 n7 cl12).foot = some k)) (w := w36) (p := .sl (.slice A2 n1 u2) 5 1 n1 cl1)
  replace s := s.shut 3 rfl
  replace e15 := e15.st k40
  obtain ⟨x31, hx17, hf⟩ := bindS hf
  have hc19 := c24 (F := (.sl (.slice A11 x22.length u11) 3 1 x22.length cl8) :: (.blk b5 (.cells #[.slice A18 x27.2.b.length u18, .int .i64 x27.2.err, .bool x27.2.made] 85 (0, 0))) :: (.blk b6 (.cells #[.int .u64 p0, .int .i64 (IntKind.i64.wrap x16.1), .slice A11 x22.length u11, .slice A17 x27.1.length u17] 28 (0, 0))) :: (.blk b4 (.cells #[.int .u64 0, .int .i64 0, .slice none 0 0, .slice none 0 0] 28 (0, 0))) :: F) x29.1 x3 A19 u19 A2 u2 hc17 e15 hc18 e16 s hx17
  rw [← hn7, ← hn1] at hc19
  refine RW.op (by kernel_rfl) (OK.call' en24 (by kernel_rfl) (hc19) ?_)
  intro X17 hX17
  refine fun _ _ hJ => hJ X17 ?_
  clear s
  intro I21 w40 s k41
  refine hX17 _ _ ?_
  have s' := St.back sa7 (i := 3) rfl s k41
  replace k41 := Kp.back sa7 (i := 3) rfl k41
  replace s := s'; clear s'
  have s' := St.back sa6 (i := 1) rfl s k41
  replace k41 := Kp.back sa6 (i := 1) rfl k41
  replace s := s'; clear s'
  obtain ⟨I22, s, k41⟩ : ∃ I : Nat → Prop, St w1 M I ((.sl (.slice A19 n7 u19) 5 1 n7 cl12) :: (.sl (.slice A2 n1 u2) 5 1 n1 cl1) :: (.sl (.slice A11 x22.length u11) 3 1 x22.length cl8) :: (.blk b5 (.cells #[.slice A18 x27.2.b.length u18, .int .i64 x27.2.err, .bool x27.2.made] 85 (0, 0))) :: (.blk b6 (.cells #[.int .u64 p0, .int .i64 (IntKind.i64.wrap x16.1), .slice A11 x22.length u11, .slice A17 x27.1.length u17] 28 (0, 0))) :: (.blk b4 (.cells #[.int .u64 0, .int .i64 0, .slice none 0 0, .slice none 0 0] 28 (0, 0))) :: F) w40 ∧ Kp _ _ I _ := ⟨_, s, k41⟩
  replace e12 := e12.st k41
  replace e1 := e1.st k41
  replace e13 := e13.st k41
  replace rp8 := rp8.st k41
  replace eg2 := eg2.st k41
  replace rp14 := rp14.st k41
  replace rp1 := rp1.st k41
  replace kk := kk.trans k41
  refine RW.seg hT 2 [] [(49, .bool (decide (¬ (x31 = true))))] [.bool (decide (¬ (x31 = true))), .bool (decide (¬ (x31 = true)))] [.veq (.bool (!x31)) (.bool (decide (¬ (x31 = true))))] (by kernel_rfl) (not_b) ?_
  refine RW.nil ?_
  replace s := s.pick [2, 4, 1, 5] 6 rfl
  exact fun X h => kc (by kernel_rfl) rfl (h I22 (decide (¬ (x31 = true))) _ hf s kk e12 rp8 rp1 e1 eg2)
  refine WPK.region ?_
  obtain ⟨x32, hx18, hf⟩ := bindS hf
  refine RW.op (by kernel_rfl) (OK.call' en9 (by kernel_rfl) (c9 (F := F) eg2 s hx18) ?_)
  intro X18 hX18
  refine fun _ _ hJ => hJ X18 ?_
  clear s
  intro I23 w41 s k42
  refine hX18 _ _ ?_
  replace e1 := e1.st k42
  replace eg2 := eg2.st k42
  replace kk := kk.trans k42
  refine RW.seg hT 1 [] [(12, .bool (decide (¬ (x32 = true))))] [.bool (decide (¬ (x32 = true)))] [.veq (.bool (!x32)) (.bool (decide (¬ (x32 = true))))] (by kernel_rfl) (not_b) ?_
  by_cases h12 : ¬ (x32 = true)
  have hf := iteT h12 hf
  refine RW.seg hT 5 [] [(13, .bool true)] [.bool true, undef, undef, undef, .bool true] [.veq (.bool (decide (¬ (x32 = true)))) (.bool true)] (by kernel_rfl) (bo_t h12) ?_
  refine RW.nil ?_
  exact fun X h => kc (by kernel_rfl) rfl (h I23 true _ hf s kk e1 eg2)
  have hf := iteF h12 hf
  refine RW.seg hT 5 [] [(13, .bool false)] [.bool false, .slice A1 p1.length u1, .int .i64 (p1.length : Int), .bool (decide ((p1.length : Int) > 3000)), .bool (decide ((p1.length : Int) > 3000))] [.veq (.bool (decide (¬ (x32 = true)))) (.bool false)] (by kernel_rfl) (bo_f h12) ?_
  refine RW.nil ?_
  exact fun X h => kc (by kernel_rfl) rfl (h I23 (decide ((p1.length : Int) > 3000)) _ hf s kk e1 eg2)
theorem c16 {w1 w : World} {M I : Nat → Prop} {F : List It} (p0 : (List T_api_Head)) (A1 : Option Addr) (u1 : Nat) (hc1 : (p0.length ≤ u1 ∧ u1 ≤ 9223372036854775807)) (e1 : Elems rp_T_api_Head I w A1 p0) (s : St w1 M I (F) w) {r : Bool} (hf : g16 p0 = some r) :
    Ret Tryd.prog 16 [.slice A1 p0.length u1] w fun v wz => ∀ X : Value → World → Prop, (∀ (I' : Nat → Prop) (w' : World), St w1 M I' (F) w' → Kp I w I' w' → X (.bool r) w') → X v wz := by
  have kk : Kp I w I w := Kp.refl
  unfold g16 at hf
  refine Ret.of Tryd.func16 rfl ?_
  refine WPK.seq ?_
  refine WPK.region ?_
  refine RW.seg hT 1 [] [] [.bool false] [] (by kernel_rfl) (trivial) ?_
  refine RW.nil ?_
  refine WPK.seq ?_
  refine WPK.seq ?_
  refine WPK.region ?_
  refine RW.seg hT 3 [] [] [.slice A1 p0.length u1, .int .i64 (p0.length : Int), .int .i64 0] [] (by kernel_rfl) (trivial) ?_
  refine RW.nil ?_
  refine WPK.block ?_
  refine WPK.loop' (J := fun n1 D1 ds wz => ∀ X : Kont, (∀ (I1 : Nat → Prop) (x1 : Int) (w' : World), g16_l1 p0 n1 x1 = some r → St w1 M I1 (F) w' → Kp I w I1 w' → Elems rp_T_api_Head I1 w' A1 p0 → X [(D1.getD 0 undef), (D1.getD 1 undef), .bool false, (D1.getD 3 undef), (D1.getD 4 undef), .slice A1 p0.length u1, .int .i64 (p0.length : Int), .int .i64 x1, (D1.getD 8 undef), (D1.getD 9 undef), (D1.getD 10 undef), (D1.getD 11 undef), (D1.getD 12 undef), (D1.getD 13 undef), (D1.getD 14 undef), (D1.getD 15 undef), (D1.getD 16 undef), (D1.getD 17 undef), (D1.getD 18 undef), (D1.getD 19 undef), (D1.getD 20 undef), (D1.getD 21 undef)] [] w') → X D1 ds wz) FUEL (fun X h => kc (by kernel_rfl) rfl (h I 0 _ hf s kk e1)) (fun _ _ _ hJ => hJ (fun _ _ _ => False) (by intro I1 x1 w2 hf s kk e1; exact noneS hf)) ?_
  intro X1 hX1
  refine fun n1 D1 _ _ hJ => hJ (X1 n1) ?_
  clear s
  intro I1 x1 w2 hf s kk e1
  refine hX1 _ _ _ _ ?_
  replace hf : g16_l1B p0 (g16_l1 p0 n1) x1 = some r := hf
  generalize hrec1 : g16_l1 p0 n1 = rec1 at hf
  unfold g16_l1B at hf
  refine WPK.seq ?_
  refine WPK.region ?_
  refine RW.seg hT 1 [] [] [.bool (decide (x1 < (p0.length : Int)))] [] (by kernel_rfl) (trivial) ?_
  refine RW.nil ?_
  refine WPK.seq ?_
  by_cases h1 : x1 < (p0.length : Int)
  have hf := iteT h1 hf
  refine WPK.condT (Eq.trans (b := .bool (decide (x1 < (p0.length : Int)))) (by kernel_rfl) (bo_t h1)) ?_
  refine WPK.skip ?_
  refine WPK.seq ?_
  refine WPK.block ?_
  refine WPK.seq ?_
  refine WPK.region ?_
  obtain ⟨x2, hx1, hf⟩ := bindS hf
  obtain ⟨h2, hx1⟩ := getS hx1
  obtain ⟨b1, o1, rfl⟩ := Elems.opn e1 hx1
  obtain ⟨cs1, hr1, ha1⟩ := Elems.get e1 hx1
  obtain ⟨cs2, cs3, rfl, hr2, hr3⟩ := hr1
  obtain rfl : cs2 = [.int .u64 x2.Epoch] := hr2
  obtain ⟨cs4, cs5, rfl, hr4, hr5⟩ := hr3
  obtain rfl : cs4 = [.int .i64 x2.Pages] := hr4
  obtain ⟨cs6, cs7, rfl, hr6, hr7⟩ := hr5
  obtain ⟨A2, u2, rfl, q1, q2, e2⟩ := hr6
  have hc2 := And.intro q1 q2
  obtain ⟨A3, u3, rfl, q3, q4, e3⟩ := hr7
  have hc3 := And.intro q3 q4
  refine RW.seg hT 2 [.agg #[.int .u64 x2.Epoch, .int .i64 x2.Pages, .slice A2 x2.Maps.length u2, .slice A3 x2.User.length u3]] [] [.pointer (some ⟨b1, o1 + x1.toNat * 4, none⟩), .agg #[.int .u64 x2.Epoch, .int .i64 x2.Pages, .slice A2 x2.Maps.length u2, .slice A3 x2.User.length u3]] [.idx x1 p0.length, .cells ⟨b1, o1 + x1.toNat * 4, none⟩ [.int .u64 x2.Epoch, .int .i64 x2.Pages, .slice A2 x2.Maps.length u2, .slice A3 x2.User.length u3] 4] (by kernel_rfl) (⟨h2, at_cells ha1 (off := 0) rfl rfl⟩) ?_
  refine RW.op (by kernel_rfl) (OK.new hT (f := fun b => .pointer (some ⟨b, 0, none⟩)) (cs := [.int .u64 0, .int .i64 0, .slice none 0 0, .slice none 0 0]) (e := 28) (c := .tt) s (by kernel_rfl) trivial ?_)
  clear s
  rintro w3 b2 s k1 -
  replace e1 := e1.st k1
  replace e2 := e2.st k1
  replace e3 := e3.st k1
  replace kk := kk.trans k1
  refine RW.op (by kernel_rfl) (OK.store hT (i := 0) (b := b2) (off := 0) (n := 4) (vs := [.int .u64 x2.Epoch, .int .i64 x2.Pages, .slice A2 x2.Maps.length u2, .slice A3 x2.User.length u3]) (cs := [.int .u64 0, .int .i64 0, .slice none 0 0, .slice none 0 0]) (e := 28) s (by kernel_rfl) rfl rfl (flat_ok rfl) (Nat.le_of_ble_eq_true rfl) ?_)
  clear s
  rintro w4 s k2 -
  replace e1 := e1.st k2
  replace e2 := e2.st k2
  replace e3 := e3.st k2
  replace kk := kk.trans k2
  refine RW.nil ?_
  refine WPK.seq ?_
  refine WPK.region ?_
  refine RW.seg hT 4 [.slice A2 x2.Maps.length u2] [] [.pointer (some ⟨b2, 2, none⟩), .slice A2 x2.Maps.length u2, .int .i64 (x2.Maps.length : Int), .bool (decide ((x2.Maps.length : Int) > 100))] [.cell ⟨b2, 2, none⟩ (.slice A2 x2.Maps.length u2)] (by kernel_rfl) (s.cell (i := 0) (off := 2) rfl rfl) ?_
  by_cases h3 : (x2.Maps.length : Int) > 100
  have hf := iteT h3 hf
  refine RW.seg hT 6 [] [(15, .bool true)] [.bool true, undef, undef, undef, undef, .bool true] [.veq (.bool (decide ((x2.Maps.length : Int) > 100))) (.bool true)] (by kernel_rfl) (bo_t h3) ?_
  refine RW.nil ?_
  refine WPK.condT (by kernel_rfl) ?_
  refine WPK.seq ?_
  refine WPK.region ?_
  refine RW.seg hT 1 [] [] [.bool false] [] (by kernel_rfl) (trivial) ?_
  refine RW.nil ?_
  refine WPK.ret (blockQ.ret (blockQ.ret (?_)))
  obtain rfl := someS hf
  refine Fin.of (rs := [.tmp 2]) hT [] (.bool false) [] rfl (by kernel_rfl) (trivial) ?_
  replace s := s.pick [] 1 rfl
  exact fun X h => vc rfl (h I1 _ s kk)
  have hf := iteF h3 hf
  refine RW.seg hT 6 [.slice A3 x2.User.length u3] [(15, .bool false)] [.bool false, .pointer (some ⟨b2, 3, none⟩), .slice A3 x2.User.length u3, .int .i64 (x2.User.length : Int), .bool (decide ((x2.User.length : Int) > 3000)), .bool (decide ((x2.User.length : Int) > 3000))] [.veq (.bool (decide ((x2.Maps.length : Int) > 100))) (.bool false), .cell ⟨b2, 3, none⟩ (.slice A3 x2.User.length u3)] (by kernel_rfl) (⟨bo_f h3, s.cell (i := 0) (off := 3) rfl rfl⟩) ?_
  refine RW.nil ?_
  by_cases h4 : (x2.User.length : Int) > 3000
  have hf := iteT h4 hf
  refine WPK.condT (Eq.trans (b := .bool (decide ((x2.User.length : Int) > 3000))) (by kernel_rfl) (bo_t h4)) ?_
  refine WPK.seq ?_
  refine WPK.region ?_
  refine RW.seg hT 1 [] [] [.bool false] [] (by kernel_rfl) (trivial) ?_
  refine RW.nil ?_
  refine WPK.ret (blockQ.ret (blockQ.ret (?_)))
  obtain rfl := someS hf
  refine Fin.of (rs := [.tmp 2]) hT [] (.bool false) [] rfl (by kernel_rfl) (trivial) ?_
  replace s := s.pick [] 1 rfl
  exact fun X h => vc rfl (h I1 _ s kk)
  have hf := iteF h4 hf
  refine WPK.condF (Eq.trans (b := .bool (decide ((x2.User.length : Int) > 3000))) (by kernel_rfl) (bo_f h4)) ?_
  refine WPK.skip ?_
  refine WPK.region ?_
  refine RW.seg hT 2 [] [] [.int .i64 (IntKind.i64.wrap (x1 + 1)), .int .i64 (IntKind.i64.wrap (x1 + 1))] [] (by kernel_rfl) (trivial) ?_
  refine RW.nil ?_
  subst hrec1
  replace s := s.pick [] 1 rfl
  exact ⟨n1, Nat.le_refl _, fun X h => kc (by kernel_rfl) rfl (h I1 (IntKind.i64.wrap (x1 + 1)) _ hf s kk e1)⟩
  have hf := iteF h1 hf
  refine WPK.condF (Eq.trans (b := .bool (decide (x1 < (p0.length : Int)))) (by kernel_rfl) (bo_f h1)) ?_
  refine WPK.exit (blockQ.same ?_)
  refine WPK.seq ?_
  refine WPK.region ?_
  refine RW.seg hT 1 [] [] [.bool true] [] (by kernel_rfl) (trivial) ?_
  refine RW.nil ?_
  refine WPK.ret (?_)
  obtain rfl := someS hf
  refine Fin.of (rs := [.tmp 2]) hT [] (.bool true) [] rfl (by kernel_rfl) (trivial) ?_
  exact fun X h => vc rfl (h I1 _ s kk)
theorem c62 {w1 w : World} {M I : Nat → Prop} {F : List It} (p0 : T_api_Frame) (A1 : Option Addr) (u1 : Nat) (hc1 : (p0.Data.length ≤ u1 ∧ u1 ≤ 9223372036854775807)) (e1 : Elems (Rp.int .u8) I w A1 p0.Data) (s : St w1 M I (F) w) {r : Int} (hf : g62 p0 = some r) :
    Ret Tryd.prog 62 [.agg #[.int .i64 p0.Kind, .int .i64 p0.Page, .int .u64 p0.Epoch, .slice A1 p0.Data.length u1]] w fun v wz => ∀ X : Value → World → Prop, (∀ (I' : Nat → Prop) (w' : World), St w1 M I' (F) w' → Kp I w I' w' → X (.int .i64 r) w') → X v wz := by
  have kk : Kp I w I w := Kp.refl
  unfold g62 at hf
  refine Ret.of Tryd.func62 rfl ?_
  refine WPK.seq ?_
  refine WPK.region ?_
  refine RW.op (by kernel_rfl) (OK.new hT (f := fun b => .pointer (some ⟨b, 0, none⟩)) (cs := [.int .i64 p0.Kind, .int .i64 p0.Page, .int .u64 p0.Epoch, .slice A1 p0.Data.length u1]) (e := 55) (c := .tt) s (by kernel_rfl) trivial ?_)
  clear s
  rintro w2 b1 s k1 -
  replace e1 := e1.st k1
  replace kk := kk.trans k1
  refine RW.seg hT 1 [] [] [.int .i64 0] [] (by kernel_rfl) (trivial) ?_
  refine RW.nil ?_
  refine WPK.seq ?_
  refine WPK.seq ?_
  refine WPK.cut' (Kn fun D1 ds wz => ∀ X : Kont, (∀ (x1 : Bool), g62_j1 p0 x1 = some r → X [(D1.getD 0 undef), .pointer (some ⟨b1, 0, none⟩), .int .i64 0, (D1.getD 3 undef), (D1.getD 4 undef), (D1.getD 5 undef), (D1.getD 6 undef), (D1.getD 7 undef), (D1.getD 8 undef), (D1.getD 9 undef), .bool x1, undef, undef, undef, undef, undef, undef, undef, undef, undef, undef, undef, undef] [] w2) → X D1 ds wz) ?_ ?_
  intro X1 hX1
  refine fun D1 _ _ hJ => hJ X1 ?_
  intro x1 hf
  refine hX1 _ _ _ ?_
  unfold g62_j1 at hf
  by_cases h1 : x1 = true
  have hf := iteT h1 hf
  refine WPK.condT (Eq.trans (b := .bool x1) (by kernel_rfl) (b_t h1)) ?_
  refine WPK.seq ?_
  refine WPK.region ?_
  refine RW.seg hT 1 [] [] [.int .i64 42] [] (by kernel_rfl) (trivial) ?_
  refine RW.nil ?_
  refine WPK.ret (?_)
  obtain rfl := someS hf
  refine Fin.of (rs := [.tmp 2]) hT [] (.int .i64 42) [] rfl (by kernel_rfl) (trivial) ?_
  replace s := s.pick [] 1 rfl
  exact fun X h => vc rfl (h I _ s kk)
  have hf := iteF h1 hf
  refine WPK.condF (Eq.trans (b := .bool x1) (by kernel_rfl) (b_f h1)) ?_
  refine WPK.skip ?_
  refine WPK.seq ?_
  refine WPK.seq ?_
  refine WPK.cut' (Kn fun D2 ds wz => ∀ X : Kont, (∀ (x2 : Bool), g62_j2 p0 x2 = some r → X [(D2.getD 0 undef), .pointer (some ⟨b1, 0, none⟩), .int .i64 0, (D2.getD 3 undef), (D2.getD 4 undef), (D2.getD 5 undef), (D2.getD 6 undef), (D2.getD 7 undef), (D2.getD 8 undef), (D2.getD 9 undef), (D2.getD 10 undef), (D2.getD 11 undef), (D2.getD 12 undef), (D2.getD 13 undef), (D2.getD 14 undef), (D2.getD 15 undef), (D2.getD 16 undef), (D2.getD 17 undef), .bool x2, undef, undef, undef, undef] [] w2) → X D2 ds wz) ?_ ?_
  intro X2 hX2
  refine fun D2 _ _ hJ => hJ X2 ?_
  intro x2 hf
  refine hX2 _ _ _ ?_
  unfold g62_j2 at hf
  by_cases h2 : x2 = true
  have hf := iteT h2 hf
  refine WPK.condT (Eq.trans (b := .bool x2) (by kernel_rfl) (b_t h2)) ?_
  refine WPK.seq ?_
  refine WPK.region ?_
  refine RW.seg hT 1 [] [] [.int .i64 41] [] (by kernel_rfl) (trivial) ?_
  refine RW.nil ?_
  refine WPK.ret (?_)
  obtain rfl := someS hf
  refine Fin.of (rs := [.tmp 2]) hT [] (.int .i64 41) [] rfl (by kernel_rfl) (trivial) ?_
  replace s := s.pick [] 1 rfl
  exact fun X h => vc rfl (h I _ s kk)
  have hf := iteF h2 hf
  refine WPK.condF (Eq.trans (b := .bool x2) (by kernel_rfl) (b_f h2)) ?_
  refine WPK.skip ?_
  refine WPK.seq ?_
  refine WPK.seq ?_
  refine WPK.region ?_
  refine RW.seg hT 4 [.slice A1 p0.Data.length u1] [] [.pointer (some ⟨b1, 3, none⟩), .slice A1 p0.Data.length u1, .int .i64 (p0.Data.length : Int), .bool (decide ((p0.Data.length : Int) > 240))] [.cell ⟨b1, 3, none⟩ (.slice A1 p0.Data.length u1)] (by kernel_rfl) (s.cell (i := 0) (off := 3) rfl rfl) ?_
  refine RW.nil ?_
  by_cases h3 : (p0.Data.length : Int) > 240
  have hf := iteT h3 hf
  refine WPK.condT (Eq.trans (b := .bool (decide ((p0.Data.length : Int) > 240))) (by kernel_rfl) (bo_t h3)) ?_
  refine WPK.seq ?_
  refine WPK.region ?_
  refine RW.seg hT 1 [] [] [.int .i64 3] [] (by kernel_rfl) (trivial) ?_
  refine RW.nil ?_
  refine WPK.ret (?_)
  obtain rfl := someS hf
  refine Fin.of (rs := [.tmp 2]) hT [] (.int .i64 3) [] rfl (by kernel_rfl) (trivial) ?_
  replace s := s.pick [] 1 rfl
  exact fun X h => vc rfl (h I _ s kk)
  have hf := iteF h3 hf
  refine WPK.condF (Eq.trans (b := .bool (decide ((p0.Data.length : Int) > 240))) (by kernel_rfl) (bo_f h3)) ?_
  refine WPK.skip ?_
  refine WPK.seq ?_
  refine WPK.region ?_
  refine RW.seg hT 1 [] [] [.int .i64 0] [] (by kernel_rfl) (trivial) ?_
  refine RW.nil ?_
  refine WPK.ret (?_)
  obtain rfl := someS hf
  refine Fin.of (rs := [.tmp 2]) hT [] (.int .i64 0) [] rfl (by kernel_rfl) (trivial) ?_
  replace s := s.pick [] 1 rfl
  exact fun X h => vc rfl (h I _ s kk)
  refine WPK.region ?_
  refine RW.seg hT 3 [.int .i64 p0.Page] [] [.pointer (some ⟨b1, 1, none⟩), .int .i64 p0.Page, .bool (decide (p0.Page < 0))] [.cell ⟨b1, 1, none⟩ (.int .i64 p0.Page)] (by kernel_rfl) (s.cell (i := 0) (off := 1) rfl rfl) ?_
  by_cases h4 : p0.Page < 0
  have hf := iteT h4 hf
  refine RW.seg hT 5 [] [(14, .bool true)] [.bool true, undef, undef, undef, .bool true] [.veq (.bool (decide (p0.Page < 0))) (.bool true)] (by kernel_rfl) (bo_t h4) ?_
  refine RW.nil ?_
  exact fun X h => kc (by kernel_rfl) rfl (h true hf)
  have hf := iteF h4 hf
  refine RW.seg hT 5 [.int .i64 p0.Page] [(14, .bool false)] [.bool false, .pointer (some ⟨b1, 1, none⟩), .int .i64 p0.Page, .bool (decide (p0.Page ≥ 2048)), .bool (decide (p0.Page ≥ 2048))] [.veq (.bool (decide (p0.Page < 0))) (.bool false), .cell ⟨b1, 1, none⟩ (.int .i64 p0.Page)] (by kernel_rfl) (⟨bo_f h4, s.cell (i := 0) (off := 1) rfl rfl⟩) ?_
  refine RW.nil ?_
  exact fun X h => kc (by kernel_rfl) rfl (h (decide (p0.Page ≥ 2048)) hf)
  refine WPK.region ?_
  refine RW.seg hT 3 [.int .i64 p0.Kind] [] [.pointer (some ⟨b1, 0, none⟩), .int .i64 p0.Kind, .bool (decide (p0.Kind < 1))] [.cell ⟨b1, 0, none⟩ (.int .i64 p0.Kind)] (by kernel_rfl) (s.cell (i := 0) (off := 0) rfl rfl) ?_
  by_cases h5 : p0.Kind < 1
  have hf := iteT h5 hf
  refine RW.seg hT 5 [] [(6, .bool true)] [.bool true, undef, undef, undef, .bool true] [.veq (.bool (decide (p0.Kind < 1))) (.bool true)] (by kernel_rfl) (bo_t h5) ?_
  refine RW.nil ?_
  exact fun X h => kc (by kernel_rfl) rfl (h true hf)
  have hf := iteF h5 hf
  refine RW.seg hT 5 [.int .i64 p0.Kind] [(6, .bool false)] [.bool false, .pointer (some ⟨b1, 0, none⟩), .int .i64 p0.Kind, .bool (decide (p0.Kind > 4)), .bool (decide (p0.Kind > 4))] [.veq (.bool (decide (p0.Kind < 1))) (.bool false), .cell ⟨b1, 0, none⟩ (.int .i64 p0.Kind)] (by kernel_rfl) (⟨bo_f h5, s.cell (i := 0) (off := 0) rfl rfl⟩) ?_
  refine RW.nil ?_
  exact fun X h => kc (by kernel_rfl) rfl (h (decide (p0.Kind > 4)) hf)
theorem c41 {w1 w : World} {M I : Nat → Prop} {F : List It} (p0 : T_api_Frame) (A1 : Option Addr) (u1 : Nat) (hc1 : (p0.Data.length ≤ u1 ∧ u1 ≤ 9223372036854775807)) (e1 : Elems (Rp.int .u8) I w A1 p0.Data) (s : St w1 M I (F) w) {r : ((List Int) × Int)} (hf : g41 p0 = some r) :
    Ret Tryd.prog 41 [.agg #[.int .i64 p0.Kind, .int .i64 p0.Page, .int .u64 p0.Epoch, .slice A1 p0.Data.length u1]] w fun v wz => ∀ X : Value → World → Prop, (∀ (I' : Nat → Prop) (A2 : Option Addr) (n1 : Nat) (u2 : Nat) (cl1 : List Value) (w' : World), St w1 M I' ((.sl (.slice A2 n1 u2) 5 1 n1 cl1) :: F) w' → Kp I w I' w' → n1 = r.1.length → RepL (Rp.int .u8) I' w' cl1 r.1 → X (.tuple #[.slice A2 n1 u2, .int .i64 r.2]) w') → X v wz := by
  have kk : Kp I w I w := Kp.refl
  unfold g41 at hf
  refine Ret.of Tryd.func41 rfl ?_
  refine WPK.seq ?_
  refine WPK.region ?_
  refine RW.op (by kernel_rfl) (OK.new hT (f := fun b => .pointer (some ⟨b, 0, none⟩)) (cs := [.int .i64 p0.Kind, .int .i64 p0.Page, .int .u64 p0.Epoch, .slice A1 p0.Data.length u1]) (e := 55) (c := .tt) s (by kernel_rfl) trivial ?_)
  clear s
  rintro w2 b1 s k1 -
  replace e1 := e1.st k1
  replace kk := kk.trans k1
  refine RW.seg hT 2 [] [] [.slice none 0 0, .int .i64 0] [] (by kernel_rfl) (trivial) ?_
  refine RW.nil ?_
  refine WPK.seq ?_
  refine WPK.seq ?_
  refine WPK.region ?_
  refine RW.seg hT 1 [.agg #[.int .i64 p0.Kind, .int .i64 p0.Page, .int .u64 p0.Epoch, .slice A1 p0.Data.length u1]] [] [.agg #[.int .i64 p0.Kind, .int .i64 p0.Page, .int .u64 p0.Epoch, .slice A1 p0.Data.length u1]] [.cells ⟨b1, 0, none⟩ [.int .i64 p0.Kind, .int .i64 p0.Page, .int .u64 p0.Epoch, .slice A1 p0.Data.length u1] 4] (by kernel_rfl) (s.cells (i := 0) rfl rfl rfl) ?_
  obtain ⟨x1, hx1, hf⟩ := bindS hf
  refine RW.op (by kernel_rfl) (OK.call' en62 (by kernel_rfl) (c62 (F := (.blk b1 (.cells #[.int .i64 p0.Kind, .int .i64 p0.Page, .int .u64 p0.Epoch, .slice A1 p0.Data.length u1] 55 (0, 0))) :: F) p0 A1 u1 hc1 e1 s hx1) ?_)
  intro X1 hX1
  refine fun _ _ hJ => hJ X1 ?_
  clear s
  intro I1 w3 s k2
  refine hX1 _ _ ?_
  replace e1 := e1.st k2
  replace kk := kk.trans k2
  refine RW.seg hT 1 [] [] [.int .i64 x1] [] (by kernel_rfl) (trivial) ?_
  refine RW.nil ?_
  refine WPK.seq ?_
  refine WPK.region ?_
  refine RW.seg hT 2 [] [(10, .bool (decide (x1 ≠ 0)))] [.int .i64 x1, .bool (decide (x1 ≠ 0))] [.veq (.bool (x1 != 0)) (.bool (decide (x1 ≠ 0)))] (by kernel_rfl) (ne_v) ?_
  refine RW.nil ?_
  by_cases h1 : x1 ≠ 0
  have hf := iteT h1 hf
  refine WPK.condT (Eq.trans (b := .bool (decide (x1 ≠ 0))) (by kernel_rfl) (bo_t h1)) ?_
  refine WPK.seq ?_
  refine WPK.region ?_
  refine RW.seg hT 3 [] [] [.int .i64 x1, .slice none 0 0, .int .i64 x1] [] (by kernel_rfl) (trivial) ?_
  refine RW.nil ?_
  refine WPK.ret (?_)
  obtain rfl := someS hf
  refine Fin.of (rs := [.tmp 2, .tmp 3]) hT [] (.tuple #[.slice none 0 0, .int .i64 x1]) [] rfl (by kernel_rfl) (trivial) ?_
  replace s := s.pushNil 5 1
  replace s := s.pick [0] 2 rfl
  exact fun X h => vc rfl (h I1 none 0 0 [] _ s kk rfl (RepL.nil (r := (Rp.int .u8))))
  have hf := iteF h1 hf
  refine WPK.condF (Eq.trans (b := .bool (decide (x1 ≠ 0))) (by kernel_rfl) (bo_f h1)) ?_
  refine WPK.skip ?_
  refine WPK.seq ?_
  refine WPK.region ?_
  refine RW.seg hT 11 [.int .i64 p0.Kind, undef, .int .i64 p0.Page, undef, .int .i64 p0.Page, undef] [] [.pointer (some ⟨b1, 0, none⟩), .int .i64 p0.Kind, .int .u8 (IntKind.u8.wrap p0.Kind), .pointer (some ⟨b1, 1, none⟩), .int .i64 p0.Page, .int .i64 (IntKind.i64.wrap (Int.tdiv p0.Page 256)), .int .u8 (IntKind.u8.wrap (IntKind.i64.wrap (Int.tdiv p0.Page 256))), .pointer (some ⟨b1, 1, none⟩), .int .i64 p0.Page, .int .i64 (Int.tmod p0.Page 256), .int .u8 (IntKind.u8.wrap (Int.tmod p0.Page 256))] [.cell ⟨b1, 0, none⟩ (.int .i64 p0.Kind), .cell ⟨b1, 1, none⟩ (.int .i64 p0.Page), .ne0 256, .cell ⟨b1, 1, none⟩ (.int .i64 p0.Page), .ne0 256] (by kernel_rfl) (⟨s.cell (i := 0) (off := 0) rfl rfl, s.cell (i := 0) (off := 1) rfl rfl, (show (256 : Int) ≠ 0 by decide), s.cell (i := 0) (off := 1) rfl rfl, (show (256 : Int) ≠ 0 by decide)⟩) ?_
  refine RW.op (by kernel_rfl) (OK.new hT (f := fun b => .slice (some ⟨b, 0, none⟩) 4 4) (cs := [.int .u8 (IntKind.u8.wrap p0.Kind), .int .u8 0, .int .u8 (IntKind.u8.wrap (IntKind.i64.wrap (Int.tdiv p0.Page 256))), .int .u8 (IntKind.u8.wrap (Int.tmod p0.Page 256))]) (e := 5) (c := .tt) s (by kernel_rfl) trivial ?_)
  clear s
  rintro w4 b2 s k3 -
  replace e1 := e1.st k3
  replace kk := kk.trans k3
  have rp1 : RepL (Rp.int .u8) I1 w4 [.int .u8 (IntKind.u8.wrap p0.Kind), .int .u8 0, .int .u8 (IntKind.u8.wrap (IntKind.i64.wrap (Int.tdiv p0.Page 256))), .int .u8 (IntKind.u8.wrap (Int.tmod p0.Page 256))] ([IntKind.u8.wrap p0.Kind, 0, IntKind.u8.wrap (IntKind.i64.wrap (Int.tdiv p0.Page 256)), IntKind.u8.wrap (Int.tmod p0.Page 256)] : List Int) := RepL.cons (c := [.int .u8 (IntKind.u8.wrap p0.Kind)]) (d := [.int .u8 0, .int .u8 (IntKind.u8.wrap (IntKind.i64.wrap (Int.tdiv p0.Page 256))), .int .u8 (IntKind.u8.wrap (Int.tmod p0.Page 256))]) (rfl) (RepL.cons (c := [.int .u8 0]) (d := [.int .u8 (IntKind.u8.wrap (IntKind.i64.wrap (Int.tdiv p0.Page 256))), .int .u8 (IntKind.u8.wrap (Int.tmod p0.Page 256))]) (rfl) (RepL.cons (c := [.int .u8 (IntKind.u8.wrap (IntKind.i64.wrap (Int.tdiv p0.Page 256)))]) (d := [.int .u8 (IntKind.u8.wrap (Int.tmod p0.Page 256))]) (rfl) (RepL.cons (c := [.int .u8 (IntKind.u8.wrap (Int.tmod p0.Page 256))]) (d := []) (rfl) (RepL.nil))))
  replace s : St w1 M I1 ((.sl (.slice (some ⟨b2, 0, none⟩) 4 4) 5 1 4 [.int .u8 (IntKind.u8.wrap p0.Kind), .int .u8 0, .int .u8 (IntKind.u8.wrap (IntKind.i64.wrap (Int.tdiv p0.Page 256))), .int .u8 (IntKind.u8.wrap (Int.tmod p0.Page 256))]) :: (.blk b1 (.cells #[.int .i64 p0.Kind, .int .i64 p0.Page, .int .u64 p0.Epoch, .slice A1 p0.Data.length u1] 55 (0, 0))) :: F) w4 := s.blkSl (i := 0) (n := 4) (c := 4) (size := 1) rfl rfl (Nat.le_refl _) (by decide)
  refine RW.seg hT 1 [] [] [.slice (some ⟨b2, 0, none⟩) 4 4] [] (by kernel_rfl) (trivial) ?_
  refine RW.nil ?_
  refine WPK.seq ?_
  refine WPK.seq ?_
  refine WPK.region ?_
  refine RW.seg hT 1 [] [] [.int .i64 0] [] (by kernel_rfl) (trivial) ?_
  refine RW.nil ?_
  refine WPK.block ?_
  refine WPK.loop' (J := fun n2 D1 ds wz => ∀ X : Kont, (∀ (I2 : Nat → Prop) (x2 : (List Int)) (x3 : Int) (A3 : Option Addr) (u3 : Nat) (cl2 : List Value) (w' : World), g41_l1 p0 n2 x2 x3 = some r → St w1 M I2 ((.sl (.slice A3 x2.length u3) 5 1 x2.length cl2) :: (.blk b1 (.cells #[.int .i64 p0.Kind, .int .i64 p0.Page, .int .u64 p0.Epoch, .slice A1 p0.Data.length u1] 55 (0, 0))) :: F) w' → Kp I w I2 w' → RepL (Rp.int .u8) I2 w' cl2 x2 → Elems (Rp.int .u8) I2 w' A1 p0.Data → X [(D1.getD 0 undef), .pointer (some ⟨b1, 0, none⟩), .slice none 0 0, .int .i64 0, (D1.getD 4 undef), .slice A3 x2.length u3, .int .i64 x3, (D1.getD 7 undef), (D1.getD 8 undef), (D1.getD 9 undef), (D1.getD 10 undef), (D1.getD 11 undef), (D1.getD 12 undef), (D1.getD 13 undef), (D1.getD 14 undef), (D1.getD 15 undef), (D1.getD 16 undef), (D1.getD 17 undef), (D1.getD 18 undef), (D1.getD 19 undef), (D1.getD 20 undef), (D1.getD 21 undef), (D1.getD 22 undef), (D1.getD 23 undef), (D1.getD 24 undef), (D1.getD 25 undef), (D1.getD 26 undef), (D1.getD 27 undef), (D1.getD 28 undef), (D1.getD 29 undef), (D1.getD 30 undef), (D1.getD 31 undef), (D1.getD 32 undef), (D1.getD 33 undef), (D1.getD 34 undef), (D1.getD 35 undef), (D1.getD 36 undef), (D1.getD 37 undef), (D1.getD 38 undef), undef, undef, undef, undef, undef, undef, undef, undef, undef, undef, undef, undef] [] w') → X D1 ds wz) FUEL (fun X h => kc (by kernel_rfl) rfl (h I1 ([IntKind.u8.wrap p0.Kind, 0, IntKind.u8.wrap (IntKind.i64.wrap (Int.tdiv p0.Page 256)), IntKind.u8.wrap (Int.tmod p0.Page 256)] : List Int) 0 (some ⟨b2, 0, none⟩) 4 [.int .u8 (IntKind.u8.wrap p0.Kind), .int .u8 0, .int .u8 (IntKind.u8.wrap (IntKind.i64.wrap (Int.tdiv p0.Page 256))), .int .u8 (IntKind.u8.wrap (Int.tmod p0.Page 256))] _ hf s kk rp1 e1)) (fun _ _ _ hJ => hJ (fun _ _ _ => False) (by intro I2 x2 x3 A3 u3 cl2 w5 hf s kk rp2 e1; exact noneS hf)) ?_
  intro X2 hX2
  refine fun n2 D1 _ _ hJ => hJ (X2 n2) ?_
  clear s
  intro I2 x2 x3 A3 u3 cl2 w5 hf s kk rp2 e1
  refine hX2 _ _ _ _ ?_
  replace hf : g41_l1B p0 (g41_l1 p0 n2) x2 x3 = some r := hf
  generalize hrec1 : g41_l1 p0 n2 = rec1 at hf
  unfold g41_l1B at hf
  refine WPK.seq ?_
  refine WPK.seq ?_
  refine WPK.region ?_
  refine RW.seg hT 2 [] [] [.int .i64 x3, .bool (decide (x3 < 8))] [] (by kernel_rfl) (trivial) ?_
  refine RW.nil ?_
  by_cases h2 : x3 < 8
  have hf := iteT h2 hf
  refine WPK.condT (Eq.trans (b := .bool (decide (x3 < 8))) (by kernel_rfl) (bo_t h2)) ?_
  refine WPK.skip ?_
  refine WPK.seq ?_
  refine WPK.block ?_
  refine WPK.region ?_
  obtain ⟨x4, hx2, hf⟩ := bindS hf
  obtain ⟨h3, hf⟩ := iteS hf
  refine RW.seg hT 9 [.int .u64 p0.Epoch, undef, undef] [(34, .int .u64 x4)] [.slice A3 x2.length u3, .pointer (some ⟨b1, 2, none⟩), .int .u64 p0.Epoch, .int .i64 x3, .int .i64 (IntKind.i64.wrap (8 * x3)), .int .i64 (IntKind.i64.wrap (56 - (IntKind.i64.wrap (8 * x3)))), .int .u64 x4, .int .u64 (shrI .u64 p0.Epoch x4), .int .u8 (IntKind.u8.wrap (shrI .u64 p0.Epoch x4))] [.cell ⟨b1, 2, none⟩ (.int .u64 p0.Epoch), .veq (.int .u64 (IntKind.u64.wrap (IntKind.i64.wrap (56 - (IntKind.i64.wrap (8 * x3)))))) (.int .u64 x4), .nn x4] (by kernel_rfl) (⟨s.cell (i := 1) (off := 2) rfl rfl, int_v (someS hx2), h3⟩) ?_
  refine RW.op (by kernel_rfl) (OK.new hT (f := fun b => .slice (some ⟨b, 0, none⟩) 1 1) (cs := [.int .u8 (IntKind.u8.wrap (shrI .u64 p0.Epoch x4))]) (e := 5) (c := .tt) s (by kernel_rfl) trivial ?_)
  clear s
  rintro w6 b3 s k4 -
  replace e1 := e1.st k4
  replace rp2 := rp2.st k4
  replace kk := kk.trans k4
  have rp3 : RepL (Rp.int .u8) I2 w6 [.int .u8 (IntKind.u8.wrap (shrI .u64 p0.Epoch x4))] ([IntKind.u8.wrap (shrI .u64 p0.Epoch x4)] : List Int) := RepL.cons (c := [.int .u8 (IntKind.u8.wrap (shrI .u64 p0.Epoch x4))]) (d := []) (rfl) (RepL.nil)
  replace s : St w1 M I2 ((.sl (.slice (some ⟨b3, 0, none⟩) 1 1) 5 1 1 [.int .u8 (IntKind.u8.wrap (shrI .u64 p0.Epoch x4))]) :: (.sl (.slice A3 x2.length u3) 5 1 x2.length cl2) :: (.blk b1 (.cells #[.int .i64 p0.Kind, .int .i64 p0.Page, .int .u64 p0.Epoch, .slice A1 p0.Data.length u1] 55 (0, 0))) :: F) w6 := s.blkSl (i := 0) (n := 1) (c := 1) (size := 1) rfl rfl (Nat.le_refl _) (by decide)
  have hs1 := St.src s (i := 0) rfl rfl rp3
  have rq1 := rp3
  obtain ⟨x5, hx3, hf⟩ := bindS hf
  refine RW.op (by kernel_rfl) (OK.app hT (r := (Rp.int .u8)) (i := 1) (t := 24) (e := 5) (size := 1) (bytes := 1) (c := u3) (n := x2.length) (m := 1) s (by kernel_rfl) rfl rfl rfl rfl rfl (by decide) rfl rfl rfl rfl rp2 hs1 rq1 flat_int rfl hx3 ?_)
  clear s
  rintro A4 u4 cl3 w7 s k5 rp4
  replace e1 := e1.st k5
  replace rp3 := rp3.st k5
  replace rp2 := rp2.st k5
  replace kk := kk.trans k5
  refine RW.seg hT 1 [] [] [.slice A4 x5.length u4] [] (by kernel_rfl) (trivial) ?_
  refine RW.nil ?_
  refine WPK.region ?_
  refine RW.seg hT 3 [] [] [.int .i64 x3, .int .i64 (IntKind.i64.wrap (x3 + 1)), .int .i64 (IntKind.i64.wrap (x3 + 1))] [] (by kernel_rfl) (trivial) ?_
  refine RW.nil ?_
  subst hrec1
  replace s := s.pick [1, 2] 3 rfl
  exact ⟨n2, Nat.le_refl _, fun X h => kc (by kernel_rfl) rfl (h I2 x5 (IntKind.i64.wrap (x3 + 1)) A4 u4 cl3 _ hf s kk rp4 e1)⟩
  have hf := iteF h2 hf
  refine WPK.condF (Eq.trans (b := .bool (decide (x3 < 8))) (by kernel_rfl) (bo_f h2)) ?_
  refine WPK.exit (blockQ.same ?_)
  refine WPK.seq ?_
  refine WPK.region ?_
  refine RW.seg hT 3 [.slice A1 p0.Data.length u1] [] [.slice A3 x2.length u3, .pointer (some ⟨b1, 3, none⟩), .slice A1 p0.Data.length u1] [.cell ⟨b1, 3, none⟩ (.slice A1 p0.Data.length u1)] (by kernel_rfl) (s.cell (i := 1) (off := 3) rfl rfl) ?_
  obtain ⟨nw1, hs2, rq2⟩ := Elems.src e1
  obtain ⟨x6, hx4, hf⟩ := bindS hf
  refine RW.op (by kernel_rfl) (OK.app hT (r := (Rp.int .u8)) (i := 0) (t := 24) (e := 5) (size := 1) (bytes := 1) (c := u3) (n := x2.length) (m := p0.Data.length) s (by kernel_rfl) rfl rfl rfl rfl rfl (by decide) rfl rfl rfl rfl rp2 hs2 rq2 flat_int rfl hx4 ?_)
  clear s
  rintro A5 u5 cl4 w8 s k6 rp5
  replace e1 := e1.st k6
  replace rp2 := rp2.st k6
  replace kk := kk.trans k6
  refine RW.seg hT 1 [] [] [.slice A5 x6.length u5] [] (by kernel_rfl) (trivial) ?_
  refine RW.nil ?_
  refine WPK.seq ?_
  refine WPK.block ?_
  replace s := s.pick [0] 2 rfl
  refine WPK.loop' (J := fun n3 D2 ds wz => ∀ X : Kont, (∀ (I3 : Nat → Prop) (x7 : (List Int)) (A6 : Option Addr) (u6 : Nat) (cl5 : List Value) (w' : World), g41_l2 n3 x7 = some r → St w1 M I3 ((.sl (.slice A6 x7.length u6) 5 1 x7.length cl5) :: F) w' → Kp I w I3 w' → RepL (Rp.int .u8) I3 w' cl5 x7 → X [(D2.getD 0 undef), (D2.getD 1 undef), .slice none 0 0, .int .i64 0, (D2.getD 4 undef), .slice A6 x7.length u6, (D2.getD 6 undef), (D2.getD 7 undef), (D2.getD 8 undef), (D2.getD 9 undef), (D2.getD 10 undef), (D2.getD 11 undef), (D2.getD 12 undef), (D2.getD 13 undef), (D2.getD 14 undef), (D2.getD 15 undef), (D2.getD 16 undef), (D2.getD 17 undef), (D2.getD 18 undef), (D2.getD 19 undef), (D2.getD 20 undef), (D2.getD 21 undef), (D2.getD 22 undef), (D2.getD 23 undef), (D2.getD 24 undef), (D2.getD 25 undef), (D2.getD 26 undef), (D2.getD 27 undef), (D2.getD 28 undef), (D2.getD 29 undef), (D2.getD 30 undef), (D2.getD 31 undef), (D2.getD 32 undef), (D2.getD 33 undef), (D2.getD 34 undef), (D2.getD 35 undef), (D2.getD 36 undef), (D2.getD 37 undef), (D2.getD 38 undef), (D2.getD 39 undef), (D2.getD 40 undef), (D2.getD 41 undef), (D2.getD 42 undef), (D2.getD 43 undef), (D2.getD 44 undef), (D2.getD 45 undef), (D2.getD 46 undef), (D2.getD 47 undef), (D2.getD 48 undef), undef, undef] [] w') → X D2 ds wz) FUEL (fun X h => kc (by kernel_rfl) rfl (h I2 x6 A5 u5 cl4 _ hf s kk rp5)) (fun _ _ _ hJ => hJ (fun _ _ _ => False) (by intro I3 x7 A6 u6 cl5 w9 hf s kk rp6; exact noneS hf)) ?_
  intro X3 hX3
  refine fun n3 D2 _ _ hJ => hJ (X3 n3) ?_
  clear s
  intro I3 x7 A6 u6 cl5 w9 hf s kk rp6
  refine hX3 _ _ _ _ ?_
  replace hf : g41_l2B (g41_l2 n3) x7 = some r := hf
  generalize hrec2 : g41_l2 n3 = rec2 at hf
  unfold g41_l2B at hf
  refine WPK.seq ?_
  refine WPK.seq ?_
  refine WPK.region ?_
  refine RW.seg hT 3 [] [(44, .int .i64 (x7.length : Int))] [.slice A6 x7.length u6, .int .i64 (x7.length : Int), .bool (decide ((x7.length : Int) < 252))] [.veq (.int .i64 (x7.length : Nat)) (.int .i64 (x7.length : Int))] (by kernel_rfl) (len_v rfl) ?_
  refine RW.nil ?_
  by_cases h4 : (x7.length : Int) < 252
  have hf := iteT h4 hf
  refine WPK.condT (Eq.trans (b := .bool (decide ((x7.length : Int) < 252))) (by kernel_rfl) (bo_t h4)) ?_
  refine WPK.skip ?_
  refine WPK.block ?_
  refine WPK.region ?_
  refine RW.seg hT 1 [] [] [.slice A6 x7.length u6] [] (by kernel_rfl) (trivial) ?_
  refine RW.op (by kernel_rfl) (OK.new hT (f := fun b => .slice (some ⟨b, 0, none⟩) 1 1) (cs := [.int .u8 0]) (e := 5) (c := .tt) s (by kernel_rfl) trivial ?_)
  clear s
  rintro w10 b4 s k7 -
  replace rp6 := rp6.st k7
  replace kk := kk.trans k7
  have rp7 : RepL (Rp.int .u8) I3 w10 [.int .u8 0] ([0] : List Int) := RepL.cons (c := [.int .u8 0]) (d := []) (rfl) (RepL.nil)
  replace s : St w1 M I3 ((.sl (.slice (some ⟨b4, 0, none⟩) 1 1) 5 1 1 [.int .u8 0]) :: (.sl (.slice A6 x7.length u6) 5 1 x7.length cl5) :: F) w10 := s.blkSl (i := 0) (n := 1) (c := 1) (size := 1) rfl rfl (Nat.le_refl _) (by decide)
  have hs3 := St.src s (i := 0) rfl rfl rp7
  have rq3 := rp7
  obtain ⟨x8, hx5, hf⟩ := bindS hf
  refine RW.op (by kernel_rfl) (OK.app hT (r := (Rp.int .u8)) (i := 1) (t := 24) (e := 5) (size := 1) (bytes := 1) (c := u6) (n := x7.length) (m := 1) s (by kernel_rfl) rfl rfl rfl rfl rfl (by decide) rfl rfl rfl rfl rp6 hs3 rq3 flat_int rfl hx5 ?_)
  clear s
  rintro A7 u7 cl6 w11 s k8 rp8
  replace rp7 := rp7.st k8
  replace rp6 := rp6.st k8
  replace kk := kk.trans k8
  refine RW.seg hT 1 [] [] [.slice A7 x8.length u7] [] (by kernel_rfl) (trivial) ?_
  refine RW.nil ?_
  subst hrec2
  replace s := s.pick [1] 2 rfl
  exact ⟨n3, Nat.le_refl _, fun X h => kc (by kernel_rfl) rfl (h I3 x8 A7 u7 cl6 _ hf s kk rp8)⟩
  have hf := iteF h4 hf
  refine WPK.condF (Eq.trans (b := .bool (decide ((x7.length : Int) < 252))) (by kernel_rfl) (bo_f h4)) ?_
  refine WPK.exit (blockQ.same ?_)
  refine WPK.seq ?_
  refine WPK.region ?_
  refine RW.seg hT 1 [] [] [.slice A6 x7.length u6] [] (by kernel_rfl) (trivial) ?_
  have sa1 := s
  obtain ⟨hc2, e2⟩ := St.lend s (i := 0) rfl rfl rp6
  have k9 := Kp.shut (I := I3) (w := w9) (p := .sl (.slice A6 x7.length u6) 5 1 x7.length cl5)
  replace s := s.shut 0 rfl
  obtain ⟨x9, hx6, hf⟩ := bindS hf
  refine RW.op (by kernel_rfl) (OK.call' en63 (by kernel_rfl) (c63 (F := F) x7 A6 u6 hc2 e2 s hx6) ?_)
  intro X4 hX4
  refine fun _ _ hJ => hJ X4 ?_
  clear s
  intro I4 A8 n4 u8 cl7 w12 s k10 hn1 rp9
  refine hX4 _ _ ?_
  have s' := St.back sa1 (i := 0) rfl s k10
  replace k10 := Kp.back sa1 (i := 0) rfl k10
  replace s := s'; clear s'
  obtain ⟨I5, s, k10⟩ : ∃ I : Nat → Prop, St w1 M I ((.sl (.slice A6 x7.length u6) 5 1 x7.length cl5) :: (.sl (.slice A8 n4 u8) 5 1 n4 cl7) :: F) w12 ∧ Kp _ _ I _ := ⟨_, s, k10⟩
  replace rp9 := RepL.free (I' := I5) (w' := w12) free_int rp9
  replace rp6 := rp6.st k10
  replace kk := kk.trans k10
  refine RW.seg hT 2 [] [] [.slice A8 n4 u8, .int .i64 0] [] (by kernel_rfl) (trivial) ?_
  refine RW.nil ?_
  refine WPK.ret (?_)
  obtain rfl := someS hf
  refine Fin.of (rs := [.tmp 2, .tmp 3]) hT [] (.tuple #[.slice A8 n4 u8, .int .i64 0]) [] rfl (by kernel_rfl) (trivial) ?_
  replace s := s.pick [1] 2 rfl
  exact fun X h => vc rfl (h I5 A8 n4 u8 cl7 _ s kk hn1 rp9)
theorem c20 {w1 w : World} {M I : Nat → Prop} {F : List It} (p0 : T_api_Head) (A1 : Option Addr) (u1 : Nat) (A2 : Option Addr) (u2 : Nat) (hc1 : (p0.Maps.length ≤ u1 ∧ u1 ≤ 9223372036854775807)) (e1 : Elems (Rp.int .i64) I w A1 p0.Maps) (hc2 : (p0.User.length ≤ u2 ∧ u2 ≤ 9223372036854775807)) (e2 : Elems (Rp.int .u8) I w A2 p0.User) (s : St w1 M I (F) w) {r : ((List Int) × Int)} (hf : g20 p0 = some r) :
    Ret Tryd.prog 20 [.agg #[.int .u64 p0.Epoch, .int .i64 p0.Pages, .slice A1 p0.Maps.length u1, .slice A2 p0.User.length u2]] w fun v wz => ∀ X : Value → World → Prop, (∀ (I' : Nat → Prop) (A3 : Option Addr) (n1 : Nat) (u3 : Nat) (cl1 : List Value) (w' : World), St w1 M I' ((.sl (.slice A3 n1 u3) 5 1 n1 cl1) :: F) w' → Kp I w I' w' → n1 = r.1.length → RepL (Rp.int .u8) I' w' cl1 r.1 → X (.tuple #[.slice A3 n1 u3, .int .i64 r.2]) w') → X v wz := by
  have kk : Kp I w I w := Kp.refl
  unfold g20 at hf
  refine Ret.of Tryd.func20 rfl ?_
  refine WPK.seq ?_
  refine WPK.region ?_
  refine RW.op (by kernel_rfl) (OK.new hT (f := fun b => .pointer (some ⟨b, 0, none⟩)) (cs := [.int .u64 p0.Epoch, .int .i64 p0.Pages, .slice A1 p0.Maps.length u1, .slice A2 p0.User.length u2]) (e := 28) (c := .tt) s (by kernel_rfl) trivial ?_)
  clear s
  rintro w2 b1 s k1 -
  replace e1 := e1.st k1
  replace e2 := e2.st k1
  replace kk := kk.trans k1
  refine RW.seg hT 2 [] [] [.slice none 0 0, .int .i64 0] [] (by kernel_rfl) (trivial) ?_
  refine RW.nil ?_
  refine WPK.seq ?_
  refine WPK.region ?_
  refine RW.seg hT 1 [.agg #[.int .u64 p0.Epoch, .int .i64 p0.Pages, .slice A1 p0.Maps.length u1, .slice A2 p0.User.length u2]] [] [.agg #[.int .u64 p0.Epoch, .int .i64 p0.Pages, .slice A1 p0.Maps.length u1, .slice A2 p0.User.length u2]] [.cells ⟨b1, 0, none⟩ [.int .u64 p0.Epoch, .int .i64 p0.Pages, .slice A1 p0.Maps.length u1, .slice A2 p0.User.length u2] 4] (by kernel_rfl) (s.cells (i := 0) rfl rfl rfl) ?_
  obtain ⟨x1, hx1, hf⟩ := bindS hf
  refine RW.op (by kernel_rfl) (OK.call' en18 (by kernel_rfl) (c18 (F := (.blk b1 (.cells #[.int .u64 p0.Epoch, .int .i64 p0.Pages, .slice A1 p0.Maps.length u1, .slice A2 p0.User.length u2] 28 (0, 0))) :: F) p0 A1 u1 A2 u2 hc1 e1 hc2 e2 s hx1) ?_)
  intro X1 hX1
  refine fun _ _ hJ => hJ X1 ?_
  clear s
  intro I1 A4 n2 u4 cl2 w3 s k2 hn1 rp1
  refine hX1 _ _ ?_
  replace e1 := e1.st k2
  replace e2 := e2.st k2
  replace kk := kk.trans k2
  refine RW.seg hT 5 [] [] [.tuple #[.slice A4 n2 u4, .int .i64 x1.2], .slice A4 n2 u4, .int .i64 x1.2, .slice A4 n2 u4, .int .i64 x1.2] [] (by kernel_rfl) (trivial) ?_
  refine RW.nil ?_
  refine WPK.seq ?_
  refine WPK.seq ?_
  refine WPK.region ?_
  refine RW.seg hT 2 [] [(12, .bool (decide (x1.2 ≠ 0)))] [.int .i64 x1.2, .bool (decide (x1.2 ≠ 0))] [.veq (.bool (x1.2 != 0)) (.bool (decide (x1.2 ≠ 0)))] (by kernel_rfl) (ne_v) ?_
  refine RW.nil ?_
  by_cases h1 : x1.2 ≠ 0
  have hf := iteT h1 hf
  refine WPK.condT (Eq.trans (b := .bool (decide (x1.2 ≠ 0))) (by kernel_rfl) (bo_t h1)) ?_
  refine WPK.seq ?_
  refine WPK.region ?_
  refine RW.seg hT 3 [] [] [.int .i64 x1.2, .slice none 0 0, .int .i64 x1.2] [] (by kernel_rfl) (trivial) ?_
  refine RW.nil ?_
  refine WPK.ret (?_)
  obtain rfl := someS hf
  refine Fin.of (rs := [.tmp 2, .tmp 3]) hT [] (.tuple #[.slice none 0 0, .int .i64 x1.2]) [] rfl (by kernel_rfl) (trivial) ?_
  replace s := s.pushNil 5 1
  replace s := s.pick [0] 3 rfl
  exact fun X h => vc rfl (h I1 none 0 0 [] _ s kk rfl (RepL.nil (r := (Rp.int .u8))))
  have hf := iteF h1 hf
  refine WPK.condF (Eq.trans (b := .bool (decide (x1.2 ≠ 0))) (by kernel_rfl) (bo_f h1)) ?_
  refine WPK.skip ?_
  refine WPK.seq ?_
  have e1S1 := e1
  have e2S1 := e2
  have rp1S1 := rp1
  have kS1 : Kp I1 w3 I1 w3 := Kp.refl
  refine WPK.drawM (fun w' => ∃ I' : Nat → Prop, St w1 M I' ((.sl (.slice A4 n2 u4) 5 1 n2 cl2) :: (.blk b1 (.cells #[.int .u64 p0.Epoch, .int .i64 p0.Pages, .slice A1 p0.Maps.length u1, .slice A2 p0.User.length u2] 28 (0, 0))) :: F) w' ∧ Kp I1 w3 I' w') 12 [0, 1, 3, 0, 8, 0, 63, 127, 255, 255, 1023, 2047] (by kernel_rfl) (by kernel_rfl) ?_
  intro ht1 w4 hd1
  have k3 := Kp.dr s hd1
  replace s := s.dr hd1
  replace e1 := e1.st k3
  replace e2 := e2.st k3
  replace rp1 := rp1.st k3
  replace kk := kk.trans k3
  replace kS1 := kS1.trans k3
  refine RD.segM hT ht1 (by kernel_rfl) [0, 1, 3, 4, 5] [.int .u64 p0.Epoch, .int .u64 p0.Epoch] [] [.pointer (some ⟨b1, 0, none⟩), .int .u64 p0.Epoch, .pointer (some ⟨b1, 0, none⟩), .int .u64 p0.Epoch, .slice A4 n2 u4] [.cell ⟨b1, 0, none⟩ (.int .u64 p0.Epoch), .cell ⟨b1, 0, none⟩ (.int .u64 p0.Epoch)] (by kernel_rfl) (by rintro w' ⟨I', s, k⟩; have e1 := e1S1.st k; have e2 := e2S1.st k; have rp1 := rp1S1.st k; exact ⟨s.cell (i := 1) (off := 0) rfl rfl, s.cell (i := 1) (off := 0) rfl rfl⟩) ⟨_, s.pick [0, 1] 2 rfl, kS1⟩ ?_
  obtain ⟨x2, hx2, hf⟩ := bindS hf
  refine RD.op (i := 2) rfl (by kernel_rfl) (by kernel_rfl) (OK.call' en26 (by kernel_rfl) (c26 (F := (.sl (.slice A4 n2 u4) 5 1 n2 cl2) :: (.blk b1 (.cells #[.int .u64 p0.Epoch, .int .i64 p0.Pages, .slice A1 p0.Maps.length u1, .slice A2 p0.User.length u2] 28 (0, 0))) :: F) p0.Epoch s hx2) ?_)
  intro X2 hX2
  refine fun _ _ hJ => hJ X2 ?_
  clear s
  intro I2 w5 s k4
  refine hX2 _ _ ?_
  replace e1 := e1.st k4
  replace e2 := e2.st k4
  replace rp1 := rp1.st k4
  replace kk := kk.trans k4
  replace kS1 := kS1.trans k4
  refine ⟨fun _ => ⟨_, s.pick [0, 1] 2 rfl, kS1⟩, RD.fold ?_⟩
  refine RD.segM hT ht1 (by kernel_rfl) [6] [] [] [.agg #[.int .i64 1, .int .i64 x2, .int .u64 p0.Epoch, .slice A4 n2 u4]] [] (by kernel_rfl) (fun _ _ => trivial) ⟨_, s.pick [0, 1] 2 rfl, kS1⟩ ?_
  have sa1 := s
  obtain ⟨hc3, e3⟩ := St.lend s (i := 0) rfl hn1 rp1
  have k5 := Kp.shut (I := I2) (w := w5) (p := .sl (.slice A4 n2 u4) 5 1 n2 cl2)
  replace s := s.shut 0 rfl
  obtain ⟨x3, hx3, hf⟩ := bindS hf
  have hc4 := c41 (F := (.blk b1 (.cells #[.int .u64 p0.Epoch, .int .i64 p0.Pages, .slice A1 p0.Maps.length u1, .slice A2 p0.User.length u2] 28 (0, 0))) :: F) (T_api_Frame.mk 1 x2 p0.Epoch x1.1) A4 u4 hc3 e3 s hx3
  rw [← hn1] at hc4
  refine RD.op (i := 7) rfl (by kernel_rfl) (by kernel_rfl) (OK.call' en41 (by kernel_rfl) (hc4) ?_)
  intro X3 hX3
  refine fun _ _ hJ => hJ X3 ?_
  clear s
  intro I3 A5 n3 u5 cl3 w6 s k6 hn2 rp2
  refine hX3 _ _ ?_
  have s' := St.back sa1 (i := 0) rfl s k6
  replace k6 := Kp.back sa1 (i := 0) rfl k6
  replace s := s'; clear s'
  obtain ⟨I4, s, k6⟩ : ∃ I : Nat → Prop, St w1 M I ((.sl (.slice A4 n2 u4) 5 1 n2 cl2) :: (.sl (.slice A5 n3 u5) 5 1 n3 cl3) :: (.blk b1 (.cells #[.int .u64 p0.Epoch, .int .i64 p0.Pages, .slice A1 p0.Maps.length u1, .slice A2 p0.User.length u2] 28 (0, 0))) :: F) w6 ∧ Kp _ _ I _ := ⟨_, s, k6⟩
  replace rp2 := RepL.free (I' := I4) (w' := w6) free_int rp2
  replace e1 := e1.st k6
  replace e2 := e2.st k6
  replace rp1 := rp1.st k6
  replace kk := kk.trans k6
  replace kS1 := kS1.trans k6
  refine ⟨fun _ => ⟨_, s.pick [0, 2] 3 rfl, kS1⟩, RD.fold ?_⟩
  refine RD.segM hT ht1 (by kernel_rfl) [8, 9, 10, 11] [] [] [.slice A5 n3 u5, .int .i64 x3.2, .slice A5 n3 u5, .int .i64 x3.2] [] (by kernel_rfl) (fun _ _ => trivial) ⟨_, s.pick [0, 2] 3 rfl, kS1⟩ ?_
  refine RD.done (by kernel_rfl) ?_
  refine WPK.ret (?_)
  obtain rfl := someS hf
  refine Fin.of (rs := [.tmp 2, .tmp 3]) hT [] (.tuple #[.slice A5 n3 u5, .int .i64 x3.2]) [] rfl (by kernel_rfl) (trivial) ?_
  replace s := s.pick [1] 3 rfl
  exact fun X h => vc rfl (h I4 A5 n3 u5 cl3 _ s kk hn2 rp2)
theorem c44 {w1 w : World} {M I : Nat → Prop} {F : List It} (p0 : (List Int)) (p1 : (List Int)) (A1 : Option Addr) (u1 : Nat) (A2 : Option Addr) (u2 : Nat) (hc1 : (p0.length ≤ u1 ∧ u1 ≤ 9223372036854775807)) (e1 : Elems (Rp.int .i64) I w A1 p0) (hc2 : (p1.length ≤ u2 ∧ u2 ≤ 9223372036854775807)) (e2 : Elems (Rp.int .i64) I w A2 p1) (s : St w1 M I (F) w) {r : Bool} (hf : g44 p0 p1 = some r) :
    Ret Tryd.prog 44 [.slice A1 p0.length u1, .slice A2 p1.length u2] w fun v wz => ∀ X : Value → World → Prop, (∀ (I' : Nat → Prop) (w' : World), St w1 M I' (F) w' → Kp I w I' w' → X (.bool r) w') → X v wz := by
  have kk : Kp I w I w := Kp.refl
  unfold g44 at hf
  refine Ret.of Tryd.func44 rfl ?_
  refine WPK.seq ?_
  refine WPK.region ?_
  refine RW.seg hT 1 [] [] [.bool false] [] (by kernel_rfl) (trivial) ?_
  refine RW.nil ?_
  refine WPK.seq ?_
  refine WPK.seq ?_
  refine WPK.region ?_
  refine RW.seg hT 5 [] [(10, .bool (decide ((p0.length : Int) ≠ (p1.length : Int))))] [.slice A1 p0.length u1, .int .i64 (p0.length : Int), .slice A2 p1.length u2, .int .i64 (p1.length : Int), .bool (decide ((p0.length : Int) ≠ (p1.length : Int)))] [.veq (.bool ((p0.length : Int) != (p1.length : Int))) (.bool (decide ((p0.length : Int) ≠ (p1.length : Int))))] (by kernel_rfl) (ne_v) ?_
  refine RW.nil ?_
  by_cases h1 : (p0.length : Int) ≠ (p1.length : Int)
  have hf := iteT h1 hf
  refine WPK.condT (Eq.trans (b := .bool (decide ((p0.length : Int) ≠ (p1.length : Int)))) (by kernel_rfl) (bo_t h1)) ?_
  refine WPK.seq ?_
  refine WPK.region ?_
  refine RW.seg hT 1 [] [] [.bool false] [] (by kernel_rfl) (trivial) ?_
  refine RW.nil ?_
  refine WPK.ret (?_)
  obtain rfl := someS hf
  refine Fin.of (rs := [.tmp 4]) hT [] (.bool false) [] rfl (by kernel_rfl) (trivial) ?_
  exact fun X h => vc rfl (h I _ s kk)
  have hf := iteF h1 hf
  refine WPK.condF (Eq.trans (b := .bool (decide ((p0.length : Int) ≠ (p1.length : Int)))) (by kernel_rfl) (bo_f h1)) ?_
  refine WPK.skip ?_
  refine WPK.seq ?_
  refine WPK.seq ?_
  refine WPK.region ?_
  refine RW.seg hT 3 [] [] [.slice A1 p0.length u1, .int .i64 (p0.length : Int), .int .i64 0] [] (by kernel_rfl) (trivial) ?_
  refine RW.nil ?_
  refine WPK.block ?_
  refine WPK.loop' (J := fun n1 D1 ds wz => ∀ X : Kont, (∀ (I1 : Nat → Prop) (x1 : Int) (w' : World), g44_l1 p0 p1 n1 x1 = some r → St w1 M I1 (F) w' → Kp I w I1 w' → Elems (Rp.int .i64) I1 w' A1 p0 → Elems (Rp.int .i64) I1 w' A2 p1 → X [.slice A1 p0.length u1, .slice A2 p1.length u2, (D1.getD 2 undef), (D1.getD 3 undef), .bool false, (D1.getD 5 undef), (D1.getD 6 undef), (D1.getD 7 undef), (D1.getD 8 undef), (D1.getD 9 undef), (D1.getD 10 undef), (D1.getD 11 undef), .int .i64 (p0.length : Int), .int .i64 x1, (D1.getD 14 undef), (D1.getD 15 undef), (D1.getD 16 undef), (D1.getD 17 undef), (D1.getD 18 undef), (D1.getD 19 undef), (D1.getD 20 undef), (D1.getD 21 undef), (D1.getD 22 undef), (D1.getD 23 undef), (D1.getD 24 undef), (D1.getD 25 undef)] [] w') → X D1 ds wz) FUEL (fun X h => kc (by kernel_rfl) rfl (h I 0 _ hf s kk e1 e2)) (fun _ _ _ hJ => hJ (fun _ _ _ => False) (by intro I1 x1 w2 hf s kk e1 e2; exact noneS hf)) ?_
  intro X1 hX1
  refine fun n1 D1 _ _ hJ => hJ (X1 n1) ?_
  clear s
  intro I1 x1 w2 hf s kk e1 e2
  refine hX1 _ _ _ _ ?_
  replace hf : g44_l1B p0 p1 (g44_l1 p0 p1 n1) x1 = some r := hf
  generalize hrec1 : g44_l1 p0 p1 n1 = rec1 at hf
  unfold g44_l1B at hf
  refine WPK.seq ?_
  refine WPK.region ?_
  refine RW.seg hT 1 [] [] [.bool (decide (x1 < (p0.length : Int)))] [] (by kernel_rfl) (trivial) ?_
  refine RW.nil ?_
  refine WPK.seq ?_
  by_cases h2 : x1 < (p0.length : Int)
  have hf := iteT h2 hf
  refine WPK.condT (Eq.trans (b := .bool (decide (x1 < (p0.length : Int)))) (by kernel_rfl) (bo_t h2)) ?_
  refine WPK.skip ?_
  refine WPK.seq ?_
  refine WPK.block ?_
  refine WPK.seq ?_
  refine WPK.region ?_
  refine RW.seg hT 2 [] [] [.int .i64 x1, .int .i64 x1] [] (by kernel_rfl) (trivial) ?_
  refine RW.nil ?_
  refine WPK.seq ?_
  have e1S1 := e1
  have e2S1 := e2
  have kS1 : Kp I1 w2 I1 w2 := Kp.refl
  refine WPK.drawM (fun w' => ∃ I' : Nat → Prop, St w1 M I' (F) w' ∧ Kp I1 w2 I' w') 9 [0, 0, 3, 7, 0, 0, 48, 112, 255] (by kernel_rfl) (by kernel_rfl) ?_
  intro ht1 w3 hd1
  have k1 := Kp.dr s hd1
  replace s := s.dr hd1
  replace e1 := e1.st k1
  replace e2 := e2.st k1
  replace kk := kk.trans k1
  replace kS1 := kS1.trans k1
  obtain ⟨x2, hx1, hf⟩ := bindS hf
  obtain ⟨h3, hx1⟩ := getS hx1
  obtain ⟨b1, o1, rfl⟩ := Elems.opn e1 hx1
  obtain ⟨cs1, hr1, ha1, hb1⟩ := Elems.getI e1S1 hx1
  obtain rfl : cs1 = [.int .i64 x2] := hr1
  obtain ⟨x3, hx2, hf⟩ := bindS hf
  obtain ⟨h4, hx2⟩ := getS hx2
  obtain ⟨b2, o2, rfl⟩ := Elems.opn e2 hx2
  obtain ⟨cs2, hr2, ha2, hb2⟩ := Elems.getI e2S1 hx2
  obtain rfl : cs2 = [.int .i64 x3] := hr2
  refine RD.segM hT ht1 (by kernel_rfl) [0, 1, 2, 3, 4, 5, 6, 7, 8] [.int .i64 x2, .int .i64 x3] [(24, .bool (decide (x2 ≠ x3)))] [.slice (some ⟨b1, o1, none⟩) p0.length u1, .int .i64 x1, .pointer (some ⟨b1, o1 + x1.toNat * 1, none⟩), .int .i64 x2, .slice (some ⟨b2, o2, none⟩) p1.length u2, .int .i64 x1, .pointer (some ⟨b2, o2 + x1.toNat * 1, none⟩), .int .i64 x3, .bool (decide (x2 ≠ x3))] [.idx x1 p0.length, .cell ⟨b1, o1 + x1.toNat * 1, none⟩ (.int .i64 x2), .idx x1 p1.length, .cell ⟨b2, o2 + x1.toNat * 1, none⟩ (.int .i64 x3), .veq (.bool (x2 != x3)) (.bool (decide (x2 ≠ x3)))] (by kernel_rfl) (by rintro w' ⟨I', s, k⟩; have e1 := e1S1.st k; have e2 := e2S1.st k; have ha1 := ha1.st k hb1; have ha2 := ha2.st k hb2; exact ⟨h3, ha1 0 _ rfl, h4, ha2 0 _ rfl, ne_v⟩) ⟨_, s.pick [] 0 rfl, kS1⟩ ?_
  refine RD.done (by kernel_rfl) ?_
  by_cases h5 : x2 ≠ x3
  have hf := iteT h5 hf
  refine WPK.condT (Eq.trans (b := .bool (decide (x2 ≠ x3))) (by kernel_rfl) (bo_t h5)) ?_
  refine WPK.seq ?_
  refine WPK.region ?_
  refine RW.seg hT 1 [] [] [.bool false] [] (by kernel_rfl) (trivial) ?_
  refine RW.nil ?_
  refine WPK.ret (blockQ.ret (blockQ.ret (?_)))
  obtain rfl := someS hf
  refine Fin.of (rs := [.tmp 4]) hT [] (.bool false) [] rfl (by kernel_rfl) (trivial) ?_
  exact fun X h => vc rfl (h I1 _ s kk)
  have hf := iteF h5 hf
  refine WPK.condF (Eq.trans (b := .bool (decide (x2 ≠ x3))) (by kernel_rfl) (bo_f h5)) ?_
  refine WPK.skip ?_
  refine WPK.region ?_
  refine RW.seg hT 2 [] [] [.int .i64 (IntKind.i64.wrap (x1 + 1)), .int .i64 (IntKind.i64.wrap (x1 + 1))] [] (by kernel_rfl) (trivial) ?_
  refine RW.nil ?_
  subst hrec1
  exact ⟨n1, Nat.le_refl _, fun X h => kc (by kernel_rfl) rfl (h I1 (IntKind.i64.wrap (x1 + 1)) _ hf s kk e1 e2)⟩
  have hf := iteF h2 hf
  refine WPK.condF (Eq.trans (b := .bool (decide (x1 < (p0.length : Int)))) (by kernel_rfl) (bo_f h2)) ?_
  refine WPK.exit (blockQ.same ?_)
  refine WPK.seq ?_
  refine WPK.region ?_
  refine RW.seg hT 1 [] [] [.bool true] [] (by kernel_rfl) (trivial) ?_
  refine RW.nil ?_
  refine WPK.ret (?_)
  obtain rfl := someS hf
  refine Fin.of (rs := [.tmp 4]) hT [] (.bool true) [] rfl (by kernel_rfl) (trivial) ?_
  exact fun X h => vc rfl (h I1 _ s kk)
theorem c23 {w1 w : World} {M I : Nat → Prop} {F : List It} (p0 : T_api_Head) (p1 : T_api_Head) (A1 : Option Addr) (u1 : Nat) (A2 : Option Addr) (u2 : Nat) (A3 : Option Addr) (u3 : Nat) (A4 : Option Addr) (u4 : Nat) (hc1 : (p0.Maps.length ≤ u1 ∧ u1 ≤ 9223372036854775807)) (e1 : Elems (Rp.int .i64) I w A1 p0.Maps) (hc2 : (p0.User.length ≤ u2 ∧ u2 ≤ 9223372036854775807)) (e2 : Elems (Rp.int .u8) I w A2 p0.User) (hc3 : (p1.Maps.length ≤ u3 ∧ u3 ≤ 9223372036854775807)) (e3 : Elems (Rp.int .i64) I w A3 p1.Maps) (hc4 : (p1.User.length ≤ u4 ∧ u4 ≤ 9223372036854775807)) (e4 : Elems (Rp.int .u8) I w A4 p1.User) (s : St w1 M I (F) w) {r : Bool} (hf : g23 p0 p1 = some r) :
    Ret Tryd.prog 23 [.agg #[.int .u64 p0.Epoch, .int .i64 p0.Pages, .slice A1 p0.Maps.length u1, .slice A2 p0.User.length u2], .agg #[.int .u64 p1.Epoch, .int .i64 p1.Pages, .slice A3 p1.Maps.length u3, .slice A4 p1.User.length u4]] w fun v wz => ∀ X : Value → World → Prop, (∀ (I' : Nat → Prop) (w' : World), St w1 M I' (F) w' → Kp I w I' w' → X (.bool r) w') → X v wz := by
  have kk : Kp I w I w := Kp.refl
  unfold g23 at hf
  refine Ret.of Tryd.func23 rfl ?_
  refine WPK.seq ?_
  refine WPK.region ?_
  refine RW.op (by kernel_rfl) (OK.new hT (f := fun b => .pointer (some ⟨b, 0, none⟩)) (cs := [.int .u64 p0.Epoch, .int .i64 p0.Pages, .slice A1 p0.Maps.length u1, .slice A2 p0.User.length u2]) (e := 28) (c := .tt) s (by kernel_rfl) trivial ?_)
  clear s
  rintro w2 b1 s k1 -
  replace e1 := e1.st k1
  replace e2 := e2.st k1
  replace e3 := e3.st k1
  replace e4 := e4.st k1
  replace kk := kk.trans k1
  refine RW.op (by kernel_rfl) (OK.new hT (f := fun b => .pointer (some ⟨b, 0, none⟩)) (cs := [.int .u64 p1.Epoch, .int .i64 p1.Pages, .slice A3 p1.Maps.length u3, .slice A4 p1.User.length u4]) (e := 28) (c := .tt) s (by kernel_rfl) trivial ?_)
  clear s
  rintro w3 b2 s k2 -
  replace e1 := e1.st k2
  replace e2 := e2.st k2
  replace e3 := e3.st k2
  replace e4 := e4.st k2
  replace kk := kk.trans k2
  refine RW.seg hT 1 [] [] [.bool false] [] (by kernel_rfl) (trivial) ?_
  refine RW.nil ?_
  refine WPK.seq ?_
  refine WPK.cut' (Kn fun D1 ds wz => ∀ X : Kont, (∀ (I1 : Nat → Prop) (x1 : Bool) (w' : World), g23_j1 x1 = some r → St w1 M I1 (F) w' → Kp I w I1 w' → X [(D1.getD 0 undef), (D1.getD 1 undef), (D1.getD 2 undef), (D1.getD 3 undef), .bool x1, (D1.getD 5 undef), (D1.getD 6 undef), (D1.getD 7 undef), (D1.getD 8 undef), (D1.getD 9 undef), (D1.getD 10 undef), (D1.getD 11 undef), (D1.getD 12 undef), (D1.getD 13 undef), (D1.getD 14 undef), (D1.getD 15 undef), (D1.getD 16 undef), (D1.getD 17 undef), (D1.getD 18 undef), (D1.getD 19 undef), (D1.getD 20 undef), (D1.getD 21 undef), (D1.getD 22 undef), (D1.getD 23 undef), (D1.getD 24 undef), (D1.getD 25 undef), (D1.getD 26 undef), (D1.getD 27 undef), (D1.getD 28 undef), (D1.getD 29 undef), (D1.getD 30 undef)] [] w') → X D1 ds wz) ?_ ?_
  intro X1 hX1
  refine fun D1 _ _ hJ => hJ X1 ?_
  clear s
  intro I1 x1 w4 hf s kk
  refine hX1 _ _ _ ?_
  unfold g23_j1 at hf
  refine WPK.ret (?_)
  obtain rfl := someS hf
  refine Fin.of (rs := [.tmp 4]) hT [] (.bool x1) [] rfl (by kernel_rfl) (trivial) ?_
  exact fun X h => vc rfl (h I1 _ s kk)
  refine WPK.region ?_
  refine RW.seg hT 5 [.int .u64 p0.Epoch, .int .u64 p1.Epoch] [(9, .bool (decide (p0.Epoch = p1.Epoch)))] [.pointer (some ⟨b1, 0, none⟩), .int .u64 p0.Epoch, .pointer (some ⟨b2, 0, none⟩), .int .u64 p1.Epoch, .bool (decide (p0.Epoch = p1.Epoch))] [.cell ⟨b1, 0, none⟩ (.int .u64 p0.Epoch), .cell ⟨b2, 0, none⟩ (.int .u64 p1.Epoch), .veq (.bool (p0.Epoch == p1.Epoch)) (.bool (decide (p0.Epoch = p1.Epoch)))] (by kernel_rfl) (⟨s.cell (i := 1) (off := 0) rfl rfl, s.cell (i := 0) (off := 0) rfl rfl, eq_v⟩) ?_
  by_cases h1 : p0.Epoch = p1.Epoch
  have hf := iteT h1 hf
  refine RW.seg hT 7 [.int .i64 p0.Pages, .int .i64 p1.Pages] [(10, .bool true), (15, .bool (decide (p0.Pages = p1.Pages)))] [.bool true, .pointer (some ⟨b1, 1, none⟩), .int .i64 p0.Pages, .pointer (some ⟨b2, 1, none⟩), .int .i64 p1.Pages, .bool (decide (p0.Pages = p1.Pages)), .bool (decide (p0.Pages = p1.Pages))] [.veq (.bool (decide (p0.Epoch = p1.Epoch))) (.bool true), .cell ⟨b1, 1, none⟩ (.int .i64 p0.Pages), .cell ⟨b2, 1, none⟩ (.int .i64 p1.Pages), .veq (.bool (p0.Pages == p1.Pages)) (.bool (decide (p0.Pages = p1.Pages)))] (by kernel_rfl) (⟨bo_t h1, s.cell (i := 1) (off := 1) rfl rfl, s.cell (i := 0) (off := 1) rfl rfl, eq_v⟩) ?_
  by_cases h2 : p0.Pages = p1.Pages
  have hf := iteT h2 hf
  refine RW.seg hT 5 [.slice A1 p0.Maps.length u1, .slice A3 p1.Maps.length u3] [(17, .bool true)] [.bool true, .pointer (some ⟨b1, 2, none⟩), .slice A1 p0.Maps.length u1, .pointer (some ⟨b2, 2, none⟩), .slice A3 p1.Maps.length u3] [.veq (.bool (decide (p0.Pages = p1.Pages))) (.bool true), .cell ⟨b1, 2, none⟩ (.slice A1 p0.Maps.length u1), .cell ⟨b2, 2, none⟩ (.slice A3 p1.Maps.length u3)] (by kernel_rfl) (⟨bo_t h2, s.cell (i := 1) (off := 2) rfl rfl, s.cell (i := 0) (off := 2) rfl rfl⟩) ?_
  obtain ⟨x2, hx1, hf⟩ := bindS hf
  refine RW.op (by kernel_rfl) (OK.call' en44 (by kernel_rfl) (c44 (F := (.blk b2 (.cells #[.int .u64 p1.Epoch, .int .i64 p1.Pages, .slice A3 p1.Maps.length u3, .slice A4 p1.User.length u4] 28 (0, 0))) :: (.blk b1 (.cells #[.int .u64 p0.Epoch, .int .i64 p0.Pages, .slice A1 p0.Maps.length u1, .slice A2 p0.User.length u2] 28 (0, 0))) :: F) p0.Maps p1.Maps A1 u1 A3 u3 hc1 e1 hc3 e3 s hx1) ?_)
  intro X2 hX2
  refine fun _ _ hJ => hJ X2 ?_
  clear s
  intro I2 w5 s k3
  refine hX2 _ _ ?_
  replace e1 := e1.st k3
  replace e2 := e2.st k3
  replace e3 := e3.st k3
  replace e4 := e4.st k3
  replace kk := kk.trans k3
  refine RW.seg hT 1 [] [] [.bool x2] [] (by kernel_rfl) (trivial) ?_
  by_cases h3 : x2 = true
  have hf := iteT h3 hf
  refine RW.seg hT 5 [.slice A2 p0.User.length u2, .slice A4 p1.User.length u4] [(24, .bool true)] [.bool true, .pointer (some ⟨b1, 3, none⟩), .slice A2 p0.User.length u2, .pointer (some ⟨b2, 3, none⟩), .slice A4 p1.User.length u4] [.veq (.bool (x2)) (.bool true), .cell ⟨b1, 3, none⟩ (.slice A2 p0.User.length u2), .cell ⟨b2, 3, none⟩ (.slice A4 p1.User.length u4)] (by kernel_rfl) (⟨b_t h3, s.cell (i := 1) (off := 3) rfl rfl, s.cell (i := 0) (off := 3) rfl rfl⟩) ?_
  obtain ⟨x3, hx2, hf⟩ := bindS hf
  refine RW.op (by kernel_rfl) (OK.call' en24 (by kernel_rfl) (c24 (F := (.blk b2 (.cells #[.int .u64 p1.Epoch, .int .i64 p1.Pages, .slice A3 p1.Maps.length u3, .slice A4 p1.User.length u4] 28 (0, 0))) :: (.blk b1 (.cells #[.int .u64 p0.Epoch, .int .i64 p0.Pages, .slice A1 p0.Maps.length u1, .slice A2 p0.User.length u2] 28 (0, 0))) :: F) p0.User p1.User A2 u2 A4 u4 hc2 e2 hc4 e4 s hx2) ?_)
  intro X3 hX3
  refine fun _ _ hJ => hJ X3 ?_
  clear s
  intro I3 w6 s k4
  refine hX3 _ _ ?_
  replace e1 := e1.st k4
  replace e2 := e2.st k4
  replace e3 := e3.st k4
  replace e4 := e4.st k4
  replace kk := kk.trans k4
  refine RW.seg hT 2 [] [] [.bool x3, .bool x3] [] (by kernel_rfl) (trivial) ?_
  refine RW.nil ?_
  replace s := s.pick [] 2 rfl
  exact fun X h => kc (by kernel_rfl) rfl (h I3 x3 _ hf s kk)
  have hf := iteF h3 hf
  refine RW.seg hT 8 [] [(24, .bool false)] [.bool false, undef, undef, undef, undef, undef, .bool false, .bool false] [.veq (.bool (x2)) (.bool false)] (by kernel_rfl) (b_f h3) ?_
  refine RW.nil ?_
  replace s := s.pick [] 2 rfl
  exact fun X h => kc (by kernel_rfl) rfl (h I2 false _ hf s kk)
  have hf := iteF h2 hf
  refine RW.seg hT 15 [] [(17, .bool false)] [.bool false, undef, undef, undef, undef, undef, .bool false, .bool false, undef, undef, undef, undef, undef, .bool false, .bool false] [.veq (.bool (decide (p0.Pages = p1.Pages))) (.bool false)] (by kernel_rfl) (bo_f h2) ?_
  refine RW.nil ?_
  replace s := s.pick [] 2 rfl
  exact fun X h => kc (by kernel_rfl) rfl (h I false _ hf s kk)
  have hf := iteF h1 hf
  refine RW.seg hT 22 [] [(10, .bool false)] [.bool false, undef, undef, undef, undef, undef, .bool false, .bool false, undef, undef, undef, undef, undef, .bool false, .bool false, undef, undef, undef, undef, undef, .bool false, .bool false] [.veq (.bool (decide (p0.Epoch = p1.Epoch))) (.bool false)] (by kernel_rfl) (bo_f h1) ?_
  refine RW.nil ?_
  replace s := s.pick [] 2 rfl
  exact fun X h => kc (by kernel_rfl) rfl (h I false _ hf s kk)
end Go.Proofs.YtclnddebhjjpfaaDoor
