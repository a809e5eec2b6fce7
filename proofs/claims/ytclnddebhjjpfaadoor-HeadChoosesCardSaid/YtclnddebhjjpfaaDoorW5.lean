/- PRINTED BY sy.py: each call computes what the plain function of its number tells. -/
import Derived.Test.YtclnddebhjjpfaaDoorW4
namespace Go.Proofs.YtclnddebhjjpfaaDoor
open Go Go.SX Go.RowKit
set_option maxRecDepth 100000
set_option linter.unusedVariables false
attribute [local irreducible] WPK RW RD Ret SX.Fin SX.Any opK RoundBeg RoundEnd RangeEnd Rounds
theorem c39 {w1 w : World} {M I : Nat → Prop} {F : List It} (p0 : (List Int)) (p1 : Int) (A1 : Option Addr) (n1 : Nat) (u1 : Nat) (cl1 : List Value) (hn1 : n1 = p0.length) (rp1 : RepL (Rp.int .u8) I w cl1 p0) (s : St w1 M I ((.sl (.slice A1 n1 u1) 5 1 n1 cl1) :: F) w) {r : (List Int)} (hf : g39 p0 p1 = some r) :
    Ret Tryd.prog 39 [.slice A1 n1 u1, .int .i64 p1] w fun v wz => ∀ X : Value → World → Prop, (∀ (I' : Nat → Prop) (A2 : Option Addr) (n2 : Nat) (u2 : Nat) (cl2 : List Value) (w' : World), St w1 M I' ((.sl (.slice A2 n2 u2) 5 1 n2 cl2) :: F) w' → Kp I w I' w' → n2 = r.length → RepL (Rp.int .u8) I' w' cl2 r → X (.slice A2 n2 u2) w') → X v wz := by
  have kk : Kp I w I w := Kp.refl
  unfold g39 at hf
  refine Ret.of Tryd.func39 rfl ?_
  refine WPK.seq ?_
  refine WPK.region ?_
  refine RW.seg hT 1 [] [] [.slice none 0 0] [] (by kernel_rfl) (trivial) ?_
  refine RW.nil ?_
  refine WPK.seq ?_
  refine WPK.region ?_
  refine RW.seg hT 7 [undef, undef] [] [.slice A1 n1 u1, .int .i64 p1, .int .i64 (IntKind.i64.wrap (Int.tdiv p1 256)), .int .u8 (IntKind.u8.wrap (IntKind.i64.wrap (Int.tdiv p1 256))), .int .i64 p1, .int .i64 (Int.tmod p1 256), .int .u8 (IntKind.u8.wrap (Int.tmod p1 256))] [.ne0 256, .ne0 256] (by kernel_rfl) (⟨(show (256 : Int) ≠ 0 by decide), (show (256 : Int) ≠ 0 by decide)⟩) ?_
  refine RW.op (by kernel_rfl) (OK.new hT (f := fun b => .slice (some ⟨b, 0, none⟩) 2 2) (cs := [.int .u8 (IntKind.u8.wrap (IntKind.i64.wrap (Int.tdiv p1 256))), .int .u8 (IntKind.u8.wrap (Int.tmod p1 256))]) (e := 5) (c := .tt) s (by kernel_rfl) trivial ?_)
  clear s
  rintro w2 b1 s k1 -
  replace rp1 := rp1.st k1
  replace kk := kk.trans k1
  have rp2 : RepL (Rp.int .u8) I w2 [.int .u8 (IntKind.u8.wrap (IntKind.i64.wrap (Int.tdiv p1 256))), .int .u8 (IntKind.u8.wrap (Int.tmod p1 256))] ([IntKind.u8.wrap (IntKind.i64.wrap (Int.tdiv p1 256)), IntKind.u8.wrap (Int.tmod p1 256)] : List Int) := RepL.cons (c := [.int .u8 (IntKind.u8.wrap (IntKind.i64.wrap (Int.tdiv p1 256)))]) (d := [.int .u8 (IntKind.u8.wrap (Int.tmod p1 256))]) (rfl) (RepL.cons (c := [.int .u8 (IntKind.u8.wrap (Int.tmod p1 256))]) (d := []) (rfl) (RepL.nil))
  replace s : St w1 M I ((.sl (.slice (some ⟨b1, 0, none⟩) 2 2) 5 1 2 [.int .u8 (IntKind.u8.wrap (IntKind.i64.wrap (Int.tdiv p1 256))), .int .u8 (IntKind.u8.wrap (Int.tmod p1 256))]) :: (.sl (.slice A1 n1 u1) 5 1 n1 cl1) :: F) w2 := s.blkSl (i := 0) (n := 2) (c := 2) (size := 1) rfl rfl (Nat.le_refl _) (by decide)
  have hs1 := St.src s (i := 0) rfl rfl rp2
  have rq1 := rp2
  obtain ⟨x1, hx1, hf⟩ := bindS hf
  refine RW.op (by kernel_rfl) (OK.app hT (r := (Rp.int .u8)) (i := 1) (t := 24) (e := 5) (size := 1) (bytes := 1) (c := u1) (n := n1) (m := 2) s (by kernel_rfl) rfl rfl rfl rfl rfl (by decide) rfl rfl hn1 rfl rp1 hs1 rq1 flat_int rfl hx1 ?_)
  clear s
  rintro A3 u3 cl3 w3 s k2 rp3
  replace rp2 := rp2.st k2
  replace rp1 := rp1.st k2
  replace kk := kk.trans k2
  refine RW.seg hT 1 [] [] [.slice A3 x1.length u3] [] (by kernel_rfl) (trivial) ?_
  refine RW.nil ?_
  refine WPK.ret (?_)
  obtain rfl := someS hf
  refine Fin.of (rs := [.tmp 4]) hT [] (.slice A3 x1.length u3) [] rfl (by kernel_rfl) (trivial) ?_
  replace s := s.pick [1] 2 rfl
  exact fun X h => vc rfl (h I A3 x1.length u3 cl3 _ s kk rfl rp3)
theorem c18 {w1 w : World} {M I : Nat → Prop} {F : List It} (p0 : T_api_Head) (A1 : Option Addr) (u1 : Nat) (A2 : Option Addr) (u2 : Nat) (hc1 : (p0.Maps.length ≤ u1 ∧ u1 ≤ 9223372036854775807)) (e1 : Elems (Rp.int .i64) I w A1 p0.Maps) (hc2 : (p0.User.length ≤ u2 ∧ u2 ≤ 9223372036854775807)) (e2 : Elems (Rp.int .u8) I w A2 p0.User) (s : St w1 M I (F) w) {r : ((List Int) × Int)} (hf : g18 p0 = some r) :
    Ret Tryd.prog 18 [.agg #[.int .u64 p0.Epoch, .int .i64 p0.Pages, .slice A1 p0.Maps.length u1, .slice A2 p0.User.length u2]] w fun v wz => ∀ X : Value → World → Prop, (∀ (I' : Nat → Prop) (A3 : Option Addr) (n1 : Nat) (u3 : Nat) (cl1 : List Value) (w' : World), St w1 M I' ((.sl (.slice A3 n1 u3) 5 1 n1 cl1) :: F) w' → Kp I w I' w' → n1 = r.1.length → RepL (Rp.int .u8) I' w' cl1 r.1 → X (.tuple #[.slice A3 n1 u3, .int .i64 r.2]) w') → X v wz := by
  have kk : Kp I w I w := Kp.refl
  unfold g18 at hf
  refine Ret.of Tryd.func18 rfl ?_
  refine WPK.seq ?_
  refine WPK.region ?_
  refine RW.op (by kernel_rfl) (OK.new hT (f := fun b => .pointer (some ⟨b, 0, none⟩)) (cs := [.int .u64 p0.Epoch, .int .i64 p0.Pages, .slice A1 p0.Maps.length u1, .slice A2 p0.User.length u2]) (e := 28) (c := .tt) s (by kernel_rfl) trivial ?_)
  clear s
  rintro w2 b1 s k1 -
  replace e1 := e1.st k1
  replace e2 := e2.st k1
  replace kk := kk.trans k1
  refine RW.seg hT 2 [] [] [.slice none 0 0, .int .i64 0] [] (by kernel_rfl) (trivial) ?_
  refine RW.nil ?_
  refine WPK.seq ?_
  refine WPK.seq ?_
  refine WPK.region ?_
  refine RW.seg hT 1 [.agg #[.int .u64 p0.Epoch, .int .i64 p0.Pages, .slice A1 p0.Maps.length u1, .slice A2 p0.User.length u2]] [] [.agg #[.int .u64 p0.Epoch, .int .i64 p0.Pages, .slice A1 p0.Maps.length u1, .slice A2 p0.User.length u2]] [.cells ⟨b1, 0, none⟩ [.int .u64 p0.Epoch, .int .i64 p0.Pages, .slice A1 p0.Maps.length u1, .slice A2 p0.User.length u2] 4] (by kernel_rfl) (s.cells (i := 0) rfl rfl rfl) ?_
  obtain ⟨x1, hx1, hf⟩ := bindS hf
  refine RW.op (by kernel_rfl) (OK.call' en22 (by kernel_rfl) (c22 (F := (.blk b1 (.cells #[.int .u64 p0.Epoch, .int .i64 p0.Pages, .slice A1 p0.Maps.length u1, .slice A2 p0.User.length u2] 28 (0, 0))) :: F) p0 A1 u1 A2 u2 hc1 e1 hc2 e2 s hx1) ?_)
  intro X1 hX1
  refine fun _ _ hJ => hJ X1 ?_
  clear s
  intro I1 w3 s k2
  refine hX1 _ _ ?_
  replace e1 := e1.st k2
  replace e2 := e2.st k2
  replace kk := kk.trans k2
  refine RW.seg hT 1 [] [] [.int .i64 x1] [] (by kernel_rfl) (trivial) ?_
  refine RW.nil ?_
  refine WPK.seq ?_
  refine WPK.region ?_
  refine RW.seg hT 2 [] [(10, .bool (decide (x1 ≠ 0)))] [.int .i64 x1, .bool (decide (x1 ≠ 0))] [.veq (.bool (x1 != 0)) (.bool (decide (x1 ≠ 0)))] (by kernel_rfl) (ne_v) ?_
  refine RW.nil ?_
  by_cases h1 : x1 ≠ 0
  have hf := iteT h1 hf
  refine WPK.condT (Eq.trans (b := .bool (decide (x1 ≠ 0))) (by kernel_rfl) (bo_t h1)) ?_
  refine WPK.seq ?_
  refine WPK.region ?_
  refine RW.seg hT 3 [] [] [.int .i64 x1, .slice none 0 0, .int .i64 x1] [] (by kernel_rfl) (trivial) ?_
  refine RW.nil ?_
  refine WPK.ret (?_)
  obtain rfl := someS hf
  refine Fin.of (rs := [.tmp 2, .tmp 3]) hT [] (.tuple #[.slice none 0 0, .int .i64 x1]) [] rfl (by kernel_rfl) (trivial) ?_
  replace s := s.pushNil 5 1
  replace s := s.pick [0] 2 rfl
  exact fun X h => vc rfl (h I1 none 0 0 [] _ s kk rfl (RepL.nil (r := (Rp.int .u8))))
  have hf := iteF h1 hf
  refine WPK.condF (Eq.trans (b := .bool (decide (x1 ≠ 0))) (by kernel_rfl) (bo_f h1)) ?_
  refine WPK.skip ?_
  refine WPK.seq ?_
  refine WPK.cut' (Kn fun D1 ds wz => ∀ X : Kont, (∀ (I2 : Nat → Prop) (x2 : (List Int)) (A4 : Option Addr) (u4 : Nat) (cl2 : List Value) (w' : World), g18_j1 p0 x2 = some r → St w1 M I2 ((.sl (.slice A4 x2.length u4) 5 1 x2.length cl2) :: (.blk b1 (.cells #[.int .u64 p0.Epoch, .int .i64 p0.Pages, .slice A1 p0.Maps.length u1, .slice A2 p0.User.length u2] 28 (0, 0))) :: F) w' → Kp I w I2 w' → RepL (Rp.int .u8) I2 w' cl2 x2 → Elems (Rp.int .i64) I2 w' A1 p0.Maps → Elems (Rp.int .u8) I2 w' A2 p0.User → X [(D1.getD 0 undef), .pointer (some ⟨b1, 0, none⟩), .slice none 0 0, .int .i64 0, (D1.getD 4 undef), .slice A4 x2.length u4, undef, (D1.getD 7 undef), (D1.getD 8 undef), (D1.getD 9 undef), (D1.getD 10 undef), (D1.getD 11 undef), (D1.getD 12 undef), (D1.getD 13 undef), (D1.getD 14 undef), (D1.getD 15 undef), (D1.getD 16 undef), (D1.getD 17 undef), (D1.getD 18 undef), (D1.getD 19 undef), (D1.getD 20 undef), undef, undef, undef, undef, undef, undef, undef, undef, undef, undef, undef, undef, undef, undef, undef, undef, undef, undef, undef, undef, undef, undef, undef, undef, undef, undef, undef, undef, undef, undef, undef] [] w') → X D1 ds wz) ?_ ?_
  intro X2 hX2
  refine fun D1 _ _ hJ => hJ X2 ?_
  clear s
  intro I2 x2 A4 u4 cl2 w4 hf s kk rp1 e1 e2
  refine hX2 _ _ _ ?_
  unfold g18_j1 at hf
  refine WPK.seq ?_
  refine WPK.seq ?_
  refine WPK.region ?_
  refine RW.seg hT 1 [] [] [.int .i64 0] [] (by kernel_rfl) (trivial) ?_
  refine RW.nil ?_
  refine WPK.block ?_
  refine WPK.loop' (J := fun n2 D2 ds wz => ∀ X : Kont, (∀ (I3 : Nat → Prop) (x3 : (List Int)) (x4 : Int) (A5 : Option Addr) (n3 : Nat) (u5 : Nat) (cl3 : List Value) (w' : World), g18_l2 p0 n2 x3 x4 = some r → St w1 M I3 ((.sl (.slice A5 n3 u5) 5 1 n3 cl3) :: (.blk b1 (.cells #[.int .u64 p0.Epoch, .int .i64 p0.Pages, .slice A1 p0.Maps.length u1, .slice A2 p0.User.length u2] 28 (0, 0))) :: F) w' → Kp I w I3 w' → n3 = x3.length → RepL (Rp.int .u8) I3 w' cl3 x3 → Elems (Rp.int .i64) I3 w' A1 p0.Maps → Elems (Rp.int .u8) I3 w' A2 p0.User → X [(D2.getD 0 undef), .pointer (some ⟨b1, 0, none⟩), .slice none 0 0, .int .i64 0, (D2.getD 4 undef), .slice A5 n3 u5, .int .i64 x4, (D2.getD 7 undef), (D2.getD 8 undef), (D2.getD 9 undef), (D2.getD 10 undef), (D2.getD 11 undef), (D2.getD 12 undef), (D2.getD 13 undef), (D2.getD 14 undef), (D2.getD 15 undef), (D2.getD 16 undef), (D2.getD 17 undef), (D2.getD 18 undef), (D2.getD 19 undef), (D2.getD 20 undef), (D2.getD 21 undef), (D2.getD 22 undef), (D2.getD 23 undef), (D2.getD 24 undef), (D2.getD 25 undef), (D2.getD 26 undef), (D2.getD 27 undef), (D2.getD 28 undef), (D2.getD 29 undef), (D2.getD 30 undef), (D2.getD 31 undef), (D2.getD 32 undef), (D2.getD 33 undef), (D2.getD 34 undef), undef, undef, undef, undef, undef, undef, undef, undef, undef, undef, undef, undef, undef, undef, undef, undef, undef] [] w') → X D2 ds wz) FUEL (fun X h => kc (by kernel_rfl) rfl (h I2 x2 0 A4 x2.length u4 cl2 _ hf s kk rfl rp1 e1 e2)) (fun _ _ _ hJ => hJ (fun _ _ _ => False) (by intro I3 x3 x4 A5 n3 u5 cl3 w5 hf s kk hn1 rp2 e1 e2; exact noneS hf)) ?_
  intro X3 hX3
  refine fun n2 D2 _ _ hJ => hJ (X3 n2) ?_
  clear s
  intro I3 x3 x4 A5 n3 u5 cl3 w5 hf s kk hn1 rp2 e1 e2
  refine hX3 _ _ _ _ ?_
  replace hf : g18_l2B p0 (g18_l2 p0 n2) x3 x4 = some r := hf
  generalize hrec1 : g18_l2 p0 n2 = rec1 at hf
  unfold g18_l2B at hf
  refine WPK.seq ?_
  refine WPK.seq ?_
  refine WPK.region ?_
  refine RW.seg hT 5 [.slice A1 p0.Maps.length u1] [] [.int .i64 x4, .pointer (some ⟨b1, 2, none⟩), .slice A1 p0.Maps.length u1, .int .i64 (p0.Maps.length : Int), .bool (decide (x4 < (p0.Maps.length : Int)))] [.cell ⟨b1, 2, none⟩ (.slice A1 p0.Maps.length u1)] (by kernel_rfl) (s.cell (i := 1) (off := 2) rfl rfl) ?_
  refine RW.nil ?_
  by_cases h2 : x4 < (p0.Maps.length : Int)
  have hf := iteT h2 hf
  refine WPK.condT (Eq.trans (b := .bool (decide (x4 < (p0.Maps.length : Int)))) (by kernel_rfl) (bo_t h2)) ?_
  refine WPK.skip ?_
  refine WPK.seq ?_
  refine WPK.block ?_
  refine WPK.region ?_
  obtain ⟨x5, hx2, hf⟩ := bindS hf
  obtain ⟨h3, hx2⟩ := getS hx2
  obtain ⟨b2, o1, rfl⟩ := Elems.opn e1 hx2
  obtain ⟨cs1, hr1, ha1⟩ := Elems.get e1 hx2
  obtain rfl : cs1 = [.int .i64 x5] := hr1
  refine RW.seg hT 6 [.slice (some ⟨b2, o1, none⟩) p0.Maps.length u1, .int .i64 x5] [] [.slice A5 n3 u5, .pointer (some ⟨b1, 2, none⟩), .slice (some ⟨b2, o1, none⟩) p0.Maps.length u1, .int .i64 x4, .pointer (some ⟨b2, o1 + x4.toNat * 1, none⟩), .int .i64 x5] [.cell ⟨b1, 2, none⟩ (.slice (some ⟨b2, o1, none⟩) p0.Maps.length u1), .idx x4 p0.Maps.length, .cell ⟨b2, o1 + x4.toNat * 1, none⟩ (.int .i64 x5)] (by kernel_rfl) (⟨s.cell (i := 1) (off := 2) rfl rfl, h3, ha1 0 _ rfl⟩) ?_
  obtain ⟨x6, hx3, hf⟩ := bindS hf
  refine RW.op (by kernel_rfl) (OK.call' en39 (by kernel_rfl) (c39 (F := (.blk b1 (.cells #[.int .u64 p0.Epoch, .int .i64 p0.Pages, .slice (some ⟨b2, o1, none⟩) p0.Maps.length u1, .slice A2 p0.User.length u2] 28 (0, 0))) :: F) x3 x5 A5 n3 u5 cl3 hn1 rp2 s hx3) ?_)
  intro X4 hX4
  refine fun _ _ hJ => hJ X4 ?_
  clear s
  intro I4 A6 n4 u6 cl4 w6 s k3 hn2 rp3
  refine hX4 _ _ ?_
  replace e1 := e1.st k3
  replace e2 := e2.st k3
  replace rp2 := rp2.st k3
  replace kk := kk.trans k3
  refine RW.seg hT 1 [] [] [.slice A6 n4 u6] [] (by kernel_rfl) (trivial) ?_
  refine RW.nil ?_
  refine WPK.region ?_
  refine RW.seg hT 3 [] [] [.int .i64 x4, .int .i64 (IntKind.i64.wrap (x4 + 1)), .int .i64 (IntKind.i64.wrap (x4 + 1))] [] (by kernel_rfl) (trivial) ?_
  refine RW.nil ?_
  subst hrec1
  exact ⟨n2, Nat.le_refl _, fun X h => kc (by kernel_rfl) rfl (h I4 x6 (IntKind.i64.wrap (x4 + 1)) A6 n4 u6 cl4 _ hf s kk hn2 rp3 e1 e2)⟩
  have hf := iteF h2 hf
  refine WPK.condF (Eq.trans (b := .bool (decide (x4 < (p0.Maps.length : Int)))) (by kernel_rfl) (bo_f h2)) ?_
  refine WPK.exit (blockQ.same ?_)
  refine WPK.seq ?_
  have e1S1 := e1
  have e2S1 := e2
  have rp2S1 := rp2
  have kS1 : Kp I3 w5 I3 w5 := Kp.refl
  refine WPK.drawM (fun w' => ∃ I' : Nat → Prop, St w1 M I' ((.blk b1 (.cells #[.int .u64 p0.Epoch, .int .i64 p0.Pages, .slice A1 p0.Maps.length u1, .slice A2 p0.User.length u2] 28 (0, 0))) :: F) w' ∧ Kp I3 w5 I' w') 11 [0, 0, 2, 6, 14, 30, 63, 0, 128, 511, 1023] (by kernel_rfl) (by kernel_rfl) ?_
  intro ht1 w7 hd1
  have k4 := Kp.dr s hd1
  replace s := s.dr hd1
  replace e1 := e1.st k4
  replace e2 := e2.st k4
  replace rp2 := rp2.st k4
  replace kk := kk.trans k4
  replace kS1 := kS1.trans k4
  refine RD.segM hT ht1 (by kernel_rfl) [0, 1, 2, 3, 4, 7, 8] [.slice A2 p0.User.length u2, undef, .slice A2 p0.User.length u2] [] [.slice A5 n3 u5, .pointer (some ⟨b1, 3, none⟩), .slice A2 p0.User.length u2, .int .i64 (p0.User.length : Int), .int .u8 (IntKind.u8.wrap (p0.User.length : Int)), .pointer (some ⟨b1, 3, none⟩), .slice A2 p0.User.length u2] [.cell ⟨b1, 3, none⟩ (.slice A2 p0.User.length u2), .cell ⟨b1, 3, none⟩ (.slice A2 p0.User.length u2)] (by kernel_rfl) (by rintro w' ⟨I', s, k⟩; have e1 := e1S1.st k; have e2 := e2S1.st k; have rp2 := rp2S1.st k; exact ⟨s.cell (i := 0) (off := 3) rfl rfl, s.cell (i := 0) (off := 3) rfl rfl⟩) ⟨_, s.pick [1] 2 rfl, kS1⟩ ?_
  refine RD.op (i := 5) rfl (by kernel_rfl) (by kernel_rfl) (OK.new hT (f := fun b => .slice (some ⟨b, 0, none⟩) 1 1) (cs := [.int .u8 (IntKind.u8.wrap (p0.User.length : Int))]) (e := 5) (c := .tt) s (by kernel_rfl) trivial ?_)
  clear s
  rintro w8 b3 s k5 -
  replace e1 := e1.st k5
  replace e2 := e2.st k5
  replace rp2 := rp2.st k5
  replace kk := kk.trans k5
  replace kS1 := kS1.trans k5
  have rp4 : RepL (Rp.int .u8) I3 w8 [.int .u8 (IntKind.u8.wrap (p0.User.length : Int))] ([IntKind.u8.wrap (p0.User.length : Int)] : List Int) := RepL.cons (c := [.int .u8 (IntKind.u8.wrap (p0.User.length : Int))]) (d := []) (rfl) (RepL.nil)
  replace s : St w1 M I3 ((.sl (.slice (some ⟨b3, 0, none⟩) 1 1) 5 1 1 [.int .u8 (IntKind.u8.wrap (p0.User.length : Int))]) :: (.sl (.slice A5 n3 u5) 5 1 n3 cl3) :: (.blk b1 (.cells #[.int .u64 p0.Epoch, .int .i64 p0.Pages, .slice A1 p0.Maps.length u1, .slice A2 p0.User.length u2] 28 (0, 0))) :: F) w8 := s.blkSl (i := 0) (n := 1) (c := 1) (size := 1) rfl rfl (Nat.le_refl _) (by decide)
  refine ⟨fun _ => ⟨_, s.pick [2] 3 rfl, kS1⟩, RD.fold ?_⟩
  have hs1 := St.src s (i := 0) rfl rfl rp4
  have rq1 := rp4
  obtain ⟨x7, hx4, hf⟩ := bindS hf
  refine RD.op (i := 6) rfl (by kernel_rfl) (by kernel_rfl) (OK.app hT (r := (Rp.int .u8)) (i := 1) (t := 24) (e := 5) (size := 1) (bytes := 1) (c := u5) (n := n3) (m := 1) s (by kernel_rfl) rfl rfl rfl rfl rfl (by decide) rfl rfl hn1 rfl rp2 hs1 rq1 flat_int rfl hx4 ?_)
  clear s
  rintro A7 u7 cl5 w9 s k6 rp5
  replace e1 := e1.st k6
  replace e2 := e2.st k6
  replace rp4 := rp4.st k6
  replace rp2 := rp2.st k6
  replace kk := kk.trans k6
  replace kS1 := kS1.trans k6
  refine ⟨fun _ => ⟨_, s.pick [2] 3 rfl, kS1⟩, RD.fold ?_⟩
  obtain ⟨nw1, hs2, rq2⟩ := Elems.src e2
  obtain ⟨x8, hx5, hf⟩ := bindS hf
  refine RD.op (i := 9) rfl (by kernel_rfl) (by kernel_rfl) (OK.app hT (r := (Rp.int .u8)) (i := 1) (t := 24) (e := 5) (size := 1) (bytes := 1) (c := u7) (n := x7.length) (m := p0.User.length) s (by kernel_rfl) rfl rfl rfl rfl rfl (by decide) rfl rfl rfl rfl rp5 hs2 rq2 flat_int rfl hx5 ?_)
  clear s
  rintro A8 u8 cl6 w10 s k7 rp6
  replace e1 := e1.st k7
  replace e2 := e2.st k7
  replace rp4 := rp4.st k7
  replace rp5 := rp5.st k7
  replace kk := kk.trans k7
  replace kS1 := kS1.trans k7
  refine ⟨fun _ => ⟨_, s.pick [2] 3 rfl, kS1⟩, RD.fold ?_⟩
  refine RD.segM hT ht1 (by kernel_rfl) [10] [] [] [.slice A8 x8.length u8] [] (by kernel_rfl) (fun _ _ => trivial) ⟨_, s.pick [2] 3 rfl, kS1⟩ ?_
  refine RD.done (by kernel_rfl) ?_
  refine WPK.seq ?_
  refine WPK.block ?_
  replace s := s.pick [1] 3 rfl
  refine WPK.loop' (J := fun n5 D3 ds wz => ∀ X : Kont, (∀ (I5 : Nat → Prop) (x9 : (List Int)) (A9 : Option Addr) (u9 : Nat) (cl7 : List Value) (w' : World), g18_l3 n5 x9 = some r → St w1 M I5 ((.sl (.slice A9 x9.length u9) 5 1 x9.length cl7) :: F) w' → Kp I w I5 w' → RepL (Rp.int .u8) I5 w' cl7 x9 → X [(D3.getD 0 undef), (D3.getD 1 undef), .slice none 0 0, .int .i64 0, (D3.getD 4 undef), .slice A9 x9.length u9, (D3.getD 6 undef), (D3.getD 7 undef), (D3.getD 8 undef), (D3.getD 9 undef), (D3.getD 10 undef), (D3.getD 11 undef), (D3.getD 12 undef), (D3.getD 13 undef), (D3.getD 14 undef), (D3.getD 15 undef), (D3.getD 16 undef), (D3.getD 17 undef), (D3.getD 18 undef), (D3.getD 19 undef), (D3.getD 20 undef), (D3.getD 21 undef), (D3.getD 22 undef), (D3.getD 23 undef), (D3.getD 24 undef), (D3.getD 25 undef), (D3.getD 26 undef), (D3.getD 27 undef), (D3.getD 28 undef), (D3.getD 29 undef), (D3.getD 30 undef), (D3.getD 31 undef), (D3.getD 32 undef), (D3.getD 33 undef), (D3.getD 34 undef), (D3.getD 35 undef), (D3.getD 36 undef), (D3.getD 37 undef), (D3.getD 38 undef), (D3.getD 39 undef), (D3.getD 40 undef), (D3.getD 41 undef), (D3.getD 42 undef), (D3.getD 43 undef), (D3.getD 44 undef), (D3.getD 45 undef), (D3.getD 46 undef), (D3.getD 47 undef), (D3.getD 48 undef), (D3.getD 49 undef), (D3.getD 50 undef), undef] [] w') → X D3 ds wz) FUEL (fun X h => kc (by kernel_rfl) rfl (h I3 x8 A8 u8 cl6 _ hf s kk rp6)) (fun _ _ _ hJ => hJ (fun _ _ _ => False) (by intro I5 x9 A9 u9 cl7 w11 hf s kk rp7; exact noneS hf)) ?_
  intro X5 hX5
  refine fun n5 D3 _ _ hJ => hJ (X5 n5) ?_
  clear s
  intro I5 x9 A9 u9 cl7 w11 hf s kk rp7
  refine hX5 _ _ _ _ ?_
  replace hf : g18_l3B (g18_l3 n5) x9 = some r := hf
  generalize hrec2 : g18_l3 n5 = rec2 at hf
  unfold g18_l3B at hf
  refine WPK.seq ?_
  refine WPK.seq ?_
  refine WPK.region ?_
  refine RW.seg hT 3 [] [(46, .int .i64 (x9.length : Int))] [.slice A9 x9.length u9, .int .i64 (x9.length : Int), .bool (decide ((x9.length : Int) < 240))] [.veq (.int .i64 (x9.length : Nat)) (.int .i64 (x9.length : Int))] (by kernel_rfl) (len_v rfl) ?_
  refine RW.nil ?_
  by_cases h4 : (x9.length : Int) < 240
  have hf := iteT h4 hf
  refine WPK.condT (Eq.trans (b := .bool (decide ((x9.length : Int) < 240))) (by kernel_rfl) (bo_t h4)) ?_
  refine WPK.skip ?_
  refine WPK.block ?_
  refine WPK.region ?_
  refine RW.seg hT 1 [] [] [.slice A9 x9.length u9] [] (by kernel_rfl) (trivial) ?_
  refine RW.op (by kernel_rfl) (OK.new hT (f := fun b => .slice (some ⟨b, 0, none⟩) 1 1) (cs := [.int .u8 0]) (e := 5) (c := .tt) s (by kernel_rfl) trivial ?_)
  clear s
  rintro w12 b4 s k8 -
  replace rp7 := rp7.st k8
  replace kk := kk.trans k8
  have rp8 : RepL (Rp.int .u8) I5 w12 [.int .u8 0] ([0] : List Int) := RepL.cons (c := [.int .u8 0]) (d := []) (rfl) (RepL.nil)
  replace s : St w1 M I5 ((.sl (.slice (some ⟨b4, 0, none⟩) 1 1) 5 1 1 [.int .u8 0]) :: (.sl (.slice A9 x9.length u9) 5 1 x9.length cl7) :: F) w12 := s.blkSl (i := 0) (n := 1) (c := 1) (size := 1) rfl rfl (Nat.le_refl _) (by decide)
  have hs3 := St.src s (i := 0) rfl rfl rp8
  have rq3 := rp8
  obtain ⟨x10, hx6, hf⟩ := bindS hf
  refine RW.op (by kernel_rfl) (OK.app hT (r := (Rp.int .u8)) (i := 1) (t := 24) (e := 5) (size := 1) (bytes := 1) (c := u9) (n := x9.length) (m := 1) s (by kernel_rfl) rfl rfl rfl rfl rfl (by decide) rfl rfl rfl rfl rp7 hs3 rq3 flat_int rfl hx6 ?_)
  clear s
  rintro A10 u10 cl8 w13 s k9 rp9
  replace rp8 := rp8.st k9
  replace rp7 := rp7.st k9
  replace kk := kk.trans k9
  refine RW.seg hT 1 [] [] [.slice A10 x10.length u10] [] (by kernel_rfl) (trivial) ?_
  refine RW.nil ?_
  subst hrec2
  replace s := s.pick [1] 2 rfl
  exact ⟨n5, Nat.le_refl _, fun X h => kc (by kernel_rfl) rfl (h I5 x10 A10 u10 cl8 _ hf s kk rp9)⟩
  have hf := iteF h4 hf
  refine WPK.condF (Eq.trans (b := .bool (decide ((x9.length : Int) < 240))) (by kernel_rfl) (bo_f h4)) ?_
  refine WPK.exit (blockQ.same ?_)
  refine WPK.seq ?_
  refine WPK.region ?_
  refine RW.seg hT 3 [] [] [.slice A9 x9.length u9, .slice A9 x9.length u9, .int .i64 0] [] (by kernel_rfl) (trivial) ?_
  refine RW.nil ?_
  refine WPK.ret (?_)
  obtain rfl := someS hf
  refine Fin.of (rs := [.tmp 2, .tmp 3]) hT [] (.tuple #[.slice A9 x9.length u9, .int .i64 0]) [] rfl (by kernel_rfl) (trivial) ?_
  exact fun X h => vc rfl (h I5 A9 x9.length u9 cl7 _ s kk rfl rp7)
  have e1S2 := e1
  have e2S2 := e2
  have kS2 : Kp I1 w3 I1 w3 := Kp.refl
  refine WPK.drawM (fun w' => ∃ I' : Nat → Prop, St w1 M I' ((.blk b1 (.cells #[.int .u64 p0.Epoch, .int .i64 p0.Pages, .slice A1 p0.Maps.length u1, .slice A2 p0.User.length u2] 28 (0, 0))) :: F) w' ∧ Kp I1 w3 I' w') 8 [0, 1, 3, 0, 8, 24, 56, 120, 255, 511] (by kernel_rfl) (by kernel_rfl) ?_
  intro ht2 w14 hd2
  have k10 := Kp.dr s hd2
  replace s := s.dr hd2
  replace e1 := e1.st k10
  replace e2 := e2.st k10
  replace kk := kk.trans k10
  replace kS2 := kS2.trans k10
  refine RD.segM hT ht2 (by kernel_rfl) [0, 1, 3, 4, 5, 6] [.int .i64 p0.Pages, .slice A1 p0.Maps.length u1, undef] [] [.pointer (some ⟨b1, 1, none⟩), .int .i64 p0.Pages, .pointer (some ⟨b1, 2, none⟩), .slice A1 p0.Maps.length u1, .int .i64 (p0.Maps.length : Int), .int .u8 (IntKind.u8.wrap (p0.Maps.length : Int))] [.cell ⟨b1, 1, none⟩ (.int .i64 p0.Pages), .cell ⟨b1, 2, none⟩ (.slice A1 p0.Maps.length u1)] (by kernel_rfl) (by rintro w' ⟨I', s, k⟩; have e1 := e1S2.st k; have e2 := e2S2.st k; exact ⟨s.cell (i := 0) (off := 1) rfl rfl, s.cell (i := 0) (off := 2) rfl rfl⟩) ⟨_, s.pick [0] 1 rfl, kS2⟩ ?_
  obtain ⟨x11, hx7, hf⟩ := bindS hf
  refine RD.ways [2, 7] (by kernel_rfl) (List.forall_mem_cons.2 ⟨?_, List.forall_mem_cons.2 ⟨?_, fun _ h => nomatch h⟩⟩)
  replace s := s.pushNil 5 1
  refine RWay.op rfl (by kernel_rfl) (OK.call' en39 (by kernel_rfl) (c39 (F := (.blk b1 (.cells #[.int .u64 p0.Epoch, .int .i64 p0.Pages, .slice A1 p0.Maps.length u1, .slice A2 p0.User.length u2] 28 (0, 0))) :: F) ([] : List Int) p0.Pages none 0 0 [] rfl (RepL.nil (r := (Rp.int .u8))) s hx7) ?_)
  intro X6 hX6
  refine fun _ _ hJ => hJ X6 ?_
  clear s
  intro I6 A11 n6 u11 cl9 w15 s k11 hn3 rp10
  refine hX6 _ _ ?_
  replace e1 := e1.st k11
  replace e2 := e2.st k11
  replace kk := kk.trans k11
  replace kS2 := kS2.trans k11
  refine ⟨fun _ => ⟨_, s.pick [1] 2 rfl, kS2⟩, RD.fold ?_⟩
  refine RD.op (i := 7) rfl (by kernel_rfl) (by kernel_rfl) (OK.new hT (f := fun b => .slice (some ⟨b, 0, none⟩) 1 1) (cs := [.int .u8 (IntKind.u8.wrap (p0.Maps.length : Int))]) (e := 5) (c := .tt) s (by kernel_rfl) trivial ?_)
  clear s
  rintro w16 b5 s k12 -
  replace e1 := e1.st k12
  replace e2 := e2.st k12
  replace rp10 := rp10.st k12
  replace kk := kk.trans k12
  replace kS2 := kS2.trans k12
  have rp11 : RepL (Rp.int .u8) I6 w16 [.int .u8 (IntKind.u8.wrap (p0.Maps.length : Int))] ([IntKind.u8.wrap (p0.Maps.length : Int)] : List Int) := RepL.cons (c := [.int .u8 (IntKind.u8.wrap (p0.Maps.length : Int))]) (d := []) (rfl) (RepL.nil)
  replace s : St w1 M I6 ((.sl (.slice (some ⟨b5, 0, none⟩) 1 1) 5 1 1 [.int .u8 (IntKind.u8.wrap (p0.Maps.length : Int))]) :: (.sl (.slice A11 n6 u11) 5 1 n6 cl9) :: (.blk b1 (.cells #[.int .u64 p0.Epoch, .int .i64 p0.Pages, .slice A1 p0.Maps.length u1, .slice A2 p0.User.length u2] 28 (0, 0))) :: F) w16 := s.blkSl (i := 0) (n := 1) (c := 1) (size := 1) rfl rfl (Nat.le_refl _) (by decide)
  refine ⟨fun _ => ⟨_, s.pick [2] 3 rfl, kS2⟩, RD.fold ?_⟩
  have hs4 := St.src s (i := 0) rfl rfl rp11
  have rq4 := rp11
  obtain ⟨x12, hx8, hf⟩ := bindS hf
  refine RD.op (i := 8) rfl (by kernel_rfl) (by kernel_rfl) (OK.app hT (r := (Rp.int .u8)) (i := 1) (t := 24) (e := 5) (size := 1) (bytes := 1) (c := u11) (n := n6) (m := 1) s (by kernel_rfl) rfl rfl rfl rfl rfl (by decide) rfl rfl hn3 rfl rp10 hs4 rq4 flat_int rfl hx8 ?_)
  clear s
  rintro A12 u12 cl10 w17 s k13 rp12
  replace e1 := e1.st k13
  replace e2 := e2.st k13
  replace rp11 := rp11.st k13
  replace rp10 := rp10.st k13
  replace kk := kk.trans k13
  replace kS2 := kS2.trans k13
  refine ⟨fun h => absurd h (by decide), RD.fold ?_⟩
  refine RD.op (i := 9) rfl (by kernel_rfl) (by kernel_rfl) (OK.pure hT (ld := undef) (v := .slice A12 x12.length u12) (c := .tt) (by kernel_rfl) (trivial) ?_)
  refine ⟨fun h => absurd h (by decide), RD.fold ?_⟩
  refine RD.done (by kernel_rfl) ?_
  replace s := s.pick [1, 2] 3 rfl
  exact fun X h => kc (by kernel_rfl) rfl (h I6 x12 A12 u12 cl10 _ hf s kk rp12 e1 e2)
  refine RWay.op rfl (by kernel_rfl) (OK.new hT (f := fun b => .slice (some ⟨b, 0, none⟩) 1 1) (cs := [.int .u8 (IntKind.u8.wrap (p0.Maps.length : Int))]) (e := 5) (c := .tt) s (by kernel_rfl) trivial ?_)
  clear s
  rintro w16 b5 s k12 -
  replace e1 := e1.st k12
  replace e2 := e2.st k12
  replace kk := kk.trans k12
  replace kS2 := kS2.trans k12
  have rp11 : RepL (Rp.int .u8) I1 w16 [.int .u8 (IntKind.u8.wrap (p0.Maps.length : Int))] ([IntKind.u8.wrap (p0.Maps.length : Int)] : List Int) := RepL.cons (c := [.int .u8 (IntKind.u8.wrap (p0.Maps.length : Int))]) (d := []) (rfl) (RepL.nil)
  replace s : St w1 M I1 ((.sl (.slice (some ⟨b5, 0, none⟩) 1 1) 5 1 1 [.int .u8 (IntKind.u8.wrap (p0.Maps.length : Int))]) :: (.blk b1 (.cells #[.int .u64 p0.Epoch, .int .i64 p0.Pages, .slice A1 p0.Maps.length u1, .slice A2 p0.User.length u2] 28 (0, 0))) :: F) w16 := s.blkSl (i := 0) (n := 1) (c := 1) (size := 1) rfl rfl (Nat.le_refl _) (by decide)
  refine ⟨fun _ => ⟨_, s.pick [1] 2 rfl, kS2⟩, RD.fold ?_⟩
  replace s := s.pushNil 5 1
  refine RD.op (i := 2) rfl (by kernel_rfl) (by kernel_rfl) (OK.call' en39 (by kernel_rfl) (c39 (F := (.sl (.slice (some ⟨b5, 0, none⟩) 1 1) 5 1 1 [.int .u8 (IntKind.u8.wrap (p0.Maps.length : Int))]) :: (.blk b1 (.cells #[.int .u64 p0.Epoch, .int .i64 p0.Pages, .slice A1 p0.Maps.length u1, .slice A2 p0.User.length u2] 28 (0, 0))) :: F) ([] : List Int) p0.Pages none 0 0 [] rfl (RepL.nil (r := (Rp.int .u8))) s hx7) ?_)
  intro X7 hX7
  refine fun _ _ hJ => hJ X7 ?_
  clear s
  intro I7 A13 n7 u13 cl11 w18 s k14 hn4 rp13
  refine hX7 _ _ ?_
  replace e1 := e1.st k14
  replace e2 := e2.st k14
  replace rp11 := rp11.st k14
  replace kk := kk.trans k14
  replace kS2 := kS2.trans k14
  refine ⟨fun _ => ⟨_, s.pick [2] 3 rfl, kS2⟩, RD.fold ?_⟩
  have hs5 := St.src s (i := 1) rfl rfl rp11
  have rq5 := rp11
  obtain ⟨x13, hx9, hf⟩ := bindS hf
  refine RD.op (i := 8) rfl (by kernel_rfl) (by kernel_rfl) (OK.app hT (r := (Rp.int .u8)) (i := 0) (t := 24) (e := 5) (size := 1) (bytes := 1) (c := u13) (n := n7) (m := 1) s (by kernel_rfl) rfl rfl rfl rfl rfl (by decide) rfl rfl hn4 rfl rp13 hs5 rq5 flat_int rfl hx9 ?_)
  clear s
  rintro A14 u14 cl12 w19 s k15 rp14
  replace e1 := e1.st k15
  replace e2 := e2.st k15
  replace rp13 := rp13.st k15
  replace rp11 := rp11.st k15
  replace kk := kk.trans k15
  replace kS2 := kS2.trans k15
  refine ⟨fun h => absurd h (by decide), RD.fold ?_⟩
  refine RD.op (i := 9) rfl (by kernel_rfl) (by kernel_rfl) (OK.pure hT (ld := undef) (v := .slice A14 x13.length u14) (c := .tt) (by kernel_rfl) (trivial) ?_)
  refine ⟨fun h => absurd h (by decide), RD.fold ?_⟩
  refine RD.done (by kernel_rfl) ?_
  replace s := s.pick [0, 2] 3 rfl
  exact fun X h => kc (by kernel_rfl) rfl (h I7 x13 A14 u14 cl12 _ hf s kk rp14 e1 e2)
theorem c15 {w1 w : World} {M I : Nat → Prop} {F : List It} (p0 : Int) (p1 : (List Int)) (A1 : Option Addr) (u1 : Nat) (hc1 : (p1.length ≤ u1 ∧ u1 ≤ 9223372036854775807)) (e1 : Elems (Rp.int .u8) I w A1 p1) (s : St w1 M I (F) w) {r : (T_api_Head × Int)} (hf : g15 p0 p1 = some r) :
    Ret Tryd.prog 15 [.int .u64 p0, .slice A1 p1.length u1] w fun v wz => ∀ X : Value → World → Prop, (∀ (I' : Nat → Prop) (A2 : Option Addr) (n1 : Nat) (u2 : Nat) (cl1 : List Value) (A3 : Option Addr) (n2 : Nat) (u3 : Nat) (cl2 : List Value) (w' : World), St w1 M I' ((.sl (.slice A2 n1 u2) 3 1 n1 cl1) :: (.sl (.slice A3 n2 u3) 5 1 n2 cl2) :: F) w' → Kp I w I' w' → n1 = r.1.Maps.length → RepL (Rp.int .i64) I' w' cl1 r.1.Maps → n2 = r.1.User.length → RepL (Rp.int .u8) I' w' cl2 r.1.User → X (.tuple #[.agg #[.int .u64 r.1.Epoch, .int .i64 r.1.Pages, .slice A2 n1 u2, .slice A3 n2 u3], .int .i64 r.2]) w') → X v wz := by
  have kk : Kp I w I w := Kp.refl
  unfold g15 at hf
  refine Ret.of Tryd.func15 rfl ?_
  refine WPK.seq ?_
  refine WPK.region ?_
  refine RW.op (by kernel_rfl) (OK.new hT (f := fun b => .pointer (some ⟨b, 0, none⟩)) (cs := [.int .u64 0, .int .i64 0, .slice none 0 0, .slice none 0 0]) (e := 28) (c := .tt) s (by kernel_rfl) trivial ?_)
  clear s
  rintro w2 b1 s k1 -
  replace e1 := e1.st k1
  replace kk := kk.trans k1
  refine RW.seg hT 1 [] [] [.int .i64 0] [] (by kernel_rfl) (trivial) ?_
  refine RW.nil ?_
  refine WPK.seq ?_
  refine WPK.seq ?_
  refine WPK.region ?_
  refine RW.seg hT 3 [] [(15, .bool (decide ((p1.length : Int) ≠ 240)))] [.slice A1 p1.length u1, .int .i64 (p1.length : Int), .bool (decide ((p1.length : Int) ≠ 240))] [.veq (.bool ((p1.length : Int) != 240)) (.bool (decide ((p1.length : Int) ≠ 240)))] (by kernel_rfl) (ne_v) ?_
  refine RW.nil ?_
  by_cases h1 : (p1.length : Int) ≠ 240
  have hf := iteT h1 hf
  refine WPK.condT (Eq.trans (b := .bool (decide ((p1.length : Int) ≠ 240))) (by kernel_rfl) (bo_t h1)) ?_
  refine WPK.seq ?_
  refine WPK.region ?_
  refine RW.seg hT 1 [] [] [.agg #[.int .u64 0, .int .i64 0, .slice none 0 0, .slice none 0 0]] [] (by kernel_rfl) (trivial) ?_
  refine RW.op (by kernel_rfl) (OK.store hT (i := 0) (b := b1) (off := 0) (n := 4) (vs := [.int .u64 0, .int .i64 0, .slice none 0 0, .slice none 0 0]) (cs := [.int .u64 0, .int .i64 0, .slice none 0 0, .slice none 0 0]) (e := 28) s (by kernel_rfl) rfl rfl (flat_ok rfl) (Nat.le_of_ble_eq_true rfl) ?_)
  clear s
  rintro w3 s k2 -
  replace e1 := e1.st k2
  replace kk := kk.trans k2
  refine RW.seg hT 1 [] [] [.int .i64 60] [] (by kernel_rfl) (trivial) ?_
  refine RW.nil ?_
  refine WPK.ret (?_)
  obtain rfl := someS hf
  refine Fin.of (rs := [.cell 4 28, .tmp 5]) hT [.agg #[.int .u64 0, .int .i64 0, .slice none 0 0, .slice none 0 0]] (.tuple #[.agg #[.int .u64 0, .int .i64 0, .slice none 0 0, .slice none 0 0], .int .i64 60]) [.cells ⟨b1, 0, none⟩ [.int .u64 0, .int .i64 0, .slice none 0 0, .slice none 0 0] 4] rfl (by kernel_rfl) (s.cells (i := 0) rfl rfl rfl) ?_
  replace s := s.pushNil 3 1
  replace s := s.pushNil 5 1
  replace s := s.pick [1, 0] 3 rfl
  exact fun X h => vc rfl (h I none 0 0 [] none 0 0 [] _ s kk rfl (RepL.nil (r := (Rp.int .i64))) rfl (RepL.nil (r := (Rp.int .u8))))
  have hf := iteF h1 hf
  refine WPK.condF (Eq.trans (b := .bool (decide ((p1.length : Int) ≠ 240))) (by kernel_rfl) (bo_f h1)) ?_
  refine WPK.skip ?_
  refine WPK.seq ?_
  have e1S1 := e1
  have kS1 : Kp I w2 I w2 := Kp.refl
  refine WPK.drawM (fun w' => ∃ I' : Nat → Prop, St w1 M I' ((.blk b1 (.cells #[.int .u64 0, .int .i64 0, .slice none 0 0, .slice none 0 0] 28 (0, 0))) :: F) w' ∧ Kp I w2 I' w') 13 [0, 0, 2, 6, 14, 30, 0, 64, 192, 448, 1022, 2047, 0, 8191] (by kernel_rfl) (by kernel_rfl) ?_
  intro ht1 w4 hd1
  have k3 := Kp.dr s hd1
  replace s := s.dr hd1
  replace e1 := e1.st k3
  replace kk := kk.trans k3
  replace kS1 := kS1.trans k3
  obtain ⟨x1, hx1, hf⟩ := bindS hf
  obtain ⟨h2, hx1⟩ := getS hx1
  obtain ⟨b2, o1, rfl⟩ := Elems.opn e1 hx1
  obtain ⟨cs1, hr1, ha1, hb1⟩ := Elems.getI e1S1 hx1
  obtain rfl : cs1 = [.int .u8 x1] := hr1
  obtain ⟨x2, hx2, hf⟩ := bindS hf
  obtain ⟨h3, hx2⟩ := getS hx2
  obtain ⟨cs2, hr2, ha2, hb2⟩ := Elems.getI e1S1 hx2
  obtain rfl : cs2 = [.int .u8 x2] := hr2
  obtain ⟨x3, hx3, hf⟩ := bindS hf
  refine RD.segM hT ht1 (by kernel_rfl) [0, 1, 2, 3, 4, 5, 6, 7, 8, 9, 10, 11] [.int .u8 x1, undef, .int .u8 x2, undef] [(27, .int .i64 x3)] [.int .u64 p0, .slice (some ⟨b2, o1, none⟩) p1.length u1, .pointer (some ⟨b2, o1 + (0 : Int).toNat * 1, none⟩), .int .u8 x1, .int .i64 (IntKind.i64.wrap x1), .int .i64 (IntKind.i64.wrap ((IntKind.i64.wrap x1) * 256)), .slice (some ⟨b2, o1, none⟩) p1.length u1, .pointer (some ⟨b2, o1 + (1 : Int).toNat * 1, none⟩), .int .u8 x2, .int .i64 (IntKind.i64.wrap x2), .int .i64 x3, .agg #[.int .u64 p0, .int .i64 x3, .slice none 0 0, .slice none 0 0]] [.idx 0 p1.length, .cell ⟨b2, o1 + (0 : Int).toNat * 1, none⟩ (.int .u8 x1), .idx 1 p1.length, .cell ⟨b2, o1 + (1 : Int).toNat * 1, none⟩ (.int .u8 x2), .veq (.int .i64 (IntKind.i64.wrap ((IntKind.i64.wrap ((IntKind.i64.wrap x1) * 256)) + (IntKind.i64.wrap x2)))) (.int .i64 x3)] (by kernel_rfl) (by rintro w' ⟨I', s, k⟩; have e1 := e1S1.st k; have ha1 := ha1.st k hb1; have ha2 := ha2.st k hb2; exact ⟨h2, ha1 0 _ rfl, h3, ha2 0 _ rfl, int_v (someS hx3)⟩) ⟨_, s.pick [0] 1 rfl, kS1⟩ ?_
  refine RD.op (i := 12) rfl (by kernel_rfl) (by kernel_rfl) (OK.new hT (f := fun b => .pointer (some ⟨b, 0, none⟩)) (cs := [.int .u64 0, .int .i64 0, .slice none 0 0, .slice none 0 0]) (e := 28) (c := .tt) s (by kernel_rfl) trivial ?_)
  clear s
  rintro w5 b3 s k4 -
  replace e1 := e1.st k4
  replace kk := kk.trans k4
  replace kS1 := kS1.trans k4
  refine ⟨fun _ => ⟨_, s.pick [1] 2 rfl, kS1⟩, RD.fold ?_⟩
  refine RD.op (i := 13) rfl (by kernel_rfl) (by kernel_rfl) (OK.store hT (i := 0) (b := b3) (off := 0) (n := 4) (vs := [.int .u64 p0, .int .i64 x3, .slice none 0 0, .slice none 0 0]) (cs := [.int .u64 0, .int .i64 0, .slice none 0 0, .slice none 0 0]) (e := 28) s (by kernel_rfl) rfl rfl (flat_ok rfl) (Nat.le_of_ble_eq_true rfl) ?_)
  clear s
  rintro w6 s k5 -
  replace e1 := e1.st k5
  replace kk := kk.trans k5
  replace kS1 := kS1.trans k5
  refine ⟨fun h => absurd h (by decide), RD.fold ?_⟩
  refine RD.done (by kernel_rfl) ?_
  refine WPK.seq ?_
  refine WPK.region ?_
  obtain ⟨x4, hx4, hf⟩ := bindS hf
  obtain ⟨h4, hx4⟩ := getS hx4
  obtain ⟨cs3, hr3, ha3⟩ := Elems.get e1 hx4
  obtain rfl : cs3 = [.int .u8 x4] := hr3
  refine RW.seg hT 5 [.int .u8 x4, undef] [] [.slice (some ⟨b2, o1, none⟩) p1.length u1, .pointer (some ⟨b2, o1 + (2 : Int).toNat * 1, none⟩), .int .u8 x4, .int .i64 (IntKind.i64.wrap x4), .int .i64 (IntKind.i64.wrap x4)] [.idx 2 p1.length, .cell ⟨b2, o1 + (2 : Int).toNat * 1, none⟩ (.int .u8 x4)] (by kernel_rfl) (⟨h4, ha3 0 _ rfl⟩) ?_
  refine RW.nil ?_
  refine WPK.seq ?_
  refine WPK.seq ?_
  refine WPK.region ?_
  refine RW.seg hT 2 [] [] [.int .i64 (IntKind.i64.wrap x4), .bool (decide ((IntKind.i64.wrap x4) > 2))] [] (by kernel_rfl) (trivial) ?_
  refine RW.nil ?_
  by_cases h5 : (IntKind.i64.wrap x4) > 2
  have hf := iteT h5 hf
  refine WPK.condT (Eq.trans (b := .bool (decide ((IntKind.i64.wrap x4) > 2))) (by kernel_rfl) (bo_t h5)) ?_
  refine WPK.seq ?_
  refine WPK.region ?_
  refine RW.seg hT 1 [] [] [.agg #[.int .u64 0, .int .i64 0, .slice none 0 0, .slice none 0 0]] [] (by kernel_rfl) (trivial) ?_
  refine RW.op (by kernel_rfl) (OK.store hT (i := 1) (b := b1) (off := 0) (n := 4) (vs := [.int .u64 0, .int .i64 0, .slice none 0 0, .slice none 0 0]) (cs := [.int .u64 0, .int .i64 0, .slice none 0 0, .slice none 0 0]) (e := 28) s (by kernel_rfl) rfl rfl (flat_ok rfl) (Nat.le_of_ble_eq_true rfl) ?_)
  clear s
  rintro w7 s k6 -
  replace e1 := e1.st k6
  replace kk := kk.trans k6
  refine RW.seg hT 1 [] [] [.int .i64 60] [] (by kernel_rfl) (trivial) ?_
  refine RW.nil ?_
  refine WPK.ret (?_)
  obtain rfl := someS hf
  refine Fin.of (rs := [.cell 4 28, .tmp 5]) hT [.agg #[.int .u64 0, .int .i64 0, .slice none 0 0, .slice none 0 0]] (.tuple #[.agg #[.int .u64 0, .int .i64 0, .slice none 0 0, .slice none 0 0], .int .i64 60]) [.cells ⟨b1, 0, none⟩ [.int .u64 0, .int .i64 0, .slice none 0 0, .slice none 0 0] 4] rfl (by kernel_rfl) (s.cells (i := 1) rfl rfl rfl) ?_
  replace s := s.pushNil 3 1
  replace s := s.pushNil 5 1
  replace s := s.pick [1, 0] 4 rfl
  exact fun X h => vc rfl (h I none 0 0 [] none 0 0 [] _ s kk rfl (RepL.nil (r := (Rp.int .i64))) rfl (RepL.nil (r := (Rp.int .u8))))
  have hf := iteF h5 hf
  refine WPK.condF (Eq.trans (b := .bool (decide ((IntKind.i64.wrap x4) > 2))) (by kernel_rfl) (bo_f h5)) ?_
  refine WPK.skip ?_
  refine WPK.seq ?_
  refine WPK.seq ?_
  refine WPK.region ?_
  refine RW.seg hT 1 [] [] [.int .i64 0] [] (by kernel_rfl) (trivial) ?_
  refine RW.nil ?_
  refine WPK.block ?_
  replace s := s.pushNil 3 1
  replace s := s.pick [1, 2, 0] 3 rfl
  refine WPK.loop' (J := fun n3 D1 ds wz => ∀ X : Kont, (∀ (I1 : Nat → Prop) (x5 : Int) (x6 : (List Int)) (A4 : Option Addr) (u4 : Nat) (cl3 : List Value) (w' : World), g15_l1 p0 p1 x3 x4 n3 x5 x6 = some r → St w1 M I1 ((.blk b3 (.cells #[.int .u64 p0, .int .i64 x3, .slice A4 x6.length u4, .slice none 0 0] 28 (0, 0))) :: (.blk b1 (.cells #[.int .u64 0, .int .i64 0, .slice none 0 0, .slice none 0 0] 28 (0, 0))) :: (.sl (.slice A4 x6.length u4) 3 1 x6.length cl3) :: F) w' → Kp I w I1 w' → Elems (Rp.int .u8) I1 w' (some ⟨b2, o1, none⟩) p1 → RepL (Rp.int .i64) I1 w' cl3 x6 → X [(D1.getD 0 undef), .slice (some ⟨b2, o1, none⟩) p1.length u1, (D1.getD 2 undef), (D1.getD 3 undef), .pointer (some ⟨b1, 0, none⟩), .int .i64 0, .pointer (some ⟨b3, 0, none⟩), .int .i64 (IntKind.i64.wrap x4), .int .i64 x5, undef, undef, undef, undef, (D1.getD 13 undef), (D1.getD 14 undef), (D1.getD 15 undef), (D1.getD 16 undef), (D1.getD 17 undef), (D1.getD 18 undef), (D1.getD 19 undef), (D1.getD 20 undef), (D1.getD 21 undef), (D1.getD 22 undef), (D1.getD 23 undef), (D1.getD 24 undef), (D1.getD 25 undef), (D1.getD 26 undef), (D1.getD 27 undef), (D1.getD 28 undef), (D1.getD 29 undef), (D1.getD 30 undef), (D1.getD 31 undef), (D1.getD 32 undef), (D1.getD 33 undef), (D1.getD 34 undef), (D1.getD 35 undef), (D1.getD 36 undef), (D1.getD 37 undef), (D1.getD 38 undef), (D1.getD 39 undef), (D1.getD 40 undef), (D1.getD 41 undef), (D1.getD 42 undef), (D1.getD 43 undef), (D1.getD 44 undef), (D1.getD 45 undef), (D1.getD 46 undef), (D1.getD 47 undef), (D1.getD 48 undef), (D1.getD 49 undef), (D1.getD 50 undef), (D1.getD 51 undef), (D1.getD 52 undef), (D1.getD 53 undef), (D1.getD 54 undef), (D1.getD 55 undef), (D1.getD 56 undef), (D1.getD 57 undef), (D1.getD 58 undef), (D1.getD 59 undef), (D1.getD 60 undef), (D1.getD 61 undef), undef, undef, undef, undef, undef, undef, undef, undef, undef, undef, undef, undef, undef, undef, undef, undef, undef, undef, undef, undef, undef, undef, undef, undef, undef, undef, undef, undef, undef, undef, undef, undef, undef, undef, undef, undef, undef, undef, undef] [] w') → X D1 ds wz) FUEL (fun X h => kc (by kernel_rfl) rfl (h I 0 ([] : List Int) none 0 [] _ hf s kk e1 (RepL.nil (r := (Rp.int .i64))))) (fun _ _ _ hJ => hJ (fun _ _ _ => False) (by intro I1 x5 x6 A4 u4 cl3 w8 hf s kk e1 rp1; exact noneS hf)) ?_
  intro X1 hX1
  refine fun n3 D1 _ _ hJ => hJ (X1 n3) ?_
  clear s
  intro I1 x5 x6 A4 u4 cl3 w8 hf s kk e1 rp1
  refine hX1 _ _ _ _ ?_
  replace hf : g15_l1B p0 p1 x3 x4 (g15_l1 p0 p1 x3 x4 n3) x5 x6 = some r := hf
  generalize hrec1 : g15_l1 p0 p1 x3 x4 n3 = rec1 at hf
  unfold g15_l1B at hf
  refine WPK.seq ?_
  refine WPK.seq ?_
  refine WPK.region ?_
  refine RW.seg hT 3 [] [] [.int .i64 x5, .int .i64 (IntKind.i64.wrap x4), .bool (decide (x5 < (IntKind.i64.wrap x4)))] [] (by kernel_rfl) (trivial) ?_
  refine RW.nil ?_
  by_cases h6 : x5 < (IntKind.i64.wrap x4)
  have hf := iteT h6 hf
  refine WPK.condT (Eq.trans (b := .bool (decide (x5 < (IntKind.i64.wrap x4)))) (by kernel_rfl) (bo_t h6)) ?_
  refine WPK.skip ?_
  refine WPK.seq ?_
  refine WPK.block ?_
  have e1S2 := e1
  have rp1S2 := rp1
  have kS2 : Kp I1 w8 I1 w8 := Kp.refl
  refine WPK.drawM (fun w' => ∃ I' : Nat → Prop, St w1 M I' ((.blk b3 (.cells #[.int .u64 p0, .int .i64 x3, .slice A4 x6.length u4, .slice none 0 0] 28 (0, 0))) :: (.blk b1 (.cells #[.int .u64 0, .int .i64 0, .slice none 0 0, .slice none 0 0] 28 (0, 0))) :: (.sl (.slice A4 x6.length u4) 3 1 x6.length cl3) :: F) w' ∧ Kp I1 w8 I' w') 19 [0, 1, 0, 0, 8, 24, 60, 124, 252, 508, 0, 0, 2048, 6144, 15360, 31744, 64512, 131068, 262140, 524287, 1048575, 2097151] (by kernel_rfl) (by kernel_rfl) ?_
  intro ht2 w9 hd2
  have k7 := Kp.dr s hd2
  replace s := s.dr hd2
  replace e1 := e1.st k7
  replace rp1 := rp1.st k7
  replace kk := kk.trans k7
  replace kS2 := kS2.trans k7
  obtain ⟨x7, hx5, hf⟩ := bindS hf
  obtain ⟨h7, hx5⟩ := getS hx5
  obtain ⟨cs4, hr4, ha4, hb3⟩ := Elems.getI e1S2 hx5
  obtain rfl : cs4 = [.int .u8 x7] := hr4
  obtain ⟨x8, hx6, hf⟩ := bindS hf
  obtain ⟨h8, hx6⟩ := getS hx6
  obtain ⟨cs5, hr5, ha5, hb4⟩ := Elems.getI e1S2 hx6
  obtain rfl : cs5 = [.int .u8 x8] := hr5
  obtain ⟨x9, hx7, hf⟩ := bindS hf
  refine RD.segM hT ht2 (by kernel_rfl) [0, 1, 2, 3, 4, 5, 6, 7, 8, 9, 10, 11, 12, 13, 14, 15, 16, 17] [.slice A4 x6.length u4, .int .u8 x7, undef, .int .u8 x8, undef] [(58, .int .i64 x9)] [.pointer (some ⟨b3, 2, none⟩), .slice A4 x6.length u4, .slice (some ⟨b2, o1, none⟩) p1.length u1, .int .i64 x5, .int .i64 (IntKind.i64.wrap (2 * x5)), .int .i64 (IntKind.i64.wrap (3 + (IntKind.i64.wrap (2 * x5)))), .pointer (some ⟨b2, o1 + (IntKind.i64.wrap (3 + (IntKind.i64.wrap (2 * x5)))).toNat * 1, none⟩), .int .u8 x7, .int .i64 (IntKind.i64.wrap x7), .int .i64 (IntKind.i64.wrap ((IntKind.i64.wrap x7) * 256)), .slice (some ⟨b2, o1, none⟩) p1.length u1, .int .i64 x5, .int .i64 (IntKind.i64.wrap (2 * x5)), .int .i64 (IntKind.i64.wrap (4 + (IntKind.i64.wrap (2 * x5)))), .pointer (some ⟨b2, o1 + (IntKind.i64.wrap (4 + (IntKind.i64.wrap (2 * x5)))).toNat * 1, none⟩), .int .u8 x8, .int .i64 (IntKind.i64.wrap x8), .int .i64 x9] [.cell ⟨b3, 2, none⟩ (.slice A4 x6.length u4), .idx (IntKind.i64.wrap (3 + (IntKind.i64.wrap (2 * x5)))) p1.length, .cell ⟨b2, o1 + (IntKind.i64.wrap (3 + (IntKind.i64.wrap (2 * x5)))).toNat * 1, none⟩ (.int .u8 x7), .idx (IntKind.i64.wrap (4 + (IntKind.i64.wrap (2 * x5)))) p1.length, .cell ⟨b2, o1 + (IntKind.i64.wrap (4 + (IntKind.i64.wrap (2 * x5)))).toNat * 1, none⟩ (.int .u8 x8), .veq (.int .i64 (IntKind.i64.wrap ((IntKind.i64.wrap ((IntKind.i64.wrap x7) * 256)) + (IntKind.i64.wrap x8)))) (.int .i64 x9)] (by kernel_rfl) (by rintro w' ⟨I', s, k⟩; have e1 := e1S2.st k; have rp1 := rp1S2.st k; have ha4 := ha4.st k hb3; have ha5 := ha5.st k hb4; exact ⟨s.cell (i := 0) (off := 2) rfl rfl, h7, ha4 0 _ rfl, h8, ha5 0 _ rfl, int_v (someS hx7)⟩) ⟨_, s.pick [0, 1, 2] 3 rfl, kS2⟩ ?_
  refine RD.op (i := 18) rfl (by kernel_rfl) (by kernel_rfl) (OK.new hT (f := fun b => .slice (some ⟨b, 0, none⟩) 1 1) (cs := [.int .i64 x9]) (e := 3) (c := .tt) s (by kernel_rfl) trivial ?_)
  clear s
  rintro w10 b4 s k8 -
  replace e1 := e1.st k8
  replace rp1 := rp1.st k8
  replace kk := kk.trans k8
  replace kS2 := kS2.trans k8
  have rp2 : RepL (Rp.int .i64) I1 w10 [.int .i64 x9] ([x9] : List Int) := RepL.cons (c := [.int .i64 x9]) (d := []) (rfl) (RepL.nil)
  replace s : St w1 M I1 ((.sl (.slice (some ⟨b4, 0, none⟩) 1 1) 3 1 1 [.int .i64 x9]) :: (.blk b3 (.cells #[.int .u64 p0, .int .i64 x3, .slice A4 x6.length u4, .slice none 0 0] 28 (0, 0))) :: (.blk b1 (.cells #[.int .u64 0, .int .i64 0, .slice none 0 0, .slice none 0 0] 28 (0, 0))) :: (.sl (.slice A4 x6.length u4) 3 1 x6.length cl3) :: F) w10 := s.blkSl (i := 0) (n := 1) (c := 1) (size := 1) rfl rfl (Nat.le_refl _) (by decide)
  refine ⟨fun _ => ⟨_, s.pick [1, 2, 3] 4 rfl, kS2⟩, RD.fold ?_⟩
  have hs1 := St.src s (i := 0) rfl rfl rp2
  have rq1 := rp2
  obtain ⟨x10, hx8, hf⟩ := bindS hf
  refine RD.op (i := 19) rfl (by kernel_rfl) (by kernel_rfl) (OK.app hT (r := (Rp.int .i64)) (i := 3) (t := 26) (e := 3) (size := 1) (bytes := 8) (c := u4) (n := x6.length) (m := 1) s (by kernel_rfl) rfl rfl rfl rfl rfl (by decide) rfl rfl rfl rfl rp1 hs1 rq1 flat_int rfl hx8 ?_)
  clear s
  rintro A5 u5 cl4 w11 s k9 rp3
  replace e1 := e1.st k9
  replace rp2 := rp2.st k9
  replace rp1 := rp1.st k9
  replace kk := kk.trans k9
  replace kS2 := kS2.trans k9
  refine ⟨fun h => absurd h (by decide), RD.fold ?_⟩
  refine RD.op (i := 20) rfl (by kernel_rfl) (by kernel_rfl) (OK.pure hT (ld := undef) (v := .pointer (some ⟨b3, 2, none⟩)) (c := .tt) (by kernel_rfl) (trivial) ?_)
  refine ⟨fun h => absurd h (by decide), RD.fold ?_⟩
  refine RD.op (i := 21) rfl (by kernel_rfl) (by kernel_rfl) (OK.store hT (i := 1) (b := b3) (off := 2) (n := 1) (vs := [.slice A5 x10.length u5]) (cs := [.int .u64 p0, .int .i64 x3, (.slice A4 x6.length u4), .slice none 0 0]) (e := 28) s (by kernel_rfl) rfl rfl (flat_ok rfl) (Nat.le_of_ble_eq_true rfl) ?_)
  clear s
  rintro w12 s k10 -
  replace e1 := e1.st k10
  replace rp2 := rp2.st k10
  replace rp3 := rp3.st k10
  replace kk := kk.trans k10
  replace kS2 := kS2.trans k10
  refine ⟨fun h => absurd h (by decide), RD.fold ?_⟩
  refine RD.done (by kernel_rfl) ?_
  refine WPK.region ?_
  refine RW.seg hT 3 [] [] [.int .i64 x5, .int .i64 (IntKind.i64.wrap (x5 + 1)), .int .i64 (IntKind.i64.wrap (x5 + 1))] [] (by kernel_rfl) (trivial) ?_
  refine RW.nil ?_
  subst hrec1
  replace s := s.pick [1, 2, 3] 4 rfl
  exact ⟨n3, Nat.le_refl _, fun X h => kc (by kernel_rfl) rfl (h I1 (IntKind.i64.wrap (x5 + 1)) x10 A5 u5 cl4 _ hf s kk e1 rp3)⟩
  have hf := iteF h6 hf
  refine WPK.condF (Eq.trans (b := .bool (decide (x5 < (IntKind.i64.wrap x4)))) (by kernel_rfl) (bo_f h6)) ?_
  refine WPK.exit (blockQ.same ?_)
  refine WPK.seq ?_
  refine WPK.region ?_
  obtain ⟨x11, hx9, hf⟩ := bindS hf
  refine RW.seg hT 4 [] [(64, .int .i64 x11)] [.int .i64 (IntKind.i64.wrap x4), .int .i64 (IntKind.i64.wrap (2 * (IntKind.i64.wrap x4))), .int .i64 x11, .int .i64 x11] [.veq (.int .i64 (IntKind.i64.wrap (3 + (IntKind.i64.wrap (2 * (IntKind.i64.wrap x4)))))) (.int .i64 x11)] (by kernel_rfl) (int_v (someS hx9)) ?_
  refine RW.nil ?_
  refine WPK.seq ?_
  refine WPK.region ?_
  obtain ⟨x12, hx10, hf⟩ := bindS hf
  obtain ⟨h9, hx10⟩ := getS hx10
  obtain ⟨cs6, hr6, ha6⟩ := Elems.get e1 hx10
  obtain rfl : cs6 = [.int .u8 x12] := hr6
  refine RW.seg hT 6 [.int .u8 x12, undef] [] [.slice (some ⟨b2, o1, none⟩) p1.length u1, .int .i64 x11, .pointer (some ⟨b2, o1 + x11.toNat * 1, none⟩), .int .u8 x12, .int .i64 (IntKind.i64.wrap x12), .int .i64 (IntKind.i64.wrap x12)] [.idx x11 p1.length, .cell ⟨b2, o1 + x11.toNat * 1, none⟩ (.int .u8 x12)] (by kernel_rfl) (⟨h9, ha6 0 _ rfl⟩) ?_
  refine RW.nil ?_
  refine WPK.seq ?_
  refine WPK.seq ?_
  refine WPK.region ?_
  refine RW.seg hT 2 [] [] [.int .i64 (IntKind.i64.wrap x12), .bool (decide ((IntKind.i64.wrap x12) > 32))] [] (by kernel_rfl) (trivial) ?_
  refine RW.nil ?_
  by_cases h10 : (IntKind.i64.wrap x12) > 32
  have hf := iteT h10 hf
  refine WPK.condT (Eq.trans (b := .bool (decide ((IntKind.i64.wrap x12) > 32))) (by kernel_rfl) (bo_t h10)) ?_
  refine WPK.seq ?_
  refine WPK.region ?_
  refine RW.seg hT 1 [] [] [.agg #[.int .u64 0, .int .i64 0, .slice none 0 0, .slice none 0 0]] [] (by kernel_rfl) (trivial) ?_
  refine RW.op (by kernel_rfl) (OK.store hT (i := 1) (b := b1) (off := 0) (n := 4) (vs := [.int .u64 0, .int .i64 0, .slice none 0 0, .slice none 0 0]) (cs := [.int .u64 0, .int .i64 0, .slice none 0 0, .slice none 0 0]) (e := 28) s (by kernel_rfl) rfl rfl (flat_ok rfl) (Nat.le_of_ble_eq_true rfl) ?_)
  clear s
  rintro w13 s k11 -
  replace e1 := e1.st k11
  replace rp1 := rp1.st k11
  replace kk := kk.trans k11
  refine RW.seg hT 1 [] [] [.int .i64 60] [] (by kernel_rfl) (trivial) ?_
  refine RW.nil ?_
  refine WPK.ret (?_)
  obtain rfl := someS hf
  refine Fin.of (rs := [.cell 4 28, .tmp 5]) hT [.agg #[.int .u64 0, .int .i64 0, .slice none 0 0, .slice none 0 0]] (.tuple #[.agg #[.int .u64 0, .int .i64 0, .slice none 0 0, .slice none 0 0], .int .i64 60]) [.cells ⟨b1, 0, none⟩ [.int .u64 0, .int .i64 0, .slice none 0 0, .slice none 0 0] 4] rfl (by kernel_rfl) (s.cells (i := 1) rfl rfl rfl) ?_
  replace s := s.pushNil 3 1
  replace s := s.pushNil 5 1
  replace s := s.pick [1, 0] 5 rfl
  exact fun X h => vc rfl (h I1 none 0 0 [] none 0 0 [] _ s kk rfl (RepL.nil (r := (Rp.int .i64))) rfl (RepL.nil (r := (Rp.int .u8))))
  have hf := iteF h10 hf
  refine WPK.condF (Eq.trans (b := .bool (decide ((IntKind.i64.wrap x12) > 32))) (by kernel_rfl) (bo_f h10)) ?_
  refine WPK.skip ?_
  refine WPK.seq ?_
  have e1S3 := e1
  have rp1S3 := rp1
  have kS3 : Kp I1 w8 I1 w8 := Kp.refl
  refine WPK.drawM (fun w' => ∃ I' : Nat → Prop, St w1 M I' ((.blk b3 (.cells #[.int .u64 p0, .int .i64 x3, .slice A4 x6.length u4, .slice none 0 0] 28 (0, 0))) :: (.blk b1 (.cells #[.int .u64 0, .int .i64 0, .slice none 0 0, .slice none 0 0] 28 (0, 0))) :: (.sl (.slice A4 x6.length u4) 3 1 x6.length cl3) :: F) w' ∧ Kp I1 w8 I' w') 10 [0, 1, 0, 0, 8, 0, 32, 0, 224, 508, 1023, 2047, 4095] (by kernel_rfl) (by kernel_rfl) ?_
  intro ht3 w14 hd3
  have k12 := Kp.dr s hd3
  replace s := s.dr hd3
  replace e1 := e1.st k12
  replace rp1 := rp1.st k12
  replace kk := kk.trans k12
  replace kS3 := kS3.trans k12
  obtain ⟨x13, hx11, hf⟩ := bindS hf
  obtain ⟨y1, hy1, hf⟩ := bindS hf
  obtain ⟨A6, u6, h11, hc2, e2, q1, q2, q3⟩ := slS (size := 1) rfl hc1 e1 hy1
  refine RD.segM hT ht3 (by kernel_rfl) [0, 1, 2, 3, 4, 5, 6, 7, 8, 9] [.slice none 0 0] [(81, .int .i64 x13), (82, .slice A6 y1.length u6)] [.pointer (some ⟨b3, 3, none⟩), .slice none 0 0, .slice (some ⟨b2, o1, none⟩) p1.length u1, .int .i64 x11, .int .i64 (IntKind.i64.wrap (x11 + 1)), .int .i64 x11, .int .i64 (IntKind.i64.wrap (x11 + 1)), .int .i64 (IntKind.i64.wrap x12), .int .i64 x13, .slice A6 y1.length u6] [.cell ⟨b3, 3, none⟩ (.slice none 0 0), .veq (.int .i64 (IntKind.i64.wrap ((IntKind.i64.wrap (x11 + 1)) + (IntKind.i64.wrap x12)))) (.int .i64 x13), .both (.cut (IntKind.i64.wrap (x11 + 1)) x13 u1 u1) (.veq (.slice (cutA (some ⟨b2, o1, none⟩) (IntKind.i64.wrap (x11 + 1)).toNat u1 1) (x13.toNat - (IntKind.i64.wrap (x11 + 1)).toNat) (u1 - (IntKind.i64.wrap (x11 + 1)).toNat)) (.slice A6 y1.length u6))] (by kernel_rfl) (by rintro w' ⟨I', s, k⟩; have e1 := e1S3.st k; have rp1 := rp1S3.st k; exact ⟨s.cell (i := 0) (off := 3) rfl rfl, int_v (someS hx11), ⟨⟨by omega, by omega, by omega, by omega⟩, sl_eq q1 q2 q3⟩⟩) ⟨_, s.pick [0, 1, 2] 3 rfl, kS3⟩ ?_
  replace s := s.pushNil 5 1
  obtain ⟨nw1, hs2, rq2⟩ := Elems.src e2
  obtain ⟨x14, hx12, hf⟩ := bindS hf
  refine RD.op (i := 10) rfl (by kernel_rfl) (by kernel_rfl) (OK.app hT (r := (Rp.int .u8)) (i := 0) (t := 24) (e := 5) (size := 1) (bytes := 1) (c := 0) (n := 0) (m := y1.length) s (by kernel_rfl) rfl rfl rfl rfl rfl (by decide) rfl rfl rfl rfl (RepL.nil (r := (Rp.int .u8))) hs2 rq2 flat_int rfl hx12 ?_)
  clear s
  rintro A7 u7 cl5 w15 s k13 rp4
  replace e1 := e1.st k13
  replace e2 := e2.st k13
  replace rp1 := rp1.st k13
  replace kk := kk.trans k13
  replace kS3 := kS3.trans k13
  refine ⟨fun h => absurd h (by decide), RD.fold ?_⟩
  refine RD.op (i := 11) rfl (by kernel_rfl) (by kernel_rfl) (OK.pure hT (ld := undef) (v := .pointer (some ⟨b3, 3, none⟩)) (c := .tt) (by kernel_rfl) (trivial) ?_)
  refine ⟨fun h => absurd h (by decide), RD.fold ?_⟩
  refine RD.op (i := 12) rfl (by kernel_rfl) (by kernel_rfl) (OK.store hT (i := 1) (b := b3) (off := 3) (n := 1) (vs := [.slice A7 x14.length u7]) (cs := [.int .u64 p0, .int .i64 x3, .slice A4 x6.length u4, .slice none 0 0]) (e := 28) s (by kernel_rfl) rfl rfl (flat_ok rfl) (Nat.le_of_ble_eq_true rfl) ?_)
  clear s
  rintro w16 s k14 -
  replace e1 := e1.st k14
  replace e2 := e2.st k14
  replace rp4 := rp4.st k14
  replace rp1 := rp1.st k14
  replace kk := kk.trans k14
  replace kS3 := kS3.trans k14
  refine ⟨fun h => absurd h (by decide), RD.fold ?_⟩
  refine RD.done (by kernel_rfl) ?_
  refine WPK.seq ?_
  refine WPK.region ?_
  refine RW.seg hT 1 [.agg #[.int .u64 p0, .int .i64 x3, .slice A4 x6.length u4, .slice A7 x14.length u7]] [] [.agg #[.int .u64 p0, .int .i64 x3, .slice A4 x6.length u4, .slice A7 x14.length u7]] [.cells ⟨b3, 0, none⟩ [.int .u64 p0, .int .i64 x3, .slice A4 x6.length u4, .slice A7 x14.length u7] 4] (by kernel_rfl) (s.cells (i := 1) rfl rfl rfl) ?_
  have sa1 := s
  obtain ⟨hc3, e3⟩ := St.lend s (i := 3) rfl rfl rp1
  have k15 := Kp.shut (I := I1) (w := w16) (p := .sl (.slice A4 x6.length u4) 3 1 x6.length cl3)
  replace s := s.shut 3 rfl
  have sa2 := s
  obtain ⟨hc4, e4⟩ := St.lend s (i := 0) rfl rfl (rp4.st k15)
  have k16 := Kp.shut (I := (fun k => I1 k ∨ (It.sl (.slice A4 x6.length u4) 3 1 x6.length cl3).foot = some k)) (w := w16) (p := .sl (.slice A7 x14.length u7) 5 1 x14.length cl5)
  replace s := s.shut 0 rfl
  replace e3 := e3.st k16
  obtain ⟨x15, hx13, hf⟩ := bindS hf
  refine RW.op (by kernel_rfl) (OK.call' en18 (by kernel_rfl) (c18 (F := (.blk b3 (.cells #[.int .u64 p0, .int .i64 x3, .slice A4 x6.length u4, .slice A7 x14.length u7] 28 (0, 0))) :: (.blk b1 (.cells #[.int .u64 0, .int .i64 0, .slice none 0 0, .slice none 0 0] 28 (0, 0))) :: F) (T_api_Head.mk p0 x3 x6 x14) A4 u4 A7 u7 hc3 e3 hc4 e4 s hx13) ?_)
  intro X2 hX2
  refine fun _ _ hJ => hJ X2 ?_
  clear s
  intro I2 A8 n4 u8 cl6 w17 s k17 hn1 rp5
  refine hX2 _ _ ?_
  have s' := St.back sa2 (i := 0) rfl s k17
  replace k17 := Kp.back sa2 (i := 0) rfl k17
  replace s := s'; clear s'
  have s' := St.back sa1 (i := 3) rfl s k17
  replace k17 := Kp.back sa1 (i := 3) rfl k17
  replace s := s'; clear s'
  obtain ⟨I3, s, k17⟩ : ∃ I : Nat → Prop, St w1 M I ((.sl (.slice A4 x6.length u4) 3 1 x6.length cl3) :: (.sl (.slice A7 x14.length u7) 5 1 x14.length cl5) :: (.sl (.slice A8 n4 u8) 5 1 n4 cl6) :: (.blk b3 (.cells #[.int .u64 p0, .int .i64 x3, .slice A4 x6.length u4, .slice A7 x14.length u7] 28 (0, 0))) :: (.blk b1 (.cells #[.int .u64 0, .int .i64 0, .slice none 0 0, .slice none 0 0] 28 (0, 0))) :: F) w17 ∧ Kp _ _ I _ := ⟨_, s, k17⟩
  replace rp5 := RepL.free (I' := I3) (w' := w17) free_int rp5
  replace e1 := e1.st k17
  replace e2 := e2.st k17
  replace rp1 := rp1.st k17
  replace rp4 := rp4.st k17
  replace kk := kk.trans k17
  refine RW.seg hT 5 [] [] [.tuple #[.slice A8 n4 u8, .int .i64 x15.2], .slice A8 n4 u8, .int .i64 x15.2, .slice A8 n4 u8, .int .i64 x15.2] [] (by kernel_rfl) (trivial) ?_
  refine RW.nil ?_
  refine WPK.seq ?_
  refine WPK.seq ?_
  refine WPK.region ?_
  refine RW.seg hT 2 [] [(91, .bool (decide (x15.2 ≠ 0)))] [.int .i64 x15.2, .bool (decide (x15.2 ≠ 0))] [.veq (.bool (x15.2 != 0)) (.bool (decide (x15.2 ≠ 0)))] (by kernel_rfl) (ne_v) ?_
  by_cases h12 : x15.2 ≠ 0
  have hf := iteT h12 hf
  refine RW.seg hT 7 [] [(92, .bool true)] [.bool true, undef, undef, undef, undef, undef, .bool true] [.veq (.bool (decide (x15.2 ≠ 0))) (.bool true)] (by kernel_rfl) (bo_t h12) ?_
  refine RW.nil ?_
  refine WPK.condT (by kernel_rfl) ?_
  refine WPK.seq ?_
  refine WPK.region ?_
  refine RW.seg hT 1 [] [] [.agg #[.int .u64 0, .int .i64 0, .slice none 0 0, .slice none 0 0]] [] (by kernel_rfl) (trivial) ?_
  refine RW.op (by kernel_rfl) (OK.store hT (i := 4) (b := b1) (off := 0) (n := 4) (vs := [.int .u64 0, .int .i64 0, .slice none 0 0, .slice none 0 0]) (cs := [.int .u64 0, .int .i64 0, .slice none 0 0, .slice none 0 0]) (e := 28) s (by kernel_rfl) rfl rfl (flat_ok rfl) (Nat.le_of_ble_eq_true rfl) ?_)
  clear s
  rintro w18 s k18 -
  replace e1 := e1.st k18
  replace e2 := e2.st k18
  replace rp1 := rp1.st k18
  replace rp4 := rp4.st k18
  replace rp5 := rp5.st k18
  replace kk := kk.trans k18
  refine RW.seg hT 1 [] [] [.int .i64 60] [] (by kernel_rfl) (trivial) ?_
  refine RW.nil ?_
  refine WPK.ret (?_)
  obtain rfl := someS hf
  refine Fin.of (rs := [.cell 4 28, .tmp 5]) hT [.agg #[.int .u64 0, .int .i64 0, .slice none 0 0, .slice none 0 0]] (.tuple #[.agg #[.int .u64 0, .int .i64 0, .slice none 0 0, .slice none 0 0], .int .i64 60]) [.cells ⟨b1, 0, none⟩ [.int .u64 0, .int .i64 0, .slice none 0 0, .slice none 0 0] 4] rfl (by kernel_rfl) (s.cells (i := 4) rfl rfl rfl) ?_
  replace s := s.pushNil 3 1
  replace s := s.pushNil 5 1
  replace s := s.pick [1, 0] 7 rfl
  exact fun X h => vc rfl (h I3 none 0 0 [] none 0 0 [] _ s kk rfl (RepL.nil (r := (Rp.int .i64))) rfl (RepL.nil (r := (Rp.int .u8))))
  have hf := iteF h12 hf
  refine RW.seg hT 7 [.string (strOfNums x15.1), .string (strOfNums p1)] [(92, .bool false), (97, .bool (decide ((strOfNums x15.1).toList ≠ (strOfNums p1).toList)))] [.bool false, .slice A8 n4 u8, .string (strOfNums x15.1), .slice (some ⟨b2, o1, none⟩) p1.length u1, .string (strOfNums p1), .bool (decide ((strOfNums x15.1).toList ≠ (strOfNums p1).toList)), .bool (decide ((strOfNums x15.1).toList ≠ (strOfNums p1).toList))] [.veq (.bool (decide (x15.2 ≠ 0))) (.bool false), .bytes A8 n4 (strOfNums x15.1), .bytes (some ⟨b2, o1, none⟩) p1.length (strOfNums p1), .veq (.bool (!((strOfNums x15.1).toList == (strOfNums p1).toList))) (.bool (decide ((strOfNums x15.1).toList ≠ (strOfNums p1).toList)))] (by kernel_rfl) (⟨bo_f h12, St.bytes s (i := 2) rfl hn1 rp5, Elems.bytes e1, bne_v⟩) ?_
  refine RW.nil ?_
  by_cases h13 : (strOfNums x15.1).toList ≠ (strOfNums p1).toList
  have hf := iteT h13 hf
  refine WPK.condT (Eq.trans (b := .bool (decide ((strOfNums x15.1).toList ≠ (strOfNums p1).toList))) (by kernel_rfl) (bo_t h13)) ?_
  refine WPK.seq ?_
  refine WPK.region ?_
  refine RW.seg hT 1 [] [] [.agg #[.int .u64 0, .int .i64 0, .slice none 0 0, .slice none 0 0]] [] (by kernel_rfl) (trivial) ?_
  refine RW.op (by kernel_rfl) (OK.store hT (i := 4) (b := b1) (off := 0) (n := 4) (vs := [.int .u64 0, .int .i64 0, .slice none 0 0, .slice none 0 0]) (cs := [.int .u64 0, .int .i64 0, .slice none 0 0, .slice none 0 0]) (e := 28) s (by kernel_rfl) rfl rfl (flat_ok rfl) (Nat.le_of_ble_eq_true rfl) ?_)
  clear s
  rintro w19 s k19 -
  replace e1 := e1.st k19
  replace e2 := e2.st k19
  replace rp1 := rp1.st k19
  replace rp4 := rp4.st k19
  replace rp5 := rp5.st k19
  replace kk := kk.trans k19
  refine RW.seg hT 1 [] [] [.int .i64 60] [] (by kernel_rfl) (trivial) ?_
  refine RW.nil ?_
  refine WPK.ret (?_)
  obtain rfl := someS hf
  refine Fin.of (rs := [.cell 4 28, .tmp 5]) hT [.agg #[.int .u64 0, .int .i64 0, .slice none 0 0, .slice none 0 0]] (.tuple #[.agg #[.int .u64 0, .int .i64 0, .slice none 0 0, .slice none 0 0], .int .i64 60]) [.cells ⟨b1, 0, none⟩ [.int .u64 0, .int .i64 0, .slice none 0 0, .slice none 0 0] 4] rfl (by kernel_rfl) (s.cells (i := 4) rfl rfl rfl) ?_
  replace s := s.pushNil 3 1
  replace s := s.pushNil 5 1
  replace s := s.pick [1, 0] 7 rfl
  exact fun X h => vc rfl (h I3 none 0 0 [] none 0 0 [] _ s kk rfl (RepL.nil (r := (Rp.int .i64))) rfl (RepL.nil (r := (Rp.int .u8))))
  have hf := iteF h13 hf
  refine WPK.condF (Eq.trans (b := .bool (decide ((strOfNums x15.1).toList ≠ (strOfNums p1).toList))) (by kernel_rfl) (bo_f h13)) ?_
  refine WPK.skip ?_
  refine WPK.seq ?_
  refine WPK.region ?_
  refine RW.seg hT 1 [.agg #[.int .u64 p0, .int .i64 x3, .slice A4 x6.length u4, .slice A7 x14.length u7]] [] [.agg #[.int .u64 p0, .int .i64 x3, .slice A4 x6.length u4, .slice A7 x14.length u7]] [.cells ⟨b3, 0, none⟩ [.int .u64 p0, .int .i64 x3, .slice A4 x6.length u4, .slice A7 x14.length u7] 4] (by kernel_rfl) (s.cells (i := 3) rfl rfl rfl) ?_
  refine RW.op (by kernel_rfl) (OK.store hT (i := 4) (b := b1) (off := 0) (n := 4) (vs := [.int .u64 p0, .int .i64 x3, .slice A4 x6.length u4, .slice A7 x14.length u7]) (cs := [.int .u64 0, .int .i64 0, .slice none 0 0, .slice none 0 0]) (e := 28) s (by kernel_rfl) rfl rfl (flat_ok rfl) (Nat.le_of_ble_eq_true rfl) ?_)
  clear s
  rintro w20 s k20 -
  replace e1 := e1.st k20
  replace e2 := e2.st k20
  replace rp1 := rp1.st k20
  replace rp4 := rp4.st k20
  replace rp5 := rp5.st k20
  replace kk := kk.trans k20
  refine RW.seg hT 1 [] [] [.int .i64 0] [] (by kernel_rfl) (trivial) ?_
  refine RW.nil ?_
  refine WPK.ret (?_)
  obtain rfl := someS hf
  refine Fin.of (rs := [.cell 4 28, .tmp 5]) hT [.agg #[.int .u64 p0, .int .i64 x3, .slice A4 x6.length u4, .slice A7 x14.length u7]] (.tuple #[.agg #[.int .u64 p0, .int .i64 x3, .slice A4 x6.length u4, .slice A7 x14.length u7], .int .i64 0]) [.cells ⟨b1, 0, none⟩ [.int .u64 p0, .int .i64 x3, .slice A4 x6.length u4, .slice A7 x14.length u7] 4] rfl (by kernel_rfl) (s.cells (i := 4) rfl rfl rfl) ?_
  replace s := s.pick [0, 1] 5 rfl
  exact fun X h => vc rfl (h I3 A4 x6.length u4 cl3 A7 x14.length u7 cl5 _ s kk rfl rp1 rfl rp4)
theorem c26 {w1 w : World} {M I : Nat → Prop} {F : List It} (p0 : Int) (s : St w1 M I (F) w) {r : Int} (hf : g26 p0 = some r) :
    Ret Tryd.prog 26 [.int .u64 p0] w fun v wz => ∀ X : Value → World → Prop, (∀ (I' : Nat → Prop) (w' : World), St w1 M I' (F) w' → Kp I w I' w' → X (.int .i64 r) w') → X v wz := by
  have kk : Kp I w I w := Kp.refl
  unfold g26 at hf
  refine Ret.of Tryd.func26 rfl ?_
  refine WPK.seq ?_
  refine WPK.region ?_
  refine RW.seg hT 1 [] [] [.int .i64 0] [] (by kernel_rfl) (trivial) ?_
  refine RW.nil ?_
  refine WPK.seq ?_
  refine WPK.region ?_
  refine RW.seg hT 4 [undef] [] [.int .u64 p0, .int .u64 (Int.tmod p0 2), .int .i64 (IntKind.i64.wrap (Int.tmod p0 2)), .int .i64 (IntKind.i64.wrap (Int.tmod p0 2))] [.ne0 2] (by kernel_rfl) ((show (2 : Int) ≠ 0 by decide)) ?_
  refine RW.nil ?_
  refine WPK.ret (?_)
  obtain rfl := someS hf
  refine Fin.of (rs := [.tmp 2]) hT [] (.int .i64 (IntKind.i64.wrap (Int.tmod p0 2))) [] rfl (by kernel_rfl) (trivial) ?_
  exact fun X h => vc rfl (h I _ s kk)
theorem c11 {w1 w : World} {M I : Nat → Prop} {F : List It} (p0 : Int) (p1 : (List (List Int))) (A1 : Option Addr) (u1 : Nat) (hc1 : (p1.length ≤ u1 ∧ u1 ≤ 9223372036854775807)) (e1 : Elems (Rp.slice (Rp.int .u8)) I w A1 p1) (s : St w1 M I (F) w) {r : (T_api_Head × Int × Int)} (hf : g11 p0 p1 = some r) :
    Ret Tryd.prog 11 [.int .i64 p0, .slice A1 p1.length u1] w fun v wz => ∀ X : Value → World → Prop, (∀ (I' : Nat → Prop) (A2 : Option Addr) (n1 : Nat) (u2 : Nat) (cl1 : List Value) (A3 : Option Addr) (n2 : Nat) (u3 : Nat) (cl2 : List Value) (w' : World), St w1 M I' ((.sl (.slice A2 n1 u2) 3 1 n1 cl1) :: (.sl (.slice A3 n2 u3) 5 1 n2 cl2) :: F) w' → Kp I w I' w' → n1 = r.1.Maps.length → RepL (Rp.int .i64) I' w' cl1 r.1.Maps → n2 = r.1.User.length → RepL (Rp.int .u8) I' w' cl2 r.1.User → X (.tuple #[.agg #[.int .u64 r.1.Epoch, .int .i64 r.1.Pages, .slice A2 n1 u2, .slice A3 n2 u3], .int .i64 r.2.1, .int .i64 r.2.2]) w') → X v wz := by
  have kk : Kp I w I w := Kp.refl
  unfold g11 at hf
  refine Ret.of Tryd.func11 rfl ?_
  refine WPK.seq ?_
  refine WPK.region ?_
  refine RW.op (by kernel_rfl) (OK.new hT (f := fun b => .pointer (some ⟨b, 0, none⟩)) (cs := [.int .u64 0, .int .i64 0, .slice none 0 0, .slice none 0 0]) (e := 28) (c := .tt) s (by kernel_rfl) trivial ?_)
  clear s
  rintro w2 b1 s k1 -
  replace e1 := e1.st k1
  replace kk := kk.trans k1
  refine RW.seg hT 2 [] [] [.int .i64 0, .int .i64 0] [] (by kernel_rfl) (trivial) ?_
  refine RW.nil ?_
  refine WPK.seq ?_
  refine WPK.region ?_
  refine RW.op (by kernel_rfl) (OK.new hT (f := fun b => .pointer (some ⟨b, 0, none⟩)) (cs := [.int .u64 0, .int .i64 0, .slice none 0 0, .slice none 0 0]) (e := 28) (c := .tt) s (by kernel_rfl) trivial ?_)
  clear s
  rintro w3 b2 s k2 -
  replace e1 := e1.st k2
  replace kk := kk.trans k2
  refine RW.nil ?_
  refine WPK.seq ?_
  refine WPK.region ?_
  refine RW.seg hT 1 [] [] [.int .i64 (-1)] [] (by kernel_rfl) (trivial) ?_
  refine RW.nil ?_
  refine WPK.seq ?_
  refine WPK.seq ?_
  refine WPK.region ?_
  refine RW.seg hT 1 [] [] [.int .i64 0] [] (by kernel_rfl) (trivial) ?_
  refine RW.nil ?_
  refine WPK.block ?_
  replace s := s.pushNil 3 1
  replace s := s.pushNil 5 1
  replace s := s.pick [2, 3, 1, 0] 4 rfl
  refine WPK.loop' (J := fun n3 D1 ds wz => ∀ X : Kont, (∀ (I1 : Nat → Prop) (x1 : Int) (x2 : Int) (x3 : Int) (x4 : Int) (x5 : (List Int)) (x6 : (List Int)) (A4 : Option Addr) (n4 : Nat) (u4 : Nat) (cl3 : List Value) (A5 : Option Addr) (n5 : Nat) (u5 : Nat) (cl4 : List Value) (w' : World), g11_l1 p0 p1 n3 x1 x2 x3 x4 x5 x6 = some r → St w1 M I1 ((.blk b2 (.cells #[.int .u64 x3, .int .i64 x4, .slice A4 n4 u4, .slice A5 n5 u5] 28 (0, 0))) :: (.blk b1 (.cells #[.int .u64 0, .int .i64 0, .slice none 0 0, .slice none 0 0] 28 (0, 0))) :: (.sl (.slice A4 n4 u4) 3 1 n4 cl3) :: (.sl (.slice A5 n5 u5) 5 1 n5 cl4) :: F) w' → Kp I w I1 w' → Elems (Rp.slice (Rp.int .u8)) I1 w' A1 p1 → n4 = x5.length → RepL (Rp.int .i64) I1 w' cl3 x5 → n5 = x6.length → RepL (Rp.int .u8) I1 w' cl4 x6 → X [.int .i64 p0, .slice A1 p1.length u1, (D1.getD 2 undef), (D1.getD 3 undef), .pointer (some ⟨b1, 0, none⟩), .int .i64 0, .int .i64 0, .pointer (some ⟨b2, 0, none⟩), .int .i64 x1, .int .i64 x2, (D1.getD 10 undef), (D1.getD 11 undef), (D1.getD 12 undef), (D1.getD 13 undef), (D1.getD 14 undef), (D1.getD 15 undef), (D1.getD 16 undef), (D1.getD 17 undef), (D1.getD 18 undef), (D1.getD 19 undef), (D1.getD 20 undef), (D1.getD 21 undef), (D1.getD 22 undef), (D1.getD 23 undef), (D1.getD 24 undef), (D1.getD 25 undef), (D1.getD 26 undef), (D1.getD 27 undef), (D1.getD 28 undef), (D1.getD 29 undef), (D1.getD 30 undef), (D1.getD 31 undef), (D1.getD 32 undef), (D1.getD 33 undef), (D1.getD 34 undef), (D1.getD 35 undef), (D1.getD 36 undef), (D1.getD 37 undef), (D1.getD 38 undef), (D1.getD 39 undef), (D1.getD 40 undef), (D1.getD 41 undef), (D1.getD 42 undef), (D1.getD 43 undef), (D1.getD 44 undef), (D1.getD 45 undef), (D1.getD 46 undef), (D1.getD 47 undef), (D1.getD 48 undef), (D1.getD 49 undef), (D1.getD 50 undef), (D1.getD 51 undef), (D1.getD 52 undef), (D1.getD 53 undef), (D1.getD 54 undef), (D1.getD 55 undef), (D1.getD 56 undef), (D1.getD 57 undef), (D1.getD 58 undef), (D1.getD 59 undef), (D1.getD 60 undef), (D1.getD 61 undef), (D1.getD 62 undef), (D1.getD 63 undef), (D1.getD 64 undef), (D1.getD 65 undef), (D1.getD 66 undef), (D1.getD 67 undef), (D1.getD 68 undef), undef, undef, undef, undef, undef] [] w') → X D1 ds wz) FUEL (fun X h => kc (by kernel_rfl) rfl (h I (-1) 0 0 0 ([] : List Int) ([] : List Int) none 0 0 [] none 0 0 [] _ hf s kk e1 rfl (RepL.nil (r := (Rp.int .i64))) rfl (RepL.nil (r := (Rp.int .u8))))) (fun _ _ _ hJ => hJ (fun _ _ _ => False) (by intro I1 x1 x2 x3 x4 x5 x6 A4 n4 u4 cl3 A5 n5 u5 cl4 w4 hf s kk e1 hn1 rp1 hn2 rp2; exact noneS hf)) ?_
  intro X1 hX1
  refine fun n3 D1 _ _ hJ => hJ (X1 n3) ?_
  clear s
  intro I1 x1 x2 x3 x4 x5 x6 A4 n4 u4 cl3 A5 n5 u5 cl4 w4 hf s kk e1 hn1 rp1 hn2 rp2
  refine hX1 _ _ _ _ ?_
  replace hf : g11_l1B p0 p1 (g11_l1 p0 p1 n3) x1 x2 x3 x4 x5 x6 = some r := hf
  generalize hrec1 : g11_l1 p0 p1 n3 = rec1 at hf
  unfold g11_l1B at hf
  refine WPK.seq ?_
  refine WPK.seq ?_
  refine WPK.cut' (Kn fun D2 ds wz => ∀ X : Kont, (∀ (x7 : Bool) (x8 : Bool), g11_j2 p0 p1 x1 x2 x3 x4 x5 x6 rec1 x7 x8 = some r → X [.int .i64 p0, .slice A1 p1.length u1, (D2.getD 2 undef), (D2.getD 3 undef), .pointer (some ⟨b1, 0, none⟩), .int .i64 0, .int .i64 0, .pointer (some ⟨b2, 0, none⟩), .int .i64 x1, .int .i64 x2, (D1.getD 10 undef), (D1.getD 11 undef), (D1.getD 12 undef), .int .i64 x2, .slice A1 p1.length u1, .int .i64 (p1.length : Int), .bool (decide (x2 < (p1.length : Int))), .bool x7, (D2.getD 18 undef), (D2.getD 19 undef), .bool x8, (D1.getD 21 undef), (D1.getD 22 undef), (D1.getD 23 undef), (D1.getD 24 undef), (D1.getD 25 undef), (D1.getD 26 undef), (D1.getD 27 undef), (D1.getD 28 undef), (D1.getD 29 undef), (D1.getD 30 undef), (D1.getD 31 undef), (D1.getD 32 undef), (D1.getD 33 undef), (D1.getD 34 undef), (D1.getD 35 undef), (D1.getD 36 undef), (D1.getD 37 undef), (D1.getD 38 undef), (D1.getD 39 undef), (D1.getD 40 undef), (D1.getD 41 undef), (D1.getD 42 undef), (D1.getD 43 undef), (D1.getD 44 undef), (D1.getD 45 undef), (D1.getD 46 undef), (D1.getD 47 undef), (D1.getD 48 undef), (D1.getD 49 undef), (D1.getD 50 undef), (D1.getD 51 undef), (D1.getD 52 undef), (D1.getD 53 undef), (D1.getD 54 undef), (D1.getD 55 undef), (D1.getD 56 undef), (D1.getD 57 undef), (D1.getD 58 undef), (D1.getD 59 undef), (D1.getD 60 undef), (D1.getD 61 undef), (D1.getD 62 undef), (D1.getD 63 undef), (D1.getD 64 undef), (D1.getD 65 undef), (D1.getD 66 undef), (D1.getD 67 undef), (D1.getD 68 undef), undef, undef, undef, undef, undef] [] w4) → X D2 ds wz) ?_ ?_
  intro X2 hX2
  refine fun D2 _ _ hJ => hJ X2 ?_
  intro x7 x8 hf
  refine hX2 _ _ _ ?_
  unfold g11_j2 at hf
  by_cases h1 : x8 = true
  have hf := iteT h1 hf
  refine WPK.condT (Eq.trans (b := .bool x8) (by kernel_rfl) (b_t h1)) ?_
  refine WPK.skip ?_
  refine WPK.seq ?_
  refine WPK.cut' (Kn fun D3 ds wz => ∀ X : Kont, (∀ (I2 : Nat → Prop) (x9 : Int) (x10 : Int) (x11 : Int) (x12 : Int) (x13 : Int) (x14 : (List Int)) (x15 : Int) (x16 : (List (List Int))) (x17 : (List Int)) (x18 : (List Int)) (x19 : Int) (x20 : Int) (x21 : Int) (x22 : (List Int)) (x23 : Int) (x24 : Int) (x25 : Int) (x26 : Int) (x27 : (List Int)) (x28 : Int) (x29 : Int) (x30 : Bool) (x31 : Int) (x32 : Int) (x33 : (List Int)) (x34 : (List Int)) (A6 : Option Addr) (u6 : Nat) (A7 : Option Addr) (u7 : Nat) (A8 : Option Addr) (u8 : Nat) (A9 : Option Addr) (u9 : Nat) (cl5 : List Value) (A10 : Option Addr) (u10 : Nat) (A11 : Option Addr) (u11 : Nat) (A12 : Option Addr) (n6 : Nat) (u12 : Nat) (cl6 : List Value) (A13 : Option Addr) (n7 : Nat) (u13 : Nat) (cl7 : List Value) (w' : World), g11_j3 x2 rec1 x9 x10 x11 x12 x13 x14 x15 x16 x17 x18 x19 x20 x21 x22 x23 x24 x25 x26 x27 x28 x29 x30 x31 x32 x33 x34 = some r → St w1 M I2 ((.sl (.slice A12 n6 u12) 3 1 n6 cl6) :: (.sl (.slice A13 n7 u13) 5 1 n7 cl7) :: (.sl (.slice A9 x18.length u9) 3 1 x18.length cl5) :: (.blk b2 (.cells #[.int .u64 x31, .int .i64 x32, .slice A12 n6 u12, .slice A13 n7 u13] 28 (0, 0))) :: (.blk b1 (.cells #[.int .u64 0, .int .i64 0, .slice none 0 0, .slice none 0 0] 28 (0, 0))) :: F) w' → Kp I w I2 w' → Elems (Rp.slice (Rp.int .u8)) I2 w' A1 p1 → (x14.length ≤ u6 ∧ u6 ≤ 9223372036854775807) → Elems (Rp.int .u8) I2 w' A6 x14 → (x16.length ≤ u7 ∧ u7 ≤ 9223372036854775807) → Elems (Rp.slice (Rp.int .u8)) I2 w' A7 x16 → (x17.length ≤ u8 ∧ u8 ≤ 9223372036854775807) → Elems (Rp.int .u8) I2 w' A8 x17 → RepL (Rp.int .i64) I2 w' cl5 x18 → (x22.length ≤ u10 ∧ u10 ≤ 9223372036854775807) → Elems (Rp.int .u8) I2 w' A10 x22 → (x27.length ≤ u11 ∧ u11 ≤ 9223372036854775807) → Elems (Rp.int .u8) I2 w' A11 x27 → n6 = x33.length → RepL (Rp.int .i64) I2 w' cl6 x33 → n7 = x34.length → RepL (Rp.int .u8) I2 w' cl7 x34 → X [.int .i64 p0, .slice A1 p1.length u1, (D3.getD 2 undef), (D3.getD 3 undef), .pointer (some ⟨b1, 0, none⟩), .int .i64 0, .int .i64 0, .pointer (some ⟨b2, 0, none⟩), .int .i64 x9, .int .i64 x2, (D3.getD 10 undef), .int .i64 x10, (D3.getD 12 undef), .int .i64 x2, .slice A1 p1.length u1, .int .i64 (p1.length : Int), .bool (decide (x2 < (p1.length : Int))), .bool x7, (D2.getD 18 undef), (D2.getD 19 undef), .bool x8, (D1.getD 21 undef), (D1.getD 22 undef), .tuple #[.agg #[.int .i64 x11, .int .i64 x12, .int .u64 x13, .slice A6 x14.length u6], .int .i64 x15], .slice A7 x16.length u7, .int .i64 x2, (D3.getD 26 undef), .slice A8 x17.length u8, .int .i64 x2, .slice A9 x18.length u9, .tuple #[.agg #[.int .i64 x19, .int .i64 x20, .int .u64 x21, .slice A10 x22.length u10], .int .i64 x23], .agg #[.int .i64 x24, .int .i64 x25, .int .u64 x26, .slice A11 x27.length u11], .int .i64 x28, .int .i64 x29, .bool x30, (D3.getD 35 undef), (D3.getD 36 undef), (D3.getD 37 undef), (D3.getD 38 undef), (D3.getD 39 undef), (D3.getD 40 undef), (D3.getD 41 undef), (D3.getD 42 undef), (D3.getD 43 undef), (D3.getD 44 undef), (D3.getD 45 undef), (D3.getD 46 undef), (D3.getD 47 undef), (D3.getD 48 undef), (D3.getD 49 undef), (D3.getD 50 undef), (D3.getD 51 undef), (D3.getD 52 undef), (D3.getD 53 undef), (D3.getD 54 undef), (D3.getD 55 undef), (D3.getD 56 undef), (D3.getD 57 undef), (D3.getD 58 undef), (D3.getD 59 undef), (D3.getD 60 undef), (D3.getD 61 undef), (D3.getD 62 undef), (D3.getD 63 undef), (D3.getD 64 undef), (D3.getD 65 undef), (D3.getD 66 undef), (D3.getD 67 undef), (D3.getD 68 undef), undef, undef, undef, undef, undef] [] w') → X D3 ds wz) ?_ ?_
  intro X3 hX3
  refine fun D3 _ _ hJ => hJ X3 ?_
  clear s
  intro I2 x9 x10 x11 x12 x13 x14 x15 x16 x17 x18 x19 x20 x21 x22 x23 x24 x25 x26 x27 x28 x29 x30 x31 x32 x33 x34 A6 u6 A7 u7 A8 u8 A9 u9 cl5 A10 u10 A11 u11 A12 n6 u12 cl6 A13 n7 u13 cl7 w5 hf s kk e1 hc2 e2 hc3 e3 hc4 e4 rp3 hc5 e5 hc6 e6 hn3 rp4 hn4 rp5
  refine hX3 _ _ _ ?_
  unfold g11_j3 at hf
  refine WPK.region ?_
  refine RW.seg hT 3 [] [] [.int .i64 x2, .int .i64 (IntKind.i64.wrap (x2 + 1)), .int .i64 (IntKind.i64.wrap (x2 + 1))] [] (by kernel_rfl) (trivial) ?_
  refine RW.nil ?_
  subst hrec1
  replace s := s.pick [3, 4, 0, 1] 5 rfl
  exact ⟨n3, Nat.le_refl _, fun X h => kc (by kernel_rfl) rfl (h I2 x9 (IntKind.i64.wrap (x2 + 1)) x31 x32 x33 x34 A12 n6 u12 cl6 A13 n7 u13 cl7 _ hf s kk e1 hn3 rp4 hn4 rp5)⟩
  refine WPK.block ?_
  refine WPK.seq ?_
  refine WPK.region ?_
  obtain ⟨x35, hx1, hf⟩ := bindS hf
  obtain ⟨h2, hx1⟩ := getS hx1
  obtain ⟨b3, o1, rfl⟩ := Elems.opn e1 hx1
  obtain ⟨cs1, hr1, ha1⟩ := Elems.get e1 hx1
  obtain ⟨A14, u14, rfl, q1, q2, e7⟩ := hr1
  have hc7 := And.intro q1 q2
  refine RW.seg hT 5 [.slice A14 x35.length u14] [] [.slice (some ⟨b3, o1, none⟩) p1.length u1, .int .i64 x2, .pointer (some ⟨b3, o1 + x2.toNat * 1, none⟩), .slice A14 x35.length u14, .int .i64 x2] [.idx x2 p1.length, .cell ⟨b3, o1 + x2.toNat * 1, none⟩ (.slice A14 x35.length u14)] (by kernel_rfl) (⟨h2, ha1 0 _ rfl⟩) ?_
  refine RW.op (by kernel_rfl) (OK.new hT (f := fun b => .slice (some ⟨b, 0, none⟩) 1 1) (cs := [.int .i64 1]) (e := 3) (c := .tt) s (by kernel_rfl) trivial ?_)
  clear s
  rintro w6 b4 s k3 -
  replace e1 := e1.st k3
  replace e7 := e7.st k3
  replace rp1 := rp1.st k3
  replace rp2 := rp2.st k3
  replace kk := kk.trans k3
  have rp6 : RepL (Rp.int .i64) I1 w6 [.int .i64 1] ([1] : List Int) := RepL.cons (c := [.int .i64 1]) (d := []) (rfl) (RepL.nil)
  replace s : St w1 M I1 ((.sl (.slice (some ⟨b4, 0, none⟩) 1 1) 3 1 1 [.int .i64 1]) :: (.blk b2 (.cells #[.int .u64 x3, .int .i64 x4, .slice A4 n4 u4, .slice A5 n5 u5] 28 (0, 0))) :: (.blk b1 (.cells #[.int .u64 0, .int .i64 0, .slice none 0 0, .slice none 0 0] 28 (0, 0))) :: (.sl (.slice A4 n4 u4) 3 1 n4 cl3) :: (.sl (.slice A5 n5 u5) 5 1 n5 cl4) :: F) w6 := s.blkSl (i := 0) (n := 1) (c := 1) (size := 1) rfl rfl (Nat.le_refl _) (by decide)
  refine RW.op (by kernel_rfl) (OK.inl (args := [.slice A14 x35.length u14, .int .i64 x2, .slice (some ⟨b4, 0, none⟩) 1 1]) en31 (by kernel_rfl) ?_)
  intro R1 hR1
  refine Ret.cut (fun v wz => ∀ X : Value → World → Prop, (∀ (I3 : Nat → Prop) (x36 : Int) (x37 : Int) (x38 : Int) (x39 : (List Int)) (x40 : Int) (A15 : Option Addr) (u15 : Nat) (w' : World), g11_j4 p0 p1 x1 x2 x3 x4 x5 x6 rec1 x35 x36 x37 x38 x39 x40 = some r → St w1 M I3 ((.sl (.slice (some ⟨b4, 0, none⟩) 1 1) 3 1 1 [.int .i64 1]) :: (.blk b2 (.cells #[.int .u64 x3, .int .i64 x4, .slice A4 n4 u4, .slice A5 n5 u5] 28 (0, 0))) :: (.blk b1 (.cells #[.int .u64 0, .int .i64 0, .slice none 0 0, .slice none 0 0] 28 (0, 0))) :: (.sl (.slice A4 n4 u4) 3 1 n4 cl3) :: (.sl (.slice A5 n5 u5) 5 1 n5 cl4) :: F) w' → Kp I w I3 w' → Elems (Rp.slice (Rp.int .u8)) I3 w' (some ⟨b3, o1, none⟩) p1 → Elems (Rp.int .u8) I3 w' A14 x35 → (x39.length ≤ u15 ∧ u15 ≤ 9223372036854775807) → Elems (Rp.int .u8) I3 w' A15 x39 → RepL (Rp.int .i64) I3 w' [.int .i64 1] ([1] : List Int) → RepL (Rp.int .i64) I3 w' cl3 x5 → RepL (Rp.int .u8) I3 w' cl4 x6 → X (.tuple #[.agg #[.int .i64 x36, .int .i64 x37, .int .u64 x38, .slice A15 x39.length u15], .int .i64 x40]) w') → X v wz) ?_ ?_
  refine fun _ _ hJ => hJ R1 ?_
  clear s
  intro I3 x36 x37 x38 x39 x40 A15 u15 w7 hf s kk e1 e7 hc8 e8 rp6 rp1 rp2
  refine hR1 _ _ ?_
  unfold g11_j4 at hf
  refine RW.seg hT 3 [] [] [.tuple #[.agg #[.int .i64 x36, .int .i64 x37, .int .u64 x38, .slice A15 x39.length u15], .int .i64 x40], .agg #[.int .i64 x36, .int .i64 x37, .int .u64 x38, .slice A15 x39.length u15], .int .i64 x40] [] (by kernel_rfl) (trivial) ?_
  refine RW.op (by kernel_rfl) (OK.new hT (f := fun b => .pointer (some ⟨b, 0, none⟩)) (cs := [.int .i64 0, .int .i64 0, .int .u64 0, .slice none 0 0]) (e := 55) (c := .tt) s (by kernel_rfl) trivial ?_)
  clear s
  rintro w8 b5 s k4 -
  replace e1 := e1.st k4
  replace e8 := e8.st k4
  replace e7 := e7.st k4
  replace rp6 := rp6.st k4
  replace rp1 := rp1.st k4
  replace rp2 := rp2.st k4
  replace kk := kk.trans k4
  refine RW.op (by kernel_rfl) (OK.store hT (i := 0) (b := b5) (off := 0) (n := 4) (vs := [.int .i64 x36, .int .i64 x37, .int .u64 x38, .slice A15 x39.length u15]) (cs := [.int .i64 0, .int .i64 0, .int .u64 0, .slice none 0 0]) (e := 55) s (by kernel_rfl) rfl rfl (flat_ok rfl) (Nat.le_of_ble_eq_true rfl) ?_)
  clear s
  rintro w9 s k5 -
  replace e1 := e1.st k5
  replace e8 := e8.st k5
  replace e7 := e7.st k5
  replace rp6 := rp6.st k5
  replace rp1 := rp1.st k5
  replace rp2 := rp2.st k5
  replace kk := kk.trans k5
  refine RW.seg hT 1 [] [] [.int .i64 x40] [] (by kernel_rfl) (trivial) ?_
  refine RW.nil ?_
  refine WPK.seq ?_
  refine WPK.seq ?_
  refine WPK.region ?_
  refine RW.seg hT 2 [] [(34, .bool (decide (x40 ≠ 0)))] [.int .i64 x40, .bool (decide (x40 ≠ 0))] [.veq (.bool (x40 != 0)) (.bool (decide (x40 ≠ 0)))] (by kernel_rfl) (ne_v) ?_
  refine RW.nil ?_
  by_cases h3 : x40 ≠ 0
  have hf := iteT h3 hf
  refine WPK.condT (Eq.trans (b := .bool (decide (x40 ≠ 0))) (by kernel_rfl) (bo_t h3)) ?_
  refine WPK.exit (blockQ.same ?_)
  replace s := s.pick [4, 5, 1, 2, 3] 6 rfl
  exact fun X h => kc (by kernel_rfl) rfl (h I3 x1 x40 x36 x37 x38 x39 x40 p1 x35 ([1] : List Int) x36 x37 x38 x39 x40 x36 x37 x38 x39 x40 x40 (decide (x40 ≠ 0)) x3 x4 x5 x6 A15 u15 (some ⟨b3, o1, none⟩) u1 A14 u14 (some ⟨b4, 0, none⟩) 1 [.int .i64 1] A15 u15 A15 u15 A4 n4 u4 cl3 A5 n5 u5 cl4 _ hf s kk e1 hc8 e8 hc1 e1 hc7 e7 rp6 hc8 e8 hc8 e8 hn1 rp1 hn2 rp2)
  have hf := iteF h3 hf
  refine WPK.condF (Eq.trans (b := .bool (decide (x40 ≠ 0))) (by kernel_rfl) (bo_f h3)) ?_
  refine WPK.skip ?_
  refine WPK.seq ?_
  refine WPK.region ?_
  refine RW.seg hT 4 [.int .u64 x38, .slice A15 x39.length u15] [] [.pointer (some ⟨b5, 2, none⟩), .int .u64 x38, .pointer (some ⟨b5, 3, none⟩), .slice A15 x39.length u15] [.cell ⟨b5, 2, none⟩ (.int .u64 x38), .cell ⟨b5, 3, none⟩ (.slice A15 x39.length u15)] (by kernel_rfl) (⟨s.cell (i := 0) (off := 2) rfl rfl, s.cell (i := 0) (off := 3) rfl rfl⟩) ?_
  obtain ⟨x41, hx2, hf⟩ := bindS hf
  refine RW.op (by kernel_rfl) (OK.call' en15 (by kernel_rfl) (c15 (F := (.blk b5 (.cells #[.int .i64 x36, .int .i64 x37, .int .u64 x38, .slice A15 x39.length u15] 55 (0, 0))) :: (.sl (.slice (some ⟨b4, 0, none⟩) 1 1) 3 1 1 [.int .i64 1]) :: (.blk b2 (.cells #[.int .u64 x3, .int .i64 x4, .slice A4 n4 u4, .slice A5 n5 u5] 28 (0, 0))) :: (.blk b1 (.cells #[.int .u64 0, .int .i64 0, .slice none 0 0, .slice none 0 0] 28 (0, 0))) :: (.sl (.slice A4 n4 u4) 3 1 n4 cl3) :: (.sl (.slice A5 n5 u5) 5 1 n5 cl4) :: F) x38 x39 A15 u15 hc8 e8 s hx2) ?_)
  intro X4 hX4
  refine fun _ _ hJ => hJ X4 ?_
  clear s
  intro I4 A16 n8 u16 cl8 A17 n9 u17 cl9 w10 s k6 hn5 rp7 hn6 rp8
  refine hX4 _ _ ?_
  replace e1 := e1.st k6
  replace e8 := e8.st k6
  replace e7 := e7.st k6
  replace rp6 := rp6.st k6
  replace rp1 := rp1.st k6
  replace rp2 := rp2.st k6
  replace kk := kk.trans k6
  refine RW.seg hT 3 [] [] [.tuple #[.agg #[.int .u64 x41.1.Epoch, .int .i64 x41.1.Pages, .slice A16 n8 u16, .slice A17 n9 u17], .int .i64 x41.2], .agg #[.int .u64 x41.1.Epoch, .int .i64 x41.1.Pages, .slice A16 n8 u16, .slice A17 n9 u17], .int .i64 x41.2] [] (by kernel_rfl) (trivial) ?_
  refine RW.op (by kernel_rfl) (OK.new hT (f := fun b => .pointer (some ⟨b, 0, none⟩)) (cs := [.int .u64 0, .int .i64 0, .slice none 0 0, .slice none 0 0]) (e := 28) (c := .tt) s (by kernel_rfl) trivial ?_)
  clear s
  rintro w11 b6 s k7 -
  replace e1 := e1.st k7
  replace e8 := e8.st k7
  replace e7 := e7.st k7
  replace rp7 := rp7.st k7
  replace rp8 := rp8.st k7
  replace rp6 := rp6.st k7
  replace rp1 := rp1.st k7
  replace rp2 := rp2.st k7
  replace kk := kk.trans k7
  refine RW.op (by kernel_rfl) (OK.store hT (i := 0) (b := b6) (off := 0) (n := 4) (vs := [.int .u64 x41.1.Epoch, .int .i64 x41.1.Pages, .slice A16 n8 u16, .slice A17 n9 u17]) (cs := [.int .u64 0, .int .i64 0, .slice none 0 0, .slice none 0 0]) (e := 28) s (by kernel_rfl) rfl rfl (flat_ok rfl) (Nat.le_of_ble_eq_true rfl) ?_)
  clear s
  rintro w12 s k8 -
  replace e1 := e1.st k8
  replace e8 := e8.st k8
  replace e7 := e7.st k8
  replace rp7 := rp7.st k8
  replace rp8 := rp8.st k8
  replace rp6 := rp6.st k8
  replace rp1 := rp1.st k8
  replace rp2 := rp2.st k8
  replace kk := kk.trans k8
  refine RW.seg hT 1 [] [] [.int .i64 x41.2] [] (by kernel_rfl) (trivial) ?_
  refine RW.nil ?_
  refine WPK.seq ?_
  refine WPK.seq ?_
  refine WPK.cut' (Kn fun D4 ds wz => ∀ X : Kont, (∀ (I5 : Nat → Prop) (x42 : Bool) (x43 : Bool) (x44 : Bool) (x45 : Bool) (w' : World), g11_j5 p1 x1 x2 x3 x4 x5 x6 rec1 x35 x36 x37 x38 x39 x40 x41 x42 x43 x44 x45 = some r → St w1 M I5 ((.blk b6 (.cells #[.int .u64 x41.1.Epoch, .int .i64 x41.1.Pages, .slice A16 n8 u16, .slice A17 n9 u17] 28 (0, 0))) :: (.sl (.slice A16 n8 u16) 3 1 n8 cl8) :: (.sl (.slice A17 n9 u17) 5 1 n9 cl9) :: (.blk b5 (.cells #[.int .i64 x36, .int .i64 x37, .int .u64 x38, .slice A15 x39.length u15] 55 (0, 0))) :: (.sl (.slice (some ⟨b4, 0, none⟩) 1 1) 3 1 1 [.int .i64 1]) :: (.blk b2 (.cells #[.int .u64 x3, .int .i64 x4, .slice A4 n4 u4, .slice A5 n5 u5] 28 (0, 0))) :: (.blk b1 (.cells #[.int .u64 0, .int .i64 0, .slice none 0 0, .slice none 0 0] 28 (0, 0))) :: (.sl (.slice A4 n4 u4) 3 1 n4 cl3) :: (.sl (.slice A5 n5 u5) 5 1 n5 cl4) :: F) w' → Kp I w I5 w' → Elems (Rp.slice (Rp.int .u8)) I5 w' (some ⟨b3, o1, none⟩) p1 → Elems (Rp.int .u8) I5 w' A15 x39 → Elems (Rp.int .u8) I5 w' A14 x35 → RepL (Rp.int .i64) I5 w' cl8 x41.1.Maps → RepL (Rp.int .u8) I5 w' cl9 x41.1.User → RepL (Rp.int .i64) I5 w' [.int .i64 1] ([1] : List Int) → RepL (Rp.int .i64) I5 w' cl3 x5 → RepL (Rp.int .u8) I5 w' cl4 x6 → X [.int .i64 p0, .slice (some ⟨b3, o1, none⟩) p1.length u1, (D4.getD 2 undef), (D4.getD 3 undef), .pointer (some ⟨b1, 0, none⟩), .int .i64 0, .int .i64 0, .pointer (some ⟨b2, 0, none⟩), .int .i64 x1, .int .i64 x2, .pointer (some ⟨b5, 0, none⟩), .int .i64 x41.2, .pointer (some ⟨b6, 0, none⟩), .int .i64 x2, .slice (some ⟨b3, o1, none⟩) p1.length u1, .int .i64 (p1.length : Int), .bool (decide (x2 < (p1.length : Int))), .bool x7, (D2.getD 18 undef), (D2.getD 19 undef), .bool x8, (D1.getD 21 undef), (D1.getD 22 undef), .tuple #[.agg #[.int .i64 x36, .int .i64 x37, .int .u64 x38, .slice A15 x39.length u15], .int .i64 x40], .slice (some ⟨b3, o1, none⟩) p1.length u1, .int .i64 x2, (.pointer (some ⟨b3, o1 + x2.toNat * 1, none⟩)), .slice A14 x35.length u14, .int .i64 x2, .slice (some ⟨b4, 0, none⟩) 1 1, .tuple #[.agg #[.int .i64 x36, .int .i64 x37, .int .u64 x38, .slice A15 x39.length u15], .int .i64 x40], .agg #[.int .i64 x36, .int .i64 x37, .int .u64 x38, .slice A15 x39.length u15], .int .i64 x40, .int .i64 x40, .bool (decide (x40 ≠ 0)), .tuple #[.agg #[.int .u64 x41.1.Epoch, .int .i64 x41.1.Pages, .slice A16 n8 u16, .slice A17 n9 u17], .int .i64 x41.2], .pointer (some ⟨b5, 2, none⟩), .int .u64 x38, .pointer (some ⟨b5, 3, none⟩), .slice A15 x39.length u15, .tuple #[.agg #[.int .u64 x41.1.Epoch, .int .i64 x41.1.Pages, .slice A16 n8 u16, .slice A17 n9 u17], .int .i64 x41.2], .agg #[.int .u64 x41.1.Epoch, .int .i64 x41.1.Pages, .slice A16 n8 u16, .slice A17 n9 u17], .int .i64 x41.2, .int .i64 x41.2, .bool (decide (x41.2 ≠ 0)), .bool x42, (D4.getD 46 undef), (D4.getD 47 undef), (D4.getD 48 undef), (D4.getD 49 undef), (D4.getD 50 undef), .bool x43, .bool x44, (D4.getD 53 undef), (D4.getD 54 undef), (D4.getD 55 undef), (D4.getD 56 undef), .bool x45, (D1.getD 58 undef), (D1.getD 59 undef), (D1.getD 60 undef), (D1.getD 61 undef), (D1.getD 62 undef), (D1.getD 63 undef), (D1.getD 64 undef), (D1.getD 65 undef), (D1.getD 66 undef), (D1.getD 67 undef), (D1.getD 68 undef), undef, undef, undef, undef, undef] [] w') → X D4 ds wz) ?_ ?_
  intro X5 hX5
  refine fun D4 _ _ hJ => hJ X5 ?_
  clear s
  intro I5 x42 x43 x44 x45 w13 hf s kk e1 e8 e7 rp7 rp8 rp6 rp1 rp2
  refine hX5 _ _ _ ?_
  unfold g11_j5 at hf
  by_cases h4 : x45 = true
  have hf := iteT h4 hf
  refine WPK.condT (Eq.trans (b := .bool x45) (by kernel_rfl) (b_t h4)) ?_
  refine WPK.exit (blockQ.same ?_)
  replace s := s.pick [7, 8, 4, 5, 6] 9 rfl
  exact fun X h => kc (by kernel_rfl) rfl (h I5 x1 x41.2 x36 x37 x38 x39 x40 p1 x35 ([1] : List Int) x36 x37 x38 x39 x40 x36 x37 x38 x39 x40 x40 (decide (x40 ≠ 0)) x3 x4 x5 x6 A15 u15 (some ⟨b3, o1, none⟩) u1 A14 u14 (some ⟨b4, 0, none⟩) 1 [.int .i64 1] A15 u15 A15 u15 A4 n4 u4 cl3 A5 n5 u5 cl4 _ hf s kk e1 hc8 e8 hc1 e1 hc7 e7 rp6 hc8 e8 hc8 e8 hn1 rp1 hn2 rp2)
  have hf := iteF h4 hf
  refine WPK.condF (Eq.trans (b := .bool x45) (by kernel_rfl) (b_f h4)) ?_
  refine WPK.skip ?_
  refine WPK.seq ?_
  refine WPK.region ?_
  refine RW.seg hT 2 [] [] [.int .i64 x1, .bool (decide (x1 < 0))] [] (by kernel_rfl) (trivial) ?_
  by_cases h5 : x1 < 0
  have hf := iteT h5 hf
  refine RW.seg hT 7 [] [(60, .bool true)] [.bool true, undef, undef, undef, undef, undef, .bool true] [.veq (.bool (decide (x1 < 0))) (.bool true)] (by kernel_rfl) (bo_t h5) ?_
  refine RW.nil ?_
  refine WPK.condT (by kernel_rfl) ?_
  refine WPK.seq ?_
  refine WPK.region ?_
  refine RW.seg hT 1 [.agg #[.int .u64 x41.1.Epoch, .int .i64 x41.1.Pages, .slice A16 n8 u16, .slice A17 n9 u17]] [] [.agg #[.int .u64 x41.1.Epoch, .int .i64 x41.1.Pages, .slice A16 n8 u16, .slice A17 n9 u17]] [.cells ⟨b6, 0, none⟩ [.int .u64 x41.1.Epoch, .int .i64 x41.1.Pages, .slice A16 n8 u16, .slice A17 n9 u17] 4] (by kernel_rfl) (s.cells (i := 0) rfl rfl rfl) ?_
  refine RW.op (by kernel_rfl) (OK.store hT (i := 5) (b := b2) (off := 0) (n := 4) (vs := [.int .u64 x41.1.Epoch, .int .i64 x41.1.Pages, .slice A16 n8 u16, .slice A17 n9 u17]) (cs := [.int .u64 x3, .int .i64 x4, .slice A4 n4 u4, .slice A5 n5 u5]) (e := 28) s (by kernel_rfl) rfl rfl (flat_ok rfl) (Nat.le_of_ble_eq_true rfl) ?_)
  clear s
  rintro w14 s k9 -
  replace e1 := e1.st k9
  replace e8 := e8.st k9
  replace e7 := e7.st k9
  replace rp7 := rp7.st k9
  replace rp8 := rp8.st k9
  replace rp6 := rp6.st k9
  replace rp1 := rp1.st k9
  replace rp2 := rp2.st k9
  replace kk := kk.trans k9
  refine RW.nil ?_
  refine WPK.region ?_
  refine RW.seg hT 2 [] [] [.int .i64 x2, .int .i64 x2] [] (by kernel_rfl) (trivial) ?_
  refine RW.nil ?_
  replace s := s.pick [1, 2, 4, 5, 6] 9 rfl
  exact fun X h => kc (by kernel_rfl) rfl (h I5 x2 x41.2 x36 x37 x38 x39 x40 p1 x35 ([1] : List Int) x36 x37 x38 x39 x40 x36 x37 x38 x39 x40 x40 (decide (x40 ≠ 0)) x41.1.Epoch x41.1.Pages x41.1.Maps x41.1.User A15 u15 (some ⟨b3, o1, none⟩) u1 A14 u14 (some ⟨b4, 0, none⟩) 1 [.int .i64 1] A15 u15 A15 u15 A16 n8 u16 cl8 A17 n9 u17 cl9 _ hf s kk e1 hc8 e8 hc1 e1 hc7 e7 rp6 hc8 e8 hc8 e8 hn5 rp7 hn6 rp8)
  have hf := iteF h5 hf
  refine RW.seg hT 7 [.int .u64 x41.1.Epoch, .int .u64 x3] [(60, .bool false)] [.bool false, .pointer (some ⟨b6, 0, none⟩), .int .u64 x41.1.Epoch, .pointer (some ⟨b2, 0, none⟩), .int .u64 x3, .bool (decide (x41.1.Epoch > x3)), .bool (decide (x41.1.Epoch > x3))] [.veq (.bool (decide (x1 < 0))) (.bool false), .cell ⟨b6, 0, none⟩ (.int .u64 x41.1.Epoch), .cell ⟨b2, 0, none⟩ (.int .u64 x3)] (by kernel_rfl) (⟨bo_f h5, s.cell (i := 0) (off := 0) rfl rfl, s.cell (i := 5) (off := 0) rfl rfl⟩) ?_
  refine RW.nil ?_
  by_cases h6 : x41.1.Epoch > x3
  have hf := iteT h6 hf
  refine WPK.condT (Eq.trans (b := .bool (decide (x41.1.Epoch > x3))) (by kernel_rfl) (bo_t h6)) ?_
  refine WPK.seq ?_
  refine WPK.region ?_
  refine RW.seg hT 1 [.agg #[.int .u64 x41.1.Epoch, .int .i64 x41.1.Pages, .slice A16 n8 u16, .slice A17 n9 u17]] [] [.agg #[.int .u64 x41.1.Epoch, .int .i64 x41.1.Pages, .slice A16 n8 u16, .slice A17 n9 u17]] [.cells ⟨b6, 0, none⟩ [.int .u64 x41.1.Epoch, .int .i64 x41.1.Pages, .slice A16 n8 u16, .slice A17 n9 u17] 4] (by kernel_rfl) (s.cells (i := 0) rfl rfl rfl) ?_
  refine RW.op (by kernel_rfl) (OK.store hT (i := 5) (b := b2) (off := 0) (n := 4) (vs := [.int .u64 x41.1.Epoch, .int .i64 x41.1.Pages, .slice A16 n8 u16, .slice A17 n9 u17]) (cs := [.int .u64 x3, .int .i64 x4, .slice A4 n4 u4, .slice A5 n5 u5]) (e := 28) s (by kernel_rfl) rfl rfl (flat_ok rfl) (Nat.le_of_ble_eq_true rfl) ?_)
  clear s
  rintro w15 s k10 -
  replace e1 := e1.st k10
  replace e8 := e8.st k10
  replace e7 := e7.st k10
  replace rp7 := rp7.st k10
  replace rp8 := rp8.st k10
  replace rp6 := rp6.st k10
  replace rp1 := rp1.st k10
  replace rp2 := rp2.st k10
  replace kk := kk.trans k10
  refine RW.nil ?_
  refine WPK.region ?_
  refine RW.seg hT 2 [] [] [.int .i64 x2, .int .i64 x2] [] (by kernel_rfl) (trivial) ?_
  refine RW.nil ?_
  replace s := s.pick [1, 2, 4, 5, 6] 9 rfl
  exact fun X h => kc (by kernel_rfl) rfl (h I5 x2 x41.2 x36 x37 x38 x39 x40 p1 x35 ([1] : List Int) x36 x37 x38 x39 x40 x36 x37 x38 x39 x40 x40 (decide (x40 ≠ 0)) x41.1.Epoch x41.1.Pages x41.1.Maps x41.1.User A15 u15 (some ⟨b3, o1, none⟩) u1 A14 u14 (some ⟨b4, 0, none⟩) 1 [.int .i64 1] A15 u15 A15 u15 A16 n8 u16 cl8 A17 n9 u17 cl9 _ hf s kk e1 hc8 e8 hc1 e1 hc7 e7 rp6 hc8 e8 hc8 e8 hn5 rp7 hn6 rp8)
  have hf := iteF h6 hf
  refine WPK.condF (Eq.trans (b := .bool (decide (x41.1.Epoch > x3))) (by kernel_rfl) (bo_f h6)) ?_
  refine WPK.skip ?_
  replace s := s.pick [7, 8, 4, 5, 6] 9 rfl
  exact fun X h => kc (by kernel_rfl) rfl (h I5 x1 x41.2 x36 x37 x38 x39 x40 p1 x35 ([1] : List Int) x36 x37 x38 x39 x40 x36 x37 x38 x39 x40 x40 (decide (x40 ≠ 0)) x3 x4 x5 x6 A15 u15 (some ⟨b3, o1, none⟩) u1 A14 u14 (some ⟨b4, 0, none⟩) 1 [.int .i64 1] A15 u15 A15 u15 A4 n4 u4 cl3 A5 n5 u5 cl4 _ hf s kk e1 hc8 e8 hc1 e1 hc7 e7 rp6 hc8 e8 hc8 e8 hn1 rp1 hn2 rp2)
  refine WPK.region ?_
  refine RW.seg hT 2 [] [(44, .bool (decide (x41.2 ≠ 0)))] [.int .i64 x41.2, .bool (decide (x41.2 ≠ 0))] [.veq (.bool (x41.2 != 0)) (.bool (decide (x41.2 ≠ 0)))] (by kernel_rfl) (ne_v) ?_
  by_cases h7 : x41.2 ≠ 0
  have hf := iteT h7 hf
  refine RW.seg hT 13 [] [(45, .bool true)] [.bool true, undef, undef, undef, undef, undef, .bool true, .bool true, undef, undef, undef, undef, .bool true] [.veq (.bool (decide (x41.2 ≠ 0))) (.bool true)] (by kernel_rfl) (bo_t h7) ?_
  refine RW.nil ?_
  exact fun X h => kc (by kernel_rfl) rfl (h I4 true true true true _ hf s kk e1 e8 e7 rp7 rp8 rp6 rp1 rp2)
  have hf := iteF h7 hf
  refine RW.seg hT 3 [.int .u64 x41.1.Epoch] [(45, .bool false)] [.bool false, .pointer (some ⟨b6, 0, none⟩), .int .u64 x41.1.Epoch] [.veq (.bool (decide (x41.2 ≠ 0))) (.bool false), .cell ⟨b6, 0, none⟩ (.int .u64 x41.1.Epoch)] (by kernel_rfl) (⟨bo_f h7, s.cell (i := 0) (off := 0) rfl rfl⟩) ?_
  obtain ⟨x46, hx3, hf⟩ := bindS hf
  refine RW.op (by kernel_rfl) (OK.call' en26 (by kernel_rfl) (c26 (F := (.blk b6 (.cells #[.int .u64 x41.1.Epoch, .int .i64 x41.1.Pages, .slice A16 n8 u16, .slice A17 n9 u17] 28 (0, 0))) :: (.sl (.slice A16 n8 u16) 3 1 n8 cl8) :: (.sl (.slice A17 n9 u17) 5 1 n9 cl9) :: (.blk b5 (.cells #[.int .i64 x36, .int .i64 x37, .int .u64 x38, .slice A15 x39.length u15] 55 (0, 0))) :: (.sl (.slice (some ⟨b4, 0, none⟩) 1 1) 3 1 1 [.int .i64 1]) :: (.blk b2 (.cells #[.int .u64 x3, .int .i64 x4, .slice A4 n4 u4, .slice A5 n5 u5] 28 (0, 0))) :: (.blk b1 (.cells #[.int .u64 0, .int .i64 0, .slice none 0 0, .slice none 0 0] 28 (0, 0))) :: (.sl (.slice A4 n4 u4) 3 1 n4 cl3) :: (.sl (.slice A5 n5 u5) 5 1 n5 cl4) :: F) x41.1.Epoch s hx3) ?_)
  intro X6 hX6
  refine fun _ _ hJ => hJ X6 ?_
  clear s
  intro I6 w16 s k11
  refine hX6 _ _ ?_
  replace e1 := e1.st k11
  replace e8 := e8.st k11
  replace e7 := e7.st k11
  replace rp7 := rp7.st k11
  replace rp8 := rp8.st k11
  replace rp6 := rp6.st k11
  replace rp1 := rp1.st k11
  replace rp2 := rp2.st k11
  replace kk := kk.trans k11
  refine RW.seg hT 3 [] [(50, .bool (decide (x46 ≠ x2)))] [.int .i64 x2, .bool (decide (x46 ≠ x2)), .bool (decide (x46 ≠ x2))] [.veq (.bool (x46 != x2)) (.bool (decide (x46 ≠ x2)))] (by kernel_rfl) (ne_v) ?_
  by_cases h8 : x46 ≠ x2
  have hf := iteT h8 hf
  refine RW.seg hT 6 [] [(52, .bool true)] [.bool true, undef, undef, undef, undef, .bool true] [.veq (.bool (decide (x46 ≠ x2))) (.bool true)] (by kernel_rfl) (bo_t h8) ?_
  refine RW.nil ?_
  exact fun X h => kc (by kernel_rfl) rfl (h I6 false (decide (x46 ≠ x2)) true true _ hf s kk e1 e8 e7 rp7 rp8 rp6 rp1 rp2)
  have hf := iteF h8 hf
  refine RW.seg hT 6 [.int .i64 x41.1.Pages] [(52, .bool false), (56, .bool (decide (x41.1.Pages ≠ p0)))] [.bool false, .pointer (some ⟨b6, 1, none⟩), .int .i64 x41.1.Pages, .int .i64 p0, .bool (decide (x41.1.Pages ≠ p0)), .bool (decide (x41.1.Pages ≠ p0))] [.veq (.bool (decide (x46 ≠ x2))) (.bool false), .cell ⟨b6, 1, none⟩ (.int .i64 x41.1.Pages), .veq (.bool (x41.1.Pages != p0)) (.bool (decide (x41.1.Pages ≠ p0)))] (by kernel_rfl) (⟨bo_f h8, s.cell (i := 0) (off := 1) rfl rfl, ne_v⟩) ?_
  refine RW.nil ?_
  exact fun X h => kc (by kernel_rfl) rfl (h I6 false (decide (x46 ≠ x2)) false (decide (x41.1.Pages ≠ p0)) _ hf s kk e1 e8 e7 rp7 rp8 rp6 rp1 rp2)
  refine Ret.of Tryd.func31 rfl ?_
  refine WPK.seq ?_
  refine WPK.region ?_
  refine RW.op (by kernel_rfl) (OK.new hT (f := fun b => .pointer (some ⟨b, 0, none⟩)) (cs := [.int .i64 0, .int .i64 0, .int .u64 0, .slice none 0 0]) (e := 55) (c := .tt) s (by kernel_rfl) trivial ?_)
  clear s
  rintro w17 b7 s k12 -
  replace e7 := e7.st k12
  replace e1 := e1.st k12
  replace rp6 := rp6.st k12
  replace rp1 := rp1.st k12
  replace rp2 := rp2.st k12
  replace kk := kk.trans k12
  refine RW.seg hT 1 [] [] [.int .i64 0] [] (by kernel_rfl) (trivial) ?_
  refine RW.nil ?_
  refine WPK.seq ?_
  refine WPK.region ?_
  refine RW.seg hT 2 [] [] [.slice A14 x35.length u14, .int .i64 x2] [] (by kernel_rfl) (trivial) ?_
  obtain ⟨x47, hx4, hf⟩ := bindS hf
  refine RW.op (by kernel_rfl) (OK.call' en53 (by kernel_rfl) (c53 (F := (.blk b7 (.cells #[.int .i64 0, .int .i64 0, .int .u64 0, .slice none 0 0] 55 (0, 0))) :: (.sl (.slice (some ⟨b4, 0, none⟩) 1 1) 3 1 1 [.int .i64 1]) :: (.blk b2 (.cells #[.int .u64 x3, .int .i64 x4, .slice A4 n4 u4, .slice A5 n5 u5] 28 (0, 0))) :: (.blk b1 (.cells #[.int .u64 0, .int .i64 0, .slice none 0 0, .slice none 0 0] 28 (0, 0))) :: (.sl (.slice A4 n4 u4) 3 1 n4 cl3) :: (.sl (.slice A5 n5 u5) 5 1 n5 cl4) :: F) x35 x2 A14 u14 hc7 e7 s hx4) ?_)
  intro X7 hX7
  refine fun _ _ hJ => hJ X7 ?_
  clear s
  intro I7 B1 m1 d1 cl10 ys1 A18 n10 u18 w18 s k13 hn7 rp9 hw1
  refine hX7 _ _ ?_
  replace e7 := e7.st k13
  replace e1 := e1.st k13
  replace rp6 := rp6.st k13
  replace rp1 := rp1.st k13
  replace rp2 := rp2.st k13
  replace kk := kk.trans k13
  rw [hn7] at s
  try rw [hn7]
  obtain ⟨I8, s', k14, hc9, e9⟩ := St.give s (i := 0) rfl rfl rp9
  replace s := s'; clear s'
  replace e7 := e7.st k14
  replace e1 := e1.st k14
  replace rp6 := rp6.st k14
  replace rp1 := rp1.st k14
  replace rp2 := rp2.st k14
  replace kk := kk.trans k14
  obtain ⟨hm1, hc10, e10⟩ := Win.real hw1 e9
  subst hm1
  refine RW.seg hT 3 [] [] [.tuple #[.agg #[.int .i64 x47.1.Kind, .int .i64 x47.1.Page, .int .u64 x47.1.Epoch, .slice A18 x47.1.Data.length u18], .int .i64 x47.2], .agg #[.int .i64 x47.1.Kind, .int .i64 x47.1.Page, .int .u64 x47.1.Epoch, .slice A18 x47.1.Data.length u18], .int .i64 x47.2] [] (by kernel_rfl) (trivial) ?_
  refine RW.op (by kernel_rfl) (OK.new hT (f := fun b => .pointer (some ⟨b, 0, none⟩)) (cs := [.int .i64 0, .int .i64 0, .int .u64 0, .slice none 0 0]) (e := 55) (c := .tt) s (by kernel_rfl) trivial ?_)
  clear s
  rintro w19 b8 s k15 -
  replace e7 := e7.st k15
  replace e10 := e10.st k15
  replace e1 := e1.st k15
  replace rp6 := rp6.st k15
  replace rp1 := rp1.st k15
  replace rp2 := rp2.st k15
  replace kk := kk.trans k15
  refine RW.op (by kernel_rfl) (OK.store hT (i := 0) (b := b8) (off := 0) (n := 4) (vs := [.int .i64 x47.1.Kind, .int .i64 x47.1.Page, .int .u64 x47.1.Epoch, .slice A18 x47.1.Data.length u18]) (cs := [.int .i64 0, .int .i64 0, .int .u64 0, .slice none 0 0]) (e := 55) s (by kernel_rfl) rfl rfl (flat_ok rfl) (Nat.le_of_ble_eq_true rfl) ?_)
  clear s
  rintro w20 s k16 -
  replace e7 := e7.st k16
  replace e10 := e10.st k16
  replace e1 := e1.st k16
  replace rp6 := rp6.st k16
  replace rp1 := rp1.st k16
  replace rp2 := rp2.st k16
  replace kk := kk.trans k16
  refine RW.seg hT 1 [] [] [.int .i64 x47.2] [] (by kernel_rfl) (trivial) ?_
  refine RW.nil ?_
  refine WPK.seq ?_
  refine WPK.seq ?_
  refine WPK.region ?_
  refine RW.seg hT 2 [] [(18, .bool (decide (x47.2 ≠ 0)))] [.int .i64 x47.2, .bool (decide (x47.2 ≠ 0))] [.veq (.bool (x47.2 != 0)) (.bool (decide (x47.2 ≠ 0)))] (by kernel_rfl) (ne_v) ?_
  refine RW.nil ?_
  by_cases h9 : x47.2 ≠ 0
  have hf := iteT h9 hf
  refine WPK.condT (Eq.trans (b := .bool (decide (x47.2 ≠ 0))) (by kernel_rfl) (bo_t h9)) ?_
  refine WPK.seq ?_
  refine WPK.region ?_
  refine RW.seg hT 2 [] [] [.agg #[.int .i64 0, .int .i64 0, .int .u64 0, .slice none 0 0], .int .i64 x47.2] [] (by kernel_rfl) (trivial) ?_
  refine RW.op (by kernel_rfl) (OK.store hT (i := 1) (b := b7) (off := 0) (n := 4) (vs := [.int .i64 0, .int .i64 0, .int .u64 0, .slice none 0 0]) (cs := [.int .i64 0, .int .i64 0, .int .u64 0, .slice none 0 0]) (e := 55) s (by kernel_rfl) rfl rfl (flat_ok rfl) (Nat.le_of_ble_eq_true rfl) ?_)
  clear s
  rintro w21 s k17 -
  replace e7 := e7.st k17
  replace e10 := e10.st k17
  replace e1 := e1.st k17
  replace rp6 := rp6.st k17
  replace rp1 := rp1.st k17
  replace rp2 := rp2.st k17
  replace kk := kk.trans k17
  refine RW.seg hT 1 [] [] [.int .i64 x47.2] [] (by kernel_rfl) (trivial) ?_
  refine RW.nil ?_
  refine WPK.ret (?_)
  refine Fin.of (rs := [.cell 6 55, .tmp 7]) hT [.agg #[.int .i64 0, .int .i64 0, .int .u64 0, .slice none 0 0]] (.tuple #[.agg #[.int .i64 0, .int .i64 0, .int .u64 0, .slice none 0 0], .int .i64 x47.2]) [.cells ⟨b7, 0, none⟩ [.int .i64 0, .int .i64 0, .int .u64 0, .slice none 0 0] 4] rfl (by kernel_rfl) (s.cells (i := 1) rfl rfl rfl) ?_
  replace s := s.pick [2, 3, 4, 5, 6] 7 rfl
  exact fun X h => vc rfl (h I8 0 0 0 [] x47.2 none 0 _ hf s kk e1 e7 nil_hc Elems.nil rp6 rp1 rp2)
  have hf := iteF h9 hf
  refine WPK.condF (Eq.trans (b := .bool (decide (x47.2 ≠ 0))) (by kernel_rfl) (bo_f h9)) ?_
  refine WPK.skip ?_
  refine WPK.seq ?_
  refine WPK.seq ?_
  refine WPK.region ?_
  refine RW.seg hT 1 [] [] [.int .i64 0] [] (by kernel_rfl) (trivial) ?_
  refine RW.nil ?_
  refine WPK.block ?_
  refine WPK.loop' (J := fun n11 D5 ds wz => ∀ X : Kont, (∀ (I9 : Nat → Prop) (x48 : Int) (w' : World), g11_l6 p0 p1 x1 x2 x3 x4 x5 x6 rec1 x35 x47 n11 x48 = some r → St w1 M I9 ((.blk b8 (.cells #[.int .i64 x47.1.Kind, .int .i64 x47.1.Page, .int .u64 x47.1.Epoch, .slice A18 x47.1.Data.length u18] 55 (0, 0))) :: (.blk b7 (.cells #[.int .i64 0, .int .i64 0, .int .u64 0, .slice none 0 0] 55 (0, 0))) :: (.sl (.slice (some ⟨b4, 0, none⟩) 1 1) 3 1 1 [.int .i64 1]) :: (.blk b2 (.cells #[.int .u64 x3, .int .i64 x4, .slice A4 n4 u4, .slice A5 n5 u5] 28 (0, 0))) :: (.blk b1 (.cells #[.int .u64 0, .int .i64 0, .slice none 0 0, .slice none 0 0] 28 (0, 0))) :: (.sl (.slice A4 n4 u4) 3 1 n4 cl3) :: (.sl (.slice A5 n5 u5) 5 1 n5 cl4) :: F) w' → Kp I w I9 w' → Elems (Rp.int .u8) I9 w' A18 x47.1.Data → RepL (Rp.int .i64) I9 w' [.int .i64 1] ([1] : List Int) → RepL (Rp.int .i64) I9 w' cl3 x5 → RepL (Rp.int .u8) I9 w' cl4 x6 → Elems (Rp.slice (Rp.int .u8)) I9 w' (some ⟨b3, o1, none⟩) p1 → Elems (Rp.int .u8) I9 w' A14 x35 → X [(D5.getD 0 undef), (D5.getD 1 undef), .slice (some ⟨b4, 0, none⟩) 1 1, (D5.getD 3 undef), (D5.getD 4 undef), (D5.getD 5 undef), .pointer (some ⟨b7, 0, none⟩), .int .i64 0, .pointer (some ⟨b8, 0, none⟩), (D5.getD 9 undef), .int .i64 x48, (D5.getD 11 undef), (D5.getD 12 undef), (D5.getD 13 undef), (D5.getD 14 undef), (D5.getD 15 undef), (D5.getD 16 undef), (D5.getD 17 undef), (D5.getD 18 undef), (D5.getD 19 undef), (D5.getD 20 undef), (D5.getD 21 undef), (D5.getD 22 undef), (D5.getD 23 undef), (D5.getD 24 undef), (D5.getD 25 undef), (D5.getD 26 undef), (D5.getD 27 undef), (D5.getD 28 undef), (D5.getD 29 undef), (D5.getD 30 undef), (D5.getD 31 undef), (D5.getD 32 undef), (D5.getD 33 undef), undef, undef] [] w') → X D5 ds wz) FUEL (fun X h => kc (by kernel_rfl) rfl (h I8 0 _ hf s kk e10 rp6 rp1 rp2 e1 e7)) (fun _ _ _ hJ => hJ (fun _ _ _ => False) (by intro I9 x48 w22 hf s kk e10 rp6 rp1 rp2 e1 e7; exact noneS hf)) ?_
  intro X8 hX8
  refine fun n11 D5 _ _ hJ => hJ (X8 n11) ?_
  clear s
  intro I9 x48 w22 hf s kk e10 rp6 rp1 rp2 e1 e7
  refine hX8 _ _ _ _ ?_
  replace hf : g11_l6B p0 p1 x1 x2 x3 x4 x5 x6 rec1 x35 x47 (g11_l6 p0 p1 x1 x2 x3 x4 x5 x6 rec1 x35 x47 n11) x48 = some r := hf
  generalize hrec2 : g11_l6 p0 p1 x1 x2 x3 x4 x5 x6 rec1 x35 x47 n11 = rec2 at hf
  unfold g11_l6B at hf
  refine WPK.seq ?_
  refine WPK.seq ?_
  refine WPK.region ?_
  refine RW.seg hT 4 [] [(23, .int .i64 (([1] : List Int).length : Int))] [.int .i64 x48, .slice (some ⟨b4, 0, none⟩) 1 1, .int .i64 (([1] : List Int).length : Int), .bool (decide (x48 < (([1] : List Int).length : Int)))] [.veq (.int .i64 (1 : Nat)) (.int .i64 (([1] : List Int).length : Int))] (by kernel_rfl) (len_v rfl) ?_
  refine RW.nil ?_
  by_cases h10 : x48 < (([1] : List Int).length : Int)
  have hf := iteT h10 hf
  refine WPK.condT (Eq.trans (b := .bool (decide (x48 < (([1] : List Int).length : Int)))) (by kernel_rfl) (bo_t h10)) ?_
  refine WPK.skip ?_
  refine WPK.seq ?_
  refine WPK.block ?_
  refine WPK.seq ?_
  have e1S1 := e1
  have e7S1 := e7
  have e10S1 := e10
  have rp6S1 := rp6
  have rp1S1 := rp1
  have rp2S1 := rp2
  have kS1 : Kp I9 w22 I9 w22 := Kp.refl
  refine WPK.drawM (fun w' => ∃ I' : Nat → Prop, St w1 M I' ((.blk b8 (.cells #[.int .i64 x47.1.Kind, .int .i64 x47.1.Page, .int .u64 x47.1.Epoch, .slice A18 x47.1.Data.length u18] 55 (0, 0))) :: (.blk b7 (.cells #[.int .i64 0, .int .i64 0, .int .u64 0, .slice none 0 0] 55 (0, 0))) :: (.sl (.slice (some ⟨b4, 0, none⟩) 1 1) 3 1 1 [.int .i64 1]) :: (.blk b2 (.cells #[.int .u64 x3, .int .i64 x4, .slice A4 n4 u4, .slice A5 n5 u5] 28 (0, 0))) :: (.blk b1 (.cells #[.int .u64 0, .int .i64 0, .slice none 0 0, .slice none 0 0] 28 (0, 0))) :: (.sl (.slice A4 n4 u4) 3 1 n4 cl3) :: (.sl (.slice A5 n5 u5) 5 1 n5 cl4) :: F) w' ∧ Kp I9 w22 I' w') 7 [0, 0, 3, 7, 0, 16, 63] (by kernel_rfl) (by kernel_rfl) ?_
  intro ht1 w23 hd1
  have k18 := Kp.dr s hd1
  replace s := s.dr hd1
  replace e1 := e1.st k18
  replace e7 := e7.st k18
  replace e10 := e10.st k18
  replace rp6 := rp6.st k18
  replace rp1 := rp1.st k18
  replace rp2 := rp2.st k18
  replace kk := kk.trans k18
  replace kS1 := kS1.trans k18
  obtain ⟨x49, hx5, hf⟩ := bindS hf
  obtain ⟨h11, hx5⟩ := getS hx5
  refine RD.segM hT ht1 (by kernel_rfl) [0, 1, 2, 3, 4, 5, 6] [.int .i64 x49, .int .i64 x47.1.Kind] [(33, .bool (decide (x49 = x47.1.Kind)))] [.slice (some ⟨b4, 0, none⟩) 1 1, .int .i64 x48, .pointer (some ⟨b4, 0 + x48.toNat * 1, none⟩), .int .i64 x49, .pointer (some ⟨b8, 0, none⟩), .int .i64 x47.1.Kind, .bool (decide (x49 = x47.1.Kind))] [.idx x48 1, .cell ⟨b4, 0 + x48.toNat * 1, none⟩ (.int .i64 x49), .cell ⟨b8, 0, none⟩ (.int .i64 x47.1.Kind), .veq (.bool (x49 == x47.1.Kind)) (.bool (decide (x49 = x47.1.Kind)))] (by kernel_rfl) (by rintro w' ⟨I', s, k⟩; have e1 := e1S1.st k; have e7 := e7S1.st k; have e10 := e10S1.st k; have rp6 := rp6S1.st k; have rp1 := rp1S1.st k; have rp2 := rp2S1.st k; obtain ⟨-, cs2, hr2, ha2⟩ := St.elem s (i := 2) rfl rfl rp6 hx5; replace ha2 := ha2 _ rfl; obtain rfl : cs2 = [.int .i64 x49] := hr2; exact ⟨h11, ha2 0 _ rfl, s.cell (i := 0) (off := 0) rfl rfl, eq_v⟩) ⟨_, s.pick [0, 1, 2, 3, 4, 5, 6] 7 rfl, kS1⟩ ?_
  refine RD.done (by kernel_rfl) ?_
  by_cases h12 : x49 = x47.1.Kind
  have hf := iteT h12 hf
  refine WPK.condT (Eq.trans (b := .bool (decide (x49 = x47.1.Kind))) (by kernel_rfl) (bo_t h12)) ?_
  refine WPK.seq ?_
  refine WPK.region ?_
  refine RW.seg hT 1 [.agg #[.int .i64 x47.1.Kind, .int .i64 x47.1.Page, .int .u64 x47.1.Epoch, .slice A18 x47.1.Data.length u18]] [] [.agg #[.int .i64 x47.1.Kind, .int .i64 x47.1.Page, .int .u64 x47.1.Epoch, .slice A18 x47.1.Data.length u18]] [.cells ⟨b8, 0, none⟩ [.int .i64 x47.1.Kind, .int .i64 x47.1.Page, .int .u64 x47.1.Epoch, .slice A18 x47.1.Data.length u18] 4] (by kernel_rfl) (s.cells (i := 0) rfl rfl rfl) ?_
  refine RW.op (by kernel_rfl) (OK.store hT (i := 1) (b := b7) (off := 0) (n := 4) (vs := [.int .i64 x47.1.Kind, .int .i64 x47.1.Page, .int .u64 x47.1.Epoch, .slice A18 x47.1.Data.length u18]) (cs := [.int .i64 0, .int .i64 0, .int .u64 0, .slice none 0 0]) (e := 55) s (by kernel_rfl) rfl rfl (flat_ok rfl) (Nat.le_of_ble_eq_true rfl) ?_)
  clear s
  rintro w24 s k19 -
  replace e10 := e10.st k19
  replace e1 := e1.st k19
  replace e7 := e7.st k19
  replace rp6 := rp6.st k19
  replace rp1 := rp1.st k19
  replace rp2 := rp2.st k19
  replace kk := kk.trans k19
  refine RW.seg hT 1 [] [] [.int .i64 0] [] (by kernel_rfl) (trivial) ?_
  refine RW.nil ?_
  refine WPK.ret (blockQ.ret (blockQ.ret (?_)))
  refine Fin.of (rs := [.cell 6 55, .tmp 7]) hT [.agg #[.int .i64 x47.1.Kind, .int .i64 x47.1.Page, .int .u64 x47.1.Epoch, .slice A18 x47.1.Data.length u18]] (.tuple #[.agg #[.int .i64 x47.1.Kind, .int .i64 x47.1.Page, .int .u64 x47.1.Epoch, .slice A18 x47.1.Data.length u18], .int .i64 0]) [.cells ⟨b7, 0, none⟩ [.int .i64 x47.1.Kind, .int .i64 x47.1.Page, .int .u64 x47.1.Epoch, .slice A18 x47.1.Data.length u18] 4] rfl (by kernel_rfl) (s.cells (i := 1) rfl rfl rfl) ?_
  replace s := s.pick [2, 3, 4, 5, 6] 7 rfl
  exact fun X h => vc rfl (h I9 x47.1.Kind x47.1.Page x47.1.Epoch x47.1.Data 0 A18 u18 _ hf s kk e1 e7 hc10 e10 rp6 rp1 rp2)
  have hf := iteF h12 hf
  refine WPK.condF (Eq.trans (b := .bool (decide (x49 = x47.1.Kind))) (by kernel_rfl) (bo_f h12)) ?_
  refine WPK.skip ?_
  refine WPK.region ?_
  refine RW.seg hT 3 [] [] [.int .i64 x48, .int .i64 (IntKind.i64.wrap (x48 + 1)), .int .i64 (IntKind.i64.wrap (x48 + 1))] [] (by kernel_rfl) (trivial) ?_
  refine RW.nil ?_
  subst hrec2
  exact ⟨n11, Nat.le_refl _, fun X h => kc (by kernel_rfl) rfl (h I9 (IntKind.i64.wrap (x48 + 1)) _ hf s kk e10 rp6 rp1 rp2 e1 e7)⟩
  have hf := iteF h10 hf
  refine WPK.condF (Eq.trans (b := .bool (decide (x48 < (([1] : List Int).length : Int)))) (by kernel_rfl) (bo_f h10)) ?_
  refine WPK.exit (blockQ.same ?_)
  refine WPK.seq ?_
  refine WPK.region ?_
  refine RW.seg hT 1 [] [] [.agg #[.int .i64 0, .int .i64 0, .int .u64 0, .slice none 0 0]] [] (by kernel_rfl) (trivial) ?_
  refine RW.op (by kernel_rfl) (OK.store hT (i := 1) (b := b7) (off := 0) (n := 4) (vs := [.int .i64 0, .int .i64 0, .int .u64 0, .slice none 0 0]) (cs := [.int .i64 0, .int .i64 0, .int .u64 0, .slice none 0 0]) (e := 55) s (by kernel_rfl) rfl rfl (flat_ok rfl) (Nat.le_of_ble_eq_true rfl) ?_)
  clear s
  rintro w25 s k20 -
  replace e1 := e1.st k20
  replace e7 := e7.st k20
  replace e10 := e10.st k20
  replace rp6 := rp6.st k20
  replace rp1 := rp1.st k20
  replace rp2 := rp2.st k20
  replace kk := kk.trans k20
  refine RW.seg hT 1 [] [] [.int .i64 42] [] (by kernel_rfl) (trivial) ?_
  refine RW.nil ?_
  refine WPK.ret (?_)
  refine Fin.of (rs := [.cell 6 55, .tmp 7]) hT [.agg #[.int .i64 0, .int .i64 0, .int .u64 0, .slice none 0 0]] (.tuple #[.agg #[.int .i64 0, .int .i64 0, .int .u64 0, .slice none 0 0], .int .i64 42]) [.cells ⟨b7, 0, none⟩ [.int .i64 0, .int .i64 0, .int .u64 0, .slice none 0 0] 4] rfl (by kernel_rfl) (s.cells (i := 1) rfl rfl rfl) ?_
  replace s := s.pick [2, 3, 4, 5, 6] 7 rfl
  exact fun X h => vc rfl (h I9 0 0 0 [] 42 none 0 _ hf s kk e1 e7 nil_hc Elems.nil rp6 rp1 rp2)
  have hf := iteF h1 hf
  refine WPK.condF (Eq.trans (b := .bool x8) (by kernel_rfl) (b_f h1)) ?_
  refine WPK.exit (blockQ.same ?_)
  refine WPK.seq ?_
  refine WPK.seq ?_
  refine WPK.region ?_
  refine RW.seg hT 2 [] [] [.int .i64 x1, .bool (decide (x1 < 0))] [] (by kernel_rfl) (trivial) ?_
  refine RW.nil ?_
  by_cases h13 : x1 < 0
  have hf := iteT h13 hf
  refine WPK.condT (Eq.trans (b := .bool (decide (x1 < 0))) (by kernel_rfl) (bo_t h13)) ?_
  refine WPK.seq ?_
  refine WPK.region ?_
  refine RW.seg hT 1 [] [] [.agg #[.int .u64 0, .int .i64 0, .slice none 0 0, .slice none 0 0]] [] (by kernel_rfl) (trivial) ?_
  refine RW.op (by kernel_rfl) (OK.store hT (i := 1) (b := b1) (off := 0) (n := 4) (vs := [.int .u64 0, .int .i64 0, .slice none 0 0, .slice none 0 0]) (cs := [.int .u64 0, .int .i64 0, .slice none 0 0, .slice none 0 0]) (e := 28) s (by kernel_rfl) rfl rfl (flat_ok rfl) (Nat.le_of_ble_eq_true rfl) ?_)
  clear s
  rintro w26 s k21 -
  replace e1 := e1.st k21
  replace rp1 := rp1.st k21
  replace rp2 := rp2.st k21
  replace kk := kk.trans k21
  refine RW.seg hT 2 [] [] [.int .i64 0, .int .i64 60] [] (by kernel_rfl) (trivial) ?_
  refine RW.nil ?_
  refine WPK.ret (?_)
  obtain rfl := someS hf
  refine Fin.of (rs := [.cell 4 28, .tmp 5, .tmp 6]) hT [.agg #[.int .u64 0, .int .i64 0, .slice none 0 0, .slice none 0 0]] (.tuple #[.agg #[.int .u64 0, .int .i64 0, .slice none 0 0, .slice none 0 0], .int .i64 0, .int .i64 60]) [.cells ⟨b1, 0, none⟩ [.int .u64 0, .int .i64 0, .slice none 0 0, .slice none 0 0] 4] rfl (by kernel_rfl) (s.cells (i := 1) rfl rfl rfl) ?_
  replace s := s.pushNil 3 1
  replace s := s.pushNil 5 1
  replace s := s.pick [1, 0] 6 rfl
  exact fun X h => vc rfl (h I1 none 0 0 [] none 0 0 [] _ s kk rfl (RepL.nil (r := (Rp.int .i64))) rfl (RepL.nil (r := (Rp.int .u8))))
  have hf := iteF h13 hf
  refine WPK.condF (Eq.trans (b := .bool (decide (x1 < 0))) (by kernel_rfl) (bo_f h13)) ?_
  refine WPK.skip ?_
  refine WPK.seq ?_
  refine WPK.region ?_
  refine RW.seg hT 2 [.agg #[.int .u64 x3, .int .i64 x4, .slice A4 n4 u4, .slice A5 n5 u5]] [] [.agg #[.int .u64 x3, .int .i64 x4, .slice A4 n4 u4, .slice A5 n5 u5], .int .i64 x1] [.cells ⟨b2, 0, none⟩ [.int .u64 x3, .int .i64 x4, .slice A4 n4 u4, .slice A5 n5 u5] 4] (by kernel_rfl) (s.cells (i := 0) rfl rfl rfl) ?_
  refine RW.op (by kernel_rfl) (OK.store hT (i := 1) (b := b1) (off := 0) (n := 4) (vs := [.int .u64 x3, .int .i64 x4, .slice A4 n4 u4, .slice A5 n5 u5]) (cs := [.int .u64 0, .int .i64 0, .slice none 0 0, .slice none 0 0]) (e := 28) s (by kernel_rfl) rfl rfl (flat_ok rfl) (Nat.le_of_ble_eq_true rfl) ?_)
  clear s
  rintro w27 s k22 -
  replace e1 := e1.st k22
  replace rp1 := rp1.st k22
  replace rp2 := rp2.st k22
  replace kk := kk.trans k22
  refine RW.seg hT 2 [] [] [.int .i64 x1, .int .i64 0] [] (by kernel_rfl) (trivial) ?_
  refine RW.nil ?_
  refine WPK.ret (?_)
  obtain rfl := someS hf
  refine Fin.of (rs := [.cell 4 28, .tmp 5, .tmp 6]) hT [.agg #[.int .u64 x3, .int .i64 x4, .slice A4 n4 u4, .slice A5 n5 u5]] (.tuple #[.agg #[.int .u64 x3, .int .i64 x4, .slice A4 n4 u4, .slice A5 n5 u5], .int .i64 x1, .int .i64 0]) [.cells ⟨b1, 0, none⟩ [.int .u64 x3, .int .i64 x4, .slice A4 n4 u4, .slice A5 n5 u5] 4] rfl (by kernel_rfl) (s.cells (i := 1) rfl rfl rfl) ?_
  replace s := s.pick [2, 3] 4 rfl
  exact fun X h => vc rfl (h I1 A4 n4 u4 cl3 A5 n5 u5 cl4 _ s kk hn1 rp1 hn2 rp2)
  refine WPK.region ?_
  refine RW.seg hT 4 [] [] [.int .i64 x2, .slice A1 p1.length u1, .int .i64 (p1.length : Int), .bool (decide (x2 < (p1.length : Int)))] [] (by kernel_rfl) (trivial) ?_
  by_cases h14 : x2 < (p1.length : Int)
  have hf := iteT h14 hf
  refine RW.seg hT 4 [] [(17, .bool true)] [.bool true, .int .i64 x2, .bool (decide (x2 < 2)), .bool (decide (x2 < 2))] [.veq (.bool (decide (x2 < (p1.length : Int)))) (.bool true)] (by kernel_rfl) (bo_t h14) ?_
  refine RW.nil ?_
  exact fun X h => kc (by kernel_rfl) rfl (h true (decide (x2 < 2)) hf)
  have hf := iteF h14 hf
  refine RW.seg hT 4 [] [(17, .bool false)] [.bool false, undef, undef, .bool false] [.veq (.bool (decide (x2 < (p1.length : Int)))) (.bool false)] (by kernel_rfl) (bo_f h14) ?_
  refine RW.nil ?_
  exact fun X h => kc (by kernel_rfl) rfl (h false false hf)
theorem c3 {w1 w : World} {M I : Nat → Prop} {F : List It} (p0 : Int) (p1 : (List (List Int))) (A1 : Option Addr) (u1 : Nat) (hc1 : (p1.length ≤ u1 ∧ u1 ≤ 9223372036854775807)) (e1 : Elems (Rp.slice (Rp.int .u8)) I w A1 p1) (eg2 : Elems (Rp.int .u32) I w (some ⟨2, 0, none⟩) TAB2) (s : St w1 M I (F) w) {r : Bool} (hf : g3 p0 p1 = some r) :
    Ret Tryd.prog 3 [.int .i64 p0, .slice A1 p1.length u1] w fun v wz => ∀ X : Value → World → Prop, (∀ (I' : Nat → Prop) (w' : World), St w1 M I' (F) w' → Kp I w I' w' → X (.bool r) w') → X v wz := by
  have kk : Kp I w I w := Kp.refl
  unfold g3 at hf
  refine Ret.of Tryd.func3 rfl ?_
  refine WPK.seq ?_
  refine WPK.region ?_
  refine RW.seg hT 1 [] [] [.bool false] [] (by kernel_rfl) (trivial) ?_
  refine RW.nil ?_
  refine WPK.seq ?_
  refine WPK.seq ?_
  refine WPK.cut' (Kn fun D1 ds wz => ∀ X : Kont, (∀ (I1 : Nat → Prop) (x1 : Bool) (w' : World), g3_j1 p0 p1 x1 = some r → St w1 M I1 (F) w' → Kp I w I1 w' → Elems (Rp.slice (Rp.int .u8)) I1 w' A1 p1 → Elems (Rp.int .u32) I1 w' (some ⟨2, 0, none⟩) TAB2 → X [.int .i64 p0, .slice A1 p1.length u1, (D1.getD 2 undef), (D1.getD 3 undef), .bool false, (D1.getD 5 undef), undef, undef, undef, undef, undef, undef, undef, (D1.getD 13 undef), (D1.getD 14 undef), (D1.getD 15 undef), (D1.getD 16 undef), (D1.getD 17 undef), (D1.getD 18 undef), .bool x1, undef, undef, undef, undef, undef, undef, undef, undef, undef, undef, undef, undef, undef, undef, undef, undef, undef, undef, undef, undef, undef, undef, undef, undef, undef, undef, undef, undef, undef, undef, undef, undef, undef, undef, undef, undef, undef, undef] [] w') → X D1 ds wz) ?_ ?_
  intro X1 hX1
  refine fun D1 _ _ hJ => hJ X1 ?_
  clear s
  intro I1 x1 w2 hf s kk e1 eg2
  refine hX1 _ _ _ ?_
  unfold g3_j1 at hf
  by_cases h1 : x1 = true
  have hf := iteT h1 hf
  refine WPK.condT (Eq.trans (b := .bool x1) (by kernel_rfl) (b_t h1)) ?_
  refine WPK.seq ?_
  refine WPK.region ?_
  obtain ⟨x2, hx1, hf⟩ := bindS hf
  refine RW.op (by kernel_rfl) (OK.call' en9 (by kernel_rfl) (c9 (F := F) eg2 s hx1) ?_)
  intro X2 hX2
  refine fun _ _ hJ => hJ X2 ?_
  clear s
  intro I2 w3 s k1
  refine hX2 _ _ ?_
  replace e1 := e1.st k1
  replace eg2 := eg2.st k1
  replace kk := kk.trans k1
  refine RW.seg hT 1 [] [] [.bool x2] [] (by kernel_rfl) (trivial) ?_
  refine RW.nil ?_
  refine WPK.ret (?_)
  obtain rfl := someS hf
  refine Fin.of (rs := [.tmp 4]) hT [] (.bool x2) [] rfl (by kernel_rfl) (trivial) ?_
  exact fun X h => vc rfl (h I2 _ s kk)
  have hf := iteF h1 hf
  refine WPK.condF (Eq.trans (b := .bool x1) (by kernel_rfl) (b_f h1)) ?_
  refine WPK.skip ?_
  refine WPK.seq ?_
  refine WPK.seq ?_
  refine WPK.region ?_
  refine RW.seg hT 3 [] [] [.slice A1 p1.length u1, .int .i64 (p1.length : Int), .int .i64 0] [] (by kernel_rfl) (trivial) ?_
  refine RW.nil ?_
  refine WPK.block ?_
  refine WPK.loop' (J := fun n1 D2 ds wz => ∀ X : Kont, (∀ (x3 : Int), g3_l2 p0 p1 n1 x3 = some r → X [.int .i64 p0, .slice A1 p1.length u1, (D2.getD 2 undef), (D2.getD 3 undef), .bool false, (D2.getD 5 undef), (D2.getD 6 undef), undef, undef, undef, undef, undef, undef, (D2.getD 13 undef), (D2.getD 14 undef), (D2.getD 15 undef), (D2.getD 16 undef), (D2.getD 17 undef), (D2.getD 18 undef), (D2.getD 19 undef), (D2.getD 20 undef), .slice A1 p1.length u1, .int .i64 (p1.length : Int), .int .i64 x3, (D2.getD 24 undef), (D2.getD 25 undef), (D2.getD 26 undef), (D2.getD 27 undef), (D2.getD 28 undef), (D2.getD 29 undef), (D2.getD 30 undef), undef, undef, undef, undef, undef, undef, undef, undef, undef, undef, undef, undef, undef, undef, undef, undef, undef, undef, undef, undef, undef, undef, undef, undef, undef, undef, undef] [] w2) → X D2 ds wz) FUEL (fun X h => kc (by kernel_rfl) rfl (h 0 hf)) (fun _ _ _ hJ => hJ (fun _ _ _ => False) (by intro x3 hf; exact noneS hf)) ?_
  intro X3 hX3
  refine fun n1 D2 _ _ hJ => hJ (X3 n1) ?_
  intro x3 hf
  refine hX3 _ _ _ _ ?_
  replace hf : g3_l2B p0 p1 (g3_l2 p0 p1 n1) x3 = some r := hf
  generalize hrec1 : g3_l2 p0 p1 n1 = rec1 at hf
  unfold g3_l2B at hf
  refine WPK.seq ?_
  refine WPK.region ?_
  refine RW.seg hT 1 [] [] [.bool (decide (x3 < (p1.length : Int)))] [] (by kernel_rfl) (trivial) ?_
  refine RW.nil ?_
  refine WPK.seq ?_
  by_cases h2 : x3 < (p1.length : Int)
  have hf := iteT h2 hf
  refine WPK.condT (Eq.trans (b := .bool (decide (x3 < (p1.length : Int)))) (by kernel_rfl) (bo_t h2)) ?_
  refine WPK.skip ?_
  refine WPK.seq ?_
  refine WPK.block ?_
  refine WPK.seq ?_
  refine WPK.region ?_
  obtain ⟨x4, hx2, hf⟩ := bindS hf
  obtain ⟨h3, hx2⟩ := getS hx2
  obtain ⟨b1, o1, rfl⟩ := Elems.opn e1 hx2
  obtain ⟨cs1, hr1, ha1⟩ := Elems.get e1 hx2
  obtain ⟨A2, u2, rfl, q1, q2, e2⟩ := hr1
  have hc2 := And.intro q1 q2
  refine RW.seg hT 3 [.slice A2 x4.length u2] [] [.pointer (some ⟨b1, o1 + x3.toNat * 1, none⟩), .slice A2 x4.length u2, .slice A2 x4.length u2] [.idx x3 p1.length, .cell ⟨b1, o1 + x3.toNat * 1, none⟩ (.slice A2 x4.length u2)] (by kernel_rfl) (⟨h3, ha1 0 _ rfl⟩) ?_
  refine RW.nil ?_
  refine WPK.seq ?_
  refine WPK.region ?_
  refine RW.seg hT 3 [] [] [.slice A2 x4.length u2, .int .i64 (x4.length : Int), .bool (decide ((x4.length : Int) > 3000))] [] (by kernel_rfl) (trivial) ?_
  refine RW.nil ?_
  by_cases h4 : (x4.length : Int) > 3000
  have hf := iteT h4 hf
  refine WPK.condT (Eq.trans (b := .bool (decide ((x4.length : Int) > 3000))) (by kernel_rfl) (bo_t h4)) ?_
  refine WPK.seq ?_
  refine WPK.region ?_
  refine RW.seg hT 1 [] [] [.bool true] [] (by kernel_rfl) (trivial) ?_
  refine RW.nil ?_
  refine WPK.ret (blockQ.ret (blockQ.ret (?_)))
  obtain rfl := someS hf
  refine Fin.of (rs := [.tmp 4]) hT [] (.bool true) [] rfl (by kernel_rfl) (trivial) ?_
  exact fun X h => vc rfl (h I1 _ s kk)
  have hf := iteF h4 hf
  refine WPK.condF (Eq.trans (b := .bool (decide ((x4.length : Int) > 3000))) (by kernel_rfl) (bo_f h4)) ?_
  refine WPK.skip ?_
  refine WPK.region ?_
  refine RW.seg hT 2 [] [] [.int .i64 (IntKind.i64.wrap (x3 + 1)), .int .i64 (IntKind.i64.wrap (x3 + 1))] [] (by kernel_rfl) (trivial) ?_
  refine RW.nil ?_
  subst hrec1
  exact ⟨n1, Nat.le_refl _, fun X h => kc (by kernel_rfl) rfl (h (IntKind.i64.wrap (x3 + 1)) hf)⟩
  have hf := iteF h2 hf
  refine WPK.condF (Eq.trans (b := .bool (decide (x3 < (p1.length : Int)))) (by kernel_rfl) (bo_f h2)) ?_
  refine WPK.exit (blockQ.same ?_)
  refine WPK.seq ?_
  refine WPK.region ?_
  refine RW.seg hT 2 [] [] [.int .i64 p0, .slice A1 p1.length u1] [] (by kernel_rfl) (trivial) ?_
  obtain ⟨x5, hx3, hf⟩ := bindS hf
  refine RW.op (by kernel_rfl) (OK.call' en10 (by kernel_rfl) (c10 (F := F) p0 p1 A1 u1 hc1 e1 eg2 s hx3) ?_)
  intro X4 hX4
  refine fun _ _ hJ => hJ X4 ?_
  clear s
  intro I3 A3 u3 A4 u4 w4 s k2 hc3 e3 hc4 e4
  refine hX4 _ _ ?_
  replace e1 := e1.st k2
  replace eg2 := eg2.st k2
  replace kk := kk.trans k2
  refine RW.seg hT 4 [] [] [.tuple #[.agg #[.int .u64 x5.1.Epoch, .int .i64 x5.1.Pages, .slice A3 x5.1.Maps.length u3, .slice A4 x5.1.User.length u4], .int .i64 x5.2.1, .int .i64 x5.2.2], .agg #[.int .u64 x5.1.Epoch, .int .i64 x5.1.Pages, .slice A3 x5.1.Maps.length u3, .slice A4 x5.1.User.length u4], .int .i64 x5.2.1, .int .i64 x5.2.2] [] (by kernel_rfl) (trivial) ?_
  refine RW.op (by kernel_rfl) (OK.new hT (f := fun b => .pointer (some ⟨b, 0, none⟩)) (cs := [.int .u64 0, .int .i64 0, .slice none 0 0, .slice none 0 0]) (e := 28) (c := .tt) s (by kernel_rfl) trivial ?_)
  clear s
  rintro w5 b2 s k3 -
  replace e1 := e1.st k3
  replace e3 := e3.st k3
  replace e4 := e4.st k3
  replace eg2 := eg2.st k3
  replace kk := kk.trans k3
  refine RW.op (by kernel_rfl) (OK.store hT (i := 0) (b := b2) (off := 0) (n := 4) (vs := [.int .u64 x5.1.Epoch, .int .i64 x5.1.Pages, .slice A3 x5.1.Maps.length u3, .slice A4 x5.1.User.length u4]) (cs := [.int .u64 0, .int .i64 0, .slice none 0 0, .slice none 0 0]) (e := 28) s (by kernel_rfl) rfl rfl (flat_ok rfl) (Nat.le_of_ble_eq_true rfl) ?_)
  clear s
  rintro w6 s k4 -
  replace e1 := e1.st k4
  replace e3 := e3.st k4
  replace e4 := e4.st k4
  replace eg2 := eg2.st k4
  replace kk := kk.trans k4
  refine RW.seg hT 2 [] [] [.int .i64 x5.2.1, .int .i64 x5.2.2] [] (by kernel_rfl) (trivial) ?_
  refine RW.nil ?_
  refine WPK.seq ?_
  refine WPK.region ?_
  refine RW.seg hT 2 [] [] [.int .i64 p0, .slice A1 p1.length u1] [] (by kernel_rfl) (trivial) ?_
  obtain ⟨x6, hx4, hf⟩ := bindS hf
  refine RW.op (by kernel_rfl) (OK.call' en11 (by kernel_rfl) (c11 (F := (.blk b2 (.cells #[.int .u64 x5.1.Epoch, .int .i64 x5.1.Pages, .slice A3 x5.1.Maps.length u3, .slice A4 x5.1.User.length u4] 28 (0, 0))) :: F) p0 p1 A1 u1 hc1 e1 s hx4) ?_)
  intro X5 hX5
  refine fun _ _ hJ => hJ X5 ?_
  clear s
  intro I4 A5 n2 u5 cl1 A6 n3 u6 cl2 w7 s k5 hn1 rp1 hn2 rp2
  refine hX5 _ _ ?_
  replace e1 := e1.st k5
  replace e3 := e3.st k5
  replace e4 := e4.st k5
  replace eg2 := eg2.st k5
  replace kk := kk.trans k5
  rw [hn1] at s
  try rw [hn1]
  obtain ⟨I5, s', k6, hc5, e5⟩ := St.give s (i := 0) rfl rfl rp1
  replace s := s'; clear s'
  replace e1 := e1.st k6
  replace e3 := e3.st k6
  replace e4 := e4.st k6
  replace rp2 := rp2.st k6
  replace eg2 := eg2.st k6
  replace kk := kk.trans k6
  rw [hn2] at s
  try rw [hn2]
  obtain ⟨I6, s', k7, hc6, e6⟩ := St.give s (i := 0) rfl rfl rp2
  replace s := s'; clear s'
  replace e1 := e1.st k7
  replace e3 := e3.st k7
  replace e4 := e4.st k7
  replace e5 := e5.st k7
  replace eg2 := eg2.st k7
  replace kk := kk.trans k7
  refine RW.seg hT 4 [] [] [.tuple #[.agg #[.int .u64 x6.1.Epoch, .int .i64 x6.1.Pages, .slice A5 x6.1.Maps.length u5, .slice A6 x6.1.User.length u6], .int .i64 x6.2.1, .int .i64 x6.2.2], .agg #[.int .u64 x6.1.Epoch, .int .i64 x6.1.Pages, .slice A5 x6.1.Maps.length u5, .slice A6 x6.1.User.length u6], .int .i64 x6.2.1, .int .i64 x6.2.2] [] (by kernel_rfl) (trivial) ?_
  refine RW.op (by kernel_rfl) (OK.new hT (f := fun b => .pointer (some ⟨b, 0, none⟩)) (cs := [.int .u64 0, .int .i64 0, .slice none 0 0, .slice none 0 0]) (e := 28) (c := .tt) s (by kernel_rfl) trivial ?_)
  clear s
  rintro w8 b3 s k8 -
  replace e1 := e1.st k8
  replace e3 := e3.st k8
  replace e4 := e4.st k8
  replace e5 := e5.st k8
  replace e6 := e6.st k8
  replace eg2 := eg2.st k8
  replace kk := kk.trans k8
  refine RW.op (by kernel_rfl) (OK.store hT (i := 0) (b := b3) (off := 0) (n := 4) (vs := [.int .u64 x6.1.Epoch, .int .i64 x6.1.Pages, .slice A5 x6.1.Maps.length u5, .slice A6 x6.1.User.length u6]) (cs := [.int .u64 0, .int .i64 0, .slice none 0 0, .slice none 0 0]) (e := 28) s (by kernel_rfl) rfl rfl (flat_ok rfl) (Nat.le_of_ble_eq_true rfl) ?_)
  clear s
  rintro w9 s k9 -
  replace e1 := e1.st k9
  replace e3 := e3.st k9
  replace e4 := e4.st k9
  replace e5 := e5.st k9
  replace e6 := e6.st k9
  replace eg2 := eg2.st k9
  replace kk := kk.trans k9
  refine RW.seg hT 2 [] [] [.int .i64 x6.2.1, .int .i64 x6.2.2] [] (by kernel_rfl) (trivial) ?_
  refine RW.nil ?_
  refine WPK.seq ?_
  refine WPK.region ?_
  refine RW.seg hT 2 [.agg #[.int .u64 x5.1.Epoch, .int .i64 x5.1.Pages, .slice A3 x5.1.Maps.length u3, .slice A4 x5.1.User.length u4], .agg #[.int .u64 x6.1.Epoch, .int .i64 x6.1.Pages, .slice A5 x6.1.Maps.length u5, .slice A6 x6.1.User.length u6]] [] [.agg #[.int .u64 x5.1.Epoch, .int .i64 x5.1.Pages, .slice A3 x5.1.Maps.length u3, .slice A4 x5.1.User.length u4], .agg #[.int .u64 x6.1.Epoch, .int .i64 x6.1.Pages, .slice A5 x6.1.Maps.length u5, .slice A6 x6.1.User.length u6]] [.cells ⟨b2, 0, none⟩ [.int .u64 x5.1.Epoch, .int .i64 x5.1.Pages, .slice A3 x5.1.Maps.length u3, .slice A4 x5.1.User.length u4] 4, .cells ⟨b3, 0, none⟩ [.int .u64 x6.1.Epoch, .int .i64 x6.1.Pages, .slice A5 x6.1.Maps.length u5, .slice A6 x6.1.User.length u6] 4] (by kernel_rfl) (⟨s.cells (i := 1) rfl rfl rfl, s.cells (i := 0) rfl rfl rfl⟩) ?_
  obtain ⟨x7, hx5, hf⟩ := bindS hf
  refine RW.op (by kernel_rfl) (OK.call' en12 (by kernel_rfl) (c12 (F := (.blk b3 (.cells #[.int .u64 x6.1.Epoch, .int .i64 x6.1.Pages, .slice A5 x6.1.Maps.length u5, .slice A6 x6.1.User.length u6] 28 (0, 0))) :: (.blk b2 (.cells #[.int .u64 x5.1.Epoch, .int .i64 x5.1.Pages, .slice A3 x5.1.Maps.length u3, .slice A4 x5.1.User.length u4] 28 (0, 0))) :: F) x5.1 x6.1 A3 u3 A4 u4 A5 u5 A6 u6 hc3 e3 hc4 e4 hc5 e5 hc6 e6 s hx5) ?_)
  intro X6 hX6
  refine fun _ _ hJ => hJ X6 ?_
  clear s
  intro I7 w10 s k10
  refine hX6 _ _ ?_
  replace e1 := e1.st k10
  replace e3 := e3.st k10
  replace e4 := e4.st k10
  replace e5 := e5.st k10
  replace e6 := e6.st k10
  replace eg2 := eg2.st k10
  replace kk := kk.trans k10
  by_cases h5 : x7 = true
  have hf := iteT h5 hf
  refine RW.seg hT 5 [] [(48, .bool true), (51, .bool (decide (x5.2.1 = x6.2.1)))] [.bool true, .int .i64 x5.2.1, .int .i64 x6.2.1, .bool (decide (x5.2.1 = x6.2.1)), .bool (decide (x5.2.1 = x6.2.1))] [.veq (.bool (x7)) (.bool true), .veq (.bool (x5.2.1 == x6.2.1)) (.bool (decide (x5.2.1 = x6.2.1)))] (by kernel_rfl) (⟨b_t h5, eq_v⟩) ?_
  by_cases h6 : x5.2.1 = x6.2.1
  have hf := iteT h6 hf
  refine RW.seg hT 6 [] [(53, .bool true), (56, .bool (decide (x5.2.2 = x6.2.2)))] [.bool true, .int .i64 x5.2.2, .int .i64 x6.2.2, .bool (decide (x5.2.2 = x6.2.2)), .bool (decide (x5.2.2 = x6.2.2)), .bool (decide (x5.2.2 = x6.2.2))] [.veq (.bool (decide (x5.2.1 = x6.2.1))) (.bool true), .veq (.bool (x5.2.2 == x6.2.2)) (.bool (decide (x5.2.2 = x6.2.2)))] (by kernel_rfl) (⟨bo_t h6, eq_v⟩) ?_
  refine RW.nil ?_
  refine WPK.ret (?_)
  obtain rfl := someS hf
  refine Fin.of (rs := [.tmp 4]) hT [] (.bool (decide (x5.2.2 = x6.2.2))) [] rfl (by kernel_rfl) (trivial) ?_
  replace s := s.pick [] 2 rfl
  exact fun X h => vc rfl (h I7 _ s kk)
  have hf := iteF h6 hf
  refine RW.seg hT 6 [] [(53, .bool false)] [.bool false, undef, undef, undef, .bool false, .bool false] [.veq (.bool (decide (x5.2.1 = x6.2.1))) (.bool false)] (by kernel_rfl) (bo_f h6) ?_
  refine RW.nil ?_
  refine WPK.ret (?_)
  obtain rfl := someS hf
  refine Fin.of (rs := [.tmp 4]) hT [] (.bool false) [] rfl (by kernel_rfl) (trivial) ?_
  replace s := s.pick [] 2 rfl
  exact fun X h => vc rfl (h I7 _ s kk)
  have hf := iteF h5 hf
  refine RW.seg hT 11 [] [(48, .bool false)] [.bool false, undef, undef, undef, .bool false, .bool false, undef, undef, undef, .bool false, .bool false] [.veq (.bool (x7)) (.bool false)] (by kernel_rfl) (b_f h5) ?_
  refine RW.nil ?_
  refine WPK.ret (?_)
  obtain rfl := someS hf
  refine Fin.of (rs := [.tmp 4]) hT [] (.bool false) [] rfl (by kernel_rfl) (trivial) ?_
  replace s := s.pick [] 2 rfl
  exact fun X h => vc rfl (h I7 _ s kk)
  refine WPK.region ?_
  obtain ⟨x8, hx6, hf⟩ := bindS hf
  refine RW.op (by kernel_rfl) (OK.call' en9 (by kernel_rfl) (c9 (F := F) eg2 s hx6) ?_)
  intro X7 hX7
  refine fun _ _ hJ => hJ X7 ?_
  clear s
  intro I8 w11 s k11
  refine hX7 _ _ ?_
  replace e1 := e1.st k11
  replace eg2 := eg2.st k11
  replace kk := kk.trans k11
  refine RW.seg hT 1 [] [(14, .bool (decide (¬ (x8 = true))))] [.bool (decide (¬ (x8 = true)))] [.veq (.bool (!x8)) (.bool (decide (¬ (x8 = true))))] (by kernel_rfl) (not_b) ?_
  by_cases h7 : ¬ (x8 = true)
  have hf := iteT h7 hf
  refine RW.seg hT 5 [] [(15, .bool true)] [.bool true, undef, undef, undef, .bool true] [.veq (.bool (decide (¬ (x8 = true)))) (.bool true)] (by kernel_rfl) (bo_t h7) ?_
  refine RW.nil ?_
  exact fun X h => kc (by kernel_rfl) rfl (h I8 true _ hf s kk e1 eg2)
  have hf := iteF h7 hf
  refine RW.seg hT 5 [] [(15, .bool false)] [.bool false, .slice A1 p1.length u1, .int .i64 (p1.length : Int), .bool (decide ((p1.length : Int) > 8)), .bool (decide ((p1.length : Int) > 8))] [.veq (.bool (decide (¬ (x8 = true)))) (.bool false)] (by kernel_rfl) (bo_f h7) ?_
  refine RW.nil ?_
  exact fun X h => kc (by kernel_rfl) rfl (h I8 (decide ((p1.length : Int) > 8)) _ hf s kk e1 eg2)
theorem c13 {w1 w : World} {M I : Nat → Prop} {F : List It} (p0 : (List Int)) (A1 : Option Addr) (u1 : Nat) (hc1 : (p0.length ≤ u1 ∧ u1 ≤ 9223372036854775807)) (e1 : Elems (Rp.int .u8) I w A1 p0) (s : St w1 M I (F) w) {r : (List Int)} (hf : g13 p0 = some r) :
    Ret Tryd.prog 13 [.slice A1 p0.length u1] w fun v wz => ∀ X : Value → World → Prop, (∀ (I' : Nat → Prop) (A2 : Option Addr) (n1 : Nat) (u2 : Nat) (cl1 : List Value) (w' : World), St w1 M I' ((.sl (.slice A2 n1 u2) 5 1 n1 cl1) :: F) w' → Kp I w I' w' → n1 = r.length → RepL (Rp.int .u8) I' w' cl1 r → X (.slice A2 n1 u2) w') → X v wz := by
  have kk : Kp I w I w := Kp.refl
  unfold g13 at hf
  refine Ret.of Tryd.func13 rfl ?_
  refine WPK.seq ?_
  refine WPK.region ?_
  refine RW.seg hT 1 [] [] [.slice none 0 0] [] (by kernel_rfl) (trivial) ?_
  refine RW.nil ?_
  refine WPK.seq ?_
  refine WPK.seq ?_
  refine WPK.region ?_
  refine RW.seg hT 1 [] [] [.slice A1 p0.length u1] [] (by kernel_rfl) (trivial) ?_
  rcases A1 with _ | a1
  have hx1 : p0 = [] := Elems.none_nil e1
  replace hf : (some ([] : List Int)) = some r := by simpa [hx1, appI, List.length_nil] using hf
  refine RW.seg hT 1 [] [] [.bool true] [] (by kernel_rfl) (trivial) ?_
  refine RW.nil ?_
  refine WPK.condT (by kernel_rfl) ?_
  refine WPK.seq ?_
  refine WPK.region ?_
  refine RW.seg hT 1 [] [] [.slice none 0 0] [] (by kernel_rfl) (trivial) ?_
  refine RW.nil ?_
  refine WPK.ret (?_)
  obtain rfl := someS hf
  refine Fin.of (rs := [.tmp 2]) hT [] (.slice none 0 0) [] rfl (by kernel_rfl) (trivial) ?_
  replace s := s.pushNil 5 1
  exact fun X h => vc rfl (h I none 0 0 [] _ s kk rfl (RepL.nil (r := (Rp.int .u8))))
  refine RW.seg hT 1 [] [] [.bool false] [] (by kernel_rfl) (trivial) ?_
  refine RW.nil ?_
  refine WPK.condF (by kernel_rfl) ?_
  refine WPK.skip ?_
  refine WPK.seq ?_
  refine WPK.region ?_
  refine RW.op (by kernel_rfl) (OK.new hT (f := fun b => .slice (some ⟨b, 0, none⟩) 0 0) (cs := []) (e := 5) (c := .tt) s (by kernel_rfl) trivial ?_)
  clear s
  rintro w2 b1 s k1 -
  replace e1 := e1.st k1
  replace kk := kk.trans k1
  have rp1 : RepL (Rp.int .u8) I w2 [] ([] : List Int) := RepL.nil
  replace s : St w1 M I ((.sl (.slice (some ⟨b1, 0, none⟩) 0 0) 5 1 0 []) :: F) w2 := s.blkSl (i := 0) (n := 0) (c := 0) (size := 1) rfl rfl (Nat.le_refl _) (by decide)
  refine RW.seg hT 1 [] [] [.slice (some a1) p0.length u1] [] (by kernel_rfl) (trivial) ?_
  obtain ⟨nw1, hs1, rq1⟩ := Elems.src e1
  obtain ⟨x1, hx2, hf⟩ := bindS hf
  refine RW.op (by kernel_rfl) (OK.app hT (r := (Rp.int .u8)) (i := 0) (t := 24) (e := 5) (size := 1) (bytes := 1) (c := 0) (n := 0) (m := p0.length) s (by kernel_rfl) rfl rfl rfl rfl rfl (by decide) rfl rfl rfl rfl rp1 hs1 rq1 flat_int rfl hx2 ?_)
  clear s
  rintro A3 u3 cl2 w3 s k2 rp2
  replace e1 := e1.st k2
  replace rp1 := rp1.st k2
  replace kk := kk.trans k2
  refine RW.seg hT 1 [] [] [.slice A3 x1.length u3] [] (by kernel_rfl) (trivial) ?_
  refine RW.nil ?_
  refine WPK.ret (?_)
  obtain rfl := someS hf
  refine Fin.of (rs := [.tmp 2]) hT [] (.slice A3 x1.length u3) [] rfl (by kernel_rfl) (trivial) ?_
  exact fun X h => vc rfl (h I A3 x1.length u3 cl2 _ s kk rfl rp2)
end Go.Proofs.YtclnddebhjjpfaaDoor
