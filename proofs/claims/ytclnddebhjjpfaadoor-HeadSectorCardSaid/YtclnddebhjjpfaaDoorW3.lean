/- PRINTED BY sy.py: each call computes what the plain function of its number tells. -/
import Derived.Test.YtclnddebhjjpfaaDoorW2
namespace Go.Proofs.YtclnddebhjjpfaaDoor
open Go Go.SX Go.RowKit
set_option maxRecDepth 100000
set_option linter.unusedVariables false
attribute [local irreducible] WPK RW RD Ret SX.Fin SX.Any opK RoundBeg RoundEnd RangeEnd Rounds
theorem c14 {w1 w : World} {M I : Nat → Prop} {F : List It} (p0 : Int) (p1 : (List Int)) (A1 : Option Addr) (u1 : Nat) (hc1 : (p1.length ≤ u1 ∧ u1 ≤ 9223372036854775807)) (e1 : Elems (Rp.int .u8) I w A1 p1) (s : St w1 M I (F) w) {r : (T_api_Head × Int)} (hf : g14 p0 p1 = some r) :
    Ret Tryd.prog 14 [.int .u64 p0, .slice A1 p1.length u1] w fun v wz => ∀ X : Value → World → Prop, (∀ (I' : Nat → Prop) (A2 : Option Addr) (n1 : Nat) (u2 : Nat) (cl1 : List Value) (A3 : Option Addr) (u3 : Nat) (w' : World), St w1 M I' ((.sl (.slice A2 n1 u2) 3 1 n1 cl1) :: F) w' → Kp I w I' w' → n1 = r.1.Maps.length → RepL (Rp.int .i64) I' w' cl1 r.1.Maps → (r.1.User.length ≤ u3 ∧ u3 ≤ 9223372036854775807) → Elems (Rp.int .u8) I' w' A3 r.1.User → X (.tuple #[.agg #[.int .u64 r.1.Epoch, .int .i64 r.1.Pages, .slice A2 n1 u2, .slice A3 r.1.User.length u3], .int .i64 r.2]) w') → X v wz := by
  have kk : Kp I w I w := Kp.refl
  unfold g14 at hf
  refine Ret.of Tryd.func14 rfl ?_
  refine WPK.seq ?_
  refine WPK.region ?_
  refine RW.op (by kernel_rfl) (OK.new hT (f := fun b => .pointer (some ⟨b, 0, none⟩)) (cs := [.int .u64 0, .int .i64 0, .slice none 0 0, .slice none 0 0]) (e := 28) (c := .tt) s (by kernel_rfl) trivial ?_)
  clear s
  rintro w2 b1 s k1 -
  replace e1 := e1.st k1
  replace kk := kk.trans k1
  refine RW.seg hT 1 [] [] [.int .i64 0] [] (by kernel_rfl) (trivial) ?_
  refine RW.nil ?_
  refine WPK.seq ?_
  refine WPK.region ?_
  refine RW.seg hT 1 [] [] [.slice A1 p1.length u1] [] (by kernel_rfl) (trivial) ?_
  obtain ⟨x1, hx1, hf⟩ := bindS hf
  refine RW.op (by kernel_rfl) (OK.call' en32 (by kernel_rfl) (c32 (F := (.blk b1 (.cells #[.int .u64 0, .int .i64 0, .slice none 0 0, .slice none 0 0] 28 (0, 0))) :: F) p1 A1 u1 hc1 e1 s hx1) ?_)
  intro X1 hX1
  refine fun _ _ hJ => hJ X1 ?_
  clear s
  intro I1 b2 A4 n2 u4 cl2 w3 s k2 hn1 rp1
  refine hX1 _ _ ?_
  replace e1 := e1.st k2
  replace kk := kk.trans k2
  refine RW.seg hT 1 [] [] [.pointer (some ⟨b2, 0, none⟩)] [] (by kernel_rfl) (trivial) ?_
  refine RW.nil ?_
  refine WPK.seq ?_
  refine WPK.region ?_
  refine RW.seg hT 2 [] [] [.int .u64 p0, .pointer (some ⟨b2, 0, none⟩)] [] (by kernel_rfl) (trivial) ?_
  obtain ⟨x2, hx2, hf⟩ := bindS hf
  refine RW.op (by kernel_rfl) (OK.call' en33 (by kernel_rfl) (c33_1 (F := (.blk b1 (.cells #[.int .u64 0, .int .i64 0, .slice none 0 0, .slice none 0 0] 28 (0, 0))) :: F) x1 b2 A4 n2 u4 cl2 hn1 rp1 s hx2) ?_)
  intro X2 hX2
  refine fun _ _ hJ => hJ X2 ?_
  clear s
  intro I2 A5 u5 w4 s k3 hc2 e2
  refine hX2 _ _ ?_
  replace e1 := e1.st k3
  replace rp1 := rp1.st k3
  replace kk := kk.trans k3
  refine RW.seg hT 2 [undef] [] [.int .i64 (IntKind.i64.wrap x2.1), .agg #[.int .u64 p0, .int .i64 (IntKind.i64.wrap x2.1), .slice none 0 0, .slice none 0 0]] [] (by kernel_rfl) (trivial) ?_
  refine RW.op (by kernel_rfl) (OK.new hT (f := fun b => .pointer (some ⟨b, 0, none⟩)) (cs := [.int .u64 0, .int .i64 0, .slice none 0 0, .slice none 0 0]) (e := 28) (c := .tt) s (by kernel_rfl) trivial ?_)
  clear s
  rintro w5 b3 s k4 -
  replace e1 := e1.st k4
  replace e2 := e2.st k4
  replace kk := kk.trans k4
  refine RW.op (by kernel_rfl) (OK.store hT (i := 0) (b := b3) (off := 0) (n := 4) (vs := [.int .u64 p0, .int .i64 (IntKind.i64.wrap x2.1), .slice none 0 0, .slice none 0 0]) (cs := [.int .u64 0, .int .i64 0, .slice none 0 0, .slice none 0 0]) (e := 28) s (by kernel_rfl) rfl rfl (flat_ok rfl) (Nat.le_of_ble_eq_true rfl) ?_)
  clear s
  rintro w6 s k5 -
  replace e1 := e1.st k5
  replace e2 := e2.st k5
  replace kk := kk.trans k5
  refine RW.nil ?_
  refine WPK.seq ?_
  refine WPK.seq ?_
  refine WPK.region ?_
  refine RW.seg hT 1 [] [] [.pointer (some ⟨b2, 0, none⟩)] [] (by kernel_rfl) (trivial) ?_
  replace s := s.pick [1, 0, 2] 3 rfl
  obtain ⟨x3, hx3, hf⟩ := bindS hf
  refine RW.op (by kernel_rfl) (OK.call' en34 (by kernel_rfl) (c34 (F := (.blk b3 (.cells #[.int .u64 p0, .int .i64 (IntKind.i64.wrap x2.1), .slice none 0 0, .slice none 0 0] 28 (0, 0))) :: (.blk b1 (.cells #[.int .u64 0, .int .i64 0, .slice none 0 0, .slice none 0 0] 28 (0, 0))) :: F) x2.2 b2 A5 u5 hc2 e2 s hx3) ?_)
  intro X3 hX3
  refine fun _ _ hJ => hJ X3 ?_
  clear s
  intro I3 A6 u6 w7 s k6 hc3 e3
  refine hX3 _ _ ?_
  replace e1 := e1.st k6
  replace e2 := e2.st k6
  replace kk := kk.trans k6
  refine RW.seg hT 2 [] [] [.int .u8 (if 3 < x3.1 then 3 else x3.1), .int .u8 0] [] (by kernel_rfl) (trivial) ?_
  refine RW.nil ?_
  refine WPK.block ?_
  replace s := s.pushNil 3 1
  replace s := s.pick [1, 2, 3, 0] 4 rfl
  refine WPK.loop' (J := fun n3 D1 ds wz => ∀ X : Kont, (∀ (I4 : Nat → Prop) (x4 : Int) (x5 : (List Int)) (x6 : Int) (x7 : Bool) (x8 : (List Int)) (A7 : Option Addr) (u7 : Nat) (A8 : Option Addr) (u8 : Nat) (cl3 : List Value) (w' : World), g14_l1 p0 p1 x2 x3 n3 x4 x5 x6 x7 x8 = some r → St w1 M I4 ((.blk b2 (.cells #[.slice A7 x5.length u7, .int .i64 x6, .bool x7] 85 (0, 0))) :: (.blk b3 (.cells #[.int .u64 p0, .int .i64 (IntKind.i64.wrap x2.1), .slice A8 x8.length u8, .slice none 0 0] 28 (0, 0))) :: (.blk b1 (.cells #[.int .u64 0, .int .i64 0, .slice none 0 0, .slice none 0 0] 28 (0, 0))) :: (.sl (.slice A8 x8.length u8) 3 1 x8.length cl3) :: F) w' → Kp I w I4 w' → Elems (Rp.int .u8) I4 w' A1 p1 → (x5.length ≤ u7 ∧ u7 ≤ 9223372036854775807) → Elems (Rp.int .u8) I4 w' A7 x5 → RepL (Rp.int .i64) I4 w' cl3 x8 → X [(D1.getD 0 undef), .slice A1 p1.length u1, (D1.getD 2 undef), (D1.getD 3 undef), .pointer (some ⟨b1, 0, none⟩), .int .i64 0, .pointer (some ⟨b2, 0, none⟩), .pointer (some ⟨b3, 0, none⟩), undef, undef, (D1.getD 10 undef), (D1.getD 11 undef), (D1.getD 12 undef), (D1.getD 13 undef), (D1.getD 14 undef), (D1.getD 15 undef), (D1.getD 16 undef), (D1.getD 17 undef), (D1.getD 18 undef), .int .u8 (if 3 < x3.1 then 3 else x3.1), .int .u8 x4, (D1.getD 21 undef), (D1.getD 22 undef), (D1.getD 23 undef), (D1.getD 24 undef), (D1.getD 25 undef), (D1.getD 26 undef), (D1.getD 27 undef), (D1.getD 28 undef), (D1.getD 29 undef), (D1.getD 30 undef), undef, undef, undef, undef, undef, undef, undef, undef, undef, undef, undef, undef, undef, undef, undef, undef, undef, undef, undef, undef, undef, undef] [] w') → X D1 ds wz) FUEL (fun X h => kc (by kernel_rfl) rfl (h I3 0 x3.2.b x3.2.err x3.2.made ([] : List Int) A6 u6 none 0 [] _ hf s kk e1 hc3 e3 (RepL.nil (r := (Rp.int .i64))))) (fun _ _ _ hJ => hJ (fun _ _ _ => False) (by intro I4 x4 x5 x6 x7 x8 A7 u7 A8 u8 cl3 w8 hf s kk e1 hc4 e4 rp2; exact noneS hf)) ?_
  intro X4 hX4
  refine fun n3 D1 _ _ hJ => hJ (X4 n3) ?_
  clear s
  intro I4 x4 x5 x6 x7 x8 A7 u7 A8 u8 cl3 w8 hf s kk e1 hc4 e4 rp2
  refine hX4 _ _ _ _ ?_
  replace hf : g14_l1B p0 p1 x2 x3 (g14_l1 p0 p1 x2 x3 n3) x4 x5 x6 x7 x8 = some r := hf
  generalize hrec1 : g14_l1 p0 p1 x2 x3 n3 = rec1 at hf
  unfold g14_l1B at hf
  refine WPK.seq ?_
  refine WPK.region ?_
  refine RW.seg hT 1 [] [] [.bool (decide (x4 < (if 3 < x3.1 then 3 else x3.1)))] [] (by kernel_rfl) (trivial) ?_
  refine RW.nil ?_
  refine WPK.seq ?_
  by_cases h1 : x4 < (if 3 < x3.1 then 3 else x3.1)
  have hf := iteT h1 hf
  refine WPK.condT (Eq.trans (b := .bool (decide (x4 < (if 3 < x3.1 then 3 else x3.1)))) (by kernel_rfl) (bo_t h1)) ?_
  refine WPK.skip ?_
  refine WPK.seq ?_
  refine WPK.block ?_
  have e1S1 := e1
  have e4S1 := e4
  have rp2S1 := rp2
  have kS1 : Kp I4 w8 I4 w8 := Kp.refl
  refine WPK.drawM (fun w' => ∃ I' : Nat → Prop, St w1 M I' ((.blk b1 (.cells #[.int .u64 0, .int .i64 0, .slice none 0 0, .slice none 0 0] 28 (0, 0))) :: F) w' ∧ Kp I4 w8 I' w') 9 [0, 1, 0, 4, 12, 28, 63, 127, 255] (by kernel_rfl) (by kernel_rfl) ?_
  intro ht1 w9 hd1
  have k7 := Kp.dr s hd1
  replace s := s.dr hd1
  replace e1 := e1.st k7
  replace e4 := e4.st k7
  replace rp2 := rp2.st k7
  replace kk := kk.trans k7
  replace kS1 := kS1.trans k7
  refine RD.segM hT ht1 (by kernel_rfl) [0, 2] [] [] [.pointer (some ⟨b3, 2, none⟩), .pointer (some ⟨b2, 0, none⟩)] [] (by kernel_rfl) (fun _ _ => trivial) ⟨_, s.pick [2] 4 rfl, kS1⟩ ?_
  obtain ⟨x9, hx4, hf⟩ := bindS hf
  refine RD.ways [1, 3] (by kernel_rfl) (List.forall_mem_cons.2 ⟨?_, List.forall_mem_cons.2 ⟨?_, fun _ h => nomatch h⟩⟩)
  refine RWay.op rfl (by kernel_rfl) (OK.pure hT (ld := (.slice A8 x8.length u8)) (v := .slice A8 x8.length u8) (c := .cell ⟨b3, 2, none⟩ (.slice A8 x8.length u8)) (by kernel_rfl) (s.cell (i := 1) (off := 2) rfl rfl) ?_)
  refine ⟨fun _ => ⟨_, s.pick [2] 4 rfl, kS1⟩, RD.fold ?_⟩
  refine RD.op (i := 3) rfl (by kernel_rfl) (by kernel_rfl) (OK.call' en33 (by kernel_rfl) (c33 (F := (.blk b3 (.cells #[.int .u64 p0, .int .i64 (IntKind.i64.wrap x2.1), .slice A8 x8.length u8, .slice none 0 0] 28 (0, 0))) :: (.blk b1 (.cells #[.int .u64 0, .int .i64 0, .slice none 0 0, .slice none 0 0] 28 (0, 0))) :: (.sl (.slice A8 x8.length u8) 3 1 x8.length cl3) :: F) (T_pack_Reader.mk x5 x6 x7) b2 A7 u7 hc4 e4 s hx4) ?_)
  intro X5 hX5
  refine fun _ _ hJ => hJ X5 ?_
  clear s
  intro I5 A9 u9 w10 s k8 hc5 e5
  refine hX5 _ _ ?_
  replace e1 := e1.st k8
  replace e4 := e4.st k8
  replace rp2 := rp2.st k8
  replace kk := kk.trans k8
  replace kS1 := kS1.trans k8
  refine ⟨fun _ => ⟨_, s.pick [2] 4 rfl, kS1⟩, RD.fold ?_⟩
  refine RD.segM hT ht1 (by kernel_rfl) [4] [undef] [] [.int .i64 (IntKind.i64.wrap x9.1)] [] (by kernel_rfl) (fun _ _ => trivial) ⟨_, s.pick [2] 4 rfl, kS1⟩ ?_
  refine RD.op (i := 5) rfl (by kernel_rfl) (by kernel_rfl) (OK.new hT (f := fun b => .slice (some ⟨b, 0, none⟩) 1 1) (cs := [.int .i64 (IntKind.i64.wrap x9.1)]) (e := 3) (c := .tt) s (by kernel_rfl) trivial ?_)
  clear s
  rintro w11 b4 s k9 -
  replace e1 := e1.st k9
  replace e5 := e5.st k9
  replace rp2 := rp2.st k9
  replace kk := kk.trans k9
  replace kS1 := kS1.trans k9
  have rp3 : RepL (Rp.int .i64) I5 w11 [.int .i64 (IntKind.i64.wrap x9.1)] ([IntKind.i64.wrap x9.1] : List Int) := RepL.cons (c := [.int .i64 (IntKind.i64.wrap x9.1)]) (d := []) (rfl) (RepL.nil)
  replace s : St w1 M I5 ((.sl (.slice (some ⟨b4, 0, none⟩) 1 1) 3 1 1 [.int .i64 (IntKind.i64.wrap x9.1)]) :: (.blk b2 (.cells #[.slice A9 x9.2.b.length u9, .int .i64 x9.2.err, .bool x9.2.made] 85 (0, 0))) :: (.blk b3 (.cells #[.int .u64 p0, .int .i64 (IntKind.i64.wrap x2.1), .slice A8 x8.length u8, .slice none 0 0] 28 (0, 0))) :: (.blk b1 (.cells #[.int .u64 0, .int .i64 0, .slice none 0 0, .slice none 0 0] 28 (0, 0))) :: (.sl (.slice A8 x8.length u8) 3 1 x8.length cl3) :: F) w11 := s.blkSl (i := 0) (n := 1) (c := 1) (size := 1) rfl rfl (Nat.le_refl _) (by decide)
  refine ⟨fun _ => ⟨_, s.pick [3] 5 rfl, kS1⟩, RD.fold ?_⟩
  have hs1 := St.src s (i := 0) rfl rfl rp3
  have rq1 := rp3
  obtain ⟨x10, hx5, hf⟩ := bindS hf
  refine RD.op (i := 6) rfl (by kernel_rfl) (by kernel_rfl) (OK.app hT (r := (Rp.int .i64)) (i := 4) (t := 26) (e := 3) (size := 1) (bytes := 8) (c := u8) (n := x8.length) (m := 1) s (by kernel_rfl) rfl rfl rfl rfl rfl (by decide) rfl rfl rfl rfl rp2 hs1 rq1 flat_int rfl hx5 ?_)
  clear s
  rintro A10 u10 cl4 w12 s k10 rp4
  replace e1 := e1.st k10
  replace e5 := e5.st k10
  replace rp3 := rp3.st k10
  replace rp2 := rp2.st k10
  replace kk := kk.trans k10
  replace kS1 := kS1.trans k10
  refine ⟨fun _ => ⟨_, s.pick [3] 5 rfl, kS1⟩, RD.fold ?_⟩
  refine RD.segM hT ht1 (by kernel_rfl) [7] [] [] [.pointer (some ⟨b3, 2, none⟩)] [] (by kernel_rfl) (fun _ _ => trivial) ⟨_, s.pick [3] 5 rfl, kS1⟩ ?_
  refine RD.op (i := 8) rfl (by kernel_rfl) (by kernel_rfl) (OK.store hT (i := 2) (b := b3) (off := 2) (n := 1) (vs := [.slice A10 x10.length u10]) (cs := [.int .u64 p0, .int .i64 (IntKind.i64.wrap x2.1), (.slice A8 x8.length u8), .slice none 0 0]) (e := 28) s (by kernel_rfl) rfl rfl (flat_ok rfl) (Nat.le_of_ble_eq_true rfl) ?_)
  clear s
  rintro w13 s k11 -
  replace e1 := e1.st k11
  replace e5 := e5.st k11
  replace rp3 := rp3.st k11
  replace rp4 := rp4.st k11
  replace kk := kk.trans k11
  replace kS1 := kS1.trans k11
  refine ⟨fun _ => ⟨_, s.pick [3] 5 rfl, kS1⟩, RD.fold ?_⟩
  refine RD.done (by kernel_rfl) ?_
  refine WPK.region ?_
  refine RW.seg hT 2 [] [] [.int .u8 (IntKind.u8.wrap (x4 + 1)), .int .u8 (IntKind.u8.wrap (x4 + 1))] [] (by kernel_rfl) (trivial) ?_
  refine RW.nil ?_
  subst hrec1
  replace s := s.pick [1, 2, 3, 4] 5 rfl
  exact ⟨n3, Nat.le_refl _, fun X h => kc (by kernel_rfl) rfl (h I5 (IntKind.u8.wrap (x4 + 1)) x9.2.b x9.2.err x9.2.made x10 A9 u9 A10 u10 cl4 _ hf s kk e1 hc5 e5 rp4)⟩
  refine RWay.op rfl (by kernel_rfl) (OK.call' en33 (by kernel_rfl) (c33 (F := (.blk b3 (.cells #[.int .u64 p0, .int .i64 (IntKind.i64.wrap x2.1), .slice A8 x8.length u8, .slice none 0 0] 28 (0, 0))) :: (.blk b1 (.cells #[.int .u64 0, .int .i64 0, .slice none 0 0, .slice none 0 0] 28 (0, 0))) :: (.sl (.slice A8 x8.length u8) 3 1 x8.length cl3) :: F) (T_pack_Reader.mk x5 x6 x7) b2 A7 u7 hc4 e4 s hx4) ?_)
  intro X6 hX6
  refine fun _ _ hJ => hJ X6 ?_
  clear s
  intro I6 A11 u11 w14 s k12 hc6 e6
  refine hX6 _ _ ?_
  replace e1 := e1.st k12
  replace e4 := e4.st k12
  replace rp2 := rp2.st k12
  replace kk := kk.trans k12
  replace kS1 := kS1.trans k12
  refine ⟨fun _ => ⟨_, s.pick [2] 4 rfl, kS1⟩, RD.fold ?_⟩
  refine RD.segM hT ht1 (by kernel_rfl) [4] [undef] [] [.int .i64 (IntKind.i64.wrap x9.1)] [] (by kernel_rfl) (fun _ _ => trivial) ⟨_, s.pick [2] 4 rfl, kS1⟩ ?_
  refine RD.ways [1, 5] (by kernel_rfl) (List.forall_mem_cons.2 ⟨?_, List.forall_mem_cons.2 ⟨?_, fun _ h => nomatch h⟩⟩)
  refine RWay.op rfl (by kernel_rfl) (OK.pure hT (ld := (.slice A8 x8.length u8)) (v := .slice A8 x8.length u8) (c := .cell ⟨b3, 2, none⟩ (.slice A8 x8.length u8)) (by kernel_rfl) (s.cell (i := 1) (off := 2) rfl rfl) ?_)
  refine ⟨fun _ => ⟨_, s.pick [2] 4 rfl, kS1⟩, RD.fold ?_⟩
  refine RD.op (i := 5) rfl (by kernel_rfl) (by kernel_rfl) (OK.new hT (f := fun b => .slice (some ⟨b, 0, none⟩) 1 1) (cs := [.int .i64 (IntKind.i64.wrap x9.1)]) (e := 3) (c := .tt) s (by kernel_rfl) trivial ?_)
  clear s
  rintro w15 b5 s k13 -
  replace e1 := e1.st k13
  replace e6 := e6.st k13
  replace rp2 := rp2.st k13
  replace kk := kk.trans k13
  replace kS1 := kS1.trans k13
  have rp5 : RepL (Rp.int .i64) I6 w15 [.int .i64 (IntKind.i64.wrap x9.1)] ([IntKind.i64.wrap x9.1] : List Int) := RepL.cons (c := [.int .i64 (IntKind.i64.wrap x9.1)]) (d := []) (rfl) (RepL.nil)
  replace s : St w1 M I6 ((.sl (.slice (some ⟨b5, 0, none⟩) 1 1) 3 1 1 [.int .i64 (IntKind.i64.wrap x9.1)]) :: (.blk b2 (.cells #[.slice A11 x9.2.b.length u11, .int .i64 x9.2.err, .bool x9.2.made] 85 (0, 0))) :: (.blk b3 (.cells #[.int .u64 p0, .int .i64 (IntKind.i64.wrap x2.1), .slice A8 x8.length u8, .slice none 0 0] 28 (0, 0))) :: (.blk b1 (.cells #[.int .u64 0, .int .i64 0, .slice none 0 0, .slice none 0 0] 28 (0, 0))) :: (.sl (.slice A8 x8.length u8) 3 1 x8.length cl3) :: F) w15 := s.blkSl (i := 0) (n := 1) (c := 1) (size := 1) rfl rfl (Nat.le_refl _) (by decide)
  refine ⟨fun _ => ⟨_, s.pick [3] 5 rfl, kS1⟩, RD.fold ?_⟩
  have hs2 := St.src s (i := 0) rfl rfl rp5
  have rq2 := rp5
  obtain ⟨x11, hx6, hf⟩ := bindS hf
  refine RD.op (i := 6) rfl (by kernel_rfl) (by kernel_rfl) (OK.app hT (r := (Rp.int .i64)) (i := 4) (t := 26) (e := 3) (size := 1) (bytes := 8) (c := u8) (n := x8.length) (m := 1) s (by kernel_rfl) rfl rfl rfl rfl rfl (by decide) rfl rfl rfl rfl rp2 hs2 rq2 flat_int rfl hx6 ?_)
  clear s
  rintro A12 u12 cl5 w16 s k14 rp6
  replace e1 := e1.st k14
  replace e6 := e6.st k14
  replace rp5 := rp5.st k14
  replace rp2 := rp2.st k14
  replace kk := kk.trans k14
  replace kS1 := kS1.trans k14
  refine ⟨fun _ => ⟨_, s.pick [3] 5 rfl, kS1⟩, RD.fold ?_⟩
  refine RD.segM hT ht1 (by kernel_rfl) [7] [] [] [.pointer (some ⟨b3, 2, none⟩)] [] (by kernel_rfl) (fun _ _ => trivial) ⟨_, s.pick [3] 5 rfl, kS1⟩ ?_
  refine RD.op (i := 8) rfl (by kernel_rfl) (by kernel_rfl) (OK.store hT (i := 2) (b := b3) (off := 2) (n := 1) (vs := [.slice A12 x11.length u12]) (cs := [.int .u64 p0, .int .i64 (IntKind.i64.wrap x2.1), (.slice A8 x8.length u8), .slice none 0 0]) (e := 28) s (by kernel_rfl) rfl rfl (flat_ok rfl) (Nat.le_of_ble_eq_true rfl) ?_)
  clear s
  rintro w17 s k15 -
  replace e1 := e1.st k15
  replace e6 := e6.st k15
  replace rp5 := rp5.st k15
  replace rp6 := rp6.st k15
  replace kk := kk.trans k15
  replace kS1 := kS1.trans k15
  refine ⟨fun _ => ⟨_, s.pick [3] 5 rfl, kS1⟩, RD.fold ?_⟩
  refine RD.done (by kernel_rfl) ?_
  refine WPK.region ?_
  refine RW.seg hT 2 [] [] [.int .u8 (IntKind.u8.wrap (x4 + 1)), .int .u8 (IntKind.u8.wrap (x4 + 1))] [] (by kernel_rfl) (trivial) ?_
  refine RW.nil ?_
  subst hrec1
  replace s := s.pick [1, 2, 3, 4] 5 rfl
  exact ⟨n3, Nat.le_refl _, fun X h => kc (by kernel_rfl) rfl (h I6 (IntKind.u8.wrap (x4 + 1)) x9.2.b x9.2.err x9.2.made x11 A11 u11 A12 u12 cl5 _ hf s kk e1 hc6 e6 rp6)⟩
  refine RWay.op rfl (by kernel_rfl) (OK.new hT (f := fun b => .slice (some ⟨b, 0, none⟩) 1 1) (cs := [.int .i64 (IntKind.i64.wrap x9.1)]) (e := 3) (c := .tt) s (by kernel_rfl) trivial ?_)
  clear s
  rintro w15 b5 s k13 -
  replace e1 := e1.st k13
  replace e6 := e6.st k13
  replace rp2 := rp2.st k13
  replace kk := kk.trans k13
  replace kS1 := kS1.trans k13
  have rp5 : RepL (Rp.int .i64) I6 w15 [.int .i64 (IntKind.i64.wrap x9.1)] ([IntKind.i64.wrap x9.1] : List Int) := RepL.cons (c := [.int .i64 (IntKind.i64.wrap x9.1)]) (d := []) (rfl) (RepL.nil)
  replace s : St w1 M I6 ((.sl (.slice (some ⟨b5, 0, none⟩) 1 1) 3 1 1 [.int .i64 (IntKind.i64.wrap x9.1)]) :: (.blk b2 (.cells #[.slice A11 x9.2.b.length u11, .int .i64 x9.2.err, .bool x9.2.made] 85 (0, 0))) :: (.blk b3 (.cells #[.int .u64 p0, .int .i64 (IntKind.i64.wrap x2.1), .slice A8 x8.length u8, .slice none 0 0] 28 (0, 0))) :: (.blk b1 (.cells #[.int .u64 0, .int .i64 0, .slice none 0 0, .slice none 0 0] 28 (0, 0))) :: (.sl (.slice A8 x8.length u8) 3 1 x8.length cl3) :: F) w15 := s.blkSl (i := 0) (n := 1) (c := 1) (size := 1) rfl rfl (Nat.le_refl _) (by decide)
  refine ⟨fun _ => ⟨_, s.pick [3] 5 rfl, kS1⟩, RD.fold ?_⟩
  refine RD.op (i := 1) rfl (by kernel_rfl) (by kernel_rfl) (OK.pure hT (ld := (.slice A8 x8.length u8)) (v := .slice A8 x8.length u8) (c := .cell ⟨b3, 2, none⟩ (.slice A8 x8.length u8)) (by kernel_rfl) (s.cell (i := 2) (off := 2) rfl rfl) ?_)
  refine ⟨fun _ => ⟨_, s.pick [3] 5 rfl, kS1⟩, RD.fold ?_⟩
  have hs3 := St.src s (i := 0) rfl rfl rp5
  have rq3 := rp5
  obtain ⟨x12, hx7, hf⟩ := bindS hf
  refine RD.op (i := 6) rfl (by kernel_rfl) (by kernel_rfl) (OK.app hT (r := (Rp.int .i64)) (i := 4) (t := 26) (e := 3) (size := 1) (bytes := 8) (c := u8) (n := x8.length) (m := 1) s (by kernel_rfl) rfl rfl rfl rfl rfl (by decide) rfl rfl rfl rfl rp2 hs3 rq3 flat_int rfl hx7 ?_)
  clear s
  rintro A13 u13 cl6 w18 s k16 rp7
  replace e1 := e1.st k16
  replace e6 := e6.st k16
  replace rp5 := rp5.st k16
  replace rp2 := rp2.st k16
  replace kk := kk.trans k16
  replace kS1 := kS1.trans k16
  refine ⟨fun _ => ⟨_, s.pick [3] 5 rfl, kS1⟩, RD.fold ?_⟩
  refine RD.segM hT ht1 (by kernel_rfl) [7] [] [] [.pointer (some ⟨b3, 2, none⟩)] [] (by kernel_rfl) (fun _ _ => trivial) ⟨_, s.pick [3] 5 rfl, kS1⟩ ?_
  refine RD.op (i := 8) rfl (by kernel_rfl) (by kernel_rfl) (OK.store hT (i := 2) (b := b3) (off := 2) (n := 1) (vs := [.slice A13 x12.length u13]) (cs := [.int .u64 p0, .int .i64 (IntKind.i64.wrap x2.1), (.slice A8 x8.length u8), .slice none 0 0]) (e := 28) s (by kernel_rfl) rfl rfl (flat_ok rfl) (Nat.le_of_ble_eq_true rfl) ?_)
  clear s
  rintro w19 s k17 -
  replace e1 := e1.st k17
  replace e6 := e6.st k17
  replace rp5 := rp5.st k17
  replace rp7 := rp7.st k17
  replace kk := kk.trans k17
  replace kS1 := kS1.trans k17
  refine ⟨fun _ => ⟨_, s.pick [3] 5 rfl, kS1⟩, RD.fold ?_⟩
  refine RD.done (by kernel_rfl) ?_
  refine WPK.region ?_
  refine RW.seg hT 2 [] [] [.int .u8 (IntKind.u8.wrap (x4 + 1)), .int .u8 (IntKind.u8.wrap (x4 + 1))] [] (by kernel_rfl) (trivial) ?_
  refine RW.nil ?_
  subst hrec1
  replace s := s.pick [1, 2, 3, 4] 5 rfl
  exact ⟨n3, Nat.le_refl _, fun X h => kc (by kernel_rfl) rfl (h I6 (IntKind.u8.wrap (x4 + 1)) x9.2.b x9.2.err x9.2.made x12 A11 u11 A13 u13 cl6 _ hf s kk e1 hc6 e6 rp7)⟩
  have hf := iteF h1 hf
  refine WPK.condF (Eq.trans (b := .bool (decide (x4 < (if 3 < x3.1 then 3 else x3.1)))) (by kernel_rfl) (bo_f h1)) ?_
  refine WPK.exit (blockQ.same ?_)
  refine WPK.seq ?_
  refine WPK.region ?_
  refine RW.seg hT 1 [] [] [.pointer (some ⟨b2, 0, none⟩)] [] (by kernel_rfl) (trivial) ?_
  obtain ⟨x13, hx8, hf⟩ := bindS hf
  refine RW.op (by kernel_rfl) (OK.call' en35 (by kernel_rfl) (c35 (F := (.blk b3 (.cells #[.int .u64 p0, .int .i64 (IntKind.i64.wrap x2.1), .slice A8 x8.length u8, .slice none 0 0] 28 (0, 0))) :: (.blk b1 (.cells #[.int .u64 0, .int .i64 0, .slice none 0 0, .slice none 0 0] 28 (0, 0))) :: (.sl (.slice A8 x8.length u8) 3 1 x8.length cl3) :: F) (T_pack_Reader.mk x5 x6 x7) 32 b2 A7 u7 hc4 e4 s hx8) ?_)
  intro X7 hX7
  refine fun _ _ hJ => hJ X7 ?_
  clear s
  intro I7 A14 u14 A15 u15 w20 s k18 hc7 e7 hc8 e8
  refine hX7 _ _ ?_
  replace e1 := e1.st k18
  replace e4 := e4.st k18
  replace rp2 := rp2.st k18
  replace kk := kk.trans k18
  refine RW.seg hT 1 [] [] [.pointer (some ⟨b3, 3, none⟩)] [] (by kernel_rfl) (trivial) ?_
  refine RW.op (by kernel_rfl) (OK.store hT (i := 1) (b := b3) (off := 3) (n := 1) (vs := [.slice A14 x13.1.length u14]) (cs := [.int .u64 p0, .int .i64 (IntKind.i64.wrap x2.1), .slice A8 x8.length u8, .slice none 0 0]) (e := 28) s (by kernel_rfl) rfl rfl (flat_ok rfl) (Nat.le_of_ble_eq_true rfl) ?_)
  clear s
  rintro w21 s k19 -
  replace e1 := e1.st k19
  replace e7 := e7.st k19
  replace e8 := e8.st k19
  replace rp2 := rp2.st k19
  replace kk := kk.trans k19
  refine RW.nil ?_
  refine WPK.seq ?_
  refine WPK.seq ?_
  refine WPK.region ?_
  refine RW.seg hT 1 [] [] [.pointer (some ⟨b2, 0, none⟩)] [] (by kernel_rfl) (trivial) ?_
  obtain ⟨x14, hx9, hf⟩ := bindS hf
  refine RW.op (by kernel_rfl) (OK.call' en36 (by kernel_rfl) (c36 (F := (.blk b3 (.cells #[.int .u64 p0, .int .i64 (IntKind.i64.wrap x2.1), .slice A8 x8.length u8, .slice A14 x13.1.length u14] 28 (0, 0))) :: (.blk b1 (.cells #[.int .u64 0, .int .i64 0, .slice none 0 0, .slice none 0 0] 28 (0, 0))) :: (.sl (.slice A8 x8.length u8) 3 1 x8.length cl3) :: F) x13.2 b2 A15 u15 hc8 e8 s hx9) ?_)
  intro X8 hX8
  refine fun _ _ hJ => hJ X8 ?_
  clear s
  intro I8 w22 s k20
  refine hX8 _ _ ?_
  replace e1 := e1.st k20
  replace e7 := e7.st k20
  replace e8 := e8.st k20
  replace rp2 := rp2.st k20
  replace kk := kk.trans k20
  refine RW.seg hT 1 [] [(36, .bool (decide (x14 ≠ 0)))] [.bool (decide (x14 ≠ 0))] [.veq (.bool (x14 != 0)) (.bool (decide (x14 ≠ 0)))] (by kernel_rfl) (ne_v) ?_
  refine RW.nil ?_
  by_cases h2 : x14 ≠ 0
  have hf := iteT h2 hf
  refine WPK.condT (Eq.trans (b := .bool (decide (x14 ≠ 0))) (by kernel_rfl) (bo_t h2)) ?_
  refine WPK.seq ?_
  refine WPK.region ?_
  refine RW.seg hT 1 [] [] [.agg #[.int .u64 0, .int .i64 0, .slice none 0 0, .slice none 0 0]] [] (by kernel_rfl) (trivial) ?_
  refine RW.op (by kernel_rfl) (OK.store hT (i := 2) (b := b1) (off := 0) (n := 4) (vs := [.int .u64 0, .int .i64 0, .slice none 0 0, .slice none 0 0]) (cs := [.int .u64 0, .int .i64 0, .slice none 0 0, .slice none 0 0]) (e := 28) s (by kernel_rfl) rfl rfl (flat_ok rfl) (Nat.le_of_ble_eq_true rfl) ?_)
  clear s
  rintro w23 s k21 -
  replace e1 := e1.st k21
  replace e7 := e7.st k21
  replace e8 := e8.st k21
  replace rp2 := rp2.st k21
  replace kk := kk.trans k21
  refine RW.seg hT 1 [] [] [.int .i64 60] [] (by kernel_rfl) (trivial) ?_
  refine RW.nil ?_
  refine WPK.ret (?_)
  obtain rfl := someS hf
  refine Fin.of (rs := [.cell 4 28, .tmp 5]) hT [.agg #[.int .u64 0, .int .i64 0, .slice none 0 0, .slice none 0 0]] (.tuple #[.agg #[.int .u64 0, .int .i64 0, .slice none 0 0, .slice none 0 0], .int .i64 60]) [.cells ⟨b1, 0, none⟩ [.int .u64 0, .int .i64 0, .slice none 0 0, .slice none 0 0] 4] rfl (by kernel_rfl) (s.cells (i := 2) rfl rfl rfl) ?_
  replace s := s.pushNil 3 1
  replace s := s.pick [0] 5 rfl
  exact fun X h => vc rfl (h I8 none 0 0 [] none 0 _ s kk rfl (RepL.nil (r := (Rp.int .i64))) nil_hc Elems.nil)
  have hf := iteF h2 hf
  refine WPK.condF (Eq.trans (b := .bool (decide (x14 ≠ 0))) (by kernel_rfl) (bo_f h2)) ?_
  refine WPK.skip ?_
  refine WPK.seq ?_
  refine WPK.seq ?_
  refine WPK.region ?_
  refine RW.seg hT 1 [.agg #[.int .u64 p0, .int .i64 (IntKind.i64.wrap x2.1), .slice A8 x8.length u8, .slice A14 x13.1.length u14]] [] [.agg #[.int .u64 p0, .int .i64 (IntKind.i64.wrap x2.1), .slice A8 x8.length u8, .slice A14 x13.1.length u14]] [.cells ⟨b3, 0, none⟩ [.int .u64 p0, .int .i64 (IntKind.i64.wrap x2.1), .slice A8 x8.length u8, .slice A14 x13.1.length u14] 4] (by kernel_rfl) (s.cells (i := 1) rfl rfl rfl) ?_
  have sa1 := s
  obtain ⟨hc9, e9⟩ := St.lend s (i := 3) rfl rfl rp2
  have k22 := Kp.shut (I := I8) (w := w22) (p := .sl (.slice A8 x8.length u8) 3 1 x8.length cl3)
  replace s := s.shut 3 rfl
  obtain ⟨x15, hx10, hf⟩ := bindS hf
  refine RW.op (by kernel_rfl) (OK.call' en17 (by kernel_rfl) (c17 (F := (.blk b2 (.cells #[.slice A15 x13.2.b.length u15, .int .i64 x13.2.err, .bool x13.2.made] 85 (0, 0))) :: (.blk b3 (.cells #[.int .u64 p0, .int .i64 (IntKind.i64.wrap x2.1), .slice A8 x8.length u8, .slice A14 x13.1.length u14] 28 (0, 0))) :: (.blk b1 (.cells #[.int .u64 0, .int .i64 0, .slice none 0 0, .slice none 0 0] 28 (0, 0))) :: F) (T_api_Head.mk p0 (IntKind.i64.wrap x2.1) x8 x13.1) A8 u8 A14 u14 hc9 e9 hc7 (e7.st k22) s hx10) ?_)
  intro X9 hX9
  refine fun _ _ hJ => hJ X9 ?_
  clear s
  intro I9 A16 n4 u16 cl7 w24 s k23 hn2 rp8
  refine hX9 _ _ ?_
  have s' := St.back sa1 (i := 3) rfl s k23
  replace k23 := Kp.back sa1 (i := 3) rfl k23
  replace s := s'; clear s'
  obtain ⟨I10, s, k23⟩ : ∃ I : Nat → Prop, St w1 M I ((.sl (.slice A8 x8.length u8) 3 1 x8.length cl3) :: (.sl (.slice A16 n4 u16) 5 1 n4 cl7) :: (.blk b2 (.cells #[.slice A15 x13.2.b.length u15, .int .i64 x13.2.err, .bool x13.2.made] 85 (0, 0))) :: (.blk b3 (.cells #[.int .u64 p0, .int .i64 (IntKind.i64.wrap x2.1), .slice A8 x8.length u8, .slice A14 x13.1.length u14] 28 (0, 0))) :: (.blk b1 (.cells #[.int .u64 0, .int .i64 0, .slice none 0 0, .slice none 0 0] 28 (0, 0))) :: F) w24 ∧ Kp _ _ I _ := ⟨_, s, k23⟩
  replace rp8 := RepL.free (I' := I10) (w' := w24) free_int rp8
  replace e1 := e1.st k23
  replace e7 := e7.st k23
  replace e8 := e8.st k23
  replace rp2 := rp2.st k23
  replace kk := kk.trans k23
  refine RW.seg hT 5 [] [] [.tuple #[.slice A16 n4 u16, .int .i64 x15.2], .slice A16 n4 u16, .int .i64 x15.2, .slice A16 n4 u16, .int .i64 x15.2] [] (by kernel_rfl) (trivial) ?_
  refine RW.nil ?_
  refine WPK.seq ?_
  refine WPK.region ?_
  refine RW.seg hT 2 [] [(44, .bool (decide (x15.2 ≠ 0)))] [.int .i64 x15.2, .bool (decide (x15.2 ≠ 0))] [.veq (.bool (x15.2 != 0)) (.bool (decide (x15.2 ≠ 0)))] (by kernel_rfl) (ne_v) ?_
  by_cases h3 : x15.2 ≠ 0
  have hf := iteT h3 hf
  refine RW.seg hT 6 [] [(45, .bool true)] [.bool true, undef, undef, undef, undef, .bool true] [.veq (.bool (decide (x15.2 ≠ 0))) (.bool true)] (by kernel_rfl) (bo_t h3) ?_
  refine RW.nil ?_
  refine WPK.condT (by kernel_rfl) ?_
  refine WPK.seq ?_
  refine WPK.region ?_
  refine RW.seg hT 1 [] [] [.agg #[.int .u64 0, .int .i64 0, .slice none 0 0, .slice none 0 0]] [] (by kernel_rfl) (trivial) ?_
  refine RW.op (by kernel_rfl) (OK.store hT (i := 4) (b := b1) (off := 0) (n := 4) (vs := [.int .u64 0, .int .i64 0, .slice none 0 0, .slice none 0 0]) (cs := [.int .u64 0, .int .i64 0, .slice none 0 0, .slice none 0 0]) (e := 28) s (by kernel_rfl) rfl rfl (flat_ok rfl) (Nat.le_of_ble_eq_true rfl) ?_)
  clear s
  rintro w25 s k24 -
  replace e1 := e1.st k24
  replace e7 := e7.st k24
  replace e8 := e8.st k24
  replace rp2 := rp2.st k24
  replace rp8 := rp8.st k24
  replace kk := kk.trans k24
  refine RW.seg hT 1 [] [] [.int .i64 60] [] (by kernel_rfl) (trivial) ?_
  refine RW.nil ?_
  refine WPK.ret (?_)
  obtain rfl := someS hf
  refine Fin.of (rs := [.cell 4 28, .tmp 5]) hT [.agg #[.int .u64 0, .int .i64 0, .slice none 0 0, .slice none 0 0]] (.tuple #[.agg #[.int .u64 0, .int .i64 0, .slice none 0 0, .slice none 0 0], .int .i64 60]) [.cells ⟨b1, 0, none⟩ [.int .u64 0, .int .i64 0, .slice none 0 0, .slice none 0 0] 4] rfl (by kernel_rfl) (s.cells (i := 4) rfl rfl rfl) ?_
  replace s := s.pushNil 3 1
  replace s := s.pick [0] 6 rfl
  exact fun X h => vc rfl (h I10 none 0 0 [] none 0 _ s kk rfl (RepL.nil (r := (Rp.int .i64))) nil_hc Elems.nil)
  have hf := iteF h3 hf
  refine RW.seg hT 3 [] [(45, .bool false)] [.bool false, .slice A16 n4 u16, .slice A1 p1.length u1] [.veq (.bool (decide (x15.2 ≠ 0))) (.bool false)] (by kernel_rfl) (bo_f h3) ?_
  have sa2 := s
  obtain ⟨hc10, e10⟩ := St.lend s (i := 1) rfl hn2 rp8
  have k25 := Kp.shut (I := I10) (w := w24) (p := .sl (.slice A16 n4 u16) 5 1 n4 cl7)
  replace s := s.shut 1 rfl
  obtain ⟨x16, hx11, hf⟩ := bindS hf
  have hc11 := c24 (F := (.sl (.slice A8 x8.length u8) 3 1 x8.length cl3) :: (.blk b2 (.cells #[.slice A15 x13.2.b.length u15, .int .i64 x13.2.err, .bool x13.2.made] 85 (0, 0))) :: (.blk b3 (.cells #[.int .u64 p0, .int .i64 (IntKind.i64.wrap x2.1), .slice A8 x8.length u8, .slice A14 x13.1.length u14] 28 (0, 0))) :: (.blk b1 (.cells #[.int .u64 0, .int .i64 0, .slice none 0 0, .slice none 0 0] 28 (0, 0))) :: F) x15.1 p1 A16 u16 A1 u1 hc10 e10 hc1 (e1.st k25) s hx11
  rw [← hn2] at hc11
  refine RW.op (by kernel_rfl) (OK.call' en24 (by kernel_rfl) (hc11) ?_)
  intro X10 hX10
  refine fun _ _ hJ => hJ X10 ?_
  clear s
  intro I11 w26 s k26
  refine hX10 _ _ ?_
  have s' := St.back sa2 (i := 1) rfl s k26
  replace k26 := Kp.back sa2 (i := 1) rfl k26
  replace s := s'; clear s'
  obtain ⟨I12, s, k26⟩ : ∃ I : Nat → Prop, St w1 M I ((.sl (.slice A16 n4 u16) 5 1 n4 cl7) :: (.sl (.slice A8 x8.length u8) 3 1 x8.length cl3) :: (.blk b2 (.cells #[.slice A15 x13.2.b.length u15, .int .i64 x13.2.err, .bool x13.2.made] 85 (0, 0))) :: (.blk b3 (.cells #[.int .u64 p0, .int .i64 (IntKind.i64.wrap x2.1), .slice A8 x8.length u8, .slice A14 x13.1.length u14] 28 (0, 0))) :: (.blk b1 (.cells #[.int .u64 0, .int .i64 0, .slice none 0 0, .slice none 0 0] 28 (0, 0))) :: F) w26 ∧ Kp _ _ I _ := ⟨_, s, k26⟩
  replace e1 := e1.st k26
  replace e7 := e7.st k26
  replace e8 := e8.st k26
  replace rp2 := rp2.st k26
  replace rp8 := rp8.st k26
  replace kk := kk.trans k26
  refine RW.seg hT 2 [] [(49, .bool (decide (¬ (x16 = true))))] [.bool (decide (¬ (x16 = true))), .bool (decide (¬ (x16 = true)))] [.veq (.bool (!x16)) (.bool (decide (¬ (x16 = true))))] (by kernel_rfl) (not_b) ?_
  refine RW.nil ?_
  by_cases h4 : ¬ (x16 = true)
  have hf := iteT h4 hf
  refine WPK.condT (Eq.trans (b := .bool (decide (¬ (x16 = true)))) (by kernel_rfl) (bo_t h4)) ?_
  refine WPK.seq ?_
  refine WPK.region ?_
  refine RW.seg hT 1 [] [] [.agg #[.int .u64 0, .int .i64 0, .slice none 0 0, .slice none 0 0]] [] (by kernel_rfl) (trivial) ?_
  refine RW.op (by kernel_rfl) (OK.store hT (i := 4) (b := b1) (off := 0) (n := 4) (vs := [.int .u64 0, .int .i64 0, .slice none 0 0, .slice none 0 0]) (cs := [.int .u64 0, .int .i64 0, .slice none 0 0, .slice none 0 0]) (e := 28) s (by kernel_rfl) rfl rfl (flat_ok rfl) (Nat.le_of_ble_eq_true rfl) ?_)
  clear s
  rintro w27 s k27 -
  replace e1 := e1.st k27
  replace e7 := e7.st k27
  replace e8 := e8.st k27
  replace rp8 := rp8.st k27
  replace rp2 := rp2.st k27
  replace kk := kk.trans k27
  refine RW.seg hT 1 [] [] [.int .i64 60] [] (by kernel_rfl) (trivial) ?_
  refine RW.nil ?_
  refine WPK.ret (?_)
  obtain rfl := someS hf
  refine Fin.of (rs := [.cell 4 28, .tmp 5]) hT [.agg #[.int .u64 0, .int .i64 0, .slice none 0 0, .slice none 0 0]] (.tuple #[.agg #[.int .u64 0, .int .i64 0, .slice none 0 0, .slice none 0 0], .int .i64 60]) [.cells ⟨b1, 0, none⟩ [.int .u64 0, .int .i64 0, .slice none 0 0, .slice none 0 0] 4] rfl (by kernel_rfl) (s.cells (i := 4) rfl rfl rfl) ?_
  replace s := s.pushNil 3 1
  replace s := s.pick [0] 6 rfl
  exact fun X h => vc rfl (h I12 none 0 0 [] none 0 _ s kk rfl (RepL.nil (r := (Rp.int .i64))) nil_hc Elems.nil)
  have hf := iteF h4 hf
  refine WPK.condF (Eq.trans (b := .bool (decide (¬ (x16 = true)))) (by kernel_rfl) (bo_f h4)) ?_
  refine WPK.skip ?_
  refine WPK.seq ?_
  refine WPK.region ?_
  refine RW.seg hT 1 [.agg #[.int .u64 p0, .int .i64 (IntKind.i64.wrap x2.1), .slice A8 x8.length u8, .slice A14 x13.1.length u14]] [] [.agg #[.int .u64 p0, .int .i64 (IntKind.i64.wrap x2.1), .slice A8 x8.length u8, .slice A14 x13.1.length u14]] [.cells ⟨b3, 0, none⟩ [.int .u64 p0, .int .i64 (IntKind.i64.wrap x2.1), .slice A8 x8.length u8, .slice A14 x13.1.length u14] 4] (by kernel_rfl) (s.cells (i := 3) rfl rfl rfl) ?_
  refine RW.op (by kernel_rfl) (OK.store hT (i := 4) (b := b1) (off := 0) (n := 4) (vs := [.int .u64 p0, .int .i64 (IntKind.i64.wrap x2.1), .slice A8 x8.length u8, .slice A14 x13.1.length u14]) (cs := [.int .u64 0, .int .i64 0, .slice none 0 0, .slice none 0 0]) (e := 28) s (by kernel_rfl) rfl rfl (flat_ok rfl) (Nat.le_of_ble_eq_true rfl) ?_)
  clear s
  rintro w28 s k28 -
  replace e1 := e1.st k28
  replace e7 := e7.st k28
  replace e8 := e8.st k28
  replace rp8 := rp8.st k28
  replace rp2 := rp2.st k28
  replace kk := kk.trans k28
  refine RW.seg hT 1 [] [] [.int .i64 0] [] (by kernel_rfl) (trivial) ?_
  refine RW.nil ?_
  refine WPK.ret (?_)
  obtain rfl := someS hf
  refine Fin.of (rs := [.cell 4 28, .tmp 5]) hT [.agg #[.int .u64 p0, .int .i64 (IntKind.i64.wrap x2.1), .slice A8 x8.length u8, .slice A14 x13.1.length u14]] (.tuple #[.agg #[.int .u64 p0, .int .i64 (IntKind.i64.wrap x2.1), .slice A8 x8.length u8, .slice A14 x13.1.length u14], .int .i64 0]) [.cells ⟨b1, 0, none⟩ [.int .u64 p0, .int .i64 (IntKind.i64.wrap x2.1), .slice A8 x8.length u8, .slice A14 x13.1.length u14] 4] rfl (by kernel_rfl) (s.cells (i := 4) rfl rfl rfl) ?_
  replace s := s.pick [1] 5 rfl
  exact fun X h => vc rfl (h I12 A8 x8.length u8 cl3 A14 u14 _ s kk rfl rp2 hc7 e7)
theorem c30 {w1 w : World} {M I : Nat → Prop} {F : List It} (p0 : Int) (p1 : Int) (p2 : (List Int)) (A1 : Option Addr) (u1 : Nat) (hc1 : (p2.length ≤ u1 ∧ u1 ≤ 9223372036854775807)) (e1 : Elems (Rp.int .u8) I w A1 p2) (eg2 : Elems (Rp.int .u32) I w (some ⟨2, 0, none⟩) TAB2) (s : St w1 M I (F) w) {r : (T_api_Head × Bool)} (hf : g30 p0 p1 p2 = some r) :
    Ret Tryd.prog 30 [.int .i64 p0, .int .i64 p1, .slice A1 p2.length u1] w fun v wz => ∀ X : Value → World → Prop, (∀ (I' : Nat → Prop) (A2 : Option Addr) (n1 : Nat) (u2 : Nat) (cl1 : List Value) (A3 : Option Addr) (u3 : Nat) (w' : World), St w1 M I' ((.sl (.slice A2 n1 u2) 3 1 n1 cl1) :: F) w' → Kp I w I' w' → n1 = r.1.Maps.length → RepL (Rp.int .i64) I' w' cl1 r.1.Maps → (r.1.User.length ≤ u3 ∧ u3 ≤ 9223372036854775807) → Elems (Rp.int .u8) I' w' A3 r.1.User → X (.tuple #[.agg #[.int .u64 r.1.Epoch, .int .i64 r.1.Pages, .slice A2 n1 u2, .slice A3 r.1.User.length u3], .bool r.2]) w') → X v wz := by
  have kk : Kp I w I w := Kp.refl
  unfold g30 at hf
  refine Ret.of Tryd.func30 rfl ?_
  refine WPK.seq ?_
  refine WPK.region ?_
  refine RW.op (by kernel_rfl) (OK.new hT (f := fun b => .pointer (some ⟨b, 0, none⟩)) (cs := [.int .u64 0, .int .i64 0, .slice none 0 0, .slice none 0 0]) (e := 28) (c := .tt) s (by kernel_rfl) trivial ?_)
  clear s
  rintro w2 b1 s k1 -
  replace e1 := e1.st k1
  replace eg2 := eg2.st k1
  replace kk := kk.trans k1
  refine RW.seg hT 1 [] [] [.bool false] [] (by kernel_rfl) (trivial) ?_
  refine RW.nil ?_
  refine WPK.seq ?_
  refine WPK.region ?_
  refine RW.seg hT 2 [] [] [.slice A1 p2.length u1, .int .i64 p1] [] (by kernel_rfl) (trivial) ?_
  refine RW.op (by kernel_rfl) (OK.new hT (f := fun b => .slice (some ⟨b, 0, none⟩) 1 1) (cs := [.int .i64 1]) (e := 3) (c := .tt) s (by kernel_rfl) trivial ?_)
  clear s
  rintro w3 b2 s k2 -
  replace e1 := e1.st k2
  replace eg2 := eg2.st k2
  replace kk := kk.trans k2
  have rp1 : RepL (Rp.int .i64) I w3 [.int .i64 1] ([1] : List Int) := RepL.cons (c := [.int .i64 1]) (d := []) (rfl) (RepL.nil)
  replace s : St w1 M I ((.sl (.slice (some ⟨b2, 0, none⟩) 1 1) 3 1 1 [.int .i64 1]) :: (.blk b1 (.cells #[.int .u64 0, .int .i64 0, .slice none 0 0, .slice none 0 0] 28 (0, 0))) :: F) w3 := s.blkSl (i := 0) (n := 1) (c := 1) (size := 1) rfl rfl (Nat.le_refl _) (by decide)
  refine RW.op (by kernel_rfl) (OK.inl (args := [.slice A1 p2.length u1, .int .i64 p1, .slice (some ⟨b2, 0, none⟩) 1 1]) en52 (by kernel_rfl) ?_)
  intro R1 hR1
  refine Ret.cut (fun v wz => ∀ X : Value → World → Prop, (∀ (I1 : Nat → Prop) (x1 : Int) (x2 : Int) (x3 : Int) (x4 : (List Int)) (x5 : Int) (A4 : Option Addr) (u4 : Nat) (w' : World), g30_j1 p0 p1 x1 x2 x3 x4 x5 = some r → St w1 M I1 ((.blk b1 (.cells #[.int .u64 0, .int .i64 0, .slice none 0 0, .slice none 0 0] 28 (0, 0))) :: F) w' → Kp I w I1 w' → (x4.length ≤ u4 ∧ u4 ≤ 9223372036854775807) → Elems (Rp.int .u8) I1 w' A4 x4 → Elems (Rp.int .u32) I1 w' (some ⟨2, 0, none⟩) TAB2 → X (.tuple #[.agg #[.int .i64 x1, .int .i64 x2, .int .u64 x3, .slice A4 x4.length u4], .int .i64 x5]) w') → X v wz) ?_ ?_
  refine fun _ _ hJ => hJ R1 ?_
  clear s
  intro I1 x1 x2 x3 x4 x5 A4 u4 w4 hf s kk hc2 e2 eg2
  refine hR1 _ _ ?_
  unfold g30_j1 at hf
  refine RW.seg hT 3 [] [] [.tuple #[.agg #[.int .i64 x1, .int .i64 x2, .int .u64 x3, .slice A4 x4.length u4], .int .i64 x5], .agg #[.int .i64 x1, .int .i64 x2, .int .u64 x3, .slice A4 x4.length u4], .int .i64 x5] [] (by kernel_rfl) (trivial) ?_
  refine RW.op (by kernel_rfl) (OK.new hT (f := fun b => .pointer (some ⟨b, 0, none⟩)) (cs := [.int .i64 0, .int .i64 0, .int .u64 0, .slice none 0 0]) (e := 55) (c := .tt) s (by kernel_rfl) trivial ?_)
  clear s
  rintro w5 b3 s k3 -
  replace e2 := e2.st k3
  replace eg2 := eg2.st k3
  replace kk := kk.trans k3
  refine RW.op (by kernel_rfl) (OK.store hT (i := 0) (b := b3) (off := 0) (n := 4) (vs := [.int .i64 x1, .int .i64 x2, .int .u64 x3, .slice A4 x4.length u4]) (cs := [.int .i64 0, .int .i64 0, .int .u64 0, .slice none 0 0]) (e := 55) s (by kernel_rfl) rfl rfl (flat_ok rfl) (Nat.le_of_ble_eq_true rfl) ?_)
  clear s
  rintro w6 s k4 -
  replace e2 := e2.st k4
  replace eg2 := eg2.st k4
  replace kk := kk.trans k4
  refine RW.seg hT 1 [] [] [.int .i64 x5] [] (by kernel_rfl) (trivial) ?_
  refine RW.nil ?_
  refine WPK.seq ?_
  refine WPK.seq ?_
  refine WPK.cut' (Kn fun D1 ds wz => ∀ X : Kont, (∀ (I2 : Nat → Prop) (x6 : Bool) (w' : World), g30_j2 p0 x3 x4 x6 = some r → St w1 M I2 ((.blk b3 (.cells #[.int .i64 x1, .int .i64 x2, .int .u64 x3, .slice A4 x4.length u4] 55 (0, 0))) :: (.blk b1 (.cells #[.int .u64 0, .int .i64 0, .slice none 0 0, .slice none 0 0] 28 (0, 0))) :: F) w' → Kp I w I2 w' → Elems (Rp.int .u8) I2 w' A4 x4 → Elems (Rp.int .u32) I2 w' (some ⟨2, 0, none⟩) TAB2 → X [.int .i64 p0, (D1.getD 1 undef), (D1.getD 2 undef), (D1.getD 3 undef), (D1.getD 4 undef), (D1.getD 5 undef), .pointer (some ⟨b1, 0, none⟩), .bool false, .pointer (some ⟨b3, 0, none⟩), .int .i64 x5, undef, (D1.getD 11 undef), (D1.getD 12 undef), (D1.getD 13 undef), (D1.getD 14 undef), (D1.getD 15 undef), (D1.getD 16 undef), (D1.getD 17 undef), (D1.getD 18 undef), (D1.getD 19 undef), (D1.getD 20 undef), (D1.getD 21 undef), (D1.getD 22 undef), (D1.getD 23 undef), (D1.getD 24 undef), (D1.getD 25 undef), .bool x6, undef, undef, undef, undef, undef, undef, undef, undef, undef, undef, undef, undef, undef, undef, undef, undef, undef, undef] [] w') → X D1 ds wz) ?_ ?_
  intro X1 hX1
  refine fun D1 _ _ hJ => hJ X1 ?_
  clear s
  intro I2 x6 w7 hf s kk e2 eg2
  refine hX1 _ _ _ ?_
  unfold g30_j2 at hf
  by_cases h1 : x6 = true
  have hf := iteT h1 hf
  refine WPK.condT (Eq.trans (b := .bool x6) (by kernel_rfl) (b_t h1)) ?_
  refine WPK.seq ?_
  refine WPK.region ?_
  refine RW.seg hT 1 [] [] [.agg #[.int .u64 0, .int .i64 0, .slice none 0 0, .slice none 0 0]] [] (by kernel_rfl) (trivial) ?_
  refine RW.op (by kernel_rfl) (OK.store hT (i := 1) (b := b1) (off := 0) (n := 4) (vs := [.int .u64 0, .int .i64 0, .slice none 0 0, .slice none 0 0]) (cs := [.int .u64 0, .int .i64 0, .slice none 0 0, .slice none 0 0]) (e := 28) s (by kernel_rfl) rfl rfl (flat_ok rfl) (Nat.le_of_ble_eq_true rfl) ?_)
  clear s
  rintro w8 s k5 -
  replace e2 := e2.st k5
  replace eg2 := eg2.st k5
  replace kk := kk.trans k5
  refine RW.seg hT 1 [] [] [.bool false] [] (by kernel_rfl) (trivial) ?_
  refine RW.nil ?_
  refine WPK.ret (?_)
  obtain rfl := someS hf
  refine Fin.of (rs := [.cell 6 28, .tmp 7]) hT [.agg #[.int .u64 0, .int .i64 0, .slice none 0 0, .slice none 0 0]] (.tuple #[.agg #[.int .u64 0, .int .i64 0, .slice none 0 0, .slice none 0 0], .bool false]) [.cells ⟨b1, 0, none⟩ [.int .u64 0, .int .i64 0, .slice none 0 0, .slice none 0 0] 4] rfl (by kernel_rfl) (s.cells (i := 1) rfl rfl rfl) ?_
  replace s := s.pushNil 3 1
  replace s := s.pick [0] 3 rfl
  exact fun X h => vc rfl (h I2 none 0 0 [] none 0 _ s kk rfl (RepL.nil (r := (Rp.int .i64))) nil_hc Elems.nil)
  have hf := iteF h1 hf
  refine WPK.condF (Eq.trans (b := .bool x6) (by kernel_rfl) (b_f h1)) ?_
  refine WPK.skip ?_
  refine WPK.seq ?_
  refine WPK.region ?_
  refine RW.seg hT 4 [.int .u64 x3, .slice A4 x4.length u4] [] [.pointer (some ⟨b3, 2, none⟩), .int .u64 x3, .pointer (some ⟨b3, 3, none⟩), .slice A4 x4.length u4] [.cell ⟨b3, 2, none⟩ (.int .u64 x3), .cell ⟨b3, 3, none⟩ (.slice A4 x4.length u4)] (by kernel_rfl) (⟨s.cell (i := 0) (off := 2) rfl rfl, s.cell (i := 0) (off := 3) rfl rfl⟩) ?_
  obtain ⟨x7, hx1, hf⟩ := bindS hf
  refine RW.op (by kernel_rfl) (OK.call' en14 (by kernel_rfl) (c14 (F := (.blk b3 (.cells #[.int .i64 x1, .int .i64 x2, .int .u64 x3, .slice A4 x4.length u4] 55 (0, 0))) :: (.blk b1 (.cells #[.int .u64 0, .int .i64 0, .slice none 0 0, .slice none 0 0] 28 (0, 0))) :: F) x3 x4 A4 u4 hc2 e2 s hx1) ?_)
  intro X2 hX2
  refine fun _ _ hJ => hJ X2 ?_
  clear s
  intro I3 A5 n2 u5 cl2 A6 u6 w9 s k6 hn1 rp2 hc3 e3
  refine hX2 _ _ ?_
  replace e2 := e2.st k6
  replace eg2 := eg2.st k6
  replace kk := kk.trans k6
  refine RW.seg hT 3 [] [] [.tuple #[.agg #[.int .u64 x7.1.Epoch, .int .i64 x7.1.Pages, .slice A5 n2 u5, .slice A6 x7.1.User.length u6], .int .i64 x7.2], .agg #[.int .u64 x7.1.Epoch, .int .i64 x7.1.Pages, .slice A5 n2 u5, .slice A6 x7.1.User.length u6], .int .i64 x7.2] [] (by kernel_rfl) (trivial) ?_
  refine RW.op (by kernel_rfl) (OK.new hT (f := fun b => .pointer (some ⟨b, 0, none⟩)) (cs := [.int .u64 0, .int .i64 0, .slice none 0 0, .slice none 0 0]) (e := 28) (c := .tt) s (by kernel_rfl) trivial ?_)
  clear s
  rintro w10 b4 s k7 -
  replace e3 := e3.st k7
  replace e2 := e2.st k7
  replace rp2 := rp2.st k7
  replace eg2 := eg2.st k7
  replace kk := kk.trans k7
  refine RW.op (by kernel_rfl) (OK.store hT (i := 0) (b := b4) (off := 0) (n := 4) (vs := [.int .u64 x7.1.Epoch, .int .i64 x7.1.Pages, .slice A5 n2 u5, .slice A6 x7.1.User.length u6]) (cs := [.int .u64 0, .int .i64 0, .slice none 0 0, .slice none 0 0]) (e := 28) s (by kernel_rfl) rfl rfl (flat_ok rfl) (Nat.le_of_ble_eq_true rfl) ?_)
  clear s
  rintro w11 s k8 -
  replace e3 := e3.st k8
  replace e2 := e2.st k8
  replace rp2 := rp2.st k8
  replace eg2 := eg2.st k8
  replace kk := kk.trans k8
  refine RW.seg hT 1 [] [] [.int .i64 x7.2] [] (by kernel_rfl) (trivial) ?_
  refine RW.nil ?_
  refine WPK.seq ?_
  have e3S1 := e3
  have e2S1 := e2
  have rp2S1 := rp2
  have eg2S18799 := eg2
  have kS1 : Kp I3 w11 I3 w11 := Kp.refl
  refine WPK.drawM (fun w' => ∃ I' : Nat → Prop, St w1 M I' ((.blk b4 (.cells #[.int .u64 x7.1.Epoch, .int .i64 x7.1.Pages, .slice A5 n2 u5, .slice A6 x7.1.User.length u6] 28 (0, 0))) :: (.sl (.slice A5 n2 u5) 3 1 n2 cl2) :: (.blk b3 (.cells #[.int .i64 x1, .int .i64 x2, .int .u64 x3, .slice A4 x4.length u4] 55 (0, 0))) :: F) w' ∧ Kp I3 w11 I' w') 11 [0, 0, 2, 6, 14, 30, 14, 126, 254, 15, 1023] (by kernel_rfl) (by kernel_rfl) ?_
  intro ht1 w12 hd1
  have k9 := Kp.dr s hd1
  replace s := s.dr hd1
  replace e3 := e3.st k9
  replace e2 := e2.st k9
  replace rp2 := rp2.st k9
  replace eg2 := eg2.st k9
  replace kk := kk.trans k9
  replace kS1 := kS1.trans k9
  refine RD.segM hT ht1 (by kernel_rfl) [0, 1, 2] [.agg #[.int .u64 x7.1.Epoch, .int .i64 x7.1.Pages, .slice A5 n2 u5, .slice A6 x7.1.User.length u6]] [(38, .bool (decide (x7.2 = 0)))] [.agg #[.int .u64 x7.1.Epoch, .int .i64 x7.1.Pages, .slice A5 n2 u5, .slice A6 x7.1.User.length u6], .int .i64 x7.2, .bool (decide (x7.2 = 0))] [.cells ⟨b4, 0, none⟩ [.int .u64 x7.1.Epoch, .int .i64 x7.1.Pages, .slice A5 n2 u5, .slice A6 x7.1.User.length u6] 4, .veq (.bool (x7.2 == 0)) (.bool (decide (x7.2 = 0)))] (by kernel_rfl) (by rintro w' ⟨I', s, k⟩; have e3 := e3S1.st k; have e2 := e2S1.st k; have rp2 := rp2S1.st k; have eg2 := eg2S18799.st k; exact ⟨s.cells (i := 0) rfl rfl rfl, eq_v⟩) ⟨_, s.pick [0, 1, 2] 4 rfl, kS1⟩ ?_
  by_cases h2 : x7.2 = 0
  have hf := iteT h2 hf
  refine RD.segM hT ht1 (by kernel_rfl) [3, 4, 5, 6, 7, 8] [.int .i64 x7.1.Pages] [(39, .bool true), (43, .bool (decide (x7.1.Pages = p0)))] [.bool true, .pointer (some ⟨b4, 1, none⟩), .int .i64 x7.1.Pages, .int .i64 p0, .bool (decide (x7.1.Pages = p0)), .bool (decide (x7.1.Pages = p0))] [.veq (.bool (decide (x7.2 = 0))) (.bool true), .cell ⟨b4, 1, none⟩ (.int .i64 x7.1.Pages), .veq (.bool (x7.1.Pages == p0)) (.bool (decide (x7.1.Pages = p0)))] (by kernel_rfl) (by rintro w' ⟨I', s, k⟩; have e3 := e3S1.st k; have e2 := e2S1.st k; have rp2 := rp2S1.st k; have eg2 := eg2S18799.st k; exact ⟨bo_t h2, s.cell (i := 0) (off := 1) rfl rfl, eq_v⟩) ⟨_, s.pick [0, 1, 2] 4 rfl, kS1⟩ ?_
  refine RD.op (i := 9) rfl (by kernel_rfl) (by kernel_rfl) (OK.store hT (i := 3) (b := b1) (off := 0) (n := 4) (vs := [.int .u64 x7.1.Epoch, .int .i64 x7.1.Pages, .slice A5 n2 u5, .slice A6 x7.1.User.length u6]) (cs := [.int .u64 0, .int .i64 0, .slice none 0 0, .slice none 0 0]) (e := 28) s (by kernel_rfl) rfl rfl (flat_ok rfl) (Nat.le_of_ble_eq_true rfl) ?_)
  clear s
  rintro w13 s k10 -
  replace e3 := e3.st k10
  replace e2 := e2.st k10
  replace rp2 := rp2.st k10
  replace eg2 := eg2.st k10
  replace kk := kk.trans k10
  replace kS1 := kS1.trans k10
  refine ⟨fun _ => ⟨_, s.pick [0, 1, 2] 4 rfl, kS1⟩, RD.fold ?_⟩
  refine RD.segM hT ht1 (by kernel_rfl) [10] [] [] [.bool (decide (x7.1.Pages = p0))] [] (by kernel_rfl) (fun _ _ => trivial) ⟨_, s.pick [0, 1, 2] 4 rfl, kS1⟩ ?_
  refine RD.done (by kernel_rfl) ?_
  refine WPK.ret (?_)
  obtain rfl := someS hf
  refine Fin.of (rs := [.cell 6 28, .tmp 7]) hT [.agg #[.int .u64 x7.1.Epoch, .int .i64 x7.1.Pages, .slice A5 n2 u5, .slice A6 x7.1.User.length u6]] (.tuple #[.agg #[.int .u64 x7.1.Epoch, .int .i64 x7.1.Pages, .slice A5 n2 u5, .slice A6 x7.1.User.length u6], .bool (decide (x7.1.Pages = p0))]) [.cells ⟨b1, 0, none⟩ [.int .u64 x7.1.Epoch, .int .i64 x7.1.Pages, .slice A5 n2 u5, .slice A6 x7.1.User.length u6] 4] rfl (by kernel_rfl) (s.cells (i := 3) rfl rfl rfl) ?_
  replace s := s.pick [1] 4 rfl
  exact fun X h => vc rfl (h I3 A5 n2 u5 cl2 A6 u6 _ s kk hn1 rp2 hc3 e3)
  have hf := iteF h2 hf
  refine RD.segM hT ht1 (by kernel_rfl) [3, 4, 5, 6, 7, 8] [] [(39, .bool false)] [.bool false, undef, undef, undef, undef, .bool false] [.veq (.bool (decide (x7.2 = 0))) (.bool false)] (by kernel_rfl) (by rintro w' ⟨I', s, k⟩; have e3 := e3S1.st k; have e2 := e2S1.st k; have rp2 := rp2S1.st k; have eg2 := eg2S18799.st k; exact bo_f h2) ⟨_, s.pick [0, 1, 2] 4 rfl, kS1⟩ ?_
  refine RD.op (i := 9) rfl (by kernel_rfl) (by kernel_rfl) (OK.store hT (i := 3) (b := b1) (off := 0) (n := 4) (vs := [.int .u64 x7.1.Epoch, .int .i64 x7.1.Pages, .slice A5 n2 u5, .slice A6 x7.1.User.length u6]) (cs := [.int .u64 0, .int .i64 0, .slice none 0 0, .slice none 0 0]) (e := 28) s (by kernel_rfl) rfl rfl (flat_ok rfl) (Nat.le_of_ble_eq_true rfl) ?_)
  clear s
  rintro w14 s k11 -
  replace e3 := e3.st k11
  replace e2 := e2.st k11
  replace rp2 := rp2.st k11
  replace eg2 := eg2.st k11
  replace kk := kk.trans k11
  replace kS1 := kS1.trans k11
  refine ⟨fun _ => ⟨_, s.pick [0, 1, 2] 4 rfl, kS1⟩, RD.fold ?_⟩
  refine RD.segM hT ht1 (by kernel_rfl) [10] [] [] [.bool false] [] (by kernel_rfl) (fun _ _ => trivial) ⟨_, s.pick [0, 1, 2] 4 rfl, kS1⟩ ?_
  refine RD.done (by kernel_rfl) ?_
  refine WPK.ret (?_)
  obtain rfl := someS hf
  refine Fin.of (rs := [.cell 6 28, .tmp 7]) hT [.agg #[.int .u64 x7.1.Epoch, .int .i64 x7.1.Pages, .slice A5 n2 u5, .slice A6 x7.1.User.length u6]] (.tuple #[.agg #[.int .u64 x7.1.Epoch, .int .i64 x7.1.Pages, .slice A5 n2 u5, .slice A6 x7.1.User.length u6], .bool false]) [.cells ⟨b1, 0, none⟩ [.int .u64 x7.1.Epoch, .int .i64 x7.1.Pages, .slice A5 n2 u5, .slice A6 x7.1.User.length u6] 4] rfl (by kernel_rfl) (s.cells (i := 3) rfl rfl rfl) ?_
  replace s := s.pick [1] 4 rfl
  exact fun X h => vc rfl (h I3 A5 n2 u5 cl2 A6 u6 _ s kk hn1 rp2 hc3 e3)
  refine WPK.region ?_
  refine RW.seg hT 2 [] [(19, .bool (decide (x5 ≠ 0)))] [.int .i64 x5, .bool (decide (x5 ≠ 0))] [.veq (.bool (x5 != 0)) (.bool (decide (x5 ≠ 0)))] (by kernel_rfl) (ne_v) ?_
  by_cases h3 : x5 ≠ 0
  have hf := iteT h3 hf
  refine RW.seg hT 7 [] [(20, .bool true)] [.bool true, undef, undef, undef, undef, undef, .bool true] [.veq (.bool (decide (x5 ≠ 0))) (.bool true)] (by kernel_rfl) (bo_t h3) ?_
  refine RW.nil ?_
  exact fun X h => kc (by kernel_rfl) rfl (h I1 true _ hf s kk e2 eg2)
  have hf := iteF h3 hf
  refine RW.seg hT 3 [.int .u64 x3] [(20, .bool false)] [.bool false, .pointer (some ⟨b3, 2, none⟩), .int .u64 x3] [.veq (.bool (decide (x5 ≠ 0))) (.bool false), .cell ⟨b3, 2, none⟩ (.int .u64 x3)] (by kernel_rfl) (⟨bo_f h3, s.cell (i := 0) (off := 2) rfl rfl⟩) ?_
  obtain ⟨x8, hx2, hf⟩ := bindS hf
  refine RW.op (by kernel_rfl) (OK.call' en25 (by kernel_rfl) (c25 (F := (.blk b3 (.cells #[.int .i64 x1, .int .i64 x2, .int .u64 x3, .slice A4 x4.length u4] 55 (0, 0))) :: (.blk b1 (.cells #[.int .u64 0, .int .i64 0, .slice none 0 0, .slice none 0 0] 28 (0, 0))) :: F) x3 s hx2) ?_)
  intro X3 hX3
  refine fun _ _ hJ => hJ X3 ?_
  clear s
  intro I4 w15 s k12
  refine hX3 _ _ ?_
  replace e2 := e2.st k12
  replace eg2 := eg2.st k12
  replace kk := kk.trans k12
  refine RW.seg hT 3 [] [(25, .bool (decide (x8 ≠ p1)))] [.int .i64 p1, .bool (decide (x8 ≠ p1)), .bool (decide (x8 ≠ p1))] [.veq (.bool (x8 != p1)) (.bool (decide (x8 ≠ p1)))] (by kernel_rfl) (ne_v) ?_
  refine RW.nil ?_
  exact fun X h => kc (by kernel_rfl) rfl (h I4 (decide (x8 ≠ p1)) _ hf s kk e2 eg2)
  refine Ret.of Tryd.func52 rfl ?_
  refine WPK.seq ?_
  refine WPK.region ?_
  refine RW.op (by kernel_rfl) (OK.new hT (f := fun b => .pointer (some ⟨b, 0, none⟩)) (cs := [.int .i64 0, .int .i64 0, .int .u64 0, .slice none 0 0]) (e := 55) (c := .tt) s (by kernel_rfl) trivial ?_)
  clear s
  rintro w16 b5 s k13 -
  replace e1 := e1.st k13
  replace rp1 := rp1.st k13
  replace eg2 := eg2.st k13
  replace kk := kk.trans k13
  refine RW.seg hT 1 [] [] [.int .i64 0] [] (by kernel_rfl) (trivial) ?_
  refine RW.nil ?_
  refine WPK.seq ?_
  refine WPK.region ?_
  refine RW.seg hT 2 [] [] [.slice A1 p2.length u1, .int .i64 p1] [] (by kernel_rfl) (trivial) ?_
  obtain ⟨x9, hx3, hf⟩ := bindS hf
  refine RW.op (by kernel_rfl) (OK.call' en70 (by kernel_rfl) (c70 (F := (.blk b5 (.cells #[.int .i64 0, .int .i64 0, .int .u64 0, .slice none 0 0] 55 (0, 0))) :: (.sl (.slice (some ⟨b2, 0, none⟩) 1 1) 3 1 1 [.int .i64 1]) :: (.blk b1 (.cells #[.int .u64 0, .int .i64 0, .slice none 0 0, .slice none 0 0] 28 (0, 0))) :: F) p2 p1 A1 u1 hc1 e1 eg2 s hx3) ?_)
  intro X4 hX4
  refine fun _ _ hJ => hJ X4 ?_
  clear s
  intro I5 A7 u7 w17 s k14 hc4 e4
  refine hX4 _ _ ?_
  replace e1 := e1.st k14
  replace rp1 := rp1.st k14
  replace eg2 := eg2.st k14
  replace kk := kk.trans k14
  refine RW.seg hT 3 [] [] [.tuple #[.agg #[.int .i64 x9.1.Kind, .int .i64 x9.1.Page, .int .u64 x9.1.Epoch, .slice A7 x9.1.Data.length u7], .int .i64 x9.2], .agg #[.int .i64 x9.1.Kind, .int .i64 x9.1.Page, .int .u64 x9.1.Epoch, .slice A7 x9.1.Data.length u7], .int .i64 x9.2] [] (by kernel_rfl) (trivial) ?_
  refine RW.op (by kernel_rfl) (OK.new hT (f := fun b => .pointer (some ⟨b, 0, none⟩)) (cs := [.int .i64 0, .int .i64 0, .int .u64 0, .slice none 0 0]) (e := 55) (c := .tt) s (by kernel_rfl) trivial ?_)
  clear s
  rintro w18 b6 s k15 -
  replace e1 := e1.st k15
  replace e4 := e4.st k15
  replace rp1 := rp1.st k15
  replace eg2 := eg2.st k15
  replace kk := kk.trans k15
  refine RW.op (by kernel_rfl) (OK.store hT (i := 0) (b := b6) (off := 0) (n := 4) (vs := [.int .i64 x9.1.Kind, .int .i64 x9.1.Page, .int .u64 x9.1.Epoch, .slice A7 x9.1.Data.length u7]) (cs := [.int .i64 0, .int .i64 0, .int .u64 0, .slice none 0 0]) (e := 55) s (by kernel_rfl) rfl rfl (flat_ok rfl) (Nat.le_of_ble_eq_true rfl) ?_)
  clear s
  rintro w19 s k16 -
  replace e1 := e1.st k16
  replace e4 := e4.st k16
  replace rp1 := rp1.st k16
  replace eg2 := eg2.st k16
  replace kk := kk.trans k16
  refine RW.seg hT 1 [] [] [.int .i64 x9.2] [] (by kernel_rfl) (trivial) ?_
  refine RW.nil ?_
  refine WPK.seq ?_
  refine WPK.cut' (Kn fun D2 ds wz => ∀ X : Kont, (∀ (I6 : Nat → Prop) (w' : World), g30_j3 p0 p1 x9 = some r → St w1 M I6 ((.blk b6 (.cells #[.int .i64 x9.1.Kind, .int .i64 x9.1.Page, .int .u64 x9.1.Epoch, .slice A7 x9.1.Data.length u7] 55 (0, 0))) :: (.blk b5 (.cells #[.int .i64 0, .int .i64 0, .int .u64 0, .slice none 0 0] 55 (0, 0))) :: (.blk b1 (.cells #[.int .u64 0, .int .i64 0, .slice none 0 0, .slice none 0 0] 28 (0, 0))) :: F) w' → Kp I w I6 w' → Elems (Rp.int .u8) I6 w' A7 x9.1.Data → Elems (Rp.int .u32) I6 w' (some ⟨2, 0, none⟩) TAB2 → X [(D2.getD 0 undef), (D2.getD 1 undef), (D2.getD 2 undef), (D2.getD 3 undef), (D2.getD 4 undef), (D2.getD 5 undef), .pointer (some ⟨b5, 0, none⟩), .int .i64 0, .pointer (some ⟨b6, 0, none⟩), .int .i64 x9.2, (D2.getD 10 undef), (D2.getD 11 undef), (D2.getD 12 undef), (D2.getD 13 undef), (D2.getD 14 undef), (D2.getD 15 undef), (D2.getD 16 undef), (D2.getD 17 undef), (D2.getD 18 undef), (D2.getD 19 undef), (D2.getD 20 undef), (D2.getD 21 undef), (D2.getD 22 undef), (D2.getD 23 undef), (D2.getD 24 undef), (D2.getD 25 undef), undef, undef] [] w') → X D2 ds wz) ?_ ?_
  intro X5 hX5
  refine fun D2 _ _ hJ => hJ X5 ?_
  clear s
  intro I6 w20 hf s kk e4 eg2
  refine hX5 _ _ _ ?_
  unfold g30_j3 at hf
  refine WPK.seq ?_
  refine WPK.region ?_
  refine RW.seg hT 2 [.agg #[.int .i64 x9.1.Kind, .int .i64 x9.1.Page, .int .u64 x9.1.Epoch, .slice A7 x9.1.Data.length u7]] [] [.agg #[.int .i64 x9.1.Kind, .int .i64 x9.1.Page, .int .u64 x9.1.Epoch, .slice A7 x9.1.Data.length u7], .int .i64 x9.2] [.cells ⟨b6, 0, none⟩ [.int .i64 x9.1.Kind, .int .i64 x9.1.Page, .int .u64 x9.1.Epoch, .slice A7 x9.1.Data.length u7] 4] (by kernel_rfl) (s.cells (i := 0) rfl rfl rfl) ?_
  refine RW.op (by kernel_rfl) (OK.store hT (i := 1) (b := b5) (off := 0) (n := 4) (vs := [.int .i64 x9.1.Kind, .int .i64 x9.1.Page, .int .u64 x9.1.Epoch, .slice A7 x9.1.Data.length u7]) (cs := [.int .i64 0, .int .i64 0, .int .u64 0, .slice none 0 0]) (e := 55) s (by kernel_rfl) rfl rfl (flat_ok rfl) (Nat.le_of_ble_eq_true rfl) ?_)
  clear s
  rintro w21 s k17 -
  replace e4 := e4.st k17
  replace eg2 := eg2.st k17
  replace kk := kk.trans k17
  refine RW.seg hT 1 [] [] [.int .i64 x9.2] [] (by kernel_rfl) (trivial) ?_
  refine RW.nil ?_
  refine WPK.ret (?_)
  refine Fin.of (rs := [.cell 6 55, .tmp 7]) hT [.agg #[.int .i64 x9.1.Kind, .int .i64 x9.1.Page, .int .u64 x9.1.Epoch, .slice A7 x9.1.Data.length u7]] (.tuple #[.agg #[.int .i64 x9.1.Kind, .int .i64 x9.1.Page, .int .u64 x9.1.Epoch, .slice A7 x9.1.Data.length u7], .int .i64 x9.2]) [.cells ⟨b5, 0, none⟩ [.int .i64 x9.1.Kind, .int .i64 x9.1.Page, .int .u64 x9.1.Epoch, .slice A7 x9.1.Data.length u7] 4] rfl (by kernel_rfl) (s.cells (i := 1) rfl rfl rfl) ?_
  replace s := s.pick [2] 3 rfl
  exact fun X h => vc rfl (h I6 x9.1.Kind x9.1.Page x9.1.Epoch x9.1.Data x9.2 A7 u7 _ hf s kk hc4 e4 eg2)
  refine WPK.seq ?_
  refine WPK.region ?_
  refine RW.seg hT 2 [] [(17, .bool (decide (x9.2 = 0)))] [.int .i64 x9.2, .bool (decide (x9.2 = 0))] [.veq (.bool (x9.2 == 0)) (.bool (decide (x9.2 = 0)))] (by kernel_rfl) (eq_v) ?_
  by_cases h4 : x9.2 = 0
  have hf := iteT h4 hf
  refine RW.seg hT 4 [.int .i64 x9.1.Kind] [(18, .bool true)] [.bool true, .slice (some ⟨b2, 0, none⟩) 1 1, .pointer (some ⟨b6, 0, none⟩), .int .i64 x9.1.Kind] [.veq (.bool (decide (x9.2 = 0))) (.bool true), .cell ⟨b6, 0, none⟩ (.int .i64 x9.1.Kind)] (by kernel_rfl) (⟨bo_t h4, s.cell (i := 0) (off := 0) rfl rfl⟩) ?_
  have sa1 := s
  obtain ⟨hc5, e5⟩ := St.lend s (i := 2) rfl rfl rp1
  have k18 := Kp.shut (I := I5) (w := w19) (p := .sl (.slice (some ⟨b2, 0, none⟩) 1 1) 3 1 1 [.int .i64 1])
  replace s := s.shut 2 rfl
  obtain ⟨x10, hx4, hf⟩ := bindS hf
  refine RW.op (by kernel_rfl) (OK.call' en65 (by kernel_rfl) (c65 (F := (.blk b6 (.cells #[.int .i64 x9.1.Kind, .int .i64 x9.1.Page, .int .u64 x9.1.Epoch, .slice A7 x9.1.Data.length u7] 55 (0, 0))) :: (.blk b5 (.cells #[.int .i64 0, .int .i64 0, .int .u64 0, .slice none 0 0] 55 (0, 0))) :: (.blk b1 (.cells #[.int .u64 0, .int .i64 0, .slice none 0 0, .slice none 0 0] 28 (0, 0))) :: F) ([1] : List Int) x9.1.Kind (some ⟨b2, 0, none⟩) 1 hc5 e5 s hx4) ?_)
  intro X6 hX6
  refine fun _ _ hJ => hJ X6 ?_
  clear s
  intro I7 w22 s k19
  refine hX6 _ _ ?_
  have s' := St.back sa1 (i := 2) rfl s k19
  replace k19 := Kp.back sa1 (i := 2) rfl k19
  replace s := s'; clear s'
  obtain ⟨I8, s, k19⟩ : ∃ I : Nat → Prop, St w1 M I ((.sl (.slice (some ⟨b2, 0, none⟩) 1 1) 3 1 1 [.int .i64 1]) :: (.blk b6 (.cells #[.int .i64 x9.1.Kind, .int .i64 x9.1.Page, .int .u64 x9.1.Epoch, .slice A7 x9.1.Data.length u7] 55 (0, 0))) :: (.blk b5 (.cells #[.int .i64 0, .int .i64 0, .int .u64 0, .slice none 0 0] 55 (0, 0))) :: (.blk b1 (.cells #[.int .u64 0, .int .i64 0, .slice none 0 0, .slice none 0 0] 28 (0, 0))) :: F) w22 ∧ Kp _ _ I _ := ⟨_, s, k19⟩
  replace e1 := e1.st k19
  replace e4 := e4.st k19
  replace eg2 := eg2.st k19
  replace rp1 := rp1.st k19
  replace kk := kk.trans k19
  refine RW.seg hT 2 [] [(23, .bool (decide (¬ (x10 = true))))] [.bool (decide (¬ (x10 = true))), .bool (decide (¬ (x10 = true)))] [.veq (.bool (!x10)) (.bool (decide (¬ (x10 = true))))] (by kernel_rfl) (not_b) ?_
  refine RW.nil ?_
  by_cases h5 : ¬ (x10 = true)
  have hf := iteT h5 hf
  refine WPK.condT (Eq.trans (b := .bool (decide (¬ (x10 = true)))) (by kernel_rfl) (bo_t h5)) ?_
  refine WPK.seq ?_
  refine WPK.region ?_
  refine RW.seg hT 1 [] [] [.agg #[.int .i64 0, .int .i64 0, .int .u64 0, .slice none 0 0]] [] (by kernel_rfl) (trivial) ?_
  refine RW.op (by kernel_rfl) (OK.store hT (i := 2) (b := b5) (off := 0) (n := 4) (vs := [.int .i64 0, .int .i64 0, .int .u64 0, .slice none 0 0]) (cs := [.int .i64 0, .int .i64 0, .int .u64 0, .slice none 0 0]) (e := 55) s (by kernel_rfl) rfl rfl (flat_ok rfl) (Nat.le_of_ble_eq_true rfl) ?_)
  clear s
  rintro w23 s k20 -
  replace e1 := e1.st k20
  replace e4 := e4.st k20
  replace rp1 := rp1.st k20
  replace eg2 := eg2.st k20
  replace kk := kk.trans k20
  refine RW.seg hT 1 [] [] [.int .i64 42] [] (by kernel_rfl) (trivial) ?_
  refine RW.nil ?_
  refine WPK.ret (?_)
  refine Fin.of (rs := [.cell 6 55, .tmp 7]) hT [.agg #[.int .i64 0, .int .i64 0, .int .u64 0, .slice none 0 0]] (.tuple #[.agg #[.int .i64 0, .int .i64 0, .int .u64 0, .slice none 0 0], .int .i64 42]) [.cells ⟨b5, 0, none⟩ [.int .i64 0, .int .i64 0, .int .u64 0, .slice none 0 0] 4] rfl (by kernel_rfl) (s.cells (i := 2) rfl rfl rfl) ?_
  replace s := s.pick [3] 4 rfl
  exact fun X h => vc rfl (h I8 0 0 0 [] 42 none 0 _ hf s kk nil_hc Elems.nil eg2)
  have hf := iteF h5 hf
  refine WPK.condF (Eq.trans (b := .bool (decide (¬ (x10 = true)))) (by kernel_rfl) (bo_f h5)) ?_
  refine WPK.skip ?_
  replace s := s.pick [1, 2, 3] 4 rfl
  exact fun X h => kc (by kernel_rfl) rfl (h I8 _ hf s kk e4 eg2)
  have hf := iteF h4 hf
  refine RW.seg hT 7 [] [(18, .bool false)] [.bool false, undef, undef, undef, undef, undef, .bool false] [.veq (.bool (decide (x9.2 = 0))) (.bool false)] (by kernel_rfl) (bo_f h4) ?_
  refine RW.nil ?_
  refine WPK.condF (by kernel_rfl) ?_
  refine WPK.skip ?_
  replace s := s.pick [0, 1, 3] 4 rfl
  exact fun X h => kc (by kernel_rfl) rfl (h I5 _ hf s kk e4 eg2)
theorem c10 {w1 w : World} {M I : Nat → Prop} {F : List It} (p0 : Int) (p1 : (List (List Int))) (A1 : Option Addr) (u1 : Nat) (hc1 : (p1.length ≤ u1 ∧ u1 ≤ 9223372036854775807)) (e1 : Elems (Rp.slice (Rp.int .u8)) I w A1 p1) (eg2 : Elems (Rp.int .u32) I w (some ⟨2, 0, none⟩) TAB2) (s : St w1 M I (F) w) {r : (T_api_Head × Int × Int)} (hf : g10 p0 p1 = some r) :
    Ret Tryd.prog 10 [.int .i64 p0, .slice A1 p1.length u1] w fun v wz => ∀ X : Value → World → Prop, (∀ (I' : Nat → Prop) (A2 : Option Addr) (u2 : Nat) (A3 : Option Addr) (u3 : Nat) (w' : World), St w1 M I' (F) w' → Kp I w I' w' → (r.1.Maps.length ≤ u2 ∧ u2 ≤ 9223372036854775807) → Elems (Rp.int .i64) I' w' A2 r.1.Maps → (r.1.User.length ≤ u3 ∧ u3 ≤ 9223372036854775807) → Elems (Rp.int .u8) I' w' A3 r.1.User → X (.tuple #[.agg #[.int .u64 r.1.Epoch, .int .i64 r.1.Pages, .slice A2 r.1.Maps.length u2, .slice A3 r.1.User.length u3], .int .i64 r.2.1, .int .i64 r.2.2]) w') → X v wz := by
  have kk : Kp I w I w := Kp.refl
  unfold g10 at hf
  refine Ret.of Tryd.func10 rfl ?_
  refine WPK.seq ?_
  refine WPK.region ?_
  refine RW.op (by kernel_rfl) (OK.new hT (f := fun b => .pointer (some ⟨b, 0, none⟩)) (cs := [.int .u64 0, .int .i64 0, .slice none 0 0, .slice none 0 0]) (e := 28) (c := .tt) s (by kernel_rfl) trivial ?_)
  clear s
  rintro w2 b1 s k1 -
  replace e1 := e1.st k1
  replace eg2 := eg2.st k1
  replace kk := kk.trans k1
  refine RW.seg hT 2 [] [] [.int .i64 0, .int .i64 0] [] (by kernel_rfl) (trivial) ?_
  refine RW.nil ?_
  refine WPK.seq ?_
  refine WPK.region ?_
  refine RW.seg hT 1 [] [] [.int .i64 (-1)] [] (by kernel_rfl) (trivial) ?_
  refine RW.nil ?_
  refine WPK.seq ?_
  refine WPK.region ?_
  refine RW.op (by kernel_rfl) (OK.new hT (f := fun b => .pointer (some ⟨b, 0, none⟩)) (cs := [.int .u64 0, .int .i64 0, .slice none 0 0, .slice none 0 0]) (e := 28) (c := .tt) s (by kernel_rfl) trivial ?_)
  clear s
  rintro w3 b2 s k2 -
  replace e1 := e1.st k2
  replace eg2 := eg2.st k2
  replace kk := kk.trans k2
  refine RW.nil ?_
  refine WPK.seq ?_
  refine WPK.seq ?_
  refine WPK.region ?_
  obtain ⟨y1, hy1, hf⟩ := bindS hf
  obtain ⟨h1, hc2, e2, q1⟩ := slS0 hc1 e1 hy1
  refine RW.seg hT 7 [] [(17, .slice A1 y1.length u1)] [.slice A1 p1.length u1, .slice A1 p1.length u1, .int .i64 (p1.length : Int), .int .i64 (if 2 < (p1.length : Int) then 2 else (p1.length : Int)), .slice A1 y1.length u1, .int .i64 (y1.length : Int), .int .i64 0] [.both (.cut 0 (if 2 < (p1.length : Int) then 2 else (p1.length : Int)) u1 u1) (.veq (.slice A1 (if 2 < (p1.length : Int) then 2 else (p1.length : Int)).toNat u1) (.slice A1 y1.length u1))] (by kernel_rfl) (⟨⟨by omega, by omega, by omega, by omega⟩, sl_eq rfl q1 rfl⟩) ?_
  refine RW.nil ?_
  refine WPK.block ?_
  refine WPK.loop' (J := fun n1 D1 ds wz => ∀ X : Kont, (∀ (I1 : Nat → Prop) (x1 : Int) (x2 : Int) (x3 : Int) (x4 : Int) (x5 : (List Int)) (x6 : (List Int)) (A4 : Option Addr) (u4 : Nat) (A5 : Option Addr) (u5 : Nat) (w' : World), g10_l1 p0 y1 n1 x1 x2 x3 x4 x5 x6 = some r → St w1 M I1 ((.blk b2 (.cells #[.int .u64 x3, .int .i64 x4, .slice A4 x5.length u4, .slice A5 x6.length u5] 28 (0, 0))) :: (.blk b1 (.cells #[.int .u64 0, .int .i64 0, .slice none 0 0, .slice none 0 0] 28 (0, 0))) :: F) w' → Kp I w I1 w' → Elems (Rp.slice (Rp.int .u8)) I1 w' A1 y1 → (x5.length ≤ u4 ∧ u4 ≤ 9223372036854775807) → Elems (Rp.int .i64) I1 w' A4 x5 → (x6.length ≤ u5 ∧ u5 ≤ 9223372036854775807) → Elems (Rp.int .u8) I1 w' A5 x6 → Elems (Rp.int .u32) I1 w' (some ⟨2, 0, none⟩) TAB2 → X [.int .i64 p0, (D1.getD 1 undef), (D1.getD 2 undef), (D1.getD 3 undef), .pointer (some ⟨b1, 0, none⟩), .int .i64 0, .int .i64 0, .int .i64 x1, .pointer (some ⟨b2, 0, none⟩), (D1.getD 9 undef), (D1.getD 10 undef), (D1.getD 11 undef), (D1.getD 12 undef), (D1.getD 13 undef), (D1.getD 14 undef), (D1.getD 15 undef), (D1.getD 16 undef), .slice A1 y1.length u1, .int .i64 (y1.length : Int), .int .i64 x2, (D1.getD 20 undef), (D1.getD 21 undef), (D1.getD 22 undef), (D1.getD 23 undef), (D1.getD 24 undef), (D1.getD 25 undef), (D1.getD 26 undef), (D1.getD 27 undef), (D1.getD 28 undef), (D1.getD 29 undef), (D1.getD 30 undef), (D1.getD 31 undef), (D1.getD 32 undef), (D1.getD 33 undef), (D1.getD 34 undef), (D1.getD 35 undef), (D1.getD 36 undef), (D1.getD 37 undef), (D1.getD 38 undef), (D1.getD 39 undef), (D1.getD 40 undef), (D1.getD 41 undef), (D1.getD 42 undef), (D1.getD 43 undef), (D1.getD 44 undef), (D1.getD 45 undef), (D1.getD 46 undef), undef, undef, undef, undef, undef] [] w') → X D1 ds wz) FUEL (fun X h => kc (by kernel_rfl) rfl (h I (-1) 0 0 0 [] [] none 0 none 0 _ hf s kk e2 nil_hc Elems.nil nil_hc Elems.nil eg2)) (fun _ _ _ hJ => hJ (fun _ _ _ => False) (by intro I1 x1 x2 x3 x4 x5 x6 A4 u4 A5 u5 w4 hf s kk e2 hc3 e3 hc4 e4 eg2; exact noneS hf)) ?_
  intro X1 hX1
  refine fun n1 D1 _ _ hJ => hJ (X1 n1) ?_
  clear s
  intro I1 x1 x2 x3 x4 x5 x6 A4 u4 A5 u5 w4 hf s kk e2 hc3 e3 hc4 e4 eg2
  refine hX1 _ _ _ _ ?_
  replace hf : g10_l1B p0 y1 (g10_l1 p0 y1 n1) x1 x2 x3 x4 x5 x6 = some r := hf
  generalize hrec1 : g10_l1 p0 y1 n1 = rec1 at hf
  unfold g10_l1B at hf
  refine WPK.seq ?_
  refine WPK.region ?_
  refine RW.seg hT 1 [] [] [.bool (decide (x2 < (y1.length : Int)))] [] (by kernel_rfl) (trivial) ?_
  refine RW.nil ?_
  refine WPK.seq ?_
  by_cases h2 : x2 < (y1.length : Int)
  have hf := iteT h2 hf
  refine WPK.condT (Eq.trans (b := .bool (decide (x2 < (y1.length : Int)))) (by kernel_rfl) (bo_t h2)) ?_
  refine WPK.skip ?_
  refine WPK.seq ?_
  refine WPK.cut' (Kn fun D2 ds wz => ∀ X : Kont, (∀ (I2 : Nat → Prop) (x7 : Int) (x8 : (List Int)) (x9 : Bool) (x10 : (List Int)) (x11 : Int) (x12 : Int) (x13 : (List Int)) (x14 : (List Int)) (x15 : Bool) (x16 : (List Int)) (x17 : Int) (x18 : Int) (x19 : (List Int)) (x20 : (List Int)) (x21 : Bool) (x22 : Int) (x23 : Int) (x24 : (List Int)) (x25 : (List Int)) (x26 : Bool) (x27 : Bool) (x28 : Bool) (x29 : Bool) (x30 : Bool) (x31 : Int) (x32 : Int) (x33 : (List Int)) (x34 : (List Int)) (x35 : Int) (x36 : Int) (x37 : (List Int)) (x38 : (List Int)) (b3 : Nat) (A6 : Option Addr) (u6 : Nat) (A7 : Option Addr) (u7 : Nat) (A8 : Option Addr) (u8 : Nat) (A9 : Option Addr) (u9 : Nat) (A10 : Option Addr) (u10 : Nat) (A11 : Option Addr) (u11 : Nat) (A12 : Option Addr) (u12 : Nat) (A13 : Option Addr) (u13 : Nat) (A14 : Option Addr) (u14 : Nat) (A15 : Option Addr) (u15 : Nat) (A16 : Option Addr) (u16 : Nat) (A17 : Option Addr) (u17 : Nat) (A18 : Option Addr) (u18 : Nat) (w' : World), g10_j2 x2 rec1 x7 x8 x9 x10 x11 x12 x13 x14 x15 x16 x17 x18 x19 x20 x21 x22 x23 x24 x25 x26 x27 x28 x29 x30 x31 x32 x33 x34 x35 x36 x37 x38 = some r → St w1 M I2 ((.blk b3 (.cells #[.int .u64 x31, .int .i64 x32, .slice A15 x33.length u15, .slice A16 x34.length u16] 28 (0, 0))) :: (.blk b2 (.cells #[.int .u64 x35, .int .i64 x36, .slice A17 x37.length u17, .slice A18 x38.length u18] 28 (0, 0))) :: (.blk b1 (.cells #[.int .u64 0, .int .i64 0, .slice none 0 0, .slice none 0 0] 28 (0, 0))) :: F) w' → Kp I w I2 w' → (x8.length ≤ u6 ∧ u6 ≤ 9223372036854775807) → Elems (Rp.int .u8) I2 w' A6 x8 → Elems (Rp.slice (Rp.int .u8)) I2 w' A1 y1 → (x10.length ≤ u7 ∧ u7 ≤ 9223372036854775807) → Elems (Rp.int .u8) I2 w' A7 x10 → (x13.length ≤ u8 ∧ u8 ≤ 9223372036854775807) → Elems (Rp.int .i64) I2 w' A8 x13 → (x14.length ≤ u9 ∧ u9 ≤ 9223372036854775807) → Elems (Rp.int .u8) I2 w' A9 x14 → (x16.length ≤ u10 ∧ u10 ≤ 9223372036854775807) → Elems (Rp.int .u8) I2 w' A10 x16 → (x19.length ≤ u11 ∧ u11 ≤ 9223372036854775807) → Elems (Rp.int .i64) I2 w' A11 x19 → (x20.length ≤ u12 ∧ u12 ≤ 9223372036854775807) → Elems (Rp.int .u8) I2 w' A12 x20 → (x24.length ≤ u13 ∧ u13 ≤ 9223372036854775807) → Elems (Rp.int .i64) I2 w' A13 x24 → (x25.length ≤ u14 ∧ u14 ≤ 9223372036854775807) → Elems (Rp.int .u8) I2 w' A14 x25 → (x33.length ≤ u15 ∧ u15 ≤ 9223372036854775807) → Elems (Rp.int .i64) I2 w' A15 x33 → (x34.length ≤ u16 ∧ u16 ≤ 9223372036854775807) → Elems (Rp.int .u8) I2 w' A16 x34 → (x37.length ≤ u17 ∧ u17 ≤ 9223372036854775807) → Elems (Rp.int .i64) I2 w' A17 x37 → (x38.length ≤ u18 ∧ u18 ≤ 9223372036854775807) → Elems (Rp.int .u8) I2 w' A18 x38 → Elems (Rp.int .u32) I2 w' (some ⟨2, 0, none⟩) TAB2 → X [.int .i64 p0, (D2.getD 1 undef), (D2.getD 2 undef), (D2.getD 3 undef), .pointer (some ⟨b1, 0, none⟩), .int .i64 0, .int .i64 0, .int .i64 x7, .pointer (some ⟨b2, 0, none⟩), .int .i64 x2, .slice A6 x8.length u6, .pointer (some ⟨b3, 0, none⟩), .bool x9, (D2.getD 13 undef), (D2.getD 14 undef), (D2.getD 15 undef), (D2.getD 16 undef), .slice A1 y1.length u1, .int .i64 (y1.length : Int), .int .i64 x2, .bool (decide (x2 < (y1.length : Int))), .int .i64 x2, (D2.getD 22 undef), .slice A7 x10.length u7, .tuple #[.agg #[.int .u64 x11, .int .i64 x12, .slice A8 x13.length u8, .slice A9 x14.length u9], .bool x15], .int .i64 p0, .int .i64 x2, .slice A10 x16.length u10, .tuple #[.agg #[.int .u64 x17, .int .i64 x18, .slice A11 x19.length u11, .slice A12 x20.length u12], .bool x21], .agg #[.int .u64 x22, .int .i64 x23, .slice A13 x24.length u13, .slice A14 x25.length u14], .bool x26, .bool x27, .bool x28, .bool x29, (D2.getD 34 undef), (D2.getD 35 undef), (D2.getD 36 undef), (D2.getD 37 undef), (D2.getD 38 undef), (D2.getD 39 undef), (D2.getD 40 undef), (D2.getD 41 undef), (D2.getD 42 undef), .bool x30, (D2.getD 44 undef), (D2.getD 45 undef), (D1.getD 46 undef), undef, undef, undef, undef, undef] [] w') → X D2 ds wz) ?_ ?_
  intro X2 hX2
  refine fun D2 _ _ hJ => hJ X2 ?_
  clear s
  intro I2 x7 x8 x9 x10 x11 x12 x13 x14 x15 x16 x17 x18 x19 x20 x21 x22 x23 x24 x25 x26 x27 x28 x29 x30 x31 x32 x33 x34 x35 x36 x37 x38 b3 A6 u6 A7 u7 A8 u8 A9 u9 A10 u10 A11 u11 A12 u12 A13 u13 A14 u14 A15 u15 A16 u16 A17 u17 A18 u18 w5 hf s kk hc5 e5 e2 hc6 e6 hc7 e7 hc8 e8 hc9 e9 hc10 e10 hc11 e11 hc12 e12 hc13 e13 hc14 e14 hc15 e15 hc16 e16 hc17 e17 eg2
  refine hX2 _ _ _ ?_
  unfold g10_j2 at hf
  refine WPK.region ?_
  refine RW.seg hT 2 [] [] [.int .i64 (IntKind.i64.wrap (x2 + 1)), .int .i64 (IntKind.i64.wrap (x2 + 1))] [] (by kernel_rfl) (trivial) ?_
  refine RW.nil ?_
  subst hrec1
  replace s := s.pick [1, 2] 3 rfl
  exact ⟨n1, Nat.le_refl _, fun X h => kc (by kernel_rfl) rfl (h I2 x7 (IntKind.i64.wrap (x2 + 1)) x35 x36 x37 x38 A17 u17 A18 u18 _ hf s kk e2 hc16 e16 hc17 e17 eg2)⟩
  refine WPK.block ?_
  refine WPK.seq ?_
  refine WPK.region ?_
  obtain ⟨x39, hx1, hf⟩ := bindS hf
  obtain ⟨h3, hx1⟩ := getS hx1
  obtain ⟨b4, o1, rfl⟩ := Elems.opn e2 hx1
  obtain ⟨cs1, hr1, ha1⟩ := Elems.get e2 hx1
  obtain ⟨A19, u19, rfl, q2, q3, e18⟩ := hr1
  have hc18 := And.intro q2 q3
  refine RW.seg hT 5 [.slice A19 x39.length u19] [] [.int .i64 x2, .pointer (some ⟨b4, o1 + x2.toNat * 1, none⟩), .slice A19 x39.length u19, .int .i64 x2, .slice A19 x39.length u19] [.idx x2 y1.length, .cell ⟨b4, o1 + x2.toNat * 1, none⟩ (.slice A19 x39.length u19)] (by kernel_rfl) (⟨h3, ha1 0 _ rfl⟩) ?_
  refine RW.nil ?_
  refine WPK.seq ?_
  refine WPK.region ?_
  refine RW.seg hT 3 [] [] [.int .i64 p0, .int .i64 x2, .slice A19 x39.length u19] [] (by kernel_rfl) (trivial) ?_
  obtain ⟨x40, hx2, hf⟩ := bindS hf
  refine RW.op (by kernel_rfl) (OK.call' en30 (by kernel_rfl) (c30 (F := (.blk b2 (.cells #[.int .u64 x3, .int .i64 x4, .slice A4 x5.length u4, .slice A5 x6.length u5] 28 (0, 0))) :: (.blk b1 (.cells #[.int .u64 0, .int .i64 0, .slice none 0 0, .slice none 0 0] 28 (0, 0))) :: F) p0 x2 x39 A19 u19 hc18 e18 eg2 s hx2) ?_)
  intro X3 hX3
  refine fun _ _ hJ => hJ X3 ?_
  clear s
  intro I3 A20 n2 u20 cl1 A21 u21 w6 s k3 hn1 rp1 hc19 e19
  refine hX3 _ _ ?_
  replace e18 := e18.st k3
  replace e2 := e2.st k3
  replace e3 := e3.st k3
  replace e4 := e4.st k3
  replace eg2 := eg2.st k3
  replace kk := kk.trans k3
  rw [hn1] at s
  try rw [hn1]
  obtain ⟨I4, s', k4, hc20, e20⟩ := St.give s (i := 0) rfl rfl rp1
  replace s := s'; clear s'
  replace e18 := e18.st k4
  replace e2 := e2.st k4
  replace e19 := e19.st k4
  replace e3 := e3.st k4
  replace e4 := e4.st k4
  replace eg2 := eg2.st k4
  replace kk := kk.trans k4
  refine RW.seg hT 3 [] [] [.tuple #[.agg #[.int .u64 x40.1.Epoch, .int .i64 x40.1.Pages, .slice A20 x40.1.Maps.length u20, .slice A21 x40.1.User.length u21], .bool x40.2], .agg #[.int .u64 x40.1.Epoch, .int .i64 x40.1.Pages, .slice A20 x40.1.Maps.length u20, .slice A21 x40.1.User.length u21], .bool x40.2] [] (by kernel_rfl) (trivial) ?_
  refine RW.op (by kernel_rfl) (OK.new hT (f := fun b => .pointer (some ⟨b, 0, none⟩)) (cs := [.int .u64 0, .int .i64 0, .slice none 0 0, .slice none 0 0]) (e := 28) (c := .tt) s (by kernel_rfl) trivial ?_)
  clear s
  rintro w7 b5 s k5 -
  replace e18 := e18.st k5
  replace e2 := e2.st k5
  replace e20 := e20.st k5
  replace e19 := e19.st k5
  replace e3 := e3.st k5
  replace e4 := e4.st k5
  replace eg2 := eg2.st k5
  replace kk := kk.trans k5
  refine RW.op (by kernel_rfl) (OK.store hT (i := 0) (b := b5) (off := 0) (n := 4) (vs := [.int .u64 x40.1.Epoch, .int .i64 x40.1.Pages, .slice A20 x40.1.Maps.length u20, .slice A21 x40.1.User.length u21]) (cs := [.int .u64 0, .int .i64 0, .slice none 0 0, .slice none 0 0]) (e := 28) s (by kernel_rfl) rfl rfl (flat_ok rfl) (Nat.le_of_ble_eq_true rfl) ?_)
  clear s
  rintro w8 s k6 -
  replace e18 := e18.st k6
  replace e2 := e2.st k6
  replace e20 := e20.st k6
  replace e19 := e19.st k6
  replace e3 := e3.st k6
  replace e4 := e4.st k6
  replace eg2 := eg2.st k6
  replace kk := kk.trans k6
  refine RW.seg hT 1 [] [] [.bool x40.2] [] (by kernel_rfl) (trivial) ?_
  refine RW.nil ?_
  refine WPK.seq ?_
  refine WPK.seq ?_
  refine WPK.region ?_
  refine RW.seg hT 2 [] [(32, .bool (decide (¬ (x40.2 = true))))] [.bool x40.2, .bool (decide (¬ (x40.2 = true)))] [.veq (.bool (!x40.2)) (.bool (decide (¬ (x40.2 = true))))] (by kernel_rfl) (not_b) ?_
  by_cases h4 : ¬ (x40.2 = true)
  have hf := iteT h4 hf
  refine RW.seg hT 11 [] [(33, .bool true)] [.bool true, undef, undef, undef, undef, undef, undef, undef, undef, undef, .bool true] [.veq (.bool (decide (¬ (x40.2 = true)))) (.bool true)] (by kernel_rfl) (bo_t h4) ?_
  refine RW.nil ?_
  refine WPK.condT (by kernel_rfl) ?_
  refine WPK.exit (blockQ.same ?_)
  exact fun X h => kc (by kernel_rfl) rfl (h I4 x1 x39 x40.2 x39 x40.1.Epoch x40.1.Pages x40.1.Maps x40.1.User x40.2 x39 x40.1.Epoch x40.1.Pages x40.1.Maps x40.1.User x40.2 x40.1.Epoch x40.1.Pages x40.1.Maps x40.1.User x40.2 x40.2 (decide (¬ (x40.2 = true))) true true x40.1.Epoch x40.1.Pages x40.1.Maps x40.1.User x3 x4 x5 x6 b5 A19 u19 A19 u19 A20 u20 A21 u21 A19 u19 A20 u20 A21 u21 A20 u20 A21 u21 A20 u20 A21 u21 A4 u4 A5 u5 _ hf s kk hc18 e18 e2 hc18 e18 hc20 e20 hc19 e19 hc18 e18 hc20 e20 hc19 e19 hc20 e20 hc19 e19 hc20 e20 hc19 e19 hc3 e3 hc4 e4 eg2)
  have hf := iteF h4 hf
  refine RW.seg hT 3 [] [(33, .bool false)] [.bool false, .int .i64 x1, .bool (decide (x1 ≥ 0))] [.veq (.bool (decide (¬ (x40.2 = true)))) (.bool false)] (by kernel_rfl) (bo_f h4) ?_
  by_cases h5 : x1 ≥ 0
  have hf := iteT h5 hf
  refine RW.seg hT 8 [.int .u64 x40.1.Epoch, .int .u64 x3] [(36, .bool true)] [.bool true, .pointer (some ⟨b5, 0, none⟩), .int .u64 x40.1.Epoch, .pointer (some ⟨b2, 0, none⟩), .int .u64 x3, .bool (decide (x40.1.Epoch ≤ x3)), .bool (decide (x40.1.Epoch ≤ x3)), .bool (decide (x40.1.Epoch ≤ x3))] [.veq (.bool (decide (x1 ≥ 0))) (.bool true), .cell ⟨b5, 0, none⟩ (.int .u64 x40.1.Epoch), .cell ⟨b2, 0, none⟩ (.int .u64 x3)] (by kernel_rfl) (⟨bo_t h5, s.cell (i := 0) (off := 0) rfl rfl, s.cell (i := 1) (off := 0) rfl rfl⟩) ?_
  refine RW.nil ?_
  by_cases h6 : x40.1.Epoch ≤ x3
  have hf := iteT h6 hf
  refine WPK.condT (Eq.trans (b := .bool (decide (x40.1.Epoch ≤ x3))) (by kernel_rfl) (bo_t h6)) ?_
  refine WPK.exit (blockQ.same ?_)
  exact fun X h => kc (by kernel_rfl) rfl (h I4 x1 x39 x40.2 x39 x40.1.Epoch x40.1.Pages x40.1.Maps x40.1.User x40.2 x39 x40.1.Epoch x40.1.Pages x40.1.Maps x40.1.User x40.2 x40.1.Epoch x40.1.Pages x40.1.Maps x40.1.User x40.2 x40.2 (decide (¬ (x40.2 = true))) false (decide (x40.1.Epoch ≤ x3)) x40.1.Epoch x40.1.Pages x40.1.Maps x40.1.User x3 x4 x5 x6 b5 A19 u19 A19 u19 A20 u20 A21 u21 A19 u19 A20 u20 A21 u21 A20 u20 A21 u21 A20 u20 A21 u21 A4 u4 A5 u5 _ hf s kk hc18 e18 e2 hc18 e18 hc20 e20 hc19 e19 hc18 e18 hc20 e20 hc19 e19 hc20 e20 hc19 e19 hc20 e20 hc19 e19 hc3 e3 hc4 e4 eg2)
  have hf := iteF h6 hf
  refine WPK.condF (Eq.trans (b := .bool (decide (x40.1.Epoch ≤ x3))) (by kernel_rfl) (bo_f h6)) ?_
  refine WPK.skip ?_
  refine WPK.region ?_
  refine RW.seg hT 2 [.agg #[.int .u64 x40.1.Epoch, .int .i64 x40.1.Pages, .slice A20 x40.1.Maps.length u20, .slice A21 x40.1.User.length u21]] [] [.agg #[.int .u64 x40.1.Epoch, .int .i64 x40.1.Pages, .slice A20 x40.1.Maps.length u20, .slice A21 x40.1.User.length u21], .int .i64 x2] [.cells ⟨b5, 0, none⟩ [.int .u64 x40.1.Epoch, .int .i64 x40.1.Pages, .slice A20 x40.1.Maps.length u20, .slice A21 x40.1.User.length u21] 4] (by kernel_rfl) (s.cells (i := 0) rfl rfl rfl) ?_
  refine RW.op (by kernel_rfl) (OK.store hT (i := 1) (b := b2) (off := 0) (n := 4) (vs := [.int .u64 x40.1.Epoch, .int .i64 x40.1.Pages, .slice A20 x40.1.Maps.length u20, .slice A21 x40.1.User.length u21]) (cs := [.int .u64 x3, .int .i64 x4, .slice A4 x5.length u4, .slice A5 x6.length u5]) (e := 28) s (by kernel_rfl) rfl rfl (flat_ok rfl) (Nat.le_of_ble_eq_true rfl) ?_)
  clear s
  rintro w9 s k7 -
  replace e18 := e18.st k7
  replace e2 := e2.st k7
  replace e20 := e20.st k7
  replace e19 := e19.st k7
  replace e3 := e3.st k7
  replace e4 := e4.st k7
  replace eg2 := eg2.st k7
  replace kk := kk.trans k7
  refine RW.seg hT 1 [] [] [.int .i64 x2] [] (by kernel_rfl) (trivial) ?_
  refine RW.nil ?_
  exact fun X h => kc (by kernel_rfl) rfl (h I4 x2 x39 x40.2 x39 x40.1.Epoch x40.1.Pages x40.1.Maps x40.1.User x40.2 x39 x40.1.Epoch x40.1.Pages x40.1.Maps x40.1.User x40.2 x40.1.Epoch x40.1.Pages x40.1.Maps x40.1.User x40.2 x40.2 (decide (¬ (x40.2 = true))) false (decide (x40.1.Epoch ≤ x3)) x40.1.Epoch x40.1.Pages x40.1.Maps x40.1.User x40.1.Epoch x40.1.Pages x40.1.Maps x40.1.User b5 A19 u19 A19 u19 A20 u20 A21 u21 A19 u19 A20 u20 A21 u21 A20 u20 A21 u21 A20 u20 A21 u21 A20 u20 A21 u21 _ hf s kk hc18 e18 e2 hc18 e18 hc20 e20 hc19 e19 hc18 e18 hc20 e20 hc19 e19 hc20 e20 hc19 e19 hc20 e20 hc19 e19 hc20 e20 hc19 e19 eg2)
  have hf := iteF h5 hf
  refine RW.seg hT 8 [] [(36, .bool false)] [.bool false, undef, undef, undef, undef, undef, .bool false, .bool false] [.veq (.bool (decide (x1 ≥ 0))) (.bool false)] (by kernel_rfl) (bo_f h5) ?_
  refine RW.nil ?_
  refine WPK.condF (by kernel_rfl) ?_
  refine WPK.skip ?_
  refine WPK.region ?_
  refine RW.seg hT 2 [.agg #[.int .u64 x40.1.Epoch, .int .i64 x40.1.Pages, .slice A20 x40.1.Maps.length u20, .slice A21 x40.1.User.length u21]] [] [.agg #[.int .u64 x40.1.Epoch, .int .i64 x40.1.Pages, .slice A20 x40.1.Maps.length u20, .slice A21 x40.1.User.length u21], .int .i64 x2] [.cells ⟨b5, 0, none⟩ [.int .u64 x40.1.Epoch, .int .i64 x40.1.Pages, .slice A20 x40.1.Maps.length u20, .slice A21 x40.1.User.length u21] 4] (by kernel_rfl) (s.cells (i := 0) rfl rfl rfl) ?_
  refine RW.op (by kernel_rfl) (OK.store hT (i := 1) (b := b2) (off := 0) (n := 4) (vs := [.int .u64 x40.1.Epoch, .int .i64 x40.1.Pages, .slice A20 x40.1.Maps.length u20, .slice A21 x40.1.User.length u21]) (cs := [.int .u64 x3, .int .i64 x4, .slice A4 x5.length u4, .slice A5 x6.length u5]) (e := 28) s (by kernel_rfl) rfl rfl (flat_ok rfl) (Nat.le_of_ble_eq_true rfl) ?_)
  clear s
  rintro w10 s k8 -
  replace e18 := e18.st k8
  replace e2 := e2.st k8
  replace e20 := e20.st k8
  replace e19 := e19.st k8
  replace e3 := e3.st k8
  replace e4 := e4.st k8
  replace eg2 := eg2.st k8
  replace kk := kk.trans k8
  refine RW.seg hT 1 [] [] [.int .i64 x2] [] (by kernel_rfl) (trivial) ?_
  refine RW.nil ?_
  exact fun X h => kc (by kernel_rfl) rfl (h I4 x2 x39 x40.2 x39 x40.1.Epoch x40.1.Pages x40.1.Maps x40.1.User x40.2 x39 x40.1.Epoch x40.1.Pages x40.1.Maps x40.1.User x40.2 x40.1.Epoch x40.1.Pages x40.1.Maps x40.1.User x40.2 x40.2 (decide (¬ (x40.2 = true))) false false x40.1.Epoch x40.1.Pages x40.1.Maps x40.1.User x40.1.Epoch x40.1.Pages x40.1.Maps x40.1.User b5 A19 u19 A19 u19 A20 u20 A21 u21 A19 u19 A20 u20 A21 u21 A20 u20 A21 u21 A20 u20 A21 u21 A20 u20 A21 u21 _ hf s kk hc18 e18 e2 hc18 e18 hc20 e20 hc19 e19 hc18 e18 hc20 e20 hc19 e19 hc20 e20 hc19 e19 hc20 e20 hc19 e19 hc20 e20 hc19 e19 eg2)
  have hf := iteF h2 hf
  refine WPK.condF (Eq.trans (b := .bool (decide (x2 < (y1.length : Int)))) (by kernel_rfl) (bo_f h2)) ?_
  refine WPK.exit (blockQ.same ?_)
  refine WPK.seq ?_
  refine WPK.seq ?_
  refine WPK.region ?_
  refine RW.seg hT 2 [] [] [.int .i64 x1, .bool (decide (x1 < 0))] [] (by kernel_rfl) (trivial) ?_
  refine RW.nil ?_
  by_cases h7 : x1 < 0
  have hf := iteT h7 hf
  refine WPK.condT (Eq.trans (b := .bool (decide (x1 < 0))) (by kernel_rfl) (bo_t h7)) ?_
  refine WPK.seq ?_
  refine WPK.region ?_
  refine RW.seg hT 1 [] [] [.agg #[.int .u64 0, .int .i64 0, .slice none 0 0, .slice none 0 0]] [] (by kernel_rfl) (trivial) ?_
  refine RW.op (by kernel_rfl) (OK.store hT (i := 1) (b := b1) (off := 0) (n := 4) (vs := [.int .u64 0, .int .i64 0, .slice none 0 0, .slice none 0 0]) (cs := [.int .u64 0, .int .i64 0, .slice none 0 0, .slice none 0 0]) (e := 28) s (by kernel_rfl) rfl rfl (flat_ok rfl) (Nat.le_of_ble_eq_true rfl) ?_)
  clear s
  rintro w11 s k9 -
  replace e2 := e2.st k9
  replace e3 := e3.st k9
  replace e4 := e4.st k9
  replace eg2 := eg2.st k9
  replace kk := kk.trans k9
  refine RW.seg hT 2 [] [] [.int .i64 0, .int .i64 60] [] (by kernel_rfl) (trivial) ?_
  refine RW.nil ?_
  refine WPK.ret (?_)
  obtain rfl := someS hf
  refine Fin.of (rs := [.cell 4 28, .tmp 5, .tmp 6]) hT [.agg #[.int .u64 0, .int .i64 0, .slice none 0 0, .slice none 0 0]] (.tuple #[.agg #[.int .u64 0, .int .i64 0, .slice none 0 0, .slice none 0 0], .int .i64 0, .int .i64 60]) [.cells ⟨b1, 0, none⟩ [.int .u64 0, .int .i64 0, .slice none 0 0, .slice none 0 0] 4] rfl (by kernel_rfl) (s.cells (i := 1) rfl rfl rfl) ?_
  replace s := s.pick [] 2 rfl
  exact fun X h => vc rfl (h I1 none 0 none 0 _ s kk nil_hc Elems.nil nil_hc Elems.nil)
  have hf := iteF h7 hf
  refine WPK.condF (Eq.trans (b := .bool (decide (x1 < 0))) (by kernel_rfl) (bo_f h7)) ?_
  refine WPK.skip ?_
  refine WPK.seq ?_
  refine WPK.region ?_
  refine RW.seg hT 2 [.agg #[.int .u64 x3, .int .i64 x4, .slice A4 x5.length u4, .slice A5 x6.length u5]] [] [.agg #[.int .u64 x3, .int .i64 x4, .slice A4 x5.length u4, .slice A5 x6.length u5], .int .i64 x1] [.cells ⟨b2, 0, none⟩ [.int .u64 x3, .int .i64 x4, .slice A4 x5.length u4, .slice A5 x6.length u5] 4] (by kernel_rfl) (s.cells (i := 0) rfl rfl rfl) ?_
  refine RW.op (by kernel_rfl) (OK.store hT (i := 1) (b := b1) (off := 0) (n := 4) (vs := [.int .u64 x3, .int .i64 x4, .slice A4 x5.length u4, .slice A5 x6.length u5]) (cs := [.int .u64 0, .int .i64 0, .slice none 0 0, .slice none 0 0]) (e := 28) s (by kernel_rfl) rfl rfl (flat_ok rfl) (Nat.le_of_ble_eq_true rfl) ?_)
  clear s
  rintro w12 s k10 -
  replace e2 := e2.st k10
  replace e3 := e3.st k10
  replace e4 := e4.st k10
  replace eg2 := eg2.st k10
  replace kk := kk.trans k10
  refine RW.seg hT 2 [] [] [.int .i64 x1, .int .i64 0] [] (by kernel_rfl) (trivial) ?_
  refine RW.nil ?_
  refine WPK.ret (?_)
  obtain rfl := someS hf
  refine Fin.of (rs := [.cell 4 28, .tmp 5, .tmp 6]) hT [.agg #[.int .u64 x3, .int .i64 x4, .slice A4 x5.length u4, .slice A5 x6.length u5]] (.tuple #[.agg #[.int .u64 x3, .int .i64 x4, .slice A4 x5.length u4, .slice A5 x6.length u5], .int .i64 x1, .int .i64 0]) [.cells ⟨b1, 0, none⟩ [.int .u64 x3, .int .i64 x4, .slice A4 x5.length u4, .slice A5 x6.length u5] 4] rfl (by kernel_rfl) (s.cells (i := 1) rfl rfl rfl) ?_
  replace s := s.pick [] 2 rfl
  exact fun X h => vc rfl (h I1 A4 u4 A5 u5 _ s kk hc3 e3 hc4 e4)
theorem c12 {w1 w : World} {M I : Nat → Prop} {F : List It} (p0 : T_api_Head) (p1 : T_api_Head) (A1 : Option Addr) (u1 : Nat) (A2 : Option Addr) (u2 : Nat) (A3 : Option Addr) (u3 : Nat) (A4 : Option Addr) (u4 : Nat) (hc1 : (p0.Maps.length ≤ u1 ∧ u1 ≤ 9223372036854775807)) (e1 : Elems (Rp.int .i64) I w A1 p0.Maps) (hc2 : (p0.User.length ≤ u2 ∧ u2 ≤ 9223372036854775807)) (e2 : Elems (Rp.int .u8) I w A2 p0.User) (hc3 : (p1.Maps.length ≤ u3 ∧ u3 ≤ 9223372036854775807)) (e3 : Elems (Rp.int .i64) I w A3 p1.Maps) (hc4 : (p1.User.length ≤ u4 ∧ u4 ≤ 9223372036854775807)) (e4 : Elems (Rp.int .u8) I w A4 p1.User) (s : St w1 M I (F) w) {r : Bool} (hf : g12 p0 p1 = some r) :
    Ret Tryd.prog 12 [.agg #[.int .u64 p0.Epoch, .int .i64 p0.Pages, .slice A1 p0.Maps.length u1, .slice A2 p0.User.length u2], .agg #[.int .u64 p1.Epoch, .int .i64 p1.Pages, .slice A3 p1.Maps.length u3, .slice A4 p1.User.length u4]] w fun v wz => ∀ X : Value → World → Prop, (∀ (I' : Nat → Prop) (w' : World), St w1 M I' (F) w' → Kp I w I' w' → X (.bool r) w') → X v wz := by
  have kk : Kp I w I w := Kp.refl
  unfold g12 at hf
  refine Ret.of Tryd.func12 rfl ?_
  refine WPK.seq ?_
  refine WPK.region ?_
  refine RW.op (by kernel_rfl) (OK.new hT (f := fun b => .pointer (some ⟨b, 0, none⟩)) (cs := [.int .u64 p0.Epoch, .int .i64 p0.Pages, .slice A1 p0.Maps.length u1, .slice A2 p0.User.length u2]) (e := 28) (c := .tt) s (by kernel_rfl) trivial ?_)
  clear s
  rintro w2 b1 s k1 -
  replace e1 := e1.st k1
  replace e2 := e2.st k1
  replace e3 := e3.st k1
  replace e4 := e4.st k1
  replace kk := kk.trans k1
  refine RW.op (by kernel_rfl) (OK.new hT (f := fun b => .pointer (some ⟨b, 0, none⟩)) (cs := [.int .u64 p1.Epoch, .int .i64 p1.Pages, .slice A3 p1.Maps.length u3, .slice A4 p1.User.length u4]) (e := 28) (c := .tt) s (by kernel_rfl) trivial ?_)
  clear s
  rintro w3 b2 s k2 -
  replace e1 := e1.st k2
  replace e2 := e2.st k2
  replace e3 := e3.st k2
  replace e4 := e4.st k2
  replace kk := kk.trans k2
  refine RW.seg hT 1 [] [] [.bool false] [] (by kernel_rfl) (trivial) ?_
  refine RW.nil ?_
  refine WPK.seq ?_
  refine WPK.seq ?_
  refine WPK.cut' (Kn fun D1 ds wz => ∀ X : Kont, (∀ (x1 : Bool), g12_j1 p0 p1 x1 = some r → X [(D1.getD 0 undef), (D1.getD 1 undef), .pointer (some ⟨b1, 0, none⟩), .pointer (some ⟨b2, 0, none⟩), .bool false, undef, (D1.getD 6 undef), (D1.getD 7 undef), (D1.getD 8 undef), (D1.getD 9 undef), (D1.getD 10 undef), (D1.getD 11 undef), (D1.getD 12 undef), (D1.getD 13 undef), (D1.getD 14 undef), (D1.getD 15 undef), (D1.getD 16 undef), (D1.getD 17 undef), (D1.getD 18 undef), (D1.getD 19 undef), (D1.getD 20 undef), (D1.getD 21 undef), (D1.getD 22 undef), (D1.getD 23 undef), (D1.getD 24 undef), (D1.getD 25 undef), (D1.getD 26 undef), (D1.getD 27 undef), (D1.getD 28 undef), (D1.getD 29 undef), (D1.getD 30 undef), (D1.getD 31 undef), (D1.getD 32 undef), (D1.getD 33 undef), (D1.getD 34 undef), .bool x1, undef, undef, undef, undef, undef, undef, undef, undef, undef, undef, undef, undef, undef, undef, undef, undef, undef, undef] [] w3) → X D1 ds wz) ?_ ?_
  intro X1 hX1
  refine fun D1 _ _ hJ => hJ X1 ?_
  intro x1 hf
  refine hX1 _ _ _ ?_
  unfold g12_j1 at hf
  by_cases h1 : x1 = true
  have hf := iteT h1 hf
  refine WPK.condT (Eq.trans (b := .bool x1) (by kernel_rfl) (b_t h1)) ?_
  refine WPK.seq ?_
  refine WPK.region ?_
  refine RW.seg hT 1 [] [] [.bool false] [] (by kernel_rfl) (trivial) ?_
  refine RW.nil ?_
  refine WPK.ret (?_)
  obtain rfl := someS hf
  refine Fin.of (rs := [.tmp 4]) hT [] (.bool false) [] rfl (by kernel_rfl) (trivial) ?_
  replace s := s.pick [] 2 rfl
  exact fun X h => vc rfl (h I _ s kk)
  have hf := iteF h1 hf
  refine WPK.condF (Eq.trans (b := .bool x1) (by kernel_rfl) (b_f h1)) ?_
  refine WPK.skip ?_
  refine WPK.seq ?_
  refine WPK.seq ?_
  refine WPK.region ?_
  refine RW.seg hT 1 [] [] [.int .i64 0] [] (by kernel_rfl) (trivial) ?_
  refine RW.nil ?_
  refine WPK.block ?_
  refine WPK.loop' (J := fun n1 D2 ds wz => ∀ X : Kont, (∀ (I1 : Nat → Prop) (x2 : Int) (w' : World), g12_l2 p0 p1 n1 x2 = some r → St w1 M I1 ((.blk b2 (.cells #[.int .u64 p1.Epoch, .int .i64 p1.Pages, .slice A3 p1.Maps.length u3, .slice A4 p1.User.length u4] 28 (0, 0))) :: (.blk b1 (.cells #[.int .u64 p0.Epoch, .int .i64 p0.Pages, .slice A1 p0.Maps.length u1, .slice A2 p0.User.length u2] 28 (0, 0))) :: F) w' → Kp I w I1 w' → Elems (Rp.int .i64) I1 w' A3 p1.Maps → Elems (Rp.int .u8) I1 w' A4 p1.User → Elems (Rp.int .i64) I1 w' A1 p0.Maps → Elems (Rp.int .u8) I1 w' A2 p0.User → X [(D2.getD 0 undef), (D2.getD 1 undef), .pointer (some ⟨b1, 0, none⟩), .pointer (some ⟨b2, 0, none⟩), .bool false, .int .i64 x2, (D2.getD 6 undef), (D2.getD 7 undef), (D2.getD 8 undef), (D2.getD 9 undef), (D2.getD 10 undef), (D2.getD 11 undef), (D2.getD 12 undef), (D2.getD 13 undef), (D2.getD 14 undef), (D2.getD 15 undef), (D2.getD 16 undef), (D2.getD 17 undef), (D2.getD 18 undef), (D2.getD 19 undef), (D2.getD 20 undef), (D2.getD 21 undef), (D2.getD 22 undef), (D2.getD 23 undef), (D2.getD 24 undef), (D2.getD 25 undef), (D2.getD 26 undef), (D2.getD 27 undef), (D2.getD 28 undef), (D2.getD 29 undef), (D2.getD 30 undef), (D2.getD 31 undef), (D2.getD 32 undef), (D2.getD 33 undef), (D2.getD 34 undef), (D2.getD 35 undef), (D2.getD 36 undef), (D2.getD 37 undef), (D2.getD 38 undef), (D2.getD 39 undef), (D2.getD 40 undef), (D2.getD 41 undef), (D2.getD 42 undef), (D2.getD 43 undef), (D2.getD 44 undef), (D2.getD 45 undef), (D2.getD 46 undef), (D2.getD 47 undef), (D2.getD 48 undef), (D2.getD 49 undef), (D2.getD 50 undef), (D2.getD 51 undef), (D2.getD 52 undef), (D2.getD 53 undef)] [] w') → X D2 ds wz) FUEL (fun X h => kc (by kernel_rfl) rfl (h I 0 _ hf s kk e3 e4 e1 e2)) (fun _ _ _ hJ => hJ (fun _ _ _ => False) (by intro I1 x2 w4 hf s kk e3 e4 e1 e2; exact noneS hf)) ?_
  intro X2 hX2
  refine fun n1 D2 _ _ hJ => hJ (X2 n1) ?_
  clear s
  intro I1 x2 w4 hf s kk e3 e4 e1 e2
  refine hX2 _ _ _ _ ?_
  replace hf : g12_l2B p0 p1 (g12_l2 p0 p1 n1) x2 = some r := hf
  generalize hrec1 : g12_l2 p0 p1 n1 = rec1 at hf
  unfold g12_l2B at hf
  refine WPK.seq ?_
  refine WPK.seq ?_
  refine WPK.region ?_
  refine RW.seg hT 5 [.slice A1 p0.Maps.length u1] [] [.int .i64 x2, .pointer (some ⟨b1, 2, none⟩), .slice A1 p0.Maps.length u1, .int .i64 (p0.Maps.length : Int), .bool (decide (x2 < (p0.Maps.length : Int)))] [.cell ⟨b1, 2, none⟩ (.slice A1 p0.Maps.length u1)] (by kernel_rfl) (s.cell (i := 1) (off := 2) rfl rfl) ?_
  refine RW.nil ?_
  by_cases h2 : x2 < (p0.Maps.length : Int)
  have hf := iteT h2 hf
  refine WPK.condT (Eq.trans (b := .bool (decide (x2 < (p0.Maps.length : Int)))) (by kernel_rfl) (bo_t h2)) ?_
  refine WPK.skip ?_
  refine WPK.seq ?_
  refine WPK.block ?_
  refine WPK.seq ?_
  have e1S1 := e1
  have e3S1 := e3
  have e4S1 := e4
  have e2S1 := e2
  have kS1 : Kp I1 w4 I1 w4 := Kp.refl
  refine WPK.drawM (fun w' => ∃ I' : Nat → Prop, St w1 M I' ((.blk b2 (.cells #[.int .u64 p1.Epoch, .int .i64 p1.Pages, .slice A3 p1.Maps.length u3, .slice A4 p1.User.length u4] 28 (0, 0))) :: (.blk b1 (.cells #[.int .u64 p0.Epoch, .int .i64 p0.Pages, .slice A1 p0.Maps.length u1, .slice A2 p0.User.length u2] 28 (0, 0))) :: F) w' ∧ Kp I1 w4 I' w') 11 [0, 1, 0, 7, 15, 0, 32, 0, 224, 480, 1023] (by kernel_rfl) (by kernel_rfl) ?_
  intro ht1 w5 hd1
  have k3 := Kp.dr s hd1
  replace s := s.dr hd1
  replace e1 := e1.st k3
  replace e3 := e3.st k3
  replace e4 := e4.st k3
  replace e2 := e2.st k3
  replace kk := kk.trans k3
  replace kS1 := kS1.trans k3
  obtain ⟨x3, hx1, hf⟩ := bindS hf
  obtain ⟨h3, hx1⟩ := getS hx1
  obtain ⟨b3, o1, rfl⟩ := Elems.opn e1 hx1
  obtain ⟨cs1, hr1, ha1, hb1⟩ := Elems.getI e1S1 hx1
  obtain rfl : cs1 = [.int .i64 x3] := hr1
  obtain ⟨x4, hx2, hf⟩ := bindS hf
  obtain ⟨h4, hx2⟩ := getS hx2
  obtain ⟨b4, o2, rfl⟩ := Elems.opn e3 hx2
  obtain ⟨cs2, hr2, ha2, hb2⟩ := Elems.getI e3S1 hx2
  obtain rfl : cs2 = [.int .i64 x4] := hr2
  refine RD.segM hT ht1 (by kernel_rfl) [0, 1, 2, 3, 4, 5, 6, 7, 8, 9, 10] [.slice (some ⟨b3, o1, none⟩) p0.Maps.length u1, .int .i64 x3, .slice (some ⟨b4, o2, none⟩) p1.Maps.length u3, .int .i64 x4] [(53, .bool (decide (x3 ≠ x4)))] [.pointer (some ⟨b1, 2, none⟩), .slice (some ⟨b3, o1, none⟩) p0.Maps.length u1, .int .i64 x2, .pointer (some ⟨b3, o1 + x2.toNat * 1, none⟩), .int .i64 x3, .pointer (some ⟨b2, 2, none⟩), .slice (some ⟨b4, o2, none⟩) p1.Maps.length u3, .int .i64 x2, .pointer (some ⟨b4, o2 + x2.toNat * 1, none⟩), .int .i64 x4, .bool (decide (x3 ≠ x4))] [.cell ⟨b1, 2, none⟩ (.slice (some ⟨b3, o1, none⟩) p0.Maps.length u1), .idx x2 p0.Maps.length, .cell ⟨b3, o1 + x2.toNat * 1, none⟩ (.int .i64 x3), .cell ⟨b2, 2, none⟩ (.slice (some ⟨b4, o2, none⟩) p1.Maps.length u3), .idx x2 p1.Maps.length, .cell ⟨b4, o2 + x2.toNat * 1, none⟩ (.int .i64 x4), .veq (.bool (x3 != x4)) (.bool (decide (x3 ≠ x4)))] (by kernel_rfl) (by rintro w' ⟨I', s, k⟩; have e1 := e1S1.st k; have e3 := e3S1.st k; have e4 := e4S1.st k; have e2 := e2S1.st k; have ha1 := ha1.st k hb1; have ha2 := ha2.st k hb2; exact ⟨s.cell (i := 1) (off := 2) rfl rfl, h3, ha1 0 _ rfl, s.cell (i := 0) (off := 2) rfl rfl, h4, ha2 0 _ rfl, ne_v⟩) ⟨_, s.pick [0, 1] 2 rfl, kS1⟩ ?_
  refine RD.done (by kernel_rfl) ?_
  by_cases h5 : x3 ≠ x4
  have hf := iteT h5 hf
  refine WPK.condT (Eq.trans (b := .bool (decide (x3 ≠ x4))) (by kernel_rfl) (bo_t h5)) ?_
  refine WPK.seq ?_
  refine WPK.region ?_
  refine RW.seg hT 1 [] [] [.bool false] [] (by kernel_rfl) (trivial) ?_
  refine RW.nil ?_
  refine WPK.ret (blockQ.ret (blockQ.ret (?_)))
  obtain rfl := someS hf
  refine Fin.of (rs := [.tmp 4]) hT [] (.bool false) [] rfl (by kernel_rfl) (trivial) ?_
  replace s := s.pick [] 2 rfl
  exact fun X h => vc rfl (h I1 _ s kk)
  have hf := iteF h5 hf
  refine WPK.condF (Eq.trans (b := .bool (decide (x3 ≠ x4))) (by kernel_rfl) (bo_f h5)) ?_
  refine WPK.skip ?_
  refine WPK.region ?_
  refine RW.seg hT 3 [] [] [.int .i64 x2, .int .i64 (IntKind.i64.wrap (x2 + 1)), .int .i64 (IntKind.i64.wrap (x2 + 1))] [] (by kernel_rfl) (trivial) ?_
  refine RW.nil ?_
  subst hrec1
  exact ⟨n1, Nat.le_refl _, fun X h => kc (by kernel_rfl) rfl (h I1 (IntKind.i64.wrap (x2 + 1)) _ hf s kk e3 e4 e1 e2)⟩
  have hf := iteF h2 hf
  refine WPK.condF (Eq.trans (b := .bool (decide (x2 < (p0.Maps.length : Int)))) (by kernel_rfl) (bo_f h2)) ?_
  refine WPK.exit (blockQ.same ?_)
  refine WPK.seq ?_
  refine WPK.region ?_
  refine RW.seg hT 1 [] [] [.bool true] [] (by kernel_rfl) (trivial) ?_
  refine RW.nil ?_
  refine WPK.ret (?_)
  obtain rfl := someS hf
  refine Fin.of (rs := [.tmp 4]) hT [] (.bool true) [] rfl (by kernel_rfl) (trivial) ?_
  replace s := s.pick [] 2 rfl
  exact fun X h => vc rfl (h I1 _ s kk)
  refine WPK.region ?_
  refine RW.seg hT 5 [.int .u64 p0.Epoch, .int .u64 p1.Epoch] [(10, .bool (decide (p0.Epoch ≠ p1.Epoch)))] [.pointer (some ⟨b1, 0, none⟩), .int .u64 p0.Epoch, .pointer (some ⟨b2, 0, none⟩), .int .u64 p1.Epoch, .bool (decide (p0.Epoch ≠ p1.Epoch))] [.cell ⟨b1, 0, none⟩ (.int .u64 p0.Epoch), .cell ⟨b2, 0, none⟩ (.int .u64 p1.Epoch), .veq (.bool (p0.Epoch != p1.Epoch)) (.bool (decide (p0.Epoch ≠ p1.Epoch)))] (by kernel_rfl) (⟨s.cell (i := 1) (off := 0) rfl rfl, s.cell (i := 0) (off := 0) rfl rfl, ne_v⟩) ?_
  by_cases h6 : p0.Epoch ≠ p1.Epoch
  have hf := iteT h6 hf
  refine RW.seg hT 25 [] [(11, .bool true)] [.bool true, undef, undef, undef, undef, undef, .bool true, .bool true, undef, undef, undef, undef, undef, undef, undef, .bool true, .bool true, undef, undef, undef, undef, undef, undef, undef, .bool true] [.veq (.bool (decide (p0.Epoch ≠ p1.Epoch))) (.bool true)] (by kernel_rfl) (bo_t h6) ?_
  refine RW.nil ?_
  exact fun X h => kc (by kernel_rfl) rfl (h true hf)
  have hf := iteF h6 hf
  refine RW.seg hT 7 [.int .i64 p0.Pages, .int .i64 p1.Pages] [(11, .bool false), (16, .bool (decide (p0.Pages ≠ p1.Pages)))] [.bool false, .pointer (some ⟨b1, 1, none⟩), .int .i64 p0.Pages, .pointer (some ⟨b2, 1, none⟩), .int .i64 p1.Pages, .bool (decide (p0.Pages ≠ p1.Pages)), .bool (decide (p0.Pages ≠ p1.Pages))] [.veq (.bool (decide (p0.Epoch ≠ p1.Epoch))) (.bool false), .cell ⟨b1, 1, none⟩ (.int .i64 p0.Pages), .cell ⟨b2, 1, none⟩ (.int .i64 p1.Pages), .veq (.bool (p0.Pages != p1.Pages)) (.bool (decide (p0.Pages ≠ p1.Pages)))] (by kernel_rfl) (⟨bo_f h6, s.cell (i := 1) (off := 1) rfl rfl, s.cell (i := 0) (off := 1) rfl rfl, ne_v⟩) ?_
  by_cases h7 : p0.Pages ≠ p1.Pages
  have hf := iteT h7 hf
  refine RW.seg hT 18 [] [(18, .bool true)] [.bool true, undef, undef, undef, undef, undef, undef, undef, .bool true, .bool true, undef, undef, undef, undef, undef, undef, undef, .bool true] [.veq (.bool (decide (p0.Pages ≠ p1.Pages))) (.bool true)] (by kernel_rfl) (bo_t h7) ?_
  refine RW.nil ?_
  exact fun X h => kc (by kernel_rfl) rfl (h true hf)
  have hf := iteF h7 hf
  refine RW.seg hT 9 [.slice A1 p0.Maps.length u1, .slice A3 p1.Maps.length u3] [(18, .bool false), (25, .bool (decide ((p0.Maps.length : Int) ≠ (p1.Maps.length : Int))))] [.bool false, .pointer (some ⟨b1, 2, none⟩), .slice A1 p0.Maps.length u1, .int .i64 (p0.Maps.length : Int), .pointer (some ⟨b2, 2, none⟩), .slice A3 p1.Maps.length u3, .int .i64 (p1.Maps.length : Int), .bool (decide ((p0.Maps.length : Int) ≠ (p1.Maps.length : Int))), .bool (decide ((p0.Maps.length : Int) ≠ (p1.Maps.length : Int)))] [.veq (.bool (decide (p0.Pages ≠ p1.Pages))) (.bool false), .cell ⟨b1, 2, none⟩ (.slice A1 p0.Maps.length u1), .cell ⟨b2, 2, none⟩ (.slice A3 p1.Maps.length u3), .veq (.bool ((p0.Maps.length : Int) != (p1.Maps.length : Int))) (.bool (decide ((p0.Maps.length : Int) ≠ (p1.Maps.length : Int))))] (by kernel_rfl) (⟨bo_f h7, s.cell (i := 1) (off := 2) rfl rfl, s.cell (i := 0) (off := 2) rfl rfl, ne_v⟩) ?_
  by_cases h8 : (p0.Maps.length : Int) ≠ (p1.Maps.length : Int)
  have hf := iteT h8 hf
  refine RW.seg hT 9 [] [(27, .bool true)] [.bool true, undef, undef, undef, undef, undef, undef, undef, .bool true] [.veq (.bool (decide ((p0.Maps.length : Int) ≠ (p1.Maps.length : Int)))) (.bool true)] (by kernel_rfl) (bo_t h8) ?_
  refine RW.nil ?_
  exact fun X h => kc (by kernel_rfl) rfl (h true hf)
  have hf := iteF h8 hf
  refine RW.seg hT 9 [.slice A2 p0.User.length u2, .string (strOfNums p0.User), .slice A4 p1.User.length u4, .string (strOfNums p1.User)] [(27, .bool false), (34, .bool (decide ((strOfNums p0.User).toList ≠ (strOfNums p1.User).toList)))] [.bool false, .pointer (some ⟨b1, 3, none⟩), .slice A2 p0.User.length u2, .string (strOfNums p0.User), .pointer (some ⟨b2, 3, none⟩), .slice A4 p1.User.length u4, .string (strOfNums p1.User), .bool (decide ((strOfNums p0.User).toList ≠ (strOfNums p1.User).toList)), .bool (decide ((strOfNums p0.User).toList ≠ (strOfNums p1.User).toList))] [.veq (.bool (decide ((p0.Maps.length : Int) ≠ (p1.Maps.length : Int)))) (.bool false), .cell ⟨b1, 3, none⟩ (.slice A2 p0.User.length u2), .bytes A2 p0.User.length (strOfNums p0.User), .cell ⟨b2, 3, none⟩ (.slice A4 p1.User.length u4), .bytes A4 p1.User.length (strOfNums p1.User), .veq (.bool (!((strOfNums p0.User).toList == (strOfNums p1.User).toList))) (.bool (decide ((strOfNums p0.User).toList ≠ (strOfNums p1.User).toList)))] (by kernel_rfl) (⟨bo_f h8, s.cell (i := 1) (off := 3) rfl rfl, Elems.bytes e2, s.cell (i := 0) (off := 3) rfl rfl, Elems.bytes e4, bne_v⟩) ?_
  refine RW.nil ?_
  exact fun X h => kc (by kernel_rfl) rfl (h (decide ((strOfNums p0.User).toList ≠ (strOfNums p1.User).toList)) hf)
end Go.Proofs.YtclnddebhjjpfaaDoor
