/- PRINTED BY sy.py: each call computes what the plain function of its number tells. -/
import Derived.Test.YtjkghheeeiacmaaDoorW7
namespace Go.Proofs.YtjkghheeeiacmaaDoor
open Go Go.SX Go.RowKit
set_option maxRecDepth 100000
set_option linter.unusedVariables false
attribute [local irreducible] WPK RW RD Ret SX.Fin SX.Any opK RoundBeg RoundEnd RangeEnd Rounds
theorem c21 {w0 w : World} {M I : Nat → Prop} {F : List It} (p0 : T_api_Frame) (A73868 : Option Addr) (c73869 : Nat) (hc73870 : (p0.Data.length ≤ c73869 ∧ c73869 ≤ 9223372036854775807)) (e73871 : Elems (Rp.int .u8) I w A73868 p0.Data) (s : St w0 M I (F) w) {r : ((List Int) × Int)} (hf : g21 p0 = some r) :
    Ret Tryd.prog 21 [.agg #[.int .i64 p0.Kind, .int .i64 p0.Page, .int .u64 p0.Epoch, .slice A73868 p0.Data.length c73869]] w fun v wz => ∀ X : Value → World → Prop, (∀ (I' : Nat → Prop) (A74223 : Option Addr) (n74224 : Nat) (c74225 : Nat) (cl74226 : List Value) (w' : World), St w0 M I' ((.sl (.slice A74223 n74224 c74225) 5 1 n74224 cl74226) :: F) w' → Kp I w I' w' → n74224 = r.1.length → RepL (Rp.int .u8) I' w' cl74226 r.1 → X (.tuple #[.slice A74223 n74224 c74225, .int .i64 r.2]) w') → X v wz := by
  have kk : Kp I w I w := Kp.refl
  unfold g21 at hf
  refine Ret.of Tryd.func21 rfl ?_
  refine WPK.seq ?_
  refine WPK.region ?_
  refine RW.op (by kernel_rfl) (OK.new hT (f := fun b => .pointer (some ⟨b, 0, none⟩)) (cs := [.int .i64 p0.Kind, .int .i64 p0.Page, .int .u64 p0.Epoch, .slice A73868 p0.Data.length c73869]) (e := 25) (c := .tt) s (by kernel_rfl) trivial ?_)
  rintro w73872 b73873 s k73874 -
  replace e73871 := e73871.st k73874
  replace kk := kk.trans k73874
  refine RW.seg hT 2 [] [] [.slice none 0 0, .int .i64 0] [] (by kernel_rfl) (trivial) ?_
  refine RW.nil ?_
  refine WPK.seq ?_
  refine WPK.seq ?_
  refine WPK.region ?_
  refine RW.seg hT 1 [.agg #[.int .i64 p0.Kind, .int .i64 p0.Page, .int .u64 p0.Epoch, .slice A73868 p0.Data.length c73869]] [] [.agg #[.int .i64 p0.Kind, .int .i64 p0.Page, .int .u64 p0.Epoch, .slice A73868 p0.Data.length c73869]] [.cells ⟨b73873, 0, none⟩ [.int .i64 p0.Kind, .int .i64 p0.Page, .int .u64 p0.Epoch, .slice A73868 p0.Data.length c73869] 4] (by kernel_rfl) (s.cells (i := 0) rfl rfl rfl) ?_
  obtain ⟨x73884, hx73885, hf⟩ := bindS hf
  refine RW.op (by kernel_rfl) (OK.call' en23 (by kernel_rfl) (c23 (F := (.blk b73873 (.cells #[.int .i64 p0.Kind, .int .i64 p0.Page, .int .u64 p0.Epoch, .slice A73868 p0.Data.length c73869] 25 (0, 0))) :: F) p0 A73868 c73869 hc73870 e73871 s hx73885) ?_)
  intro X73888 hX73889
  refine fun _ _ hJ => hJ X73888 ?_
  intro I73890 w73886 s k73887
  refine hX73889 _ _ ?_
  replace e73871 := e73871.st k73887
  replace kk := kk.trans k73887
  refine RW.seg hT 1 [] [] [.int .i64 x73884] [] (by kernel_rfl) (trivial) ?_
  refine RW.nil ?_
  refine WPK.seq ?_
  refine WPK.region ?_
  refine RW.seg hT 2 [] [(10, .bool (decide (x73884 ≠ 0)))] [.int .i64 x73884, .bool (decide (x73884 ≠ 0))] [.veq (.bool (x73884 != 0)) (.bool (decide (x73884 ≠ 0)))] (by kernel_rfl) (ne_v) ?_
  refine RW.nil ?_
  by_cases h73891 : x73884 ≠ 0
  · have hf := iteT h73891 hf
    refine WPK.condT (Eq.trans (b := .bool (decide (x73884 ≠ 0))) (by kernel_rfl) (bo_t h73891)) ?_
    refine WPK.seq ?_
    refine WPK.region ?_
    refine RW.seg hT 3 [] [] [.int .i64 x73884, .slice none 0 0, .int .i64 x73884] [] (by kernel_rfl) (trivial) ?_
    refine RW.nil ?_
    refine WPK.ret (?_)
    obtain rfl := someS hf
    refine Fin.of (rs := [.tmp 2, .tmp 3]) hT [] (.tuple #[.slice none 0 0, .int .i64 x73884]) [] rfl (by kernel_rfl) (trivial) ?_
    replace s := s.pushNil 5 1
    replace s := s.pick [0] 2 rfl
    exact fun X h => vc rfl (h I73890 none 0 0 [] _ s kk rfl (RepL.nil (r := (Rp.int .u8))))
  · have hf := iteF h73891 hf
    refine WPK.condF (Eq.trans (b := .bool (decide (x73884 ≠ 0))) (by kernel_rfl) (bo_f h73891)) ?_
    refine WPK.skip ?_
    refine WPK.seq ?_
    refine WPK.region ?_
    refine RW.seg hT 11 [.int .i64 p0.Kind, undef, .int .i64 p0.Page, undef, .int .i64 p0.Page, undef] [] [.pointer (some ⟨b73873, 0, none⟩), .int .i64 p0.Kind, .int .u8 (IntKind.u8.wrap p0.Kind), .pointer (some ⟨b73873, 1, none⟩), .int .i64 p0.Page, .int .i64 (IntKind.i64.wrap (Int.tdiv p0.Page 256)), .int .u8 (IntKind.u8.wrap (IntKind.i64.wrap (Int.tdiv p0.Page 256))), .pointer (some ⟨b73873, 1, none⟩), .int .i64 p0.Page, .int .i64 (Int.tmod p0.Page 256), .int .u8 (IntKind.u8.wrap (Int.tmod p0.Page 256))] [.cell ⟨b73873, 0, none⟩ (.int .i64 p0.Kind), .cell ⟨b73873, 1, none⟩ (.int .i64 p0.Page), .ne0 256, .cell ⟨b73873, 1, none⟩ (.int .i64 p0.Page), .ne0 256] (by kernel_rfl) (⟨s.cell (i := 0) (off := 0) rfl rfl, s.cell (i := 0) (off := 1) rfl rfl, (show (256 : Int) ≠ 0 by decide), s.cell (i := 0) (off := 1) rfl rfl, (show (256 : Int) ≠ 0 by decide)⟩) ?_
    refine RW.op (by kernel_rfl) (OK.new hT (f := fun b => .slice (some ⟨b, 0, none⟩) 4 4) (cs := [.int .u8 (IntKind.u8.wrap p0.Kind), .int .u8 0, .int .u8 (IntKind.u8.wrap (IntKind.i64.wrap (Int.tdiv p0.Page 256))), .int .u8 (IntKind.u8.wrap (Int.tmod p0.Page 256))]) (e := 5) (c := .tt) s (by kernel_rfl) trivial ?_)
    rintro w73893 b73894 s k73895 -
    replace e73871 := e73871.st k73895
    replace kk := kk.trans k73895
    have rp73896 : RepL (Rp.int .u8) I73890 w73893 [.int .u8 (IntKind.u8.wrap p0.Kind), .int .u8 0, .int .u8 (IntKind.u8.wrap (IntKind.i64.wrap (Int.tdiv p0.Page 256))), .int .u8 (IntKind.u8.wrap (Int.tmod p0.Page 256))] ([IntKind.u8.wrap p0.Kind, 0, IntKind.u8.wrap (IntKind.i64.wrap (Int.tdiv p0.Page 256)), IntKind.u8.wrap (Int.tmod p0.Page 256)] : List Int) := RepL.cons (c := [.int .u8 (IntKind.u8.wrap p0.Kind)]) (d := [.int .u8 0, .int .u8 (IntKind.u8.wrap (IntKind.i64.wrap (Int.tdiv p0.Page 256))), .int .u8 (IntKind.u8.wrap (Int.tmod p0.Page 256))]) (rfl) (RepL.cons (c := [.int .u8 0]) (d := [.int .u8 (IntKind.u8.wrap (IntKind.i64.wrap (Int.tdiv p0.Page 256))), .int .u8 (IntKind.u8.wrap (Int.tmod p0.Page 256))]) (rfl) (RepL.cons (c := [.int .u8 (IntKind.u8.wrap (IntKind.i64.wrap (Int.tdiv p0.Page 256)))]) (d := [.int .u8 (IntKind.u8.wrap (Int.tmod p0.Page 256))]) (rfl) (RepL.cons (c := [.int .u8 (IntKind.u8.wrap (Int.tmod p0.Page 256))]) (d := []) (rfl) (RepL.nil))))
    replace s : St w0 M I73890 ((.sl (.slice (some ⟨b73894, 0, none⟩) 4 4) 5 1 4 [.int .u8 (IntKind.u8.wrap p0.Kind), .int .u8 0, .int .u8 (IntKind.u8.wrap (IntKind.i64.wrap (Int.tdiv p0.Page 256))), .int .u8 (IntKind.u8.wrap (Int.tmod p0.Page 256))]) :: (.blk b73873 (.cells #[.int .i64 p0.Kind, .int .i64 p0.Page, .int .u64 p0.Epoch, .slice A73868 p0.Data.length c73869] 25 (0, 0))) :: F) w73893 := s.blkSl (i := 0) (n := 4) (c := 4) (size := 1) rfl rfl (Nat.le_refl _) (by decide)
    refine RW.seg hT 1 [] [] [.slice (some ⟨b73894, 0, none⟩) 4 4] [] (by kernel_rfl) (trivial) ?_
    refine RW.nil ?_
    refine WPK.seq ?_
    refine WPK.seq ?_
    refine WPK.region ?_
    refine RW.seg hT 1 [] [] [.int .i64 0] [] (by kernel_rfl) (trivial) ?_
    refine RW.nil ?_
    refine WPK.block ?_
    refine WPK.loop' (J := fun n74025 E ds wz => ∀ X : Kont, (∀ (I74002 : Nat → Prop) (x73992 : (List Int)) (x74000 : Int) (D73991 : List Value) (A73993 : Option Addr) (c73995 : Nat) (cl73996 : List Value) (w' : World), g21_l1 p0 n74025 x73992 x74000 = some r → St w0 M I74002 ((.sl (.slice A73993 x73992.length c73995) 5 1 x73992.length cl73996) :: (.blk b73873 (.cells #[.int .i64 p0.Kind, .int .i64 p0.Page, .int .u64 p0.Epoch, .slice A73868 p0.Data.length c73869] 25 (0, 0))) :: F) w' → Kp I w I74002 w' → RepL (Rp.int .u8) I74002 w' cl73996 x73992 → Elems (Rp.int .u8) I74002 w' A73868 p0.Data → X [(D73991.getD 0 undef), .pointer (some ⟨b73873, 0, none⟩), .slice none 0 0, .int .i64 0, (D73991.getD 1 undef), .slice A73993 x73992.length c73995, .int .i64 x74000, (D73991.getD 2 undef), (D73991.getD 3 undef), (D73991.getD 4 undef), (D73991.getD 5 undef), (D73991.getD 6 undef), (D73991.getD 7 undef), (D73991.getD 8 undef), (D73991.getD 9 undef), (D73991.getD 10 undef), (D73991.getD 11 undef), (D73991.getD 12 undef), (D73991.getD 13 undef), (D73991.getD 14 undef), (D73991.getD 15 undef), (D73991.getD 16 undef), (D73991.getD 17 undef), (D73991.getD 18 undef), (D73991.getD 19 undef), (D73991.getD 20 undef), (D73991.getD 21 undef), (D73991.getD 22 undef), (D73991.getD 23 undef), (D73991.getD 24 undef), (D73991.getD 25 undef), (D73991.getD 26 undef), (D73991.getD 27 undef), (D73991.getD 28 undef), (D73991.getD 29 undef), (D73991.getD 30 undef), (D73991.getD 31 undef), (D73991.getD 32 undef), (D73991.getD 33 undef), (D73991.getD 34 undef), undef, (D73991.getD 35 undef), undef, (D73991.getD 36 undef), undef, undef, (D73991.getD 37 undef), (D73991.getD 38 undef), undef, (D73991.getD 39 undef), undef] [] w') → X E ds wz) FUEL (fun X h => kc (by kernel_rfl) rfl (h I73890 ([IntKind.u8.wrap p0.Kind, 0, IntKind.u8.wrap (IntKind.i64.wrap (Int.tdiv p0.Page 256)), IntKind.u8.wrap (Int.tmod p0.Page 256)] : List Int) 0 [.agg #[.int .i64 p0.Kind, .int .i64 p0.Page, .int .u64 p0.Epoch, .slice A73868 p0.Data.length c73869], .int .i64 x73884, .agg #[.int .i64 p0.Kind, .int .i64 p0.Page, .int .u64 p0.Epoch, .slice A73868 p0.Data.length c73869], .int .i64 x73884, .int .i64 x73884, .bool (decide (x73884 ≠ 0)), undef, .pointer (some ⟨b73873, 0, none⟩), .int .i64 p0.Kind, .int .u8 (IntKind.u8.wrap p0.Kind), .pointer (some ⟨b73873, 1, none⟩), .int .i64 p0.Page, .int .i64 (IntKind.i64.wrap (Int.tdiv p0.Page 256)), .int .u8 (IntKind.u8.wrap (IntKind.i64.wrap (Int.tdiv p0.Page 256))), .pointer (some ⟨b73873, 1, none⟩), .int .i64 p0.Page, .int .i64 (Int.tmod p0.Page 256), .int .u8 (IntKind.u8.wrap (Int.tmod p0.Page 256)), .slice (some ⟨b73894, 0, none⟩) 4 4, undef, undef, undef, undef, undef, undef, undef, undef, undef, undef, undef, undef, undef, undef, undef, undef, undef, undef, undef, undef, undef] (some ⟨b73894, 0, none⟩) 4 [.int .u8 (IntKind.u8.wrap p0.Kind), .int .u8 0, .int .u8 (IntKind.u8.wrap (IntKind.i64.wrap (Int.tdiv p0.Page 256))), .int .u8 (IntKind.u8.wrap (Int.tmod p0.Page 256))] _ hf s kk rp73896 e73871)) (fun _ _ _ hJ => hJ (fun _ _ _ => False) (by intro I74002 x73992 x74000 D73991 A73993 c73995 cl73996 w74001 hf s kk rp73998 e73871; exact noneS hf)) ?_
    intro X74221 hX74222
    refine fun n74025 _ _ _ hJ => hJ (X74221 n74025) ?_
    intro I74002 x73992 x74000 D73991 A73993 c73995 cl73996 w74001 hf s kk rp73998 e73871
    refine hX74222 _ _ _ _ ?_
    replace hf : g21_l1B p0 (g21_l1 p0 n74025) x73992 x74000 = some r := hf
    generalize hrec74026 : g21_l1 p0 n74025 = rec74024 at hf
    unfold g21_l1B at hf
    refine WPK.seq ?_
    refine WPK.seq ?_
    refine WPK.region ?_
    refine RW.seg hT 2 [] [] [.int .i64 x74000, .bool (decide (x74000 < 8))] [] (by kernel_rfl) (trivial) ?_
    refine RW.nil ?_
    by_cases h74028 : x74000 < 8
    · have hf := iteT h74028 hf
      refine WPK.condT (Eq.trans (b := .bool (decide (x74000 < 8))) (by kernel_rfl) (bo_t h74028)) ?_
      refine WPK.skip ?_
      refine WPK.seq ?_
      refine WPK.block ?_
      refine WPK.region ?_
      obtain ⟨x74029, hx74030, hf⟩ := bindS hf
      obtain ⟨h74031, hf⟩ := iteS hf
      refine RW.seg hT 9 [.int .u64 p0.Epoch, undef, undef] [(34, .int .u64 x74029)] [.slice A73993 x73992.length c73995, .pointer (some ⟨b73873, 2, none⟩), .int .u64 p0.Epoch, .int .i64 x74000, .int .i64 (IntKind.i64.wrap (8 * x74000)), .int .i64 (IntKind.i64.wrap (56 - (IntKind.i64.wrap (8 * x74000)))), .int .u64 x74029, .int .u64 (shrI .u64 p0.Epoch x74029), .int .u8 (IntKind.u8.wrap (shrI .u64 p0.Epoch x74029))] [.cell ⟨b73873, 2, none⟩ (.int .u64 p0.Epoch), .veq (.int .u64 (IntKind.u64.wrap (IntKind.i64.wrap (56 - (IntKind.i64.wrap (8 * x74000)))))) (.int .u64 x74029), .nn x74029] (by kernel_rfl) (⟨s.cell (i := 1) (off := 2) rfl rfl, int_v (someS hx74030), h74031⟩) ?_
      refine RW.op (by kernel_rfl) (OK.new hT (f := fun b => .slice (some ⟨b, 0, none⟩) 1 1) (cs := [.int .u8 (IntKind.u8.wrap (shrI .u64 p0.Epoch x74029))]) (e := 5) (c := .tt) s (by kernel_rfl) trivial ?_)
      rintro w74032 b74033 s k74034 -
      replace e73871 := e73871.st k74034
      replace rp73998 := rp73998.st k74034
      replace kk := kk.trans k74034
      have rp74035 : RepL (Rp.int .u8) I74002 w74032 [.int .u8 (IntKind.u8.wrap (shrI .u64 p0.Epoch x74029))] ([IntKind.u8.wrap (shrI .u64 p0.Epoch x74029)] : List Int) := RepL.cons (c := [.int .u8 (IntKind.u8.wrap (shrI .u64 p0.Epoch x74029))]) (d := []) (rfl) (RepL.nil)
      replace s : St w0 M I74002 ((.sl (.slice (some ⟨b74033, 0, none⟩) 1 1) 5 1 1 [.int .u8 (IntKind.u8.wrap (shrI .u64 p0.Epoch x74029))]) :: (.sl (.slice A73993 x73992.length c73995) 5 1 x73992.length cl73996) :: (.blk b73873 (.cells #[.int .i64 p0.Kind, .int .i64 p0.Page, .int .u64 p0.Epoch, .slice A73868 p0.Data.length c73869] 25 (0, 0))) :: F) w74032 := s.blkSl (i := 0) (n := 1) (c := 1) (size := 1) rfl rfl (Nat.le_refl _) (by decide)
      have hs74038 := St.src s (i := 0) rfl rfl rp74035
      have rq74039 := rp74035
      obtain ⟨x74040, hx74041, hf⟩ := bindS hf
      refine RW.op (by kernel_rfl) (OK.app hT (r := (Rp.int .u8)) (i := 1) (t := 23) (e := 5) (size := 1) (bytes := 1) (c := c73995) (n := x73992.length) (m := 1) s (by kernel_rfl) rfl rfl rfl rfl rfl (by decide) rfl rfl rfl rfl rp73998 hs74038 rq74039 flat_int rfl hx74041 ?_)
      rintro A74042 c74043 cl74044 w74045 s k74046 rp74047
      replace e73871 := e73871.st k74046
      replace rp74035 := rp74035.st k74046
      replace rp73998 := rp73998.st k74046
      replace kk := kk.trans k74046
      refine RW.seg hT 1 [] [] [.slice A74042 x74040.length c74043] [] (by kernel_rfl) (trivial) ?_
      refine RW.nil ?_
      refine WPK.region ?_
      refine RW.seg hT 3 [] [] [.int .i64 x74000, .int .i64 (IntKind.i64.wrap (x74000 + 1)), .int .i64 (IntKind.i64.wrap (x74000 + 1))] [] (by kernel_rfl) (trivial) ?_
      refine RW.nil ?_
      subst hrec74026
      replace s := s.pick [1, 2] 3 rfl
      exact ⟨n74025, Nat.le_refl _, fun X h => kc (by kernel_rfl) rfl (h I74002 x74040 (IntKind.i64.wrap (x74000 + 1)) [(D73991.getD 0 undef), (D73991.getD 1 undef), (D73991.getD 2 undef), (D73991.getD 3 undef), (D73991.getD 4 undef), (D73991.getD 5 undef), (D73991.getD 6 undef), (D73991.getD 7 undef), (D73991.getD 8 undef), (D73991.getD 9 undef), (D73991.getD 10 undef), (D73991.getD 11 undef), (D73991.getD 12 undef), (D73991.getD 13 undef), (D73991.getD 14 undef), (D73991.getD 15 undef), (D73991.getD 16 undef), (D73991.getD 17 undef), (D73991.getD 18 undef), .int .i64 x74000, .bool (decide (x74000 < 8)), .int .i64 x74000, .int .i64 (IntKind.i64.wrap (x74000 + 1)), (.slice A73993 x73992.length c73995), .pointer (some ⟨b73873, 2, none⟩), .int .u64 p0.Epoch, .int .i64 x74000, .int .i64 (IntKind.i64.wrap (8 * x74000)), .int .i64 (IntKind.i64.wrap (56 - (IntKind.i64.wrap (8 * x74000)))), .int .u64 x74029, .int .u64 (shrI .u64 p0.Epoch x74029), .int .u8 (IntKind.u8.wrap (shrI .u64 p0.Epoch x74029)), .slice (some ⟨b74033, 0, none⟩) 1 1, .slice A74042 x74040.length c74043, (D73991.getD 34 undef), (D73991.getD 35 undef), (D73991.getD 36 undef), (D73991.getD 37 undef), (D73991.getD 38 undef), (D73991.getD 39 undef)] A74042 c74043 cl74044 _ hf s kk rp74047 e73871)⟩
    · have hf := iteF h74028 hf
      refine WPK.condF (Eq.trans (b := .bool (decide (x74000 < 8))) (by kernel_rfl) (bo_f h74028)) ?_
      refine WPK.exit (blockQ.same ?_)
      refine WPK.seq ?_
      refine WPK.region ?_
      refine RW.seg hT 3 [.slice A73868 p0.Data.length c73869] [] [.slice A73993 x73992.length c73995, .pointer (some ⟨b73873, 3, none⟩), .slice A73868 p0.Data.length c73869] [.cell ⟨b73873, 3, none⟩ (.slice A73868 p0.Data.length c73869)] (by kernel_rfl) (s.cell (i := 1) (off := 3) rfl rfl) ?_
      obtain ⟨nw74048, hs74049, rq74050⟩ := Elems.src e73871
      obtain ⟨x74051, hx74052, hf⟩ := bindS hf
      refine RW.op (by kernel_rfl) (OK.app hT (r := (Rp.int .u8)) (i := 0) (t := 23) (e := 5) (size := 1) (bytes := 1) (c := c73995) (n := x73992.length) (m := p0.Data.length) s (by kernel_rfl) rfl rfl rfl rfl rfl (by decide) rfl rfl rfl rfl rp73998 hs74049 rq74050 flat_int rfl hx74052 ?_)
      rintro A74053 c74054 cl74055 w74056 s k74057 rp74058
      replace e73871 := e73871.st k74057
      replace rp73998 := rp73998.st k74057
      replace kk := kk.trans k74057
      refine RW.seg hT 1 [] [] [.slice A74053 x74051.length c74054] [] (by kernel_rfl) (trivial) ?_
      refine RW.nil ?_
      refine WPK.seq ?_
      refine WPK.block ?_
      replace s := s.pick [0] 2 rfl
      refine WPK.loop' (J := fun n74179 E ds wz => ∀ X : Kont, (∀ (I74159 : Nat → Prop) (x74150 : (List Int)) (D74149 : List Value) (A74151 : Option Addr) (c74153 : Nat) (cl74154 : List Value) (w' : World), g21_l2 n74179 x74150 = some r → St w0 M I74159 ((.sl (.slice A74151 x74150.length c74153) 5 1 x74150.length cl74154) :: F) w' → Kp I w I74159 w' → RepL (Rp.int .u8) I74159 w' cl74154 x74150 → X [(D74149.getD 0 undef), (D74149.getD 1 undef), .slice none 0 0, .int .i64 0, (D74149.getD 2 undef), .slice A74151 x74150.length c74153, (D74149.getD 3 undef), (D74149.getD 4 undef), (D74149.getD 5 undef), (D74149.getD 6 undef), (D74149.getD 7 undef), (D74149.getD 8 undef), (D74149.getD 9 undef), (D74149.getD 10 undef), (D74149.getD 11 undef), (D74149.getD 12 undef), (D74149.getD 13 undef), (D74149.getD 14 undef), (D74149.getD 15 undef), (D74149.getD 16 undef), (D74149.getD 17 undef), (D74149.getD 18 undef), (D74149.getD 19 undef), (D74149.getD 20 undef), (D74149.getD 21 undef), (D74149.getD 22 undef), (D74149.getD 23 undef), (D74149.getD 24 undef), (D74149.getD 25 undef), (D74149.getD 26 undef), (D74149.getD 27 undef), (D74149.getD 28 undef), (D74149.getD 29 undef), (D74149.getD 30 undef), (D74149.getD 31 undef), (D74149.getD 32 undef), (D74149.getD 33 undef), (D74149.getD 34 undef), (D74149.getD 35 undef), (D74149.getD 36 undef), (D74149.getD 37 undef), (D74149.getD 38 undef), (D74149.getD 39 undef), (D74149.getD 40 undef), (D74149.getD 41 undef), (D74149.getD 42 undef), (D74149.getD 43 undef), (D74149.getD 44 undef), (D74149.getD 45 undef), (D74149.getD 46 undef), undef] [] w') → X E ds wz) FUEL (fun X h => kc (by kernel_rfl) rfl (h I74002 x74051 [(D73991.getD 0 undef), .pointer (some ⟨b73873, 0, none⟩), (D73991.getD 1 undef), .int .i64 x74000, (D73991.getD 2 undef), (D73991.getD 3 undef), (D73991.getD 4 undef), (D73991.getD 5 undef), (D73991.getD 6 undef), (D73991.getD 7 undef), (D73991.getD 8 undef), (D73991.getD 9 undef), (D73991.getD 10 undef), (D73991.getD 11 undef), (D73991.getD 12 undef), (D73991.getD 13 undef), (D73991.getD 14 undef), (D73991.getD 15 undef), (D73991.getD 16 undef), (D73991.getD 17 undef), (D73991.getD 18 undef), .int .i64 x74000, .bool (decide (x74000 < 8)), (D73991.getD 21 undef), (D73991.getD 22 undef), (D73991.getD 23 undef), (D73991.getD 24 undef), (D73991.getD 25 undef), (D73991.getD 26 undef), (D73991.getD 27 undef), (D73991.getD 28 undef), (D73991.getD 29 undef), (D73991.getD 30 undef), (D73991.getD 31 undef), (D73991.getD 32 undef), (D73991.getD 33 undef), (.slice A73993 x73992.length c73995), .pointer (some ⟨b73873, 3, none⟩), .slice A73868 p0.Data.length c73869, .slice A74053 x74051.length c74054, (D73991.getD 36 undef), undef, undef, (D73991.getD 37 undef), (D73991.getD 38 undef), undef, (D73991.getD 39 undef)] A74053 c74054 cl74055 _ hf s kk rp74058)) (fun _ _ _ hJ => hJ (fun _ _ _ => False) (by intro I74159 x74150 D74149 A74151 c74153 cl74154 w74158 hf s kk rp74156; exact noneS hf)) ?_
      intro X74219 hX74220
      refine fun n74179 _ _ _ hJ => hJ (X74219 n74179) ?_
      intro I74159 x74150 D74149 A74151 c74153 cl74154 w74158 hf s kk rp74156
      refine hX74220 _ _ _ _ ?_
      replace hf : g21_l2B (g21_l2 n74179) x74150 = some r := hf
      generalize hrec74180 : g21_l2 n74179 = rec74178 at hf
      unfold g21_l2B at hf
      refine WPK.seq ?_
      refine WPK.seq ?_
      refine WPK.region ?_
      refine RW.seg hT 3 [] [(44, .int .i64 (x74150.length : Int))] [.slice A74151 x74150.length c74153, .int .i64 (x74150.length : Int), .bool (decide ((x74150.length : Int) < 252))] [.veq (.int .i64 (x74150.length : Nat)) (.int .i64 (x74150.length : Int))] (by kernel_rfl) (len_v rfl) ?_
      refine RW.nil ?_
      by_cases h74182 : (x74150.length : Int) < 252
      · have hf := iteT h74182 hf
        refine WPK.condT (Eq.trans (b := .bool (decide ((x74150.length : Int) < 252))) (by kernel_rfl) (bo_t h74182)) ?_
        refine WPK.skip ?_
        refine WPK.block ?_
        refine WPK.region ?_
        refine RW.seg hT 1 [] [] [.slice A74151 x74150.length c74153] [] (by kernel_rfl) (trivial) ?_
        refine RW.op (by kernel_rfl) (OK.new hT (f := fun b => .slice (some ⟨b, 0, none⟩) 1 1) (cs := [.int .u8 0]) (e := 5) (c := .tt) s (by kernel_rfl) trivial ?_)
        rintro w74183 b74184 s k74185 -
        replace rp74156 := rp74156.st k74185
        replace kk := kk.trans k74185
        have rp74186 : RepL (Rp.int .u8) I74159 w74183 [.int .u8 0] ([0] : List Int) := RepL.cons (c := [.int .u8 0]) (d := []) (rfl) (RepL.nil)
        replace s : St w0 M I74159 ((.sl (.slice (some ⟨b74184, 0, none⟩) 1 1) 5 1 1 [.int .u8 0]) :: (.sl (.slice A74151 x74150.length c74153) 5 1 x74150.length cl74154) :: F) w74183 := s.blkSl (i := 0) (n := 1) (c := 1) (size := 1) rfl rfl (Nat.le_refl _) (by decide)
        have hs74189 := St.src s (i := 0) rfl rfl rp74186
        have rq74190 := rp74186
        obtain ⟨x74191, hx74192, hf⟩ := bindS hf
        refine RW.op (by kernel_rfl) (OK.app hT (r := (Rp.int .u8)) (i := 1) (t := 23) (e := 5) (size := 1) (bytes := 1) (c := c74153) (n := x74150.length) (m := 1) s (by kernel_rfl) rfl rfl rfl rfl rfl (by decide) rfl rfl rfl rfl rp74156 hs74189 rq74190 flat_int rfl hx74192 ?_)
        rintro A74193 c74194 cl74195 w74196 s k74197 rp74198
        replace rp74186 := rp74186.st k74197
        replace rp74156 := rp74156.st k74197
        replace kk := kk.trans k74197
        refine RW.seg hT 1 [] [] [.slice A74193 x74191.length c74194] [] (by kernel_rfl) (trivial) ?_
        refine RW.nil ?_
        subst hrec74180
        replace s := s.pick [1] 2 rfl
        exact ⟨n74179, Nat.le_refl _, fun X h => kc (by kernel_rfl) rfl (h I74159 x74191 [(D74149.getD 0 undef), (D74149.getD 1 undef), (D74149.getD 2 undef), (D74149.getD 3 undef), (D74149.getD 4 undef), (D74149.getD 5 undef), (D74149.getD 6 undef), (D74149.getD 7 undef), (D74149.getD 8 undef), (D74149.getD 9 undef), (D74149.getD 10 undef), (D74149.getD 11 undef), (D74149.getD 12 undef), (D74149.getD 13 undef), (D74149.getD 14 undef), (D74149.getD 15 undef), (D74149.getD 16 undef), (D74149.getD 17 undef), (D74149.getD 18 undef), (D74149.getD 19 undef), (D74149.getD 20 undef), (D74149.getD 21 undef), (D74149.getD 22 undef), (D74149.getD 23 undef), (D74149.getD 24 undef), (D74149.getD 25 undef), (D74149.getD 26 undef), (D74149.getD 27 undef), (D74149.getD 28 undef), (D74149.getD 29 undef), (D74149.getD 30 undef), (D74149.getD 31 undef), (D74149.getD 32 undef), (D74149.getD 33 undef), (D74149.getD 34 undef), (D74149.getD 35 undef), (D74149.getD 36 undef), (D74149.getD 37 undef), (D74149.getD 38 undef), (D74149.getD 39 undef), (.slice A74151 x74150.length c74153), .int .i64 (x74150.length : Int), .bool (decide ((x74150.length : Int) < 252)), (.slice A74151 x74150.length c74153), .slice (some ⟨b74184, 0, none⟩) 1 1, .slice A74193 x74191.length c74194, (D74149.getD 46 undef)] A74193 c74194 cl74195 _ hf s kk rp74198)⟩
      · have hf := iteF h74182 hf
        refine WPK.condF (Eq.trans (b := .bool (decide ((x74150.length : Int) < 252))) (by kernel_rfl) (bo_f h74182)) ?_
        refine WPK.exit (blockQ.same ?_)
        refine WPK.seq ?_
        refine WPK.region ?_
        refine RW.seg hT 1 [] [] [.slice A74151 x74150.length c74153] [] (by kernel_rfl) (trivial) ?_
        have sa74199 := s
        obtain ⟨hc74200, e74201⟩ := St.lend s (i := 0) rfl rfl rp74156
        have k74202 := Kp.shut (I := I74159) (w := w74158) (p := .sl (.slice A74151 x74150.length c74153) 5 1 x74150.length cl74154)
        replace s := s.shut 0 rfl
        obtain ⟨x74203, hx74204, hf⟩ := bindS hf
        refine RW.op (by kernel_rfl) (OK.call' en32 (by kernel_rfl) (c32 (F := F) x74150 A74151 c74153 hc74200 e74201 s hx74204) ?_)
        intro X74207 hX74208
        refine fun _ _ hJ => hJ X74207 ?_
        intro I74209 A74210 n74211 c74212 cl74213 w74205 s k74206 hn74214 rp74215
        refine hX74208 _ _ ?_
        have s' := St.back sa74199 (i := 0) rfl s k74206
        replace k74206 := Kp.back sa74199 (i := 0) rfl k74206
        replace s := s'; clear s'
        obtain ⟨I74218, s, k74206⟩ : ∃ I : Nat → Prop, St w0 M I ((.sl (.slice A74151 x74150.length c74153) 5 1 x74150.length cl74154) :: (.sl (.slice A74210 n74211 c74212) 5 1 n74211 cl74213) :: F) w74205 ∧ Kp _ _ I _ := ⟨_, s, k74206⟩
        replace rp74215 := RepL.free (I' := I74218) (w' := w74205) free_int rp74215
        replace rp74156 := rp74156.st k74206
        replace kk := kk.trans k74206
        refine RW.seg hT 2 [] [] [.slice A74210 n74211 c74212, .int .i64 0] [] (by kernel_rfl) (trivial) ?_
        refine RW.nil ?_
        refine WPK.ret (?_)
        obtain rfl := someS hf
        refine Fin.of (rs := [.tmp 2, .tmp 3]) hT [] (.tuple #[.slice A74210 n74211 c74212, .int .i64 0]) [] rfl (by kernel_rfl) (trivial) ?_
        replace s := s.pick [1] 2 rfl
        exact fun X h => vc rfl (h I74218 A74210 n74211 c74212 cl74213 _ s kk hn74214 rp74215)
theorem c33 {w0 w : World} {M I : Nat → Prop} {F : List It} (p0 : (List Int)) (A74561 : Option Addr) (c74562 : Nat) (hc74563 : (p0.length ≤ c74562 ∧ c74562 ≤ 9223372036854775807)) (e74564 : Elems (Rp.int .u8) I w A74561 p0) (s : St w0 M I (F) w) {r : (List Int)} (hf : g33 p0 = some r) :
    Ret Tryd.prog 33 [.slice A74561 p0.length c74562] w fun v wz => ∀ X : Value → World → Prop, (∀ (I' : Nat → Prop) (A74829 : Option Addr) (c74830 : Nat) (w' : World), St w0 M I' (F) w' → Kp I w I' w' → (r.length ≤ c74830 ∧ c74830 ≤ 9223372036854775807) → Elems (Rp.int .u8) I' w' A74829 r → X (.slice A74829 r.length c74830) w') → X v wz := by
  have kk : Kp I w I w := Kp.refl
  unfold g33 at hf
  refine Ret.of Tryd.func33 rfl ?_
  refine WPK.seq ?_
  refine WPK.region ?_
  refine RW.seg hT 1 [] [] [.slice none 0 0] [] (by kernel_rfl) (trivial) ?_
  refine RW.nil ?_
  refine WPK.seq ?_
  refine WPK.region ?_
  refine RW.seg hT 3 [] [] [.slice A74561 p0.length c74562, .int .i64 (p0.length : Int), .int .i64 (p0.length : Int)] [] (by kernel_rfl) (trivial) ?_
  refine RW.nil ?_
  refine WPK.seq ?_
  refine WPK.block ?_
  refine WPK.loop' (J := fun n74767 E ds wz => ∀ X : Kont, (∀ (x74727 : Int) (D74726 : List Value), g33_l1 p0 n74767 x74727 = some r → X [.slice A74561 p0.length c74562, (D74726.getD 0 undef), .slice none 0 0, .int .i64 x74727, (D74726.getD 1 undef), (D74726.getD 2 undef), (D74726.getD 3 undef), (D74726.getD 4 undef), (D74726.getD 5 undef), (D74726.getD 6 undef), (D74726.getD 7 undef), (D74726.getD 8 undef), (D74726.getD 9 undef), (D74726.getD 10 undef), (D74726.getD 11 undef), (D74726.getD 12 undef), (D74726.getD 13 undef), (D74726.getD 14 undef), undef, undef, undef] [] w) → X E ds wz) FUEL (fun X h => kc (by kernel_rfl) rfl (h (p0.length : Int) [undef, .slice A74561 p0.length c74562, .int .i64 (p0.length : Int), undef, undef, undef, undef, undef, undef, undef, undef, undef, undef, undef, undef] hf)) (fun _ _ _ hJ => hJ (fun _ _ _ => False) (by intro x74727 D74726 hf; exact noneS hf)) ?_
  intro X74827 hX74828
  refine fun n74767 _ _ _ hJ => hJ (X74827 n74767) ?_
  intro x74727 D74726 hf
  refine hX74828 _ _ _ _ ?_
  replace hf : g33_l1B p0 (g33_l1 p0 n74767) x74727 = some r := hf
  generalize hrec74768 : g33_l1 p0 n74767 = rec74766 at hf
  unfold g33_l1B at hf
  refine WPK.seq ?_
  refine WPK.seq ?_
  refine WPK.region ?_
  refine RW.seg hT 2 [] [] [.int .i64 x74727, .bool (decide (x74727 > 0))] [] (by kernel_rfl) (trivial) ?_
  by_cases h74797 : x74727 > 0
  · have hf := iteT h74797 hf
    obtain ⟨x74798, hx74799, hf⟩ := bindS hf
    obtain ⟨h74800, hx74799⟩ := getS hx74799
    obtain ⟨b74801, o74802, rfl⟩ := Elems.opn e74564 hx74799
    obtain ⟨cs74803, hr74804, ha74805⟩ := Elems.get e74564 hx74799
    obtain rfl : cs74803 = [.int .u8 x74798] := hr74804
    refine RW.seg hT 8 [.int .u8 x74798] [(8, .bool true), (14, .bool (decide (x74798 = 0)))] [.bool true, .slice (some ⟨b74801, o74802, none⟩) p0.length c74562, .int .i64 x74727, .int .i64 (IntKind.i64.wrap (x74727 - 1)), .pointer (some ⟨b74801, o74802 + (IntKind.i64.wrap (x74727 - 1)).toNat * 1, none⟩), .int .u8 x74798, .bool (decide (x74798 = 0)), .bool (decide (x74798 = 0))] [.veq (.bool (decide (x74727 > 0))) (.bool true), .idx (IntKind.i64.wrap (x74727 - 1)) p0.length, .cell ⟨b74801, o74802 + (IntKind.i64.wrap (x74727 - 1)).toNat * 1, none⟩ (.int .u8 x74798), .veq (.bool (x74798 == 0)) (.bool (decide (x74798 = 0)))] (by kernel_rfl) (⟨bo_t h74797, h74800, ha74805 0 _ rfl, eq_v⟩) ?_
    refine RW.nil ?_
    by_cases h74806 : x74798 = 0
    · have hf := iteT h74806 hf
      refine WPK.condT (Eq.trans (b := .bool (decide (x74798 = 0))) (by kernel_rfl) (bo_t h74806)) ?_
      refine WPK.skip ?_
      refine WPK.block ?_
      refine WPK.region ?_
      refine RW.seg hT 3 [] [] [.int .i64 x74727, .int .i64 (IntKind.i64.wrap (x74727 - 1)), .int .i64 (IntKind.i64.wrap (x74727 - 1))] [] (by kernel_rfl) (trivial) ?_
      refine RW.nil ?_
      subst hrec74768
      exact ⟨n74767, Nat.le_refl _, fun X h => kc (by kernel_rfl) rfl (h (IntKind.i64.wrap (x74727 - 1)) [(D74726.getD 0 undef), (D74726.getD 1 undef), (D74726.getD 2 undef), .int .i64 x74727, .bool (decide (x74727 > 0)), .bool true, .slice (some ⟨b74801, o74802, none⟩) p0.length c74562, .int .i64 x74727, .int .i64 (IntKind.i64.wrap (x74727 - 1)), .pointer (some ⟨b74801, o74802 + (IntKind.i64.wrap (x74727 - 1)).toNat * 1, none⟩), .int .u8 x74798, .bool (decide (x74798 = 0)), .bool (decide (x74798 = 0)), .int .i64 x74727, .int .i64 (IntKind.i64.wrap (x74727 - 1))] hf)⟩
    · have hf := iteF h74806 hf
      refine WPK.condF (Eq.trans (b := .bool (decide (x74798 = 0))) (by kernel_rfl) (bo_f h74806)) ?_
      refine WPK.exit (blockQ.same ?_)
      refine WPK.seq ?_
      refine WPK.region ?_
      obtain ⟨y74807, hy74808, hf⟩ := bindS hf
      obtain ⟨h74811, hc74812, e74813, q74814⟩ := slS0 hc74563 e74564 hy74808
      refine RW.seg hT 4 [] [(20, .slice (some ⟨b74801, o74802, none⟩) y74807.length c74562)] [.slice (some ⟨b74801, o74802, none⟩) p0.length c74562, .int .i64 x74727, .slice (some ⟨b74801, o74802, none⟩) y74807.length c74562, .slice (some ⟨b74801, o74802, none⟩) y74807.length c74562] [.both (.cut 0 x74727 c74562 c74562) (.veq (.slice (some ⟨b74801, o74802, none⟩) x74727.toNat c74562) (.slice (some ⟨b74801, o74802, none⟩) y74807.length c74562))] (by kernel_rfl) (⟨⟨by omega, by omega, by omega, by omega⟩, sl_eq rfl q74814 rfl⟩) ?_
      refine RW.nil ?_
      refine WPK.ret (?_)
      obtain rfl := someS hf
      refine Fin.of (rs := [.tmp 2]) hT [] (.slice (some ⟨b74801, o74802, none⟩) y74807.length c74562) [] rfl (by kernel_rfl) (trivial) ?_
      exact fun X h => vc rfl (h I (some ⟨b74801, o74802, none⟩) c74562 _ s kk hc74812 e74813)
  · have hf := iteF h74797 hf
    refine RW.seg hT 8 [] [(8, .bool false)] [.bool false, undef, undef, undef, undef, undef, undef, .bool false] [.veq (.bool (decide (x74727 > 0))) (.bool false)] (by kernel_rfl) (bo_f h74797) ?_
    refine RW.nil ?_
    refine WPK.condF (by kernel_rfl) ?_
    refine WPK.exit (blockQ.same ?_)
    refine WPK.seq ?_
    refine WPK.region ?_
    obtain ⟨y74817, hy74818, hf⟩ := bindS hf
    obtain ⟨h74821, hc74822, e74823, q74824⟩ := slS0 hc74563 e74564 hy74818
    refine RW.seg hT 4 [] [(20, .slice A74561 y74817.length c74562)] [.slice A74561 p0.length c74562, .int .i64 x74727, .slice A74561 y74817.length c74562, .slice A74561 y74817.length c74562] [.both (.cut 0 x74727 c74562 c74562) (.veq (.slice A74561 x74727.toNat c74562) (.slice A74561 y74817.length c74562))] (by kernel_rfl) (⟨⟨by omega, by omega, by omega, by omega⟩, sl_eq rfl q74824 rfl⟩) ?_
    refine RW.nil ?_
    refine WPK.ret (?_)
    obtain rfl := someS hf
    refine Fin.of (rs := [.tmp 2]) hT [] (.slice A74561 y74817.length c74562) [] rfl (by kernel_rfl) (trivial) ?_
    exact fun X h => vc rfl (h I A74561 c74562 _ s kk hc74822 e74823)
theorem c24 {w0 w : World} {M I : Nat → Prop} {F : List It} (p0 : T_api_Frame) (p1 : T_api_Frame) (A74895 : Option Addr) (c74896 : Nat) (A74899 : Option Addr) (c74900 : Nat) (hc74897 : (p0.Data.length ≤ c74896 ∧ c74896 ≤ 9223372036854775807)) (e74898 : Elems (Rp.int .u8) I w A74895 p0.Data) (hc74901 : (p1.Data.length ≤ c74900 ∧ c74900 ≤ 9223372036854775807)) (e74902 : Elems (Rp.int .u8) I w A74899 p1.Data) (s : St w0 M I (F) w) {r : Bool} (hf : g24 p0 p1 = some r) :
    Ret Tryd.prog 24 [.agg #[.int .i64 p0.Kind, .int .i64 p0.Page, .int .u64 p0.Epoch, .slice A74895 p0.Data.length c74896], .agg #[.int .i64 p1.Kind, .int .i64 p1.Page, .int .u64 p1.Epoch, .slice A74899 p1.Data.length c74900]] w fun v wz => ∀ X : Value → World → Prop, (∀ (I' : Nat → Prop) (w' : World), St w0 M I' (F) w' → Kp I w I' w' → X (.bool r) w') → X v wz := by
  have kk : Kp I w I w := Kp.refl
  unfold g24 at hf
  refine Ret.of Tryd.func24 rfl ?_
  refine WPK.seq ?_
  refine WPK.region ?_
  refine RW.op (by kernel_rfl) (OK.new hT (f := fun b => .pointer (some ⟨b, 0, none⟩)) (cs := [.int .i64 p0.Kind, .int .i64 p0.Page, .int .u64 p0.Epoch, .slice A74895 p0.Data.length c74896]) (e := 25) (c := .tt) s (by kernel_rfl) trivial ?_)
  rintro w74903 b74904 s k74905 -
  replace e74898 := e74898.st k74905
  replace e74902 := e74902.st k74905
  replace kk := kk.trans k74905
  refine RW.op (by kernel_rfl) (OK.new hT (f := fun b => .pointer (some ⟨b, 0, none⟩)) (cs := [.int .i64 p1.Kind, .int .i64 p1.Page, .int .u64 p1.Epoch, .slice A74899 p1.Data.length c74900]) (e := 25) (c := .tt) s (by kernel_rfl) trivial ?_)
  rintro w74906 b74907 s k74908 -
  replace e74898 := e74898.st k74908
  replace e74902 := e74902.st k74908
  replace kk := kk.trans k74908
  refine RW.seg hT 1 [] [] [.bool false] [] (by kernel_rfl) (trivial) ?_
  refine RW.nil ?_
  refine WPK.seq ?_
  refine WPK.cut' (Kn fun E ds wz => ∀ X : Kont, (∀ (I74944 : Nat → Prop) (x74942 : Bool) (D74941 : List Value) (w' : World), g24_j1 x74942 = some r → St w0 M I74944 (F) w' → Kp I w I74944 w' → X [(D74941.getD 0 undef), (D74941.getD 1 undef), (D74941.getD 2 undef), (D74941.getD 3 undef), .bool x74942, (D74941.getD 4 undef), (D74941.getD 5 undef), (D74941.getD 6 undef), (D74941.getD 7 undef), (D74941.getD 8 undef), (D74941.getD 9 undef), (D74941.getD 10 undef), (D74941.getD 11 undef), (D74941.getD 12 undef), (D74941.getD 13 undef), (D74941.getD 14 undef), (D74941.getD 15 undef), (D74941.getD 16 undef), (D74941.getD 17 undef), (D74941.getD 18 undef), (D74941.getD 19 undef), (D74941.getD 20 undef), (D74941.getD 21 undef), (D74941.getD 22 undef), (D74941.getD 23 undef), (D74941.getD 24 undef), (D74941.getD 25 undef), (D74941.getD 26 undef), (D74941.getD 27 undef), (D74941.getD 28 undef), (D74941.getD 29 undef), (D74941.getD 30 undef), (D74941.getD 31 undef), (D74941.getD 32 undef), (D74941.getD 33 undef)] [] w') → X E ds wz) ?_ ?_
  · intro X74945 hX74946
    refine fun _ _ _ hJ => hJ X74945 ?_
    intro I74944 x74942 D74941 w74943 hf s kk
    refine hX74946 _ _ _ ?_
    unfold g24_j1 at hf
    refine WPK.ret (?_)
    obtain rfl := someS hf
    refine Fin.of (rs := [.tmp 4]) hT [] (.bool x74942) [] rfl (by kernel_rfl) (trivial) ?_
    exact fun X h => vc rfl (h I74944 _ s kk)
  · have e74898S74947 := e74898
    have e74902S74947 := e74902
    have kS74951 : Kp I w74906 I w74906 := Kp.refl
    refine WPK.draw (fun w' => ∃ I' : Nat → Prop, St w0 M I' ((.blk b74907 (.cells #[.int .i64 p1.Kind, .int .i64 p1.Page, .int .u64 p1.Epoch, .slice A74899 p1.Data.length c74900] 25 (0, 0))) :: (.blk b74904 (.cells #[.int .i64 p0.Kind, .int .i64 p0.Page, .int .u64 p0.Epoch, .slice A74895 p0.Data.length c74896] 25 (0, 0))) :: F) w' ∧ Kp I w74906 I' w') 31 (by kernel_rfl) ?_
    intro w74948 hd74949
    have k74950 := Kp.dr s hd74949
    replace s := s.dr hd74949
    replace e74898 := e74898.st k74950
    replace e74902 := e74902.st k74950
    replace kk := kk.trans k74950
    replace kS74951 := kS74951.trans k74950
    refine RD.seg hT (by kernel_rfl) [0, 1, 2, 3, 4] [.int .i64 p0.Kind, .int .i64 p1.Kind] [(9, .bool (decide (p0.Kind = p1.Kind)))] [.pointer (some ⟨b74904, 0, none⟩), .int .i64 p0.Kind, .pointer (some ⟨b74907, 0, none⟩), .int .i64 p1.Kind, .bool (decide (p0.Kind = p1.Kind))] [.cell ⟨b74904, 0, none⟩ (.int .i64 p0.Kind), .cell ⟨b74907, 0, none⟩ (.int .i64 p1.Kind), .veq (.bool (p0.Kind == p1.Kind)) (.bool (decide (p0.Kind = p1.Kind)))] (by kernel_rfl) (by rintro w' ⟨I', s, k⟩; have e74898 := e74898S74947.st k; have e74902 := e74902S74947.st k; exact ⟨s.cell (i := 1) (off := 0) rfl rfl, s.cell (i := 0) (off := 0) rfl rfl, eq_v⟩) ⟨_, s.pick [0, 1] 2 rfl, kS74951⟩ ?_
    by_cases h74952 : p0.Kind = p1.Kind
    · have hf := iteT h74952 hf
      refine RD.seg hT (by kernel_rfl) [5, 6, 7, 8, 9, 10, 11] [.int .i64 p0.Page, .int .i64 p1.Page] [(10, .bool true), (15, .bool (decide (p0.Page = p1.Page)))] [.bool true, .pointer (some ⟨b74904, 1, none⟩), .int .i64 p0.Page, .pointer (some ⟨b74907, 1, none⟩), .int .i64 p1.Page, .bool (decide (p0.Page = p1.Page)), .bool (decide (p0.Page = p1.Page))] [.veq (.bool (decide (p0.Kind = p1.Kind))) (.bool true), .cell ⟨b74904, 1, none⟩ (.int .i64 p0.Page), .cell ⟨b74907, 1, none⟩ (.int .i64 p1.Page), .veq (.bool (p0.Page == p1.Page)) (.bool (decide (p0.Page = p1.Page)))] (by kernel_rfl) (by rintro w' ⟨I', s, k⟩; have e74898 := e74898S74947.st k; have e74902 := e74902S74947.st k; exact ⟨bo_t h74952, s.cell (i := 1) (off := 1) rfl rfl, s.cell (i := 0) (off := 1) rfl rfl, eq_v⟩) ⟨_, s.pick [0, 1] 2 rfl, kS74951⟩ ?_
      by_cases h74953 : p0.Page = p1.Page
      · have hf := iteT h74953 hf
        refine RD.seg hT (by kernel_rfl) [12, 13, 14, 15, 16, 17, 18] [.int .u64 p0.Epoch, .int .u64 p1.Epoch] [(17, .bool true), (22, .bool (decide (p0.Epoch = p1.Epoch)))] [.bool true, .pointer (some ⟨b74904, 2, none⟩), .int .u64 p0.Epoch, .pointer (some ⟨b74907, 2, none⟩), .int .u64 p1.Epoch, .bool (decide (p0.Epoch = p1.Epoch)), .bool (decide (p0.Epoch = p1.Epoch))] [.veq (.bool (decide (p0.Page = p1.Page))) (.bool true), .cell ⟨b74904, 2, none⟩ (.int .u64 p0.Epoch), .cell ⟨b74907, 2, none⟩ (.int .u64 p1.Epoch), .veq (.bool (p0.Epoch == p1.Epoch)) (.bool (decide (p0.Epoch = p1.Epoch)))] (by kernel_rfl) (by rintro w' ⟨I', s, k⟩; have e74898 := e74898S74947.st k; have e74902 := e74902S74947.st k; exact ⟨bo_t h74953, s.cell (i := 1) (off := 2) rfl rfl, s.cell (i := 0) (off := 2) rfl rfl, eq_v⟩) ⟨_, s.pick [0, 1] 2 rfl, kS74951⟩ ?_
        by_cases h74954 : p0.Epoch = p1.Epoch
        · have hf := iteT h74954 hf
          refine RD.seg hT (by kernel_rfl) [19, 20, 21, 24, 25] [.slice A74895 p0.Data.length c74896, .slice A74899 p1.Data.length c74900] [(24, .bool true)] [.bool true, .pointer (some ⟨b74904, 3, none⟩), .slice A74895 p0.Data.length c74896, .pointer (some ⟨b74907, 3, none⟩), .slice A74899 p1.Data.length c74900] [.veq (.bool (decide (p0.Epoch = p1.Epoch))) (.bool true), .cell ⟨b74904, 3, none⟩ (.slice A74895 p0.Data.length c74896), .cell ⟨b74907, 3, none⟩ (.slice A74899 p1.Data.length c74900)] (by kernel_rfl) (by rintro w' ⟨I', s, k⟩; have e74898 := e74898S74947.st k; have e74902 := e74902S74947.st k; exact ⟨bo_t h74954, s.cell (i := 1) (off := 3) rfl rfl, s.cell (i := 0) (off := 3) rfl rfl⟩) ⟨_, s.pick [0, 1] 2 rfl, kS74951⟩ ?_
          obtain ⟨x74955, hx74956, hf⟩ := bindS hf
          refine RD.op (i := 22) rfl (by kernel_rfl) (by kernel_rfl) (OK.call' en33 (by kernel_rfl) (c33 (F := (.blk b74907 (.cells #[.int .i64 p1.Kind, .int .i64 p1.Page, .int .u64 p1.Epoch, .slice A74899 p1.Data.length c74900] 25 (0, 0))) :: (.blk b74904 (.cells #[.int .i64 p0.Kind, .int .i64 p0.Page, .int .u64 p0.Epoch, .slice A74895 p0.Data.length c74896] 25 (0, 0))) :: F) p0.Data A74895 c74896 hc74897 e74898 s hx74956) ?_)
          intro X74959 hX74960
          refine fun _ _ hJ => hJ X74959 ?_
          intro I74961 A74962 c74963 w74957 s k74958 hc74964 e74965
          refine hX74960 _ _ ?_
          replace e74898 := e74898.st k74958
          replace e74902 := e74902.st k74958
          replace kk := kk.trans k74958
          replace kS74951 := kS74951.trans k74958
          refine ⟨fun _ => ⟨_, s.pick [0, 1] 2 rfl, kS74951⟩, RD.fold ?_⟩
          have e74898S74967 := e74898
          have e74902S74967 := e74902
          have e74965S74967 := e74965
          refine RD.strong (fun w' => ∃ I' : Nat → Prop, St w0 M I' ((.blk b74907 (.cells #[.int .i64 p1.Kind, .int .i64 p1.Page, .int .u64 p1.Epoch, .slice A74899 p1.Data.length c74900] 25 (0, 0))) :: (.blk b74904 (.cells #[.int .i64 p0.Kind, .int .i64 p0.Page, .int .u64 p0.Epoch, .slice A74895 p0.Data.length c74896] 25 (0, 0))) :: F) w' ∧ Kp I74961 w74957 I' w') ?_ ?_
          · rintro w' ⟨I', s, k⟩; exact ⟨_, s.pick [0, 1] 2 rfl, kS74951.trans k⟩
          have kS74966 : Kp I74961 w74957 I74961 w74957 := Kp.refl
          refine RD.seg hT (by kernel_rfl) [23] [.string (strOfNums x74955)] [] [.string (strOfNums x74955)] [.bytes A74962 x74955.length (strOfNums x74955)] (by kernel_rfl) (by rintro w' ⟨I', s, k⟩; have e74898 := e74898S74967.st k; have e74902 := e74902S74967.st k; have e74965 := e74965S74967.st k; exact Elems.bytes e74965) ⟨_, s.pick [0, 1] 2 rfl, kS74966⟩ ?_
          obtain ⟨x74968, hx74969, hf⟩ := bindS hf
          refine RD.op (i := 26) rfl (by kernel_rfl) (by kernel_rfl) (OK.call' en33 (by kernel_rfl) (c33 (F := (.blk b74907 (.cells #[.int .i64 p1.Kind, .int .i64 p1.Page, .int .u64 p1.Epoch, .slice A74899 p1.Data.length c74900] 25 (0, 0))) :: (.blk b74904 (.cells #[.int .i64 p0.Kind, .int .i64 p0.Page, .int .u64 p0.Epoch, .slice A74895 p0.Data.length c74896] 25 (0, 0))) :: F) p1.Data A74899 c74900 hc74901 e74902 s hx74969) ?_)
          intro X74972 hX74973
          refine fun _ _ hJ => hJ X74972 ?_
          intro I74974 A74975 c74976 w74970 s k74971 hc74977 e74978
          refine hX74973 _ _ ?_
          replace e74898 := e74898.st k74971
          replace e74902 := e74902.st k74971
          replace e74965 := e74965.st k74971
          replace kk := kk.trans k74971
          replace kS74966 := kS74966.trans k74971
          refine ⟨fun _ => ⟨_, s.pick [0, 1] 2 rfl, kS74966⟩, RD.fold ?_⟩
          refine RD.op (i := 27) rfl (by kernel_rfl) (by kernel_rfl) (OK.pure hT (ld := (.string (strOfNums x74968))) (v := .string (strOfNums x74968)) (c := .bytes A74975 x74968.length (strOfNums x74968)) (by kernel_rfl) (Elems.bytes e74978) ?_)
          refine ⟨fun _ => ⟨_, s.pick [0, 1] 2 rfl, kS74966⟩, RD.fold ?_⟩
          refine RD.seg hT (by kernel_rfl) [28, 29, 30] [] [(33, .bool (decide ((strOfNums x74955).toList = (strOfNums x74968).toList)))] [.bool (decide ((strOfNums x74955).toList = (strOfNums x74968).toList)), .bool (decide ((strOfNums x74955).toList = (strOfNums x74968).toList)), .bool (decide ((strOfNums x74955).toList = (strOfNums x74968).toList))] [.veq (.bool ((strOfNums x74955).toList == (strOfNums x74968).toList)) (.bool (decide ((strOfNums x74955).toList = (strOfNums x74968).toList)))] (by kernel_rfl) (by rintro w' ⟨I', s, k⟩; have e74898 := e74898S74967.st k; have e74902 := e74902S74967.st k; have e74965 := e74965S74967.st k; exact beq_v) ⟨_, s.pick [0, 1] 2 rfl, kS74966⟩ ?_
          refine RD.done (by kernel_rfl) ?_
          replace s := s.pick [] 2 rfl
          exact fun X h => kc (by kernel_rfl) rfl (h I74974 (decide ((strOfNums x74955).toList = (strOfNums x74968).toList)) [.agg #[.int .i64 p0.Kind, .int .i64 p0.Page, .int .u64 p0.Epoch, .slice A74895 p0.Data.length c74896], .agg #[.int .i64 p1.Kind, .int .i64 p1.Page, .int .u64 p1.Epoch, .slice A74899 p1.Data.length c74900], .pointer (some ⟨b74904, 0, none⟩), .pointer (some ⟨b74907, 0, none⟩), .pointer (some ⟨b74904, 0, none⟩), .int .i64 p0.Kind, .pointer (some ⟨b74907, 0, none⟩), .int .i64 p1.Kind, .bool (decide (p0.Kind = p1.Kind)), .bool true, .pointer (some ⟨b74904, 1, none⟩), .int .i64 p0.Page, .pointer (some ⟨b74907, 1, none⟩), .int .i64 p1.Page, .bool (decide (p0.Page = p1.Page)), .bool (decide (p0.Page = p1.Page)), .bool true, .pointer (some ⟨b74904, 2, none⟩), .int .u64 p0.Epoch, .pointer (some ⟨b74907, 2, none⟩), .int .u64 p1.Epoch, .bool (decide (p0.Epoch = p1.Epoch)), .bool (decide (p0.Epoch = p1.Epoch)), .bool true, .pointer (some ⟨b74904, 3, none⟩), .slice A74895 p0.Data.length c74896, .slice A74962 x74955.length c74963, .string (strOfNums x74955), .pointer (some ⟨b74907, 3, none⟩), .slice A74899 p1.Data.length c74900, .slice A74975 x74968.length c74976, .string (strOfNums x74968), .bool (decide ((strOfNums x74955).toList = (strOfNums x74968).toList)), .bool (decide ((strOfNums x74955).toList = (strOfNums x74968).toList))] _ hf s kk)
        · have hf := iteF h74954 hf
          refine RD.seg hT (by kernel_rfl) [19, 20, 21, 24, 25] [] [(24, .bool false)] [.bool false, undef, undef, undef, undef] [.veq (.bool (decide (p0.Epoch = p1.Epoch))) (.bool false)] (by kernel_rfl) (by rintro w' ⟨I', s, k⟩; have e74898 := e74898S74947.st k; have e74902 := e74902S74947.st k; exact bo_f h74954) ⟨_, s.pick [0, 1] 2 rfl, kS74951⟩ ?_
          refine RD.skip (i := 22) rfl (by kernel_rfl) (by kernel_rfl) ?_
          refine ⟨fun _ => ⟨_, s.pick [0, 1] 2 rfl, kS74951⟩, ?_⟩
          refine RD.seg hT (by kernel_rfl) [23] [] [] [undef] [] (by kernel_rfl) (fun _ _ => trivial) ⟨_, s.pick [0, 1] 2 rfl, kS74951⟩ ?_
          refine RD.skip (i := 26) rfl (by kernel_rfl) (by kernel_rfl) ?_
          refine ⟨fun _ => ⟨_, s.pick [0, 1] 2 rfl, kS74951⟩, ?_⟩
          refine RD.seg hT (by kernel_rfl) [27, 28, 29, 30] [] [] [undef, undef, .bool false, .bool false] [] (by kernel_rfl) (fun _ _ => trivial) ⟨_, s.pick [0, 1] 2 rfl, kS74951⟩ ?_
          refine RD.done (by kernel_rfl) ?_
          replace s := s.pick [] 2 rfl
          exact fun X h => kc (by kernel_rfl) rfl (h I false [.agg #[.int .i64 p0.Kind, .int .i64 p0.Page, .int .u64 p0.Epoch, .slice A74895 p0.Data.length c74896], .agg #[.int .i64 p1.Kind, .int .i64 p1.Page, .int .u64 p1.Epoch, .slice A74899 p1.Data.length c74900], .pointer (some ⟨b74904, 0, none⟩), .pointer (some ⟨b74907, 0, none⟩), .pointer (some ⟨b74904, 0, none⟩), .int .i64 p0.Kind, .pointer (some ⟨b74907, 0, none⟩), .int .i64 p1.Kind, .bool (decide (p0.Kind = p1.Kind)), .bool true, .pointer (some ⟨b74904, 1, none⟩), .int .i64 p0.Page, .pointer (some ⟨b74907, 1, none⟩), .int .i64 p1.Page, .bool (decide (p0.Page = p1.Page)), .bool (decide (p0.Page = p1.Page)), .bool true, .pointer (some ⟨b74904, 2, none⟩), .int .u64 p0.Epoch, .pointer (some ⟨b74907, 2, none⟩), .int .u64 p1.Epoch, .bool (decide (p0.Epoch = p1.Epoch)), .bool (decide (p0.Epoch = p1.Epoch)), .bool false, undef, undef, undef, undef, undef, undef, undef, undef, undef, .bool false] _ hf s kk)
      · have hf := iteF h74953 hf
        refine RD.seg hT (by kernel_rfl) [12, 13, 14, 15, 16, 17, 18, 19, 20, 21, 24, 25] [] [(17, .bool false)] [.bool false, undef, undef, undef, undef, undef, .bool false, .bool false, undef, undef, undef, undef] [.veq (.bool (decide (p0.Page = p1.Page))) (.bool false)] (by kernel_rfl) (by rintro w' ⟨I', s, k⟩; have e74898 := e74898S74947.st k; have e74902 := e74902S74947.st k; exact bo_f h74953) ⟨_, s.pick [0, 1] 2 rfl, kS74951⟩ ?_
        refine RD.skip (i := 22) rfl (by kernel_rfl) (by kernel_rfl) ?_
        refine ⟨fun _ => ⟨_, s.pick [0, 1] 2 rfl, kS74951⟩, ?_⟩
        refine RD.seg hT (by kernel_rfl) [23] [] [] [undef] [] (by kernel_rfl) (fun _ _ => trivial) ⟨_, s.pick [0, 1] 2 rfl, kS74951⟩ ?_
        refine RD.skip (i := 26) rfl (by kernel_rfl) (by kernel_rfl) ?_
        refine ⟨fun _ => ⟨_, s.pick [0, 1] 2 rfl, kS74951⟩, ?_⟩
        refine RD.seg hT (by kernel_rfl) [27, 28, 29, 30] [] [] [undef, undef, .bool false, .bool false] [] (by kernel_rfl) (fun _ _ => trivial) ⟨_, s.pick [0, 1] 2 rfl, kS74951⟩ ?_
        refine RD.done (by kernel_rfl) ?_
        replace s := s.pick [] 2 rfl
        exact fun X h => kc (by kernel_rfl) rfl (h I false [.agg #[.int .i64 p0.Kind, .int .i64 p0.Page, .int .u64 p0.Epoch, .slice A74895 p0.Data.length c74896], .agg #[.int .i64 p1.Kind, .int .i64 p1.Page, .int .u64 p1.Epoch, .slice A74899 p1.Data.length c74900], .pointer (some ⟨b74904, 0, none⟩), .pointer (some ⟨b74907, 0, none⟩), .pointer (some ⟨b74904, 0, none⟩), .int .i64 p0.Kind, .pointer (some ⟨b74907, 0, none⟩), .int .i64 p1.Kind, .bool (decide (p0.Kind = p1.Kind)), .bool true, .pointer (some ⟨b74904, 1, none⟩), .int .i64 p0.Page, .pointer (some ⟨b74907, 1, none⟩), .int .i64 p1.Page, .bool (decide (p0.Page = p1.Page)), .bool (decide (p0.Page = p1.Page)), .bool false, undef, undef, undef, undef, undef, .bool false, .bool false, undef, undef, undef, undef, undef, undef, undef, undef, undef, .bool false] _ hf s kk)
    · have hf := iteF h74952 hf
      refine RD.seg hT (by kernel_rfl) [5, 6, 7, 8, 9, 10, 11, 12, 13, 14, 15, 16, 17, 18, 19, 20, 21, 24, 25] [] [(10, .bool false)] [.bool false, undef, undef, undef, undef, undef, .bool false, .bool false, undef, undef, undef, undef, undef, .bool false, .bool false, undef, undef, undef, undef] [.veq (.bool (decide (p0.Kind = p1.Kind))) (.bool false)] (by kernel_rfl) (by rintro w' ⟨I', s, k⟩; have e74898 := e74898S74947.st k; have e74902 := e74902S74947.st k; exact bo_f h74952) ⟨_, s.pick [0, 1] 2 rfl, kS74951⟩ ?_
      refine RD.skip (i := 22) rfl (by kernel_rfl) (by kernel_rfl) ?_
      refine ⟨fun _ => ⟨_, s.pick [0, 1] 2 rfl, kS74951⟩, ?_⟩
      refine RD.seg hT (by kernel_rfl) [23] [] [] [undef] [] (by kernel_rfl) (fun _ _ => trivial) ⟨_, s.pick [0, 1] 2 rfl, kS74951⟩ ?_
      refine RD.skip (i := 26) rfl (by kernel_rfl) (by kernel_rfl) ?_
      refine ⟨fun _ => ⟨_, s.pick [0, 1] 2 rfl, kS74951⟩, ?_⟩
      refine RD.seg hT (by kernel_rfl) [27, 28, 29, 30] [] [] [undef, undef, .bool false, .bool false] [] (by kernel_rfl) (fun _ _ => trivial) ⟨_, s.pick [0, 1] 2 rfl, kS74951⟩ ?_
      refine RD.done (by kernel_rfl) ?_
      replace s := s.pick [] 2 rfl
      exact fun X h => kc (by kernel_rfl) rfl (h I false [.agg #[.int .i64 p0.Kind, .int .i64 p0.Page, .int .u64 p0.Epoch, .slice A74895 p0.Data.length c74896], .agg #[.int .i64 p1.Kind, .int .i64 p1.Page, .int .u64 p1.Epoch, .slice A74899 p1.Data.length c74900], .pointer (some ⟨b74904, 0, none⟩), .pointer (some ⟨b74907, 0, none⟩), .pointer (some ⟨b74904, 0, none⟩), .int .i64 p0.Kind, .pointer (some ⟨b74907, 0, none⟩), .int .i64 p1.Kind, .bool (decide (p0.Kind = p1.Kind)), .bool false, undef, undef, undef, undef, undef, .bool false, .bool false, undef, undef, undef, undef, undef, .bool false, .bool false, undef, undef, undef, undef, undef, undef, undef, undef, undef, .bool false] _ hf s kk)
theorem c7 {w0 w : World} {M I : Nat → Prop} {F : List It} (p0 : T_api_Frame) (p1 : T_api_Frame) (A75406 : Option Addr) (c75407 : Nat) (A75410 : Option Addr) (c75411 : Nat) (hc75408 : (p0.Data.length ≤ c75407 ∧ c75407 ≤ 9223372036854775807)) (e75409 : Elems (Rp.int .u8) I w A75406 p0.Data) (hc75412 : (p1.Data.length ≤ c75411 ∧ c75411 ≤ 9223372036854775807)) (e75413 : Elems (Rp.int .u8) I w A75410 p1.Data) (eg0 : Elems (Rp.int .u32) I w (some ⟨0, 0, none⟩) TAB0) (s : St w0 M I (F) w) {r : Bool} (hf : g7 p0 p1 = some r) :
    Ret Tryd.prog 7 [.agg #[.int .i64 p0.Kind, .int .i64 p0.Page, .int .u64 p0.Epoch, .slice A75406 p0.Data.length c75407], .agg #[.int .i64 p1.Kind, .int .i64 p1.Page, .int .u64 p1.Epoch, .slice A75410 p1.Data.length c75411]] w fun v wz => ∀ X : Value → World → Prop, (∀ (I' : Nat → Prop) (w' : World), St w0 M I' (F) w' → Kp I w I' w' → X (.bool r) w') → X v wz := by
  have kk : Kp I w I w := Kp.refl
  unfold g7 at hf
  refine Ret.of Tryd.func7 rfl ?_
  refine WPK.seq ?_
  refine WPK.region ?_
  refine RW.op (by kernel_rfl) (OK.new hT (f := fun b => .pointer (some ⟨b, 0, none⟩)) (cs := [.int .i64 p0.Kind, .int .i64 p0.Page, .int .u64 p0.Epoch, .slice A75406 p0.Data.length c75407]) (e := 25) (c := .tt) s (by kernel_rfl) trivial ?_)
  rintro w75414 b75415 s k75416 -
  replace e75409 := e75409.st k75416
  replace e75413 := e75413.st k75416
  replace eg0 := eg0.st k75416
  replace kk := kk.trans k75416
  refine RW.op (by kernel_rfl) (OK.new hT (f := fun b => .pointer (some ⟨b, 0, none⟩)) (cs := [.int .i64 p1.Kind, .int .i64 p1.Page, .int .u64 p1.Epoch, .slice A75410 p1.Data.length c75411]) (e := 25) (c := .tt) s (by kernel_rfl) trivial ?_)
  rintro w75417 b75418 s k75419 -
  replace e75409 := e75409.st k75419
  replace e75413 := e75413.st k75419
  replace eg0 := eg0.st k75419
  replace kk := kk.trans k75419
  refine RW.seg hT 1 [] [] [.bool false] [] (by kernel_rfl) (trivial) ?_
  refine RW.nil ?_
  refine WPK.seq ?_
  refine WPK.seq ?_
  refine WPK.cut' (Kn fun E ds wz => ∀ X : Kont, (∀ (I75516 : Nat → Prop) (x75514 : Bool) (D75513 : List Value) (w' : World), g7_j1 p0 p1 x75514 = some r → St w0 M I75516 ((.blk b75418 (.cells #[.int .i64 p1.Kind, .int .i64 p1.Page, .int .u64 p1.Epoch, .slice A75410 p1.Data.length c75411] 25 (0, 0))) :: (.blk b75415 (.cells #[.int .i64 p0.Kind, .int .i64 p0.Page, .int .u64 p0.Epoch, .slice A75406 p0.Data.length c75407] 25 (0, 0))) :: F) w' → Kp I w I75516 w' → Elems (Rp.int .u8) I75516 w' A75410 p1.Data → Elems (Rp.int .u8) I75516 w' A75406 p0.Data → Elems (Rp.int .u32) I75516 w' (some ⟨0, 0, none⟩) TAB0 → X [(D75513.getD 0 undef), (D75513.getD 1 undef), .pointer (some ⟨b75415, 0, none⟩), .pointer (some ⟨b75418, 0, none⟩), .bool false, undef, undef, undef, undef, undef, undef, (D75513.getD 2 undef), (D75513.getD 3 undef), (D75513.getD 4 undef), (D75513.getD 5 undef), (D75513.getD 6 undef), (D75513.getD 7 undef), (D75513.getD 8 undef), (D75513.getD 9 undef), .bool x75514, undef, undef, (D75513.getD 10 undef), undef, undef, (D75513.getD 11 undef), undef, undef, undef, undef, (D75513.getD 12 undef), undef, undef, undef, (D75513.getD 13 undef), undef, (D75513.getD 14 undef), undef, undef, undef, (D75513.getD 15 undef), (D75513.getD 16 undef), undef, (D75513.getD 17 undef), (D75513.getD 18 undef), undef, undef, undef, undef, (D75513.getD 19 undef), (D75513.getD 20 undef), undef, undef, undef, undef, undef, undef, undef, undef, (D75513.getD 21 undef), undef, undef, undef, undef, undef, undef, undef, undef, undef, undef, undef, undef, (D75513.getD 22 undef), (D75513.getD 23 undef), undef] [] w') → X E ds wz) ?_ ?_
  · intro X75993 hX75994
    refine fun _ _ _ hJ => hJ X75993 ?_
    intro I75516 x75514 D75513 w75515 hf s kk e75413 e75409 eg0
    refine hX75994 _ _ _ ?_
    unfold g7_j1 at hf
    by_cases h75517 : x75514 = true
    · have hf := iteT h75517 hf
      refine WPK.condT (Eq.trans (b := .bool x75514) (by kernel_rfl) (b_t h75517)) ?_
      refine WPK.seq ?_
      refine WPK.region ?_
      obtain ⟨x75518, hx75519, hf⟩ := bindS hf
      refine RW.op (by kernel_rfl) (OK.call' en9 (by kernel_rfl) (c9 (F := (.blk b75418 (.cells #[.int .i64 p1.Kind, .int .i64 p1.Page, .int .u64 p1.Epoch, .slice A75410 p1.Data.length c75411] 25 (0, 0))) :: (.blk b75415 (.cells #[.int .i64 p0.Kind, .int .i64 p0.Page, .int .u64 p0.Epoch, .slice A75406 p0.Data.length c75407] 25 (0, 0))) :: F) eg0 s hx75519) ?_)
      intro X75522 hX75523
      refine fun _ _ hJ => hJ X75522 ?_
      intro I75524 w75520 s k75521
      refine hX75523 _ _ ?_
      replace e75413 := e75413.st k75521
      replace e75409 := e75409.st k75521
      replace eg0 := eg0.st k75521
      replace kk := kk.trans k75521
      refine RW.seg hT 1 [] [] [.bool x75518] [] (by kernel_rfl) (trivial) ?_
      refine RW.nil ?_
      refine WPK.ret (?_)
      obtain rfl := someS hf
      refine Fin.of (rs := [.tmp 4]) hT [] (.bool x75518) [] rfl (by kernel_rfl) (trivial) ?_
      replace s := s.pick [] 2 rfl
      exact fun X h => vc rfl (h I75524 _ s kk)
    · have hf := iteF h75517 hf
      refine WPK.condF (Eq.trans (b := .bool x75514) (by kernel_rfl) (b_f h75517)) ?_
      refine WPK.skip ?_
      refine WPK.seq ?_
      refine WPK.region ?_
      refine RW.seg hT 2 [.slice A75406 p0.Data.length c75407] [] [.pointer (some ⟨b75415, 3, none⟩), .slice A75406 p0.Data.length c75407] [.cell ⟨b75415, 3, none⟩ (.slice A75406 p0.Data.length c75407)] (by kernel_rfl) (s.cell (i := 1) (off := 3) rfl rfl) ?_
      obtain ⟨x75525, hx75526, hf⟩ := bindS hf
      refine RW.op (by kernel_rfl) (OK.call' en13 (by kernel_rfl) (c13 (F := (.blk b75418 (.cells #[.int .i64 p1.Kind, .int .i64 p1.Page, .int .u64 p1.Epoch, .slice A75410 p1.Data.length c75411] 25 (0, 0))) :: (.blk b75415 (.cells #[.int .i64 p0.Kind, .int .i64 p0.Page, .int .u64 p0.Epoch, .slice A75406 p0.Data.length c75407] 25 (0, 0))) :: F) p0.Data A75406 c75407 hc75408 e75409 s hx75526) ?_)
      intro X75529 hX75530
      refine fun _ _ hJ => hJ X75529 ?_
      intro I75531 A75532 n75533 c75534 cl75535 w75527 s k75528 hn75536 rp75537
      refine hX75530 _ _ ?_
      replace e75409 := e75409.st k75528
      replace e75413 := e75413.st k75528
      replace eg0 := eg0.st k75528
      replace kk := kk.trans k75528
      refine RW.seg hT 1 [] [] [.slice A75532 n75533 c75534] [] (by kernel_rfl) (trivial) ?_
      refine RW.nil ?_
      refine WPK.seq ?_
      refine WPK.region ?_
      refine RW.seg hT 1 [.agg #[.int .i64 p0.Kind, .int .i64 p0.Page, .int .u64 p0.Epoch, .slice A75406 p0.Data.length c75407]] [] [.agg #[.int .i64 p0.Kind, .int .i64 p0.Page, .int .u64 p0.Epoch, .slice A75406 p0.Data.length c75407]] [.cells ⟨b75415, 0, none⟩ [.int .i64 p0.Kind, .int .i64 p0.Page, .int .u64 p0.Epoch, .slice A75406 p0.Data.length c75407] 4] (by kernel_rfl) (s.cells (i := 2) rfl rfl rfl) ?_
      obtain ⟨x75539, hx75540, hf⟩ := bindS hf
      refine RW.op (by kernel_rfl) (OK.call' en11 (by kernel_rfl) (c11 (F := (.sl (.slice A75532 n75533 c75534) 5 1 n75533 cl75535) :: (.blk b75418 (.cells #[.int .i64 p1.Kind, .int .i64 p1.Page, .int .u64 p1.Epoch, .slice A75410 p1.Data.length c75411] 25 (0, 0))) :: (.blk b75415 (.cells #[.int .i64 p0.Kind, .int .i64 p0.Page, .int .u64 p0.Epoch, .slice A75406 p0.Data.length c75407] 25 (0, 0))) :: F) p0 A75406 c75407 hc75408 e75409 eg0 s hx75540) ?_)
      intro X75543 hX75544
      refine fun _ _ hJ => hJ X75543 ?_
      intro I75545 A75546 n75547 c75548 cl75549 w75541 s k75542 hn75550 rp75551
      refine hX75544 _ _ ?_
      replace e75409 := e75409.st k75542
      replace e75413 := e75413.st k75542
      replace rp75537 := rp75537.st k75542
      replace eg0 := eg0.st k75542
      replace kk := kk.trans k75542
      refine RW.seg hT 5 [] [] [.tuple #[.slice A75546 n75547 c75548, .int .i64 x75539.2], .slice A75546 n75547 c75548, .int .i64 x75539.2, .slice A75546 n75547 c75548, .int .i64 x75539.2] [] (by kernel_rfl) (trivial) ?_
      refine RW.nil ?_
      refine WPK.seq ?_
      refine WPK.region ?_
      refine RW.seg hT 1 [.agg #[.int .i64 p0.Kind, .int .i64 p0.Page, .int .u64 p0.Epoch, .slice A75406 p0.Data.length c75407]] [] [.agg #[.int .i64 p0.Kind, .int .i64 p0.Page, .int .u64 p0.Epoch, .slice A75406 p0.Data.length c75407]] [.cells ⟨b75415, 0, none⟩ [.int .i64 p0.Kind, .int .i64 p0.Page, .int .u64 p0.Epoch, .slice A75406 p0.Data.length c75407] 4] (by kernel_rfl) (s.cells (i := 3) rfl rfl rfl) ?_
      obtain ⟨x75553, hx75554, hf⟩ := bindS hf
      refine RW.op (by kernel_rfl) (OK.call' en21 (by kernel_rfl) (c21 (F := (.sl (.slice A75546 n75547 c75548) 49 1 n75547 cl75549) :: (.sl (.slice A75532 n75533 c75534) 5 1 n75533 cl75535) :: (.blk b75418 (.cells #[.int .i64 p1.Kind, .int .i64 p1.Page, .int .u64 p1.Epoch, .slice A75410 p1.Data.length c75411] 25 (0, 0))) :: (.blk b75415 (.cells #[.int .i64 p0.Kind, .int .i64 p0.Page, .int .u64 p0.Epoch, .slice A75406 p0.Data.length c75407] 25 (0, 0))) :: F) p0 A75406 c75407 hc75408 e75409 s hx75554) ?_)
      intro X75557 hX75558
      refine fun _ _ hJ => hJ X75557 ?_
      intro I75559 A75560 n75561 c75562 cl75563 w75555 s k75556 hn75564 rp75565
      refine hX75558 _ _ ?_
      replace e75409 := e75409.st k75556
      replace e75413 := e75413.st k75556
      replace rp75551 := rp75551.st k75556
      replace rp75537 := rp75537.st k75556
      replace eg0 := eg0.st k75556
      replace kk := kk.trans k75556
      refine RW.seg hT 5 [] [] [.tuple #[.slice A75560 n75561 c75562, .int .i64 x75553.2], .slice A75560 n75561 c75562, .int .i64 x75553.2, .slice A75560 n75561 c75562, .int .i64 x75553.2] [] (by kernel_rfl) (trivial) ?_
      refine RW.nil ?_
      refine WPK.seq ?_
      refine WPK.seq ?_
      refine WPK.cut' (Kn fun E ds wz => ∀ X : Kont, (∀ (I75742 : Nat → Prop) (x75740 : Bool) (D75739 : List Value) (w' : World), g7_j2 p0 x75525 x75539 x75740 = some r → St w0 M I75742 ((.sl (.slice A75546 n75547 c75548) 49 1 n75547 cl75549) :: (.sl (.slice A75532 n75533 c75534) 5 1 n75533 cl75535) :: (.blk b75415 (.cells #[.int .i64 p0.Kind, .int .i64 p0.Page, .int .u64 p0.Epoch, .slice A75406 p0.Data.length c75407] 25 (0, 0))) :: F) w' → Kp I w I75742 w' → Elems (Rp.int .u8) I75742 w' A75406 p0.Data → RepL (Rp.int .u8) I75742 w' cl75549 x75539.1 → RepL (Rp.int .u8) I75742 w' cl75535 x75525 → Elems (Rp.int .u32) I75742 w' (some ⟨0, 0, none⟩) TAB0 → X [(D75739.getD 0 undef), (D75739.getD 1 undef), .pointer (some ⟨b75415, 0, none⟩), (D75739.getD 2 undef), .bool false, .slice A75532 n75533 c75534, .slice A75546 n75547 c75548, (D75739.getD 3 undef), (D75739.getD 4 undef), (D75739.getD 5 undef), undef, (D75739.getD 6 undef), (D75739.getD 7 undef), (D75739.getD 8 undef), (D75739.getD 9 undef), (D75739.getD 10 undef), (D75739.getD 11 undef), (D75739.getD 12 undef), (D75739.getD 13 undef), (D75739.getD 14 undef), (D75739.getD 15 undef), (D75739.getD 16 undef), (D75739.getD 17 undef), (D75739.getD 18 undef), (D75739.getD 19 undef), (D75739.getD 20 undef), (D75739.getD 21 undef), (D75739.getD 22 undef), (D75739.getD 23 undef), (D75739.getD 24 undef), (D75739.getD 25 undef), (D75739.getD 26 undef), (D75739.getD 27 undef), (D75739.getD 28 undef), (D75739.getD 29 undef), (D75739.getD 30 undef), (D75739.getD 31 undef), (D75739.getD 32 undef), (D75739.getD 33 undef), (D75739.getD 34 undef), (D75739.getD 35 undef), (D75739.getD 36 undef), (D75739.getD 37 undef), (D75739.getD 38 undef), (D75739.getD 39 undef), (D75739.getD 40 undef), (D75739.getD 41 undef), (D75739.getD 42 undef), (D75739.getD 43 undef), (D75739.getD 44 undef), (D75739.getD 45 undef), (D75739.getD 46 undef), (D75739.getD 47 undef), (D75739.getD 48 undef), (D75739.getD 49 undef), (D75739.getD 50 undef), (D75739.getD 51 undef), (D75739.getD 52 undef), .bool x75740, (D75739.getD 53 undef), undef, undef, undef, undef, undef, undef, undef, undef, undef, undef, undef, undef, (D75739.getD 54 undef), (D75739.getD 55 undef), undef] [] w') → X E ds wz) ?_ ?_
      · intro X75936 hX75937
        refine fun _ _ _ hJ => hJ X75936 ?_
        intro I75742 x75740 D75739 w75741 hf s kk e75409 rp75551 rp75537 eg0
        refine hX75937 _ _ _ ?_
        unfold g7_j2 at hf
        by_cases h75743 : x75740 = true
        · have hf := iteT h75743 hf
          refine WPK.condT (Eq.trans (b := .bool x75740) (by kernel_rfl) (b_t h75743)) ?_
          refine WPK.seq ?_
          refine WPK.region ?_
          refine RW.seg hT 1 [] [] [.bool false] [] (by kernel_rfl) (trivial) ?_
          refine RW.nil ?_
          refine WPK.ret (?_)
          obtain rfl := someS hf
          refine Fin.of (rs := [.tmp 4]) hT [] (.bool false) [] rfl (by kernel_rfl) (trivial) ?_
          replace s := s.pick [] 3 rfl
          exact fun X h => vc rfl (h I75742 _ s kk)
        · have hf := iteF h75743 hf
          refine WPK.condF (Eq.trans (b := .bool x75740) (by kernel_rfl) (b_f h75743)) ?_
          refine WPK.skip ?_
          refine WPK.seq ?_
          refine WPK.seq ?_
          refine WPK.region ?_
          refine RW.seg hT 3 [] [(60, .int .i64 (x75539.1.length : Int))] [.slice A75546 n75547 c75548, .int .i64 (x75539.1.length : Int), .int .i64 0] [.veq (.int .i64 (n75547 : Nat)) (.int .i64 (x75539.1.length : Int))] (by kernel_rfl) (len_v hn75550) ?_
          refine RW.nil ?_
          refine WPK.block ?_
          refine WPK.loop' (J := fun n75893 E ds wz => ∀ X : Kont, (∀ (I75866 : Nat → Prop) (x75860 : Int) (x75861 : (List Int)) (D75859 : List Value) (cl75862 : List Value) (w' : World), g7_l3 p0 x75525 x75539 n75893 x75860 x75861 = some r → St w0 M I75866 ((.sl (.slice A75546 n75547 c75548) 49 1 n75547 cl75862) :: (.sl (.slice A75532 n75533 c75534) 5 1 n75533 cl75535) :: (.blk b75415 (.cells #[.int .i64 p0.Kind, .int .i64 p0.Page, .int .u64 p0.Epoch, .slice A75406 p0.Data.length c75407] 25 (0, 0))) :: F) w' → Kp I w I75866 w' → Elems (Rp.int .u8) I75866 w' A75406 p0.Data → n75547 = x75861.length → RepL (Rp.int .u8) I75866 w' cl75862 x75861 → RepL (Rp.int .u8) I75866 w' cl75535 x75525 → Elems (Rp.int .u32) I75866 w' (some ⟨0, 0, none⟩) TAB0 → X [(D75859.getD 0 undef), (D75859.getD 1 undef), .pointer (some ⟨b75415, 0, none⟩), (D75859.getD 2 undef), .bool false, .slice A75532 n75533 c75534, .slice A75546 n75547 c75548, (D75859.getD 3 undef), (D75859.getD 4 undef), (D75859.getD 5 undef), (D75859.getD 6 undef), (D75859.getD 7 undef), (D75859.getD 8 undef), (D75859.getD 9 undef), (D75859.getD 10 undef), (D75859.getD 11 undef), (D75859.getD 12 undef), (D75859.getD 13 undef), (D75859.getD 14 undef), (D75859.getD 15 undef), (D75859.getD 16 undef), (D75859.getD 17 undef), (D75859.getD 18 undef), (D75859.getD 19 undef), (D75859.getD 20 undef), (D75859.getD 21 undef), (D75859.getD 22 undef), (D75859.getD 23 undef), (D75859.getD 24 undef), (D75859.getD 25 undef), (D75859.getD 26 undef), (D75859.getD 27 undef), (D75859.getD 28 undef), (D75859.getD 29 undef), (D75859.getD 30 undef), (D75859.getD 31 undef), (D75859.getD 32 undef), (D75859.getD 33 undef), (D75859.getD 34 undef), (D75859.getD 35 undef), (D75859.getD 36 undef), (D75859.getD 37 undef), (D75859.getD 38 undef), (D75859.getD 39 undef), (D75859.getD 40 undef), (D75859.getD 41 undef), (D75859.getD 42 undef), (D75859.getD 43 undef), (D75859.getD 44 undef), (D75859.getD 45 undef), (D75859.getD 46 undef), (D75859.getD 47 undef), (D75859.getD 48 undef), (D75859.getD 49 undef), (D75859.getD 50 undef), (D75859.getD 51 undef), (D75859.getD 52 undef), (D75859.getD 53 undef), (D75859.getD 54 undef), (D75859.getD 55 undef), .int .i64 (x75539.1.length : Int), .int .i64 x75860, (D75859.getD 56 undef), (D75859.getD 57 undef), (D75859.getD 58 undef), (D75859.getD 59 undef), (D75859.getD 60 undef), (D75859.getD 61 undef), (D75859.getD 62 undef), (D75859.getD 63 undef), (D75859.getD 64 undef), undef, (D75859.getD 65 undef), (D75859.getD 66 undef), undef] [] w') → X E ds wz) FUEL (fun X h => kc (by kernel_rfl) rfl (h I75742 0 x75539.1 [(D75739.getD 0 undef), (D75739.getD 1 undef), (D75739.getD 2 undef), (D75739.getD 3 undef), (D75739.getD 4 undef), (D75739.getD 5 undef), undef, (D75739.getD 6 undef), (D75739.getD 7 undef), (D75739.getD 8 undef), (D75739.getD 9 undef), (D75739.getD 10 undef), (D75739.getD 11 undef), (D75739.getD 12 undef), (D75739.getD 13 undef), (D75739.getD 14 undef), (D75739.getD 15 undef), (D75739.getD 16 undef), (D75739.getD 17 undef), (D75739.getD 18 undef), (D75739.getD 19 undef), (D75739.getD 20 undef), (D75739.getD 21 undef), (D75739.getD 22 undef), (D75739.getD 23 undef), (D75739.getD 24 undef), (D75739.getD 25 undef), (D75739.getD 26 undef), (D75739.getD 27 undef), (D75739.getD 28 undef), (D75739.getD 29 undef), (D75739.getD 30 undef), (D75739.getD 31 undef), (D75739.getD 32 undef), (D75739.getD 33 undef), (D75739.getD 34 undef), (D75739.getD 35 undef), (D75739.getD 36 undef), (D75739.getD 37 undef), (D75739.getD 38 undef), (D75739.getD 39 undef), (D75739.getD 40 undef), (D75739.getD 41 undef), (D75739.getD 42 undef), (D75739.getD 43 undef), (D75739.getD 44 undef), (D75739.getD 45 undef), (D75739.getD 46 undef), (D75739.getD 47 undef), (D75739.getD 48 undef), (D75739.getD 49 undef), (D75739.getD 50 undef), (D75739.getD 51 undef), (D75739.getD 52 undef), .bool x75740, .slice A75546 n75547 c75548, undef, undef, undef, undef, undef, undef, undef, undef, undef, (D75739.getD 54 undef), (D75739.getD 55 undef)] cl75549 _ hf s kk e75409 hn75550 rp75551 rp75537 eg0)) (fun _ _ _ hJ => hJ (fun _ _ _ => False) (by intro I75866 x75860 x75861 D75859 cl75862 w75865 hf s kk e75409 hn75863 rp75864 rp75537 eg0; exact noneS hf)) ?_
          intro X75934 hX75935
          refine fun n75893 _ _ _ hJ => hJ (X75934 n75893) ?_
          intro I75866 x75860 x75861 D75859 cl75862 w75865 hf s kk e75409 hn75863 rp75864 rp75537 eg0
          refine hX75935 _ _ _ _ ?_
          replace hf : g7_l3B p0 x75525 x75539 (g7_l3 p0 x75525 x75539 n75893) x75860 x75861 = some r := hf
          generalize hrec75894 : g7_l3 p0 x75525 x75539 n75893 = rec75892 at hf
          unfold g7_l3B at hf
          refine WPK.seq ?_
          refine WPK.region ?_
          refine RW.seg hT 1 [] [] [.bool (decide (x75860 < (x75539.1.length : Int)))] [] (by kernel_rfl) (trivial) ?_
          refine RW.nil ?_
          refine WPK.seq ?_
          by_cases h75896 : x75860 < (x75539.1.length : Int)
          · have hf := iteT h75896 hf
            refine WPK.condT (Eq.trans (b := .bool (decide (x75860 < (x75539.1.length : Int)))) (by kernel_rfl) (bo_t h75896)) ?_
            refine WPK.skip ?_
            refine WPK.seq ?_
            refine WPK.block ?_
            refine WPK.seq ?_
            refine WPK.region ?_
            refine RW.seg hT 2 [] [] [.int .i64 x75860, .int .i64 x75860] [] (by kernel_rfl) (trivial) ?_
            refine RW.nil ?_
            refine WPK.region ?_
            obtain ⟨x75897, hx75898, hf⟩ := bindS hf
            obtain ⟨h75899, hx75898⟩ := getS hx75898
            obtain ⟨b75900, rfl⟩ := (St.elem s (i := 0) rfl hn75863 rp75864 hx75898).1
            obtain ⟨-, cs75902, hr75903, ha75904⟩ := St.elem s (i := 0) rfl hn75863 rp75864 hx75898
            replace ha75904 := ha75904 _ rfl
            obtain rfl : cs75902 = [.int .u8 x75897] := hr75903
            obtain ⟨x75905, hx75906, hf⟩ := bindS hf
            obtain ⟨h75907, hx75906⟩ := getS hx75906
            refine RW.seg hT 6 [.int .u8 x75897] [] [.slice (some ⟨b75900, 0, none⟩) n75547 c75548, .int .i64 x75860, .pointer (some ⟨b75900, 0 + x75860.toNat * 1, none⟩), .int .u8 x75897, .int .u8 (xorI .u8 x75897 255), .pointer (some ⟨b75900, 0 + x75860.toNat * 1, none⟩)] [.idx x75860 n75547, .cell ⟨b75900, 0 + x75860.toNat * 1, none⟩ (.int .u8 x75897), .idx x75860 n75547] (by kernel_rfl) (⟨(by rw [hn75863]; exact h75899), ha75904 0 _ rfl, (by rw [hn75863]; exact h75907)⟩) ?_
            obtain ⟨y75912, hy75913, hf⟩ := bindS hf
            obtain ⟨h75914, hq75915⟩ := setS hy75913
            obtain ⟨cl75916, hcl75917⟩ : ∃ q, setL cl75862 (0 + x75860.toNat * 1) [.int .u8 (xorI .u8 x75897 255)] = q := ⟨_, rfl⟩
            have rp75918 : RepL (Rp.int .u8) I75866 w75865 cl75916 y75912 := by rw [hq75915, ← hcl75917, Nat.zero_add]; exact RepL.set rp75864 (by omega) (rfl)
            have hn75919 : n75547 = y75912.length := by rw [hq75915, List.length_set]; exact hn75863
            refine RW.op (by kernel_rfl) (OK.storeSl hT (i := 0) (b := b75900) (off := 0 + x75860.toNat * 1) (m := 1) (vs := [.int .u8 (xorI .u8 x75897 255)]) (c := c75548) (e := 49) (size := 1) (n := n75547) (cl := cl75862) (cl' := cl75916) s (by kernel_rfl) rfl rfl (flat_ok rfl) (by have h1 := RepL.length rp75864; simp only [List.length_cons, List.length_nil, h1]; exact row_bd (n := 1) h75914 rfl) hcl75917 ?_)
            rintro w75910 s k75911
            replace e75409 := e75409.st k75911
            replace rp75918 := rp75918.st k75911
            replace rp75537 := rp75537.st k75911
            replace eg0 := eg0.st k75911
            replace kk := kk.trans k75911
            refine RW.nil ?_
            refine WPK.region ?_
            refine RW.seg hT 2 [] [] [.int .i64 (IntKind.i64.wrap (x75860 + 1)), .int .i64 (IntKind.i64.wrap (x75860 + 1))] [] (by kernel_rfl) (trivial) ?_
            refine RW.nil ?_
            subst hrec75894
            exact ⟨n75893, Nat.le_refl _, fun X h => kc (by kernel_rfl) rfl (h I75866 (IntKind.i64.wrap (x75860 + 1)) y75912 [(D75859.getD 0 undef), (D75859.getD 1 undef), (D75859.getD 2 undef), (D75859.getD 3 undef), (D75859.getD 4 undef), (D75859.getD 5 undef), .int .i64 x75860, (D75859.getD 7 undef), (D75859.getD 8 undef), (D75859.getD 9 undef), (D75859.getD 10 undef), (D75859.getD 11 undef), (D75859.getD 12 undef), (D75859.getD 13 undef), (D75859.getD 14 undef), (D75859.getD 15 undef), (D75859.getD 16 undef), (D75859.getD 17 undef), (D75859.getD 18 undef), (D75859.getD 19 undef), (D75859.getD 20 undef), (D75859.getD 21 undef), (D75859.getD 22 undef), (D75859.getD 23 undef), (D75859.getD 24 undef), (D75859.getD 25 undef), (D75859.getD 26 undef), (D75859.getD 27 undef), (D75859.getD 28 undef), (D75859.getD 29 undef), (D75859.getD 30 undef), (D75859.getD 31 undef), (D75859.getD 32 undef), (D75859.getD 33 undef), (D75859.getD 34 undef), (D75859.getD 35 undef), (D75859.getD 36 undef), (D75859.getD 37 undef), (D75859.getD 38 undef), (D75859.getD 39 undef), (D75859.getD 40 undef), (D75859.getD 41 undef), (D75859.getD 42 undef), (D75859.getD 43 undef), (D75859.getD 44 undef), (D75859.getD 45 undef), (D75859.getD 46 undef), (D75859.getD 47 undef), (D75859.getD 48 undef), (D75859.getD 49 undef), (D75859.getD 50 undef), (D75859.getD 51 undef), (D75859.getD 52 undef), (D75859.getD 53 undef), (D75859.getD 54 undef), (D75859.getD 55 undef), .bool (decide (x75860 < (x75539.1.length : Int))), .int .i64 x75860, .slice (some ⟨b75900, 0, none⟩) n75547 c75548, .int .i64 x75860, (.pointer (some ⟨b75900, 0 + x75860.toNat * 1, none⟩)), .int .u8 x75897, .int .u8 (xorI .u8 x75897 255), (.pointer (some ⟨b75900, 0 + x75860.toNat * 1, none⟩)), .int .i64 (IntKind.i64.wrap (x75860 + 1)), (D75859.getD 65 undef), (D75859.getD 66 undef)] cl75916 _ hf s kk e75409 hn75919 rp75918 rp75537 eg0)⟩
          · have hf := iteF h75896 hf
            refine WPK.condF (Eq.trans (b := .bool (decide (x75860 < (x75539.1.length : Int)))) (by kernel_rfl) (bo_f h75896)) ?_
            refine WPK.exit (blockQ.same ?_)
            refine WPK.seq ?_
            refine WPK.region ?_
            refine RW.seg hT 3 [.slice A75406 p0.Data.length c75407] [] [.pointer (some ⟨b75415, 3, none⟩), .slice A75406 p0.Data.length c75407, .slice A75532 n75533 c75534] [.cell ⟨b75415, 3, none⟩ (.slice A75406 p0.Data.length c75407)] (by kernel_rfl) (s.cell (i := 2) (off := 3) rfl rfl) ?_
            have sa75920 := s
            obtain ⟨hc75921, e75922⟩ := St.lend s (i := 1) rfl hn75536 rp75537
            have k75923 := Kp.shut (I := I75866) (w := w75865) (p := .sl (.slice A75532 n75533 c75534) 5 1 n75533 cl75535)
            replace s := s.shut 1 rfl
            obtain ⟨x75924, hx75925, hf⟩ := bindS hf
            have hc75928 := c20 (F := (.sl (.slice A75546 n75547 c75548) 49 1 n75547 cl75862) :: (.blk b75415 (.cells #[.int .i64 p0.Kind, .int .i64 p0.Page, .int .u64 p0.Epoch, .slice A75406 p0.Data.length c75407] 25 (0, 0))) :: F) p0.Data x75525 A75406 c75407 A75532 c75534 hc75408 (e75409.st k75923) hc75921 e75922 s hx75925
            rw [← hn75536] at hc75928
            refine RW.op (by kernel_rfl) (OK.call' en20 (by kernel_rfl) (hc75928) ?_)
            intro X75929 hX75930
            refine fun _ _ hJ => hJ X75929 ?_
            intro I75931 w75926 s k75927
            refine hX75930 _ _ ?_
            have s' := St.back sa75920 (i := 1) rfl s k75927
            replace k75927 := Kp.back sa75920 (i := 1) rfl k75927
            replace s := s'; clear s'
            obtain ⟨I75933, s, k75927⟩ : ∃ I : Nat → Prop, St w0 M I ((.sl (.slice A75532 n75533 c75534) 5 1 n75533 cl75535) :: (.sl (.slice A75546 n75547 c75548) 49 1 n75547 cl75862) :: (.blk b75415 (.cells #[.int .i64 p0.Kind, .int .i64 p0.Page, .int .u64 p0.Epoch, .slice A75406 p0.Data.length c75407] 25 (0, 0))) :: F) w75926 ∧ Kp _ _ I _ := ⟨_, s, k75927⟩
            replace e75409 := e75409.st k75927
            replace rp75864 := rp75864.st k75927
            replace eg0 := eg0.st k75927
            replace rp75537 := rp75537.st k75927
            replace kk := kk.trans k75927
            refine RW.seg hT 1 [] [] [.bool x75924] [] (by kernel_rfl) (trivial) ?_
            refine RW.nil ?_
            refine WPK.ret (?_)
            obtain rfl := someS hf
            refine Fin.of (rs := [.tmp 4]) hT [] (.bool x75924) [] rfl (by kernel_rfl) (trivial) ?_
            replace s := s.pick [] 3 rfl
            exact fun X h => vc rfl (h I75933 _ s kk)
      · have e75409S75938 := e75409
        have e75413S75938 := e75413
        have rp75565S75938 := rp75565
        have rp75551S75938 := rp75551
        have rp75537S75938 := rp75537
        have eg0S75938 := eg0
        have kS75942 : Kp I75559 w75555 I75559 w75555 := Kp.refl
        refine WPK.draw (fun w' => ∃ I' : Nat → Prop, St w0 M I' ((.sl (.slice A75560 n75561 c75562) 5 1 n75561 cl75563) :: (.sl (.slice A75546 n75547 c75548) 49 1 n75547 cl75549) :: (.sl (.slice A75532 n75533 c75534) 5 1 n75533 cl75535) :: (.blk b75418 (.cells #[.int .i64 p1.Kind, .int .i64 p1.Page, .int .u64 p1.Epoch, .slice A75410 p1.Data.length c75411] 25 (0, 0))) :: (.blk b75415 (.cells #[.int .i64 p0.Kind, .int .i64 p0.Page, .int .u64 p0.Epoch, .slice A75406 p0.Data.length c75407] 25 (0, 0))) :: F) w' ∧ Kp I75559 w75555 I' w') 25 (by kernel_rfl) ?_
        intro w75939 hd75940
        have k75941 := Kp.dr s hd75940
        replace s := s.dr hd75940
        replace e75409 := e75409.st k75941
        replace e75413 := e75413.st k75941
        replace rp75565 := rp75565.st k75941
        replace rp75551 := rp75551.st k75941
        replace rp75537 := rp75537.st k75941
        replace eg0 := eg0.st k75941
        replace kk := kk.trans k75941
        replace kS75942 := kS75942.trans k75941
        refine RD.seg hT (by kernel_rfl) [0, 2] [.agg #[.int .i64 p0.Kind, .int .i64 p0.Page, .int .u64 p0.Epoch, .slice A75406 p0.Data.length c75407], .agg #[.int .i64 p0.Kind, .int .i64 p0.Page, .int .u64 p0.Epoch, .slice A75406 p0.Data.length c75407]] [] [.agg #[.int .i64 p0.Kind, .int .i64 p0.Page, .int .u64 p0.Epoch, .slice A75406 p0.Data.length c75407], .agg #[.int .i64 p0.Kind, .int .i64 p0.Page, .int .u64 p0.Epoch, .slice A75406 p0.Data.length c75407]] [.cells ⟨b75415, 0, none⟩ [.int .i64 p0.Kind, .int .i64 p0.Page, .int .u64 p0.Epoch, .slice A75406 p0.Data.length c75407] 4, .cells ⟨b75415, 0, none⟩ [.int .i64 p0.Kind, .int .i64 p0.Page, .int .u64 p0.Epoch, .slice A75406 p0.Data.length c75407] 4] (by kernel_rfl) (by rintro w' ⟨I', s, k⟩; have e75409 := e75409S75938.st k; have e75413 := e75413S75938.st k; have rp75565 := rp75565S75938.st k; have rp75551 := rp75551S75938.st k; have rp75537 := rp75537S75938.st k; have eg0 := eg0S75938.st k; exact ⟨s.cells (i := 4) rfl rfl rfl, s.cells (i := 4) rfl rfl rfl⟩) ⟨_, s.pick [0, 1, 2, 3, 4] 5 rfl, kS75942⟩ ?_
        obtain ⟨x75943, hx75944, hf⟩ := bindS hf
        refine RD.op (i := 1) rfl (by kernel_rfl) (by kernel_rfl) (OK.call' en22 (by kernel_rfl) (c22 (F := (.sl (.slice A75560 n75561 c75562) 5 1 n75561 cl75563) :: (.sl (.slice A75546 n75547 c75548) 49 1 n75547 cl75549) :: (.sl (.slice A75532 n75533 c75534) 5 1 n75533 cl75535) :: (.blk b75418 (.cells #[.int .i64 p1.Kind, .int .i64 p1.Page, .int .u64 p1.Epoch, .slice A75410 p1.Data.length c75411] 25 (0, 0))) :: (.blk b75415 (.cells #[.int .i64 p0.Kind, .int .i64 p0.Page, .int .u64 p0.Epoch, .slice A75406 p0.Data.length c75407] 25 (0, 0))) :: F) p0 A75406 c75407 hc75408 e75409 s hx75944) ?_)
        intro X75947 hX75948
        refine fun _ _ hJ => hJ X75947 ?_
        intro I75949 w75945 s k75946
        refine hX75948 _ _ ?_
        replace e75409 := e75409.st k75946
        replace e75413 := e75413.st k75946
        replace rp75565 := rp75565.st k75946
        replace rp75551 := rp75551.st k75946
        replace rp75537 := rp75537.st k75946
        replace eg0 := eg0.st k75946
        replace kk := kk.trans k75946
        replace kS75942 := kS75942.trans k75946
        refine ⟨fun _ => ⟨_, s.pick [0, 1, 2, 3, 4] 5 rfl, kS75942⟩, RD.fold ?_⟩
        obtain ⟨x75950, hx75951, hf⟩ := bindS hf
        refine RD.op (i := 3) rfl (by kernel_rfl) (by kernel_rfl) (OK.call' en23 (by kernel_rfl) (c23 (F := (.sl (.slice A75560 n75561 c75562) 5 1 n75561 cl75563) :: (.sl (.slice A75546 n75547 c75548) 49 1 n75547 cl75549) :: (.sl (.slice A75532 n75533 c75534) 5 1 n75533 cl75535) :: (.blk b75418 (.cells #[.int .i64 p1.Kind, .int .i64 p1.Page, .int .u64 p1.Epoch, .slice A75410 p1.Data.length c75411] 25 (0, 0))) :: (.blk b75415 (.cells #[.int .i64 p0.Kind, .int .i64 p0.Page, .int .u64 p0.Epoch, .slice A75406 p0.Data.length c75407] 25 (0, 0))) :: F) p0 A75406 c75407 hc75408 e75409 s hx75951) ?_)
        intro X75954 hX75955
        refine fun _ _ hJ => hJ X75954 ?_
        intro I75956 w75952 s k75953
        refine hX75955 _ _ ?_
        replace e75409 := e75409.st k75953
        replace e75413 := e75413.st k75953
        replace rp75565 := rp75565.st k75953
        replace rp75551 := rp75551.st k75953
        replace rp75537 := rp75537.st k75953
        replace eg0 := eg0.st k75953
        replace kk := kk.trans k75953
        replace kS75942 := kS75942.trans k75953
        refine ⟨fun _ => ⟨_, s.pick [0, 1, 2, 3, 4] 5 rfl, kS75942⟩, RD.fold ?_⟩
        refine RD.seg hT (by kernel_rfl) [4] [] [(38, .bool (decide (x75943 ≠ x75950)))] [.bool (decide (x75943 ≠ x75950))] [.veq (.bool (x75943 != x75950)) (.bool (decide (x75943 ≠ x75950)))] (by kernel_rfl) (by rintro w' ⟨I', s, k⟩; have e75409 := e75409S75938.st k; have e75413 := e75413S75938.st k; have rp75565 := rp75565S75938.st k; have rp75551 := rp75551S75938.st k; have rp75537 := rp75537S75938.st k; have eg0 := eg0S75938.st k; exact ne_v) ⟨_, s.pick [0, 1, 2, 3, 4] 5 rfl, kS75942⟩ ?_
        by_cases h75957 : x75943 ≠ x75950
        · have hf := iteT h75957 hf
          refine RD.seg hT (by kernel_rfl) [5, 6, 7, 9, 10] [] [(39, .bool true)] [.bool true, undef, undef, undef, undef] [.veq (.bool (decide (x75943 ≠ x75950))) (.bool true)] (by kernel_rfl) (by rintro w' ⟨I', s, k⟩; have e75409 := e75409S75938.st k; have e75413 := e75413S75938.st k; have rp75565 := rp75565S75938.st k; have rp75551 := rp75551S75938.st k; have rp75537 := rp75537S75938.st k; have eg0 := eg0S75938.st k; exact bo_t h75957) ⟨_, s.pick [0, 1, 2, 3, 4] 5 rfl, kS75942⟩ ?_
          refine RD.skip (i := 8) rfl (by kernel_rfl) (by kernel_rfl) ?_
          refine ⟨fun _ => ⟨_, s.pick [0, 1, 2, 3, 4] 5 rfl, kS75942⟩, ?_⟩
          refine RD.skip (i := 11) rfl (by kernel_rfl) (by kernel_rfl) ?_
          refine ⟨fun _ => ⟨_, s.pick [0, 1, 2, 3, 4] 5 rfl, kS75942⟩, ?_⟩
          refine RD.seg hT (by kernel_rfl) [12, 13, 14, 15, 16] [] [] [undef, .bool true, .bool true, undef, undef] [] (by kernel_rfl) (fun _ _ => trivial) ⟨_, s.pick [0, 1, 2, 3, 4] 5 rfl, kS75942⟩ ?_
          refine RD.skip (i := 17) rfl (by kernel_rfl) (by kernel_rfl) ?_
          refine ⟨fun _ => ⟨_, s.pick [0, 1, 2, 3, 4] 5 rfl, kS75942⟩, ?_⟩
          refine RD.seg hT (by kernel_rfl) [18, 19, 20, 21, 22, 23, 24] [] [] [undef, .bool true, .bool true, undef, undef, undef, .bool true] [] (by kernel_rfl) (fun _ _ => trivial) ⟨_, s.pick [0, 1, 2, 3, 4] 5 rfl, kS75942⟩ ?_
          refine RD.done (by kernel_rfl) ?_
          replace s := s.pick [1, 2, 4] 5 rfl
          exact fun X h => kc (by kernel_rfl) rfl (h I75956 true [(D75513.getD 0 undef), (D75513.getD 1 undef), .pointer (some ⟨b75418, 0, none⟩), .int .i64 x75539.2, .slice A75560 n75561 c75562, .int .i64 x75553.2, (D75513.getD 2 undef), (D75513.getD 3 undef), (D75513.getD 4 undef), (D75513.getD 5 undef), (D75513.getD 6 undef), (D75513.getD 7 undef), (D75513.getD 8 undef), (D75513.getD 9 undef), .bool x75514, undef, .pointer (some ⟨b75415, 3, none⟩), .slice A75406 p0.Data.length c75407, .slice A75532 n75533 c75534, .tuple #[.slice A75546 n75547 c75548, .int .i64 x75539.2], .agg #[.int .i64 p0.Kind, .int .i64 p0.Page, .int .u64 p0.Epoch, .slice A75406 p0.Data.length c75407], .tuple #[.slice A75546 n75547 c75548, .int .i64 x75539.2], .slice A75546 n75547 c75548, .int .i64 x75539.2, .tuple #[.slice A75560 n75561 c75562, .int .i64 x75553.2], .agg #[.int .i64 p0.Kind, .int .i64 p0.Page, .int .u64 p0.Epoch, .slice A75406 p0.Data.length c75407], .tuple #[.slice A75560 n75561 c75562, .int .i64 x75553.2], .slice A75560 n75561 c75562, .int .i64 x75553.2, .agg #[.int .i64 p0.Kind, .int .i64 p0.Page, .int .u64 p0.Epoch, .slice A75406 p0.Data.length c75407], .int .i64 x75943, .agg #[.int .i64 p0.Kind, .int .i64 p0.Page, .int .u64 p0.Epoch, .slice A75406 p0.Data.length c75407], .int .i64 x75950, .bool (decide (x75943 ≠ x75950)), .bool true, undef, undef, undef, undef, undef, undef, undef, .bool true, .bool true, undef, undef, undef, undef, .bool true, .bool true, undef, undef, undef, (D75513.getD 21 undef), (D75513.getD 22 undef), (D75513.getD 23 undef)] _ hf s kk e75409 rp75551 rp75537 eg0)
        · have hf := iteF h75957 hf
          refine RD.seg hT (by kernel_rfl) [5, 6, 7, 9, 10] [.agg #[.int .i64 p0.Kind, .int .i64 p0.Page, .int .u64 p0.Epoch, .slice A75406 p0.Data.length c75407], .agg #[.int .i64 p1.Kind, .int .i64 p1.Page, .int .u64 p1.Epoch, .slice A75410 p1.Data.length c75411], .agg #[.int .i64 p0.Kind, .int .i64 p0.Page, .int .u64 p0.Epoch, .slice A75406 p0.Data.length c75407], .agg #[.int .i64 p1.Kind, .int .i64 p1.Page, .int .u64 p1.Epoch, .slice A75410 p1.Data.length c75411]] [(39, .bool false)] [.bool false, .agg #[.int .i64 p0.Kind, .int .i64 p0.Page, .int .u64 p0.Epoch, .slice A75406 p0.Data.length c75407], .agg #[.int .i64 p1.Kind, .int .i64 p1.Page, .int .u64 p1.Epoch, .slice A75410 p1.Data.length c75411], .agg #[.int .i64 p0.Kind, .int .i64 p0.Page, .int .u64 p0.Epoch, .slice A75406 p0.Data.length c75407], .agg #[.int .i64 p1.Kind, .int .i64 p1.Page, .int .u64 p1.Epoch, .slice A75410 p1.Data.length c75411]] [.veq (.bool (decide (x75943 ≠ x75950))) (.bool false), .cells ⟨b75415, 0, none⟩ [.int .i64 p0.Kind, .int .i64 p0.Page, .int .u64 p0.Epoch, .slice A75406 p0.Data.length c75407] 4, .cells ⟨b75418, 0, none⟩ [.int .i64 p1.Kind, .int .i64 p1.Page, .int .u64 p1.Epoch, .slice A75410 p1.Data.length c75411] 4, .cells ⟨b75415, 0, none⟩ [.int .i64 p0.Kind, .int .i64 p0.Page, .int .u64 p0.Epoch, .slice A75406 p0.Data.length c75407] 4, .cells ⟨b75418, 0, none⟩ [.int .i64 p1.Kind, .int .i64 p1.Page, .int .u64 p1.Epoch, .slice A75410 p1.Data.length c75411] 4] (by kernel_rfl) (by rintro w' ⟨I', s, k⟩; have e75409 := e75409S75938.st k; have e75413 := e75413S75938.st k; have rp75565 := rp75565S75938.st k; have rp75551 := rp75551S75938.st k; have rp75537 := rp75537S75938.st k; have eg0 := eg0S75938.st k; exact ⟨bo_f h75957, s.cells (i := 4) rfl rfl rfl, s.cells (i := 3) rfl rfl rfl, s.cells (i := 4) rfl rfl rfl, s.cells (i := 3) rfl rfl rfl⟩) ⟨_, s.pick [0, 1, 2, 3, 4] 5 rfl, kS75942⟩ ?_
          obtain ⟨x75958, hx75959, hf⟩ := bindS hf
          refine RD.op (i := 8) rfl (by kernel_rfl) (by kernel_rfl) (OK.call' en19 (by kernel_rfl) (c19 (F := (.sl (.slice A75560 n75561 c75562) 5 1 n75561 cl75563) :: (.sl (.slice A75546 n75547 c75548) 49 1 n75547 cl75549) :: (.sl (.slice A75532 n75533 c75534) 5 1 n75533 cl75535) :: (.blk b75418 (.cells #[.int .i64 p1.Kind, .int .i64 p1.Page, .int .u64 p1.Epoch, .slice A75410 p1.Data.length c75411] 25 (0, 0))) :: (.blk b75415 (.cells #[.int .i64 p0.Kind, .int .i64 p0.Page, .int .u64 p0.Epoch, .slice A75406 p0.Data.length c75407] 25 (0, 0))) :: F) p0 p1 A75406 c75407 A75410 c75411 hc75408 e75409 hc75412 e75413 s hx75959) ?_)
          intro X75962 hX75963
          refine fun _ _ hJ => hJ X75962 ?_
          intro I75964 w75960 s k75961
          refine hX75963 _ _ ?_
          replace e75409 := e75409.st k75961
          replace e75413 := e75413.st k75961
          replace rp75565 := rp75565.st k75961
          replace rp75551 := rp75551.st k75961
          replace rp75537 := rp75537.st k75961
          replace eg0 := eg0.st k75961
          replace kk := kk.trans k75961
          replace kS75942 := kS75942.trans k75961
          refine ⟨fun _ => ⟨_, s.pick [0, 1, 2, 3, 4] 5 rfl, kS75942⟩, RD.fold ?_⟩
          obtain ⟨x75965, hx75966, hf⟩ := bindS hf
          refine RD.op (i := 11) rfl (by kernel_rfl) (by kernel_rfl) (OK.call' en24 (by kernel_rfl) (c24 (F := (.sl (.slice A75560 n75561 c75562) 5 1 n75561 cl75563) :: (.sl (.slice A75546 n75547 c75548) 49 1 n75547 cl75549) :: (.sl (.slice A75532 n75533 c75534) 5 1 n75533 cl75535) :: (.blk b75418 (.cells #[.int .i64 p1.Kind, .int .i64 p1.Page, .int .u64 p1.Epoch, .slice A75410 p1.Data.length c75411] 25 (0, 0))) :: (.blk b75415 (.cells #[.int .i64 p0.Kind, .int .i64 p0.Page, .int .u64 p0.Epoch, .slice A75406 p0.Data.length c75407] 25 (0, 0))) :: F) p0 p1 A75406 c75407 A75410 c75411 hc75408 e75409 hc75412 e75413 s hx75966) ?_)
          intro X75969 hX75970
          refine fun _ _ hJ => hJ X75969 ?_
          intro I75971 w75967 s k75968
          refine hX75970 _ _ ?_
          replace e75409 := e75409.st k75968
          replace e75413 := e75413.st k75968
          replace rp75565 := rp75565.st k75968
          replace rp75551 := rp75551.st k75968
          replace rp75537 := rp75537.st k75968
          replace eg0 := eg0.st k75968
          replace kk := kk.trans k75968
          replace kS75942 := kS75942.trans k75968
          refine ⟨fun _ => ⟨_, s.pick [0, 1, 2, 3, 4] 5 rfl, kS75942⟩, RD.fold ?_⟩
          refine RD.seg hT (by kernel_rfl) [12, 13] [] [(46, .bool (decide (x75958 ≠ x75965)))] [.bool (decide (x75958 ≠ x75965)), .bool (decide (x75958 ≠ x75965))] [.veq (.bool (!(x75958 == x75965))) (.bool (decide (x75958 ≠ x75965)))] (by kernel_rfl) (by rintro w' ⟨I', s, k⟩; have e75409 := e75409S75938.st k; have e75413 := e75413S75938.st k; have rp75565 := rp75565S75938.st k; have rp75551 := rp75551S75938.st k; have rp75537 := rp75537S75938.st k; have eg0 := eg0S75938.st k; exact bne_v) ⟨_, s.pick [0, 1, 2, 3, 4] 5 rfl, kS75942⟩ ?_
          by_cases h75972 : x75958 ≠ x75965
          · have hf := iteT h75972 hf
            refine RD.seg hT (by kernel_rfl) [14, 15, 16] [] [(48, .bool true)] [.bool true, undef, undef] [.veq (.bool (decide (x75958 ≠ x75965))) (.bool true)] (by kernel_rfl) (by rintro w' ⟨I', s, k⟩; have e75409 := e75409S75938.st k; have e75413 := e75413S75938.st k; have rp75565 := rp75565S75938.st k; have rp75551 := rp75551S75938.st k; have rp75537 := rp75537S75938.st k; have eg0 := eg0S75938.st k; exact bo_t h75972) ⟨_, s.pick [0, 1, 2, 3, 4] 5 rfl, kS75942⟩ ?_
            refine RD.skip (i := 17) rfl (by kernel_rfl) (by kernel_rfl) ?_
            refine ⟨fun _ => ⟨_, s.pick [0, 1, 2, 3, 4] 5 rfl, kS75942⟩, ?_⟩
            refine RD.seg hT (by kernel_rfl) [18, 19, 20, 21, 22, 23, 24] [] [] [undef, .bool true, .bool true, undef, undef, undef, .bool true] [] (by kernel_rfl) (fun _ _ => trivial) ⟨_, s.pick [0, 1, 2, 3, 4] 5 rfl, kS75942⟩ ?_
            refine RD.done (by kernel_rfl) ?_
            replace s := s.pick [1, 2, 4] 5 rfl
            exact fun X h => kc (by kernel_rfl) rfl (h I75971 true [(D75513.getD 0 undef), (D75513.getD 1 undef), .pointer (some ⟨b75418, 0, none⟩), .int .i64 x75539.2, .slice A75560 n75561 c75562, .int .i64 x75553.2, (D75513.getD 2 undef), (D75513.getD 3 undef), (D75513.getD 4 undef), (D75513.getD 5 undef), (D75513.getD 6 undef), (D75513.getD 7 undef), (D75513.getD 8 undef), (D75513.getD 9 undef), .bool x75514, undef, .pointer (some ⟨b75415, 3, none⟩), .slice A75406 p0.Data.length c75407, .slice A75532 n75533 c75534, .tuple #[.slice A75546 n75547 c75548, .int .i64 x75539.2], .agg #[.int .i64 p0.Kind, .int .i64 p0.Page, .int .u64 p0.Epoch, .slice A75406 p0.Data.length c75407], .tuple #[.slice A75546 n75547 c75548, .int .i64 x75539.2], .slice A75546 n75547 c75548, .int .i64 x75539.2, .tuple #[.slice A75560 n75561 c75562, .int .i64 x75553.2], .agg #[.int .i64 p0.Kind, .int .i64 p0.Page, .int .u64 p0.Epoch, .slice A75406 p0.Data.length c75407], .tuple #[.slice A75560 n75561 c75562, .int .i64 x75553.2], .slice A75560 n75561 c75562, .int .i64 x75553.2, .agg #[.int .i64 p0.Kind, .int .i64 p0.Page, .int .u64 p0.Epoch, .slice A75406 p0.Data.length c75407], .int .i64 x75943, .agg #[.int .i64 p0.Kind, .int .i64 p0.Page, .int .u64 p0.Epoch, .slice A75406 p0.Data.length c75407], .int .i64 x75950, .bool (decide (x75943 ≠ x75950)), .bool false, .agg #[.int .i64 p0.Kind, .int .i64 p0.Page, .int .u64 p0.Epoch, .slice A75406 p0.Data.length c75407], .agg #[.int .i64 p1.Kind, .int .i64 p1.Page, .int .u64 p1.Epoch, .slice A75410 p1.Data.length c75411], .bool x75958, .agg #[.int .i64 p0.Kind, .int .i64 p0.Page, .int .u64 p0.Epoch, .slice A75406 p0.Data.length c75407], .agg #[.int .i64 p1.Kind, .int .i64 p1.Page, .int .u64 p1.Epoch, .slice A75410 p1.Data.length c75411], .bool x75965, .bool (decide (x75958 ≠ x75965)), .bool (decide (x75958 ≠ x75965)), .bool true, undef, undef, undef, undef, .bool true, .bool true, undef, undef, undef, (D75513.getD 21 undef), (D75513.getD 22 undef), (D75513.getD 23 undef)] _ hf s kk e75409 rp75551 rp75537 eg0)
          · have hf := iteF h75972 hf
            refine RD.seg hT (by kernel_rfl) [14, 15, 16] [] [(48, .bool false)] [.bool false, .slice A75546 n75547 c75548, .slice A75560 n75561 c75562] [.veq (.bool (decide (x75958 ≠ x75965))) (.bool false)] (by kernel_rfl) (by rintro w' ⟨I', s, k⟩; have e75409 := e75409S75938.st k; have e75413 := e75413S75938.st k; have rp75565 := rp75565S75938.st k; have rp75551 := rp75551S75938.st k; have rp75537 := rp75537S75938.st k; have eg0 := eg0S75938.st k; exact bo_f h75972) ⟨_, s.pick [0, 1, 2, 3, 4] 5 rfl, kS75942⟩ ?_
            have sa75973 := s
            obtain ⟨hc75974, e75975⟩ := St.lend s (i := 1) rfl hn75550 rp75551
            have k75976 := Kp.shut (I := I75971) (w := w75967) (p := .sl (.slice A75546 n75547 c75548) 49 1 n75547 cl75549)
            replace s := s.shut 1 rfl
            have sa75977 := s
            obtain ⟨hc75978, e75979⟩ := St.lend s (i := 0) rfl hn75564 (rp75565.st k75976)
            have k75980 := Kp.shut (I := (fun k => I75971 k ∨ (It.sl (.slice A75546 n75547 c75548) 49 1 n75547 cl75549).foot = some k)) (w := w75967) (p := .sl (.slice A75560 n75561 c75562) 5 1 n75561 cl75563)
            replace s := s.shut 0 rfl
            replace e75975 := e75975.st k75980
            obtain ⟨x75981, hx75982, hf⟩ := bindS hf
            have hc75985 := c20 (F := (.sl (.slice A75532 n75533 c75534) 5 1 n75533 cl75535) :: (.blk b75418 (.cells #[.int .i64 p1.Kind, .int .i64 p1.Page, .int .u64 p1.Epoch, .slice A75410 p1.Data.length c75411] 25 (0, 0))) :: (.blk b75415 (.cells #[.int .i64 p0.Kind, .int .i64 p0.Page, .int .u64 p0.Epoch, .slice A75406 p0.Data.length c75407] 25 (0, 0))) :: F) x75539.1 x75553.1 A75546 c75548 A75560 c75562 hc75974 e75975 hc75978 e75979 s hx75982
            rw [← hn75550, ← hn75564] at hc75985
            refine RD.op (i := 17) rfl (by kernel_rfl) (by kernel_rfl) (OK.call' en20 (by kernel_rfl) (hc75985) ?_)
            intro X75986 hX75987
            refine fun _ _ hJ => hJ X75986 ?_
            intro I75988 w75983 s k75984
            refine hX75987 _ _ ?_
            have s' := St.back sa75977 (i := 0) rfl s k75984
            replace k75984 := Kp.back sa75977 (i := 0) rfl k75984
            replace s := s'; clear s'
            have s' := St.back sa75973 (i := 1) rfl s k75984
            replace k75984 := Kp.back sa75973 (i := 1) rfl k75984
            replace s := s'; clear s'
            obtain ⟨I75991, s, k75984⟩ : ∃ I : Nat → Prop, St w0 M I ((.sl (.slice A75546 n75547 c75548) 49 1 n75547 cl75549) :: (.sl (.slice A75560 n75561 c75562) 5 1 n75561 cl75563) :: (.sl (.slice A75532 n75533 c75534) 5 1 n75533 cl75535) :: (.blk b75418 (.cells #[.int .i64 p1.Kind, .int .i64 p1.Page, .int .u64 p1.Epoch, .slice A75410 p1.Data.length c75411] 25 (0, 0))) :: (.blk b75415 (.cells #[.int .i64 p0.Kind, .int .i64 p0.Page, .int .u64 p0.Epoch, .slice A75406 p0.Data.length c75407] 25 (0, 0))) :: F) w75983 ∧ Kp _ _ I _ := ⟨_, s, k75984⟩
            replace e75409 := e75409.st k75984
            replace e75413 := e75413.st k75984
            replace rp75537 := rp75537.st k75984
            replace eg0 := eg0.st k75984
            replace rp75551 := rp75551.st k75984
            replace rp75565 := rp75565.st k75984
            replace kk := kk.trans k75984
            replace kS75942 := kS75942.trans k75984
            refine ⟨fun _ => ⟨_, s.pick [1, 0, 2, 3, 4] 5 rfl, kS75942⟩, RD.fold ?_⟩
            refine RD.seg hT (by kernel_rfl) [18, 19] [] [(52, .bool (decide (¬ (x75981 = true))))] [.bool (decide (¬ (x75981 = true))), .bool (decide (¬ (x75981 = true)))] [.veq (.bool (!x75981)) (.bool (decide (¬ (x75981 = true))))] (by kernel_rfl) (by rintro w' ⟨I', s, k⟩; have e75409 := e75409S75938.st k; have e75413 := e75413S75938.st k; have rp75565 := rp75565S75938.st k; have rp75551 := rp75551S75938.st k; have rp75537 := rp75537S75938.st k; have eg0 := eg0S75938.st k; exact not_b) ⟨_, s.pick [1, 0, 2, 3, 4] 5 rfl, kS75942⟩ ?_
            by_cases h75992 : ¬ (x75981 = true)
            · have hf := iteT h75992 hf
              refine RD.seg hT (by kernel_rfl) [20, 21, 22, 23, 24] [] [(54, .bool true)] [.bool true, undef, undef, undef, .bool true] [.veq (.bool (decide (¬ (x75981 = true)))) (.bool true)] (by kernel_rfl) (by rintro w' ⟨I', s, k⟩; have e75409 := e75409S75938.st k; have e75413 := e75413S75938.st k; have rp75565 := rp75565S75938.st k; have rp75551 := rp75551S75938.st k; have rp75537 := rp75537S75938.st k; have eg0 := eg0S75938.st k; exact bo_t h75992) ⟨_, s.pick [1, 0, 2, 3, 4] 5 rfl, kS75942⟩ ?_
              refine RD.done (by kernel_rfl) ?_
              replace s := s.pick [0, 2, 4] 5 rfl
              exact fun X h => kc (by kernel_rfl) rfl (h I75991 true [(D75513.getD 0 undef), (D75513.getD 1 undef), .pointer (some ⟨b75418, 0, none⟩), .int .i64 x75539.2, .slice A75560 n75561 c75562, .int .i64 x75553.2, (D75513.getD 2 undef), (D75513.getD 3 undef), (D75513.getD 4 undef), (D75513.getD 5 undef), (D75513.getD 6 undef), (D75513.getD 7 undef), (D75513.getD 8 undef), (D75513.getD 9 undef), .bool x75514, undef, .pointer (some ⟨b75415, 3, none⟩), .slice A75406 p0.Data.length c75407, .slice A75532 n75533 c75534, .tuple #[.slice A75546 n75547 c75548, .int .i64 x75539.2], .agg #[.int .i64 p0.Kind, .int .i64 p0.Page, .int .u64 p0.Epoch, .slice A75406 p0.Data.length c75407], .tuple #[.slice A75546 n75547 c75548, .int .i64 x75539.2], .slice A75546 n75547 c75548, .int .i64 x75539.2, .tuple #[.slice A75560 n75561 c75562, .int .i64 x75553.2], .agg #[.int .i64 p0.Kind, .int .i64 p0.Page, .int .u64 p0.Epoch, .slice A75406 p0.Data.length c75407], .tuple #[.slice A75560 n75561 c75562, .int .i64 x75553.2], .slice A75560 n75561 c75562, .int .i64 x75553.2, .agg #[.int .i64 p0.Kind, .int .i64 p0.Page, .int .u64 p0.Epoch, .slice A75406 p0.Data.length c75407], .int .i64 x75943, .agg #[.int .i64 p0.Kind, .int .i64 p0.Page, .int .u64 p0.Epoch, .slice A75406 p0.Data.length c75407], .int .i64 x75950, .bool (decide (x75943 ≠ x75950)), .bool false, .agg #[.int .i64 p0.Kind, .int .i64 p0.Page, .int .u64 p0.Epoch, .slice A75406 p0.Data.length c75407], .agg #[.int .i64 p1.Kind, .int .i64 p1.Page, .int .u64 p1.Epoch, .slice A75410 p1.Data.length c75411], .bool x75958, .agg #[.int .i64 p0.Kind, .int .i64 p0.Page, .int .u64 p0.Epoch, .slice A75406 p0.Data.length c75407], .agg #[.int .i64 p1.Kind, .int .i64 p1.Page, .int .u64 p1.Epoch, .slice A75410 p1.Data.length c75411], .bool x75965, .bool (decide (x75958 ≠ x75965)), .bool (decide (x75958 ≠ x75965)), .bool false, .slice A75546 n75547 c75548, .slice A75560 n75561 c75562, .bool x75981, .bool (decide (¬ (x75981 = true))), .bool (decide (¬ (x75981 = true))), .bool true, undef, undef, undef, (D75513.getD 21 undef), (D75513.getD 22 undef), (D75513.getD 23 undef)] _ hf s kk e75409 rp75551 rp75537 eg0)
            · have hf := iteF h75992 hf
              refine RD.seg hT (by kernel_rfl) [20, 21, 22, 23, 24] [] [(54, .bool false), (57, .bool (decide (x75539.2 ≠ x75553.2)))] [.bool false, .int .i64 x75539.2, .int .i64 x75553.2, .bool (decide (x75539.2 ≠ x75553.2)), .bool (decide (x75539.2 ≠ x75553.2))] [.veq (.bool (decide (¬ (x75981 = true)))) (.bool false), .veq (.bool (x75539.2 != x75553.2)) (.bool (decide (x75539.2 ≠ x75553.2)))] (by kernel_rfl) (by rintro w' ⟨I', s, k⟩; have e75409 := e75409S75938.st k; have e75413 := e75413S75938.st k; have rp75565 := rp75565S75938.st k; have rp75551 := rp75551S75938.st k; have rp75537 := rp75537S75938.st k; have eg0 := eg0S75938.st k; exact ⟨bo_f h75992, ne_v⟩) ⟨_, s.pick [1, 0, 2, 3, 4] 5 rfl, kS75942⟩ ?_
              refine RD.done (by kernel_rfl) ?_
              replace s := s.pick [0, 2, 4] 5 rfl
              exact fun X h => kc (by kernel_rfl) rfl (h I75991 (decide (x75539.2 ≠ x75553.2)) [(D75513.getD 0 undef), (D75513.getD 1 undef), .pointer (some ⟨b75418, 0, none⟩), .int .i64 x75539.2, .slice A75560 n75561 c75562, .int .i64 x75553.2, (D75513.getD 2 undef), (D75513.getD 3 undef), (D75513.getD 4 undef), (D75513.getD 5 undef), (D75513.getD 6 undef), (D75513.getD 7 undef), (D75513.getD 8 undef), (D75513.getD 9 undef), .bool x75514, undef, .pointer (some ⟨b75415, 3, none⟩), .slice A75406 p0.Data.length c75407, .slice A75532 n75533 c75534, .tuple #[.slice A75546 n75547 c75548, .int .i64 x75539.2], .agg #[.int .i64 p0.Kind, .int .i64 p0.Page, .int .u64 p0.Epoch, .slice A75406 p0.Data.length c75407], .tuple #[.slice A75546 n75547 c75548, .int .i64 x75539.2], .slice A75546 n75547 c75548, .int .i64 x75539.2, .tuple #[.slice A75560 n75561 c75562, .int .i64 x75553.2], .agg #[.int .i64 p0.Kind, .int .i64 p0.Page, .int .u64 p0.Epoch, .slice A75406 p0.Data.length c75407], .tuple #[.slice A75560 n75561 c75562, .int .i64 x75553.2], .slice A75560 n75561 c75562, .int .i64 x75553.2, .agg #[.int .i64 p0.Kind, .int .i64 p0.Page, .int .u64 p0.Epoch, .slice A75406 p0.Data.length c75407], .int .i64 x75943, .agg #[.int .i64 p0.Kind, .int .i64 p0.Page, .int .u64 p0.Epoch, .slice A75406 p0.Data.length c75407], .int .i64 x75950, .bool (decide (x75943 ≠ x75950)), .bool false, .agg #[.int .i64 p0.Kind, .int .i64 p0.Page, .int .u64 p0.Epoch, .slice A75406 p0.Data.length c75407], .agg #[.int .i64 p1.Kind, .int .i64 p1.Page, .int .u64 p1.Epoch, .slice A75410 p1.Data.length c75411], .bool x75958, .agg #[.int .i64 p0.Kind, .int .i64 p0.Page, .int .u64 p0.Epoch, .slice A75406 p0.Data.length c75407], .agg #[.int .i64 p1.Kind, .int .i64 p1.Page, .int .u64 p1.Epoch, .slice A75410 p1.Data.length c75411], .bool x75965, .bool (decide (x75958 ≠ x75965)), .bool (decide (x75958 ≠ x75965)), .bool false, .slice A75546 n75547 c75548, .slice A75560 n75561 c75562, .bool x75981, .bool (decide (¬ (x75981 = true))), .bool (decide (¬ (x75981 = true))), .bool false, .int .i64 x75539.2, .int .i64 x75553.2, .bool (decide (x75539.2 ≠ x75553.2)), (D75513.getD 21 undef), (D75513.getD 22 undef), (D75513.getD 23 undef)] _ hf s kk e75409 rp75551 rp75537 eg0)
  · refine WPK.region ?_
    obtain ⟨x75995, hx75996, hf⟩ := bindS hf
    refine RW.op (by kernel_rfl) (OK.call' en9 (by kernel_rfl) (c9 (F := (.blk b75418 (.cells #[.int .i64 p1.Kind, .int .i64 p1.Page, .int .u64 p1.Epoch, .slice A75410 p1.Data.length c75411] 25 (0, 0))) :: (.blk b75415 (.cells #[.int .i64 p0.Kind, .int .i64 p0.Page, .int .u64 p0.Epoch, .slice A75406 p0.Data.length c75407] 25 (0, 0))) :: F) eg0 s hx75996) ?_)
    intro X75999 hX76000
    refine fun _ _ hJ => hJ X75999 ?_
    intro I76001 w75997 s k75998
    refine hX76000 _ _ ?_
    replace e75409 := e75409.st k75998
    replace e75413 := e75413.st k75998
    replace eg0 := eg0.st k75998
    replace kk := kk.trans k75998
    refine RW.seg hT 1 [] [(12, .bool (decide (¬ (x75995 = true))))] [.bool (decide (¬ (x75995 = true)))] [.veq (.bool (!x75995)) (.bool (decide (¬ (x75995 = true))))] (by kernel_rfl) (not_b) ?_
    by_cases h76002 : ¬ (x75995 = true)
    · have hf := iteT h76002 hf
      refine RW.seg hT 7 [] [(13, .bool true)] [.bool true, undef, undef, undef, undef, undef, .bool true] [.veq (.bool (decide (¬ (x75995 = true)))) (.bool true)] (by kernel_rfl) (bo_t h76002) ?_
      refine RW.nil ?_
      exact fun X h => kc (by kernel_rfl) rfl (h I76001 true [.agg #[.int .i64 p0.Kind, .int .i64 p0.Page, .int .u64 p0.Epoch, .slice A75406 p0.Data.length c75407], .agg #[.int .i64 p1.Kind, .int .i64 p1.Page, .int .u64 p1.Epoch, .slice A75410 p1.Data.length c75411], .bool x75995, .bool (decide (¬ (x75995 = true))), .bool true, undef, undef, undef, undef, undef, undef, undef, undef, undef, undef, undef, undef, undef, undef, undef, undef, undef, undef, undef] _ hf s kk e75413 e75409 eg0)
    · have hf := iteF h76002 hf
      refine RW.seg hT 3 [.agg #[.int .i64 p0.Kind, .int .i64 p0.Page, .int .u64 p0.Epoch, .slice A75406 p0.Data.length c75407], .agg #[.int .i64 p1.Kind, .int .i64 p1.Page, .int .u64 p1.Epoch, .slice A75410 p1.Data.length c75411]] [(13, .bool false)] [.bool false, .agg #[.int .i64 p0.Kind, .int .i64 p0.Page, .int .u64 p0.Epoch, .slice A75406 p0.Data.length c75407], .agg #[.int .i64 p1.Kind, .int .i64 p1.Page, .int .u64 p1.Epoch, .slice A75410 p1.Data.length c75411]] [.veq (.bool (decide (¬ (x75995 = true)))) (.bool false), .cells ⟨b75415, 0, none⟩ [.int .i64 p0.Kind, .int .i64 p0.Page, .int .u64 p0.Epoch, .slice A75406 p0.Data.length c75407] 4, .cells ⟨b75418, 0, none⟩ [.int .i64 p1.Kind, .int .i64 p1.Page, .int .u64 p1.Epoch, .slice A75410 p1.Data.length c75411] 4] (by kernel_rfl) (⟨bo_f h76002, s.cells (i := 1) rfl rfl rfl, s.cells (i := 0) rfl rfl rfl⟩) ?_
      refine RW.op (by kernel_rfl) (OK.new hT (f := fun b => .slice (some ⟨b, 0, none⟩) 2 2) (cs := [.int .i64 p0.Kind, .int .i64 p0.Page, .int .u64 p0.Epoch, .slice A75406 p0.Data.length c75407, .int .i64 p1.Kind, .int .i64 p1.Page, .int .u64 p1.Epoch, .slice A75410 p1.Data.length c75411]) (e := 25) (c := .tt) s (by kernel_rfl) trivial ?_)
      rintro w76003 b76004 s k76005 -
      replace e75409 := e75409.st k76005
      replace e75413 := e75413.st k76005
      replace eg0 := eg0.st k76005
      replace kk := kk.trans k76005
      have rp76006 : RepL rp_T_api_Frame I76001 w76003 [.int .i64 p0.Kind, .int .i64 p0.Page, .int .u64 p0.Epoch, .slice A75406 p0.Data.length c75407, .int .i64 p1.Kind, .int .i64 p1.Page, .int .u64 p1.Epoch, .slice A75410 p1.Data.length c75411] ([p0, p1] : List T_api_Frame) := RepL.cons (c := [.int .i64 p0.Kind, .int .i64 p0.Page, .int .u64 p0.Epoch, .slice A75406 p0.Data.length c75407]) (d := [.int .i64 p1.Kind, .int .i64 p1.Page, .int .u64 p1.Epoch, .slice A75410 p1.Data.length c75411]) (⟨[.int .i64 p0.Kind], [.int .i64 p0.Page, .int .u64 p0.Epoch, .slice A75406 p0.Data.length c75407], rfl, rfl, ⟨[.int .i64 p0.Page], [.int .u64 p0.Epoch, .slice A75406 p0.Data.length c75407], rfl, rfl, ⟨[.int .u64 p0.Epoch], [.slice A75406 p0.Data.length c75407], rfl, rfl, ⟨_, _, rfl, hc75408.1, hc75408.2, e75409⟩⟩⟩⟩) (RepL.cons (c := [.int .i64 p1.Kind, .int .i64 p1.Page, .int .u64 p1.Epoch, .slice A75410 p1.Data.length c75411]) (d := []) (⟨[.int .i64 p1.Kind], [.int .i64 p1.Page, .int .u64 p1.Epoch, .slice A75410 p1.Data.length c75411], rfl, rfl, ⟨[.int .i64 p1.Page], [.int .u64 p1.Epoch, .slice A75410 p1.Data.length c75411], rfl, rfl, ⟨[.int .u64 p1.Epoch], [.slice A75410 p1.Data.length c75411], rfl, rfl, ⟨_, _, rfl, hc75412.1, hc75412.2, e75413⟩⟩⟩⟩) (RepL.nil))
      replace s : St w0 M I76001 ((.sl (.slice (some ⟨b76004, 0, none⟩) 2 2) 25 4 2 [.int .i64 p0.Kind, .int .i64 p0.Page, .int .u64 p0.Epoch, .slice A75406 p0.Data.length c75407, .int .i64 p1.Kind, .int .i64 p1.Page, .int .u64 p1.Epoch, .slice A75410 p1.Data.length c75411]) :: (.blk b75418 (.cells #[.int .i64 p1.Kind, .int .i64 p1.Page, .int .u64 p1.Epoch, .slice A75410 p1.Data.length c75411] 25 (0, 0))) :: (.blk b75415 (.cells #[.int .i64 p0.Kind, .int .i64 p0.Page, .int .u64 p0.Epoch, .slice A75406 p0.Data.length c75407] 25 (0, 0))) :: F) w76003 := s.blkSl (i := 0) (n := 2) (c := 2) (size := 4) rfl rfl (Nat.le_refl _) (by decide)
      have sa76008 := s
      obtain ⟨hc76009, e76010⟩ := St.lend s (i := 0) rfl rfl rp76006
      have k76011 := Kp.shut (I := I76001) (w := w76003) (p := .sl (.slice (some ⟨b76004, 0, none⟩) 2 2) 25 4 2 [.int .i64 p0.Kind, .int .i64 p0.Page, .int .u64 p0.Epoch, .slice A75406 p0.Data.length c75407, .int .i64 p1.Kind, .int .i64 p1.Page, .int .u64 p1.Epoch, .slice A75410 p1.Data.length c75411])
      replace s := s.shut 0 rfl
      obtain ⟨x76012, hx76013, hf⟩ := bindS hf
      refine RW.op (by kernel_rfl) (OK.call' en10 (by kernel_rfl) (c10 (F := (.blk b75418 (.cells #[.int .i64 p1.Kind, .int .i64 p1.Page, .int .u64 p1.Epoch, .slice A75410 p1.Data.length c75411] 25 (0, 0))) :: (.blk b75415 (.cells #[.int .i64 p0.Kind, .int .i64 p0.Page, .int .u64 p0.Epoch, .slice A75406 p0.Data.length c75407] 25 (0, 0))) :: F) ([p0, p1] : List T_api_Frame) (some ⟨b76004, 0, none⟩) 2 hc76009 e76010 s hx76013) ?_)
      intro X76016 hX76017
      refine fun _ _ hJ => hJ X76016 ?_
      intro I76018 w76014 s k76015
      refine hX76017 _ _ ?_
      have s' := St.back sa76008 (i := 0) rfl s k76015
      replace k76015 := Kp.back sa76008 (i := 0) rfl k76015
      replace s := s'; clear s'
      obtain ⟨I76020, s, k76015⟩ : ∃ I : Nat → Prop, St w0 M I ((.sl (.slice (some ⟨b76004, 0, none⟩) 2 2) 25 4 2 [.int .i64 p0.Kind, .int .i64 p0.Page, .int .u64 p0.Epoch, .slice A75406 p0.Data.length c75407, .int .i64 p1.Kind, .int .i64 p1.Page, .int .u64 p1.Epoch, .slice A75410 p1.Data.length c75411]) :: (.blk b75418 (.cells #[.int .i64 p1.Kind, .int .i64 p1.Page, .int .u64 p1.Epoch, .slice A75410 p1.Data.length c75411] 25 (0, 0))) :: (.blk b75415 (.cells #[.int .i64 p0.Kind, .int .i64 p0.Page, .int .u64 p0.Epoch, .slice A75406 p0.Data.length c75407] 25 (0, 0))) :: F) w76014 ∧ Kp _ _ I _ := ⟨_, s, k76015⟩
      replace e75409 := e75409.st k76015
      replace e75413 := e75413.st k76015
      replace eg0 := eg0.st k76015
      replace rp76006 := rp76006.st k76015
      replace kk := kk.trans k76015
      refine RW.seg hT 2 [] [(18, .bool (decide (¬ (x76012 = true))))] [.bool (decide (¬ (x76012 = true))), .bool (decide (¬ (x76012 = true)))] [.veq (.bool (!x76012)) (.bool (decide (¬ (x76012 = true))))] (by kernel_rfl) (not_b) ?_
      refine RW.nil ?_
      replace s := s.pick [1, 2] 3 rfl
      exact fun X h => kc (by kernel_rfl) rfl (h I76020 (decide (¬ (x76012 = true))) [.agg #[.int .i64 p0.Kind, .int .i64 p0.Page, .int .u64 p0.Epoch, .slice A75406 p0.Data.length c75407], .agg #[.int .i64 p1.Kind, .int .i64 p1.Page, .int .u64 p1.Epoch, .slice A75410 p1.Data.length c75411], .bool x75995, .bool (decide (¬ (x75995 = true))), .bool false, .agg #[.int .i64 p0.Kind, .int .i64 p0.Page, .int .u64 p0.Epoch, .slice A75406 p0.Data.length c75407], .agg #[.int .i64 p1.Kind, .int .i64 p1.Page, .int .u64 p1.Epoch, .slice A75410 p1.Data.length c75411], .slice (some ⟨b76004, 0, none⟩) 2 2, .bool x76012, .bool (decide (¬ (x76012 = true))), undef, undef, undef, undef, undef, undef, undef, undef, undef, undef, undef, undef, undef, undef] _ hf s kk e75413 e75409 eg0)
end Go.Proofs.YtjkghheeeiacmaaDoor
