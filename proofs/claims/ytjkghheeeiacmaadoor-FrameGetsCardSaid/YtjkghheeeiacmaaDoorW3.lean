/- PRINTED BY sy.py: each call computes what the plain function of its number tells. -/
import Derived.Test.YtjkghheeeiacmaaDoorW2
namespace Go.Proofs.YtjkghheeeiacmaaDoor
open Go Go.SX Go.RowKit
set_option maxRecDepth 100000
set_option linter.unusedVariables false
attribute [local irreducible] WPK RW RD Ret SX.Fin SX.Any opK RoundBeg RoundEnd RangeEnd Rounds
theorem c3 {w0 w : World} {M I : Nat → Prop} {F : List It} (p0 : T_api_Frame) (p1 : Int) (p2 : Int) (A17797 : Option Addr) (c17798 : Nat) (hc17799 : (p0.Data.length ≤ c17798 ∧ c17798 ≤ 9223372036854775807)) (e17800 : Elems (Rp.int .u8) I w A17797 p0.Data) (eg0 : Elems (Rp.int .u32) I w (some ⟨0, 0, none⟩) TAB0) (s : St w0 M I (F) w) {r : Bool} (hf : g3 p0 p1 p2 = some r) :
    Ret Tryd.prog 3 [.agg #[.int .i64 p0.Kind, .int .i64 p0.Page, .int .u64 p0.Epoch, .slice A17797 p0.Data.length c17798], .int .u16 p1, .int .u32 p2] w fun v wz => ∀ X : Value → World → Prop, (∀ (I' : Nat → Prop) (w' : World), St w0 M I' (F) w' → Kp I w I' w' → X (.bool r) w') → X v wz := by
  have kk : Kp I w I w := Kp.refl
  unfold g3 at hf
  refine Ret.of Tryd.func3 rfl ?_
  refine WPK.seq ?_
  refine WPK.region ?_
  refine RW.op (by kernel_rfl) (OK.new hT (f := fun b => .pointer (some ⟨b, 0, none⟩)) (cs := [.int .i64 p0.Kind, .int .i64 p0.Page, .int .u64 p0.Epoch, .slice A17797 p0.Data.length c17798]) (e := 25) (c := .tt) s (by kernel_rfl) trivial ?_)
  rintro w17801 b17802 s k17803 -
  replace e17800 := e17800.st k17803
  replace eg0 := eg0.st k17803
  replace kk := kk.trans k17803
  refine RW.seg hT 1 [] [] [.bool false] [] (by kernel_rfl) (trivial) ?_
  refine RW.nil ?_
  refine WPK.seq ?_
  refine WPK.cut' (Kn fun E ds wz => ∀ X : Kont, (∀ (I17897 : Nat → Prop) (x17895 : Int) (D17894 : List Value) (w' : World), g3_j1 p0 p1 p2 x17895 = some r → St w0 M I17897 ((.blk b17802 (.cells #[.int .i64 p0.Kind, .int .i64 p0.Page, .int .u64 p0.Epoch, .slice A17797 p0.Data.length c17798] 25 (0, 0))) :: F) w' → Kp I w I17897 w' → Elems (Rp.int .u8) I17897 w' A17797 p0.Data → Elems (Rp.int .u32) I17897 w' (some ⟨0, 0, none⟩) TAB0 → X [(D17894.getD 0 undef), .int .u16 p1, .int .u32 p2, .pointer (some ⟨b17802, 0, none⟩), (D17894.getD 1 undef), (D17894.getD 2 undef), .bool false, (D17894.getD 3 undef), .int .i64 x17895, undef, undef, undef, (D17894.getD 4 undef), (D17894.getD 5 undef), (D17894.getD 6 undef), (D17894.getD 7 undef), (D17894.getD 8 undef), (D17894.getD 9 undef), (D17894.getD 10 undef), undef, undef, undef, undef, undef, undef, undef, undef, (D17894.getD 11 undef), undef, undef, undef, undef, undef, undef, undef, undef, undef, (D17894.getD 12 undef), undef, undef, undef, undef, undef, undef, undef, undef, undef, (D17894.getD 13 undef), undef, undef, undef, undef, undef, undef, undef, undef, undef, undef, undef, undef, undef, undef, undef, undef, undef, undef, undef, undef, undef, undef, undef, undef, undef, undef, undef, undef, undef, (D17894.getD 14 undef), undef, (D17894.getD 15 undef), undef, (D17894.getD 16 undef), undef, undef, undef] [] w') → X E ds wz) ?_ ?_
  · intro X18324 hX18325
    refine fun _ _ _ hJ => hJ X18324 ?_
    intro I17897 x17895 D17894 w17896 hf s kk e17800 eg0
    refine hX18325 _ _ _ ?_
    unfold g3_j1 at hf
    refine WPK.seq ?_
    refine WPK.seq ?_
    refine WPK.cut' (Kn fun E ds wz => ∀ X : Kont, (∀ (I18031 : Nat → Prop) (x18029 : Bool) (D18028 : List Value) (w' : World), g3_j2 p0 p1 p2 x17895 x18029 = some r → St w0 M I18031 ((.blk b17802 (.cells #[.int .i64 p0.Kind, .int .i64 p0.Page, .int .u64 p0.Epoch, .slice A17797 p0.Data.length c17798] 25 (0, 0))) :: F) w' → Kp I w I18031 w' → Elems (Rp.int .u8) I18031 w' A17797 p0.Data → Elems (Rp.int .u32) I18031 w' (some ⟨0, 0, none⟩) TAB0 → X [(D18028.getD 0 undef), .int .u16 p1, .int .u32 p2, .pointer (some ⟨b17802, 0, none⟩), (D18028.getD 1 undef), (D18028.getD 2 undef), .bool false, (D18028.getD 3 undef), .int .i64 x17895, undef, undef, undef, (D18028.getD 4 undef), (D18028.getD 5 undef), (D18028.getD 6 undef), (D18028.getD 7 undef), (D18028.getD 8 undef), (D18028.getD 9 undef), (D18028.getD 10 undef), (D18028.getD 11 undef), (D18028.getD 12 undef), (D18028.getD 13 undef), (D18028.getD 14 undef), (D18028.getD 15 undef), (D18028.getD 16 undef), (D18028.getD 17 undef), (D18028.getD 18 undef), (D18028.getD 19 undef), (D18028.getD 20 undef), (D18028.getD 21 undef), .bool x18029, undef, undef, undef, undef, undef, undef, (D18028.getD 22 undef), undef, undef, undef, undef, undef, undef, undef, undef, undef, (D18028.getD 23 undef), undef, undef, undef, undef, undef, undef, undef, undef, undef, undef, undef, undef, undef, undef, undef, undef, undef, undef, undef, undef, undef, undef, undef, undef, undef, undef, undef, undef, undef, (D18028.getD 24 undef), undef, (D18028.getD 25 undef), undef, (D18028.getD 26 undef), undef, undef, undef] [] w') → X E ds wz) ?_ ?_
    · intro X18295 hX18296
      refine fun _ _ _ hJ => hJ X18295 ?_
      intro I18031 x18029 D18028 w18030 hf s kk e17800 eg0
      refine hX18296 _ _ _ ?_
      unfold g3_j2 at hf
      by_cases h18032 : x18029 = true
      · have hf := iteT h18032 hf
        refine WPK.condT (Eq.trans (b := .bool x18029) (by kernel_rfl) (b_t h18032)) ?_
        refine WPK.seq ?_
        refine WPK.cut' (Kn fun E ds wz => ∀ X : Kont, (∀ (I18044 : Nat → Prop) (x18042 : Bool) (D18041 : List Value) (w' : World), g3_j3 x18042 = some r → St w0 M I18044 ((.blk b17802 (.cells #[.int .i64 p0.Kind, .int .i64 p0.Page, .int .u64 p0.Epoch, .slice A17797 p0.Data.length c17798] 25 (0, 0))) :: F) w' → Kp I w I18044 w' → Elems (Rp.int .u8) I18044 w' A17797 p0.Data → Elems (Rp.int .u32) I18044 w' (some ⟨0, 0, none⟩) TAB0 → X [(D18041.getD 0 undef), .int .u16 p1, .int .u32 p2, .pointer (some ⟨b17802, 0, none⟩), (D18041.getD 1 undef), (D18041.getD 2 undef), .bool x18042, (D18041.getD 3 undef), .int .i64 x17895, undef, undef, undef, (D18041.getD 4 undef), (D18041.getD 5 undef), (D18041.getD 6 undef), (D18041.getD 7 undef), (D18041.getD 8 undef), (D18041.getD 9 undef), (D18041.getD 10 undef), (D18041.getD 11 undef), (D18041.getD 12 undef), (D18041.getD 13 undef), (D18041.getD 14 undef), (D18041.getD 15 undef), (D18041.getD 16 undef), (D18041.getD 17 undef), (D18041.getD 18 undef), (D18041.getD 19 undef), (D18041.getD 20 undef), (D18041.getD 21 undef), (D18041.getD 22 undef), (D18041.getD 23 undef), (D18041.getD 24 undef), (D18041.getD 25 undef), (D18041.getD 26 undef), (D18041.getD 27 undef), undef, (D18041.getD 28 undef), undef, undef, undef, undef, undef, undef, undef, undef, undef, (D18041.getD 29 undef), undef, undef, undef, undef, undef, undef, undef, undef, undef, undef, undef, undef, undef, undef, undef, undef, undef, undef, undef, undef, undef, undef, undef, undef, undef, undef, undef, undef, undef, (D18041.getD 30 undef), undef, (D18041.getD 31 undef), undef, (D18041.getD 32 undef), undef, undef, undef] [] w') → X E ds wz) ?_ ?_
        · intro X18045 hX18046
          refine fun _ _ _ hJ => hJ X18045 ?_
          intro I18044 x18042 D18041 w18043 hf s kk e17800 eg0
          refine hX18046 _ _ _ ?_
          unfold g3_j3 at hf
          refine WPK.ret (?_)
          obtain rfl := someS hf
          refine Fin.of (rs := [.tmp 6]) hT [] (.bool x18042) [] rfl (by kernel_rfl) (trivial) ?_
          replace s := s.pick [] 1 rfl
          exact fun X h => vc rfl (h I18044 _ s kk)
        · refine WPK.region ?_
          obtain ⟨x18047, hx18048, hf⟩ := bindS hf
          refine RW.op (by kernel_rfl) (OK.call' en9 (by kernel_rfl) (c9 (F := (.blk b17802 (.cells #[.int .i64 p0.Kind, .int .i64 p0.Page, .int .u64 p0.Epoch, .slice A17797 p0.Data.length c17798] 25 (0, 0))) :: F) eg0 s hx18048) ?_)
          intro X18051 hX18052
          refine fun _ _ hJ => hJ X18051 ?_
          intro I18053 w18049 s k18050
          refine hX18052 _ _ ?_
          replace e17800 := e17800.st k18050
          replace eg0 := eg0.st k18050
          replace kk := kk.trans k18050
          by_cases h18054 : x18047 = true
          · have hf := iteT h18054 hf
            refine RW.seg hT 5 [] [(32, .bool true), (34, .bool (decide (x17895 = 40)))] [.bool true, .int .i64 x17895, .bool (decide (x17895 = 40)), .bool (decide (x17895 = 40)), .bool (decide (x17895 = 40))] [.veq (.bool (x18047)) (.bool true), .veq (.bool (x17895 == 40)) (.bool (decide (x17895 = 40)))] (by kernel_rfl) (⟨b_t h18054, eq_v⟩) ?_
            refine RW.nil ?_
            exact fun X h => kc (by kernel_rfl) rfl (h I18053 (decide (x17895 = 40)) [(D18028.getD 0 undef), (D18028.getD 1 undef), (D18028.getD 2 undef), (D18028.getD 3 undef), (D18028.getD 4 undef), (D18028.getD 5 undef), (D18028.getD 6 undef), (D18028.getD 7 undef), (D18028.getD 8 undef), (D18028.getD 9 undef), (D18028.getD 10 undef), (D18028.getD 11 undef), (D18028.getD 12 undef), (D18028.getD 13 undef), (D18028.getD 14 undef), (D18028.getD 15 undef), (D18028.getD 16 undef), (D18028.getD 17 undef), (D18028.getD 18 undef), (D18028.getD 19 undef), (D18028.getD 20 undef), (D18028.getD 21 undef), .bool x18029, .bool x18047, .bool true, .int .i64 x17895, .bool (decide (x17895 = 40)), .bool (decide (x17895 = 40)), (D18028.getD 22 undef), (D18028.getD 23 undef), (D18028.getD 24 undef), (D18028.getD 25 undef), (D18028.getD 26 undef)] _ hf s kk e17800 eg0)
          · have hf := iteF h18054 hf
            refine RW.seg hT 5 [] [(32, .bool false)] [.bool false, undef, undef, .bool false, .bool false] [.veq (.bool (x18047)) (.bool false)] (by kernel_rfl) (b_f h18054) ?_
            refine RW.nil ?_
            exact fun X h => kc (by kernel_rfl) rfl (h I18053 false [(D18028.getD 0 undef), (D18028.getD 1 undef), (D18028.getD 2 undef), (D18028.getD 3 undef), (D18028.getD 4 undef), (D18028.getD 5 undef), (D18028.getD 6 undef), (D18028.getD 7 undef), (D18028.getD 8 undef), (D18028.getD 9 undef), (D18028.getD 10 undef), (D18028.getD 11 undef), (D18028.getD 12 undef), (D18028.getD 13 undef), (D18028.getD 14 undef), (D18028.getD 15 undef), (D18028.getD 16 undef), (D18028.getD 17 undef), (D18028.getD 18 undef), (D18028.getD 19 undef), (D18028.getD 20 undef), (D18028.getD 21 undef), .bool x18029, .bool x18047, .bool false, undef, undef, .bool false, (D18028.getD 22 undef), (D18028.getD 23 undef), (D18028.getD 24 undef), (D18028.getD 25 undef), (D18028.getD 26 undef)] _ hf s kk e17800 eg0)
      · have hf := iteF h18032 hf
        refine WPK.condF (Eq.trans (b := .bool x18029) (by kernel_rfl) (b_f h18032)) ?_
        refine WPK.skip ?_
        refine WPK.seq ?_
        refine WPK.region ?_
        refine RW.seg hT 1 [.agg #[.int .i64 p0.Kind, .int .i64 p0.Page, .int .u64 p0.Epoch, .slice A17797 p0.Data.length c17798]] [] [.agg #[.int .i64 p0.Kind, .int .i64 p0.Page, .int .u64 p0.Epoch, .slice A17797 p0.Data.length c17798]] [.cells ⟨b17802, 0, none⟩ [.int .i64 p0.Kind, .int .i64 p0.Page, .int .u64 p0.Epoch, .slice A17797 p0.Data.length c17798] 4] (by kernel_rfl) (s.cells (i := 0) rfl rfl rfl) ?_
        obtain ⟨x18055, hx18056, hf⟩ := bindS hf
        refine RW.op (by kernel_rfl) (OK.call' en11 (by kernel_rfl) (c11 (F := (.blk b17802 (.cells #[.int .i64 p0.Kind, .int .i64 p0.Page, .int .u64 p0.Epoch, .slice A17797 p0.Data.length c17798] 25 (0, 0))) :: F) p0 A17797 c17798 hc17799 e17800 eg0 s hx18056) ?_)
        intro X18059 hX18060
        refine fun _ _ hJ => hJ X18059 ?_
        intro I18061 A18062 n18063 c18064 cl18065 w18057 s k18058 hn18066 rp18067
        refine hX18060 _ _ ?_
        replace e17800 := e17800.st k18058
        replace eg0 := eg0.st k18058
        replace kk := kk.trans k18058
        refine RW.seg hT 5 [] [] [.tuple #[.slice A18062 n18063 c18064, .int .i64 x18055.2], .slice A18062 n18063 c18064, .int .i64 x18055.2, .slice A18062 n18063 c18064, .int .i64 x18055.2] [] (by kernel_rfl) (trivial) ?_
        refine RW.nil ?_
        refine WPK.seq ?_
        refine WPK.seq ?_
        refine WPK.cut' (Kn fun E ds wz => ∀ X : Kont, (∀ (x18074 : Bool) (D18073 : List Value), g3_j4 p0 p1 p2 x18055 x18074 = some r → X [(D18073.getD 0 undef), .int .u16 p1, .int .u32 p2, .pointer (some ⟨b17802, 0, none⟩), (D18073.getD 1 undef), (D18073.getD 2 undef), .bool false, (D18073.getD 3 undef), .int .i64 x18055.2, .slice A18062 n18063 c18064, undef, undef, (D18073.getD 4 undef), (D18073.getD 5 undef), (D18073.getD 6 undef), (D18073.getD 7 undef), (D18073.getD 8 undef), (D18073.getD 9 undef), (D18073.getD 10 undef), (D18073.getD 11 undef), (D18073.getD 12 undef), (D18073.getD 13 undef), (D18073.getD 14 undef), (D18073.getD 15 undef), (D18073.getD 16 undef), (D18073.getD 17 undef), (D18073.getD 18 undef), (D18073.getD 19 undef), (D18073.getD 20 undef), (D18073.getD 21 undef), (D18073.getD 22 undef), (D18073.getD 23 undef), (D18073.getD 24 undef), (D18073.getD 25 undef), (D18073.getD 26 undef), (D18073.getD 27 undef), (D18073.getD 28 undef), (D18073.getD 29 undef), (D18073.getD 30 undef), (D18073.getD 31 undef), (D18073.getD 32 undef), (D18073.getD 33 undef), (D18073.getD 34 undef), (D18073.getD 35 undef), (D18073.getD 36 undef), (D18073.getD 37 undef), .bool x18074, (D18073.getD 38 undef), undef, undef, undef, undef, undef, undef, undef, undef, undef, undef, undef, undef, undef, undef, undef, undef, undef, undef, undef, undef, undef, undef, undef, undef, undef, undef, undef, undef, undef, (D18073.getD 39 undef), undef, (D18073.getD 40 undef), undef, (D18073.getD 41 undef), undef, undef, undef] [] w18057) → X E ds wz) ?_ ?_
        · intro X18292 hX18293
          refine fun _ _ _ hJ => hJ X18292 ?_
          intro x18074 D18073 hf
          refine hX18293 _ _ _ ?_
          unfold g3_j4 at hf
          by_cases h18075 : x18074 = true
          · have hf := iteT h18075 hf
            refine WPK.condT (Eq.trans (b := .bool x18074) (by kernel_rfl) (b_t h18075)) ?_
            refine WPK.seq ?_
            refine WPK.region ?_
            refine RW.seg hT 1 [] [] [.bool true] [] (by kernel_rfl) (trivial) ?_
            refine RW.nil ?_
            refine WPK.ret (?_)
            obtain rfl := someS hf
            refine Fin.of (rs := [.tmp 6]) hT [] (.bool true) [] rfl (by kernel_rfl) (trivial) ?_
            replace s := s.pick [] 2 rfl
            exact fun X h => vc rfl (h I18061 _ s kk)
          · have hf := iteF h18075 hf
            refine WPK.condF (Eq.trans (b := .bool x18074) (by kernel_rfl) (b_f h18075)) ?_
            refine WPK.skip ?_
            refine WPK.seq ?_
            refine WPK.seq ?_
            refine WPK.region ?_
            refine RW.seg hT 3 [] [(48, .int .i64 (x18055.1.length : Int)), (49, .bool (decide ((x18055.1.length : Int) ≠ 256)))] [.slice A18062 n18063 c18064, .int .i64 (x18055.1.length : Int), .bool (decide ((x18055.1.length : Int) ≠ 256))] [.veq (.int .i64 (n18063 : Nat)) (.int .i64 (x18055.1.length : Int)), .veq (.bool ((x18055.1.length : Int) != 256)) (.bool (decide ((x18055.1.length : Int) ≠ 256)))] (by kernel_rfl) (⟨len_v hn18066, ne_v⟩) ?_
            refine RW.nil ?_
            by_cases h18077 : (x18055.1.length : Int) ≠ 256
            · have hf := iteT h18077 hf
              refine WPK.condT (Eq.trans (b := .bool (decide ((x18055.1.length : Int) ≠ 256))) (by kernel_rfl) (bo_t h18077)) ?_
              refine WPK.seq ?_
              refine WPK.region ?_
              refine RW.seg hT 1 [] [] [.bool false] [] (by kernel_rfl) (trivial) ?_
              refine RW.nil ?_
              refine WPK.ret (?_)
              obtain rfl := someS hf
              refine Fin.of (rs := [.tmp 6]) hT [] (.bool false) [] rfl (by kernel_rfl) (trivial) ?_
              replace s := s.pick [] 2 rfl
              exact fun X h => vc rfl (h I18061 _ s kk)
            · have hf := iteF h18077 hf
              refine WPK.condF (Eq.trans (b := .bool (decide ((x18055.1.length : Int) ≠ 256))) (by kernel_rfl) (bo_f h18077)) ?_
              refine WPK.skip ?_
              refine WPK.seq ?_
              refine WPK.region ?_
              refine RW.seg hT 1 [] [] [.int .i64 0] [] (by kernel_rfl) (trivial) ?_
              refine RW.nil ?_
              refine WPK.seq ?_
              refine WPK.cut' (Kn fun E ds wz => ∀ X : Kont, (∀ (x18082 : Int) (D18081 : List Value), g3_j5 p0 p2 x18055 x18082 = some r → X [(D18081.getD 0 undef), (D18081.getD 1 undef), .int .u32 p2, .pointer (some ⟨b17802, 0, none⟩), (D18081.getD 2 undef), (D18081.getD 3 undef), .bool false, (D18081.getD 4 undef), .int .i64 x18055.2, .slice A18062 n18063 c18064, .int .i64 x18082, undef, (D18081.getD 5 undef), (D18081.getD 6 undef), (D18081.getD 7 undef), (D18081.getD 8 undef), (D18081.getD 9 undef), (D18081.getD 10 undef), (D18081.getD 11 undef), (D18081.getD 12 undef), (D18081.getD 13 undef), (D18081.getD 14 undef), (D18081.getD 15 undef), (D18081.getD 16 undef), (D18081.getD 17 undef), (D18081.getD 18 undef), (D18081.getD 19 undef), (D18081.getD 20 undef), (D18081.getD 21 undef), (D18081.getD 22 undef), (D18081.getD 23 undef), (D18081.getD 24 undef), (D18081.getD 25 undef), (D18081.getD 26 undef), (D18081.getD 27 undef), (D18081.getD 28 undef), (D18081.getD 29 undef), (D18081.getD 30 undef), (D18081.getD 31 undef), (D18081.getD 32 undef), (D18081.getD 33 undef), (D18081.getD 34 undef), (D18081.getD 35 undef), (D18081.getD 36 undef), (D18081.getD 37 undef), (D18081.getD 38 undef), (D18081.getD 39 undef), (D18081.getD 40 undef), (D18081.getD 41 undef), (D18081.getD 42 undef), (D18081.getD 43 undef), (D18081.getD 44 undef), (D18081.getD 45 undef), (D18081.getD 46 undef), (D18081.getD 47 undef), (D18081.getD 48 undef), (D18081.getD 49 undef), (D18081.getD 50 undef), undef, undef, undef, undef, undef, undef, undef, undef, undef, undef, undef, undef, undef, undef, undef, undef, undef, undef, undef, (D18081.getD 51 undef), undef, (D18081.getD 52 undef), undef, (D18081.getD 53 undef), undef, undef, undef] [] w18057) → X E ds wz) ?_ ?_
              · intro X18287 hX18288
                refine fun _ _ _ hJ => hJ X18287 ?_
                intro x18082 D18081 hf
                refine hX18288 _ _ _ ?_
                unfold g3_j5 at hf
                refine WPK.seq ?_
                refine WPK.seq ?_
                refine WPK.region ?_
                refine RW.seg hT 1 [] [] [.int .i64 0] [] (by kernel_rfl) (trivial) ?_
                refine RW.nil ?_
                refine WPK.block ?_
                refine WPK.loop' (J := fun n18237 E ds wz => ∀ X : Kont, (∀ (I18207 : Nat → Prop) (x18201 : Int) (x18202 : (List Int)) (D18200 : List Value) (cl18203 : List Value) (w' : World), g3_l6 p0 p2 x18082 n18237 x18201 x18202 = some r → St w0 M I18207 ((.sl (.slice A18062 n18063 c18064) 49 1 n18063 cl18203) :: (.blk b17802 (.cells #[.int .i64 p0.Kind, .int .i64 p0.Page, .int .u64 p0.Epoch, .slice A17797 p0.Data.length c17798] 25 (0, 0))) :: F) w' → Kp I w I18207 w' → Elems (Rp.int .u8) I18207 w' A17797 p0.Data → n18063 = x18202.length → RepL (Rp.int .u8) I18207 w' cl18203 x18202 → Elems (Rp.int .u32) I18207 w' (some ⟨0, 0, none⟩) TAB0 → X [(D18200.getD 0 undef), (D18200.getD 1 undef), .int .u32 p2, .pointer (some ⟨b17802, 0, none⟩), (D18200.getD 2 undef), (D18200.getD 3 undef), .bool false, (D18200.getD 4 undef), .int .i64 x18055.2, .slice A18062 n18063 c18064, .int .i64 x18082, (D18200.getD 5 undef), (D18200.getD 6 undef), (D18200.getD 7 undef), (D18200.getD 8 undef), (D18200.getD 9 undef), (D18200.getD 10 undef), (D18200.getD 11 undef), (D18200.getD 12 undef), (D18200.getD 13 undef), (D18200.getD 14 undef), (D18200.getD 15 undef), (D18200.getD 16 undef), (D18200.getD 17 undef), (D18200.getD 18 undef), (D18200.getD 19 undef), (D18200.getD 20 undef), (D18200.getD 21 undef), (D18200.getD 22 undef), (D18200.getD 23 undef), (D18200.getD 24 undef), (D18200.getD 25 undef), (D18200.getD 26 undef), (D18200.getD 27 undef), (D18200.getD 28 undef), (D18200.getD 29 undef), (D18200.getD 30 undef), (D18200.getD 31 undef), (D18200.getD 32 undef), (D18200.getD 33 undef), (D18200.getD 34 undef), (D18200.getD 35 undef), (D18200.getD 36 undef), (D18200.getD 37 undef), (D18200.getD 38 undef), (D18200.getD 39 undef), (D18200.getD 40 undef), (D18200.getD 41 undef), (D18200.getD 42 undef), (D18200.getD 43 undef), (D18200.getD 44 undef), (D18200.getD 45 undef), (D18200.getD 46 undef), (D18200.getD 47 undef), (D18200.getD 48 undef), (D18200.getD 49 undef), (D18200.getD 50 undef), (D18200.getD 51 undef), .int .i64 x18201, (D18200.getD 52 undef), (D18200.getD 53 undef), (D18200.getD 54 undef), (D18200.getD 55 undef), (D18200.getD 56 undef), (D18200.getD 57 undef), (D18200.getD 58 undef), (D18200.getD 59 undef), (D18200.getD 60 undef), (D18200.getD 61 undef), (D18200.getD 62 undef), (D18200.getD 63 undef), (D18200.getD 64 undef), (D18200.getD 65 undef), (D18200.getD 66 undef), (D18200.getD 67 undef), (D18200.getD 68 undef), undef, (D18200.getD 69 undef), undef, (D18200.getD 70 undef), undef, (D18200.getD 71 undef), undef, undef, undef] [] w') → X E ds wz) FUEL (fun X h => kc (by kernel_rfl) rfl (h I18061 0 x18055.1 [(D18081.getD 0 undef), (D18081.getD 1 undef), (D18081.getD 2 undef), (D18081.getD 3 undef), (D18081.getD 4 undef), undef, (D18081.getD 5 undef), (D18081.getD 6 undef), (D18081.getD 7 undef), (D18081.getD 8 undef), (D18081.getD 9 undef), (D18081.getD 10 undef), (D18081.getD 11 undef), (D18081.getD 12 undef), (D18081.getD 13 undef), (D18081.getD 14 undef), (D18081.getD 15 undef), (D18081.getD 16 undef), (D18081.getD 17 undef), (D18081.getD 18 undef), (D18081.getD 19 undef), (D18081.getD 20 undef), (D18081.getD 21 undef), (D18081.getD 22 undef), (D18081.getD 23 undef), (D18081.getD 24 undef), (D18081.getD 25 undef), (D18081.getD 26 undef), (D18081.getD 27 undef), (D18081.getD 28 undef), (D18081.getD 29 undef), (D18081.getD 30 undef), (D18081.getD 31 undef), (D18081.getD 32 undef), (D18081.getD 33 undef), (D18081.getD 34 undef), (D18081.getD 35 undef), (D18081.getD 36 undef), (D18081.getD 37 undef), (D18081.getD 38 undef), (D18081.getD 39 undef), (D18081.getD 40 undef), (D18081.getD 41 undef), (D18081.getD 42 undef), (D18081.getD 43 undef), (D18081.getD 44 undef), (D18081.getD 45 undef), (D18081.getD 46 undef), (D18081.getD 47 undef), (D18081.getD 48 undef), (D18081.getD 49 undef), (D18081.getD 50 undef), undef, undef, undef, undef, undef, undef, undef, undef, undef, undef, undef, undef, undef, undef, undef, undef, undef, (D18081.getD 51 undef), (D18081.getD 52 undef), (D18081.getD 53 undef)] cl18065 _ hf s kk e17800 hn18066 rp18067 eg0)) (fun _ _ _ hJ => hJ (fun _ _ _ => False) (by intro I18207 x18201 x18202 D18200 cl18203 w18206 hf s kk e17800 hn18204 rp18205 eg0; exact noneS hf)) ?_
                intro X18285 hX18286
                refine fun n18237 _ _ _ hJ => hJ (X18285 n18237) ?_
                intro I18207 x18201 x18202 D18200 cl18203 w18206 hf s kk e17800 hn18204 rp18205 eg0
                refine hX18286 _ _ _ _ ?_
                replace hf : g3_l6B p0 p2 x18082 (g3_l6 p0 p2 x18082 n18237) x18201 x18202 = some r := hf
                generalize hrec18238 : g3_l6 p0 p2 x18082 n18237 = rec18236 at hf
                unfold g3_l6B at hf
                refine WPK.seq ?_
                refine WPK.region ?_
                refine RW.seg hT 1 [] [] [.bool (decide (x18201 < 4))] [] (by kernel_rfl) (trivial) ?_
                refine RW.nil ?_
                refine WPK.seq ?_
                by_cases h18240 : x18201 < 4
                · have hf := iteT h18240 hf
                  refine WPK.condT (Eq.trans (b := .bool (decide (x18201 < 4))) (by kernel_rfl) (bo_t h18240)) ?_
                  refine WPK.skip ?_
                  refine WPK.seq ?_
                  refine WPK.block ?_
                  refine WPK.seq ?_
                  refine WPK.region ?_
                  refine RW.seg hT 2 [] [] [.int .i64 x18201, .int .i64 x18201] [] (by kernel_rfl) (trivial) ?_
                  refine RW.nil ?_
                  refine WPK.region ?_
                  obtain ⟨x18241, hx18242, hf⟩ := bindS hf
                  obtain ⟨h18243, hx18242⟩ := getS hx18242
                  obtain ⟨b18244, rfl⟩ := (St.elem s (i := 0) rfl hn18204 rp18205 hx18242).1
                  obtain ⟨-, cs18246, hr18247, ha18248⟩ := St.elem s (i := 0) rfl hn18204 rp18205 hx18242
                  replace ha18248 := ha18248 _ rfl
                  obtain rfl : cs18246 = [.int .u8 x18241] := hr18247
                  obtain ⟨h18249, hf⟩ := iteS hf
                  obtain ⟨x18250, hx18251, hf⟩ := bindS hf
                  obtain ⟨x18252, hx18253, hf⟩ := bindS hf
                  obtain ⟨h18254, hx18253⟩ := getS hx18253
                  refine RW.seg hT 14 [.int .u8 x18241, undef, undef] [(71, .int .u32 x18250)] [.slice (some ⟨b18244, 0, none⟩) n18063 c18064, .int .i64 x18082, .int .i64 x18201, .int .i64 (IntKind.i64.wrap (x18082 + x18201)), .pointer (some ⟨b18244, 0 + (IntKind.i64.wrap (x18082 + x18201)).toNat * 1, none⟩), .int .u8 x18241, .int .u32 p2, .int .i64 x18201, .int .i64 (IntKind.i64.wrap (8 * x18201)), .int .u64 (IntKind.u64.wrap (IntKind.i64.wrap (8 * x18201))), .int .u32 x18250, .int .u8 (IntKind.u8.wrap x18250), .int .u8 (xorI .u8 x18241 (IntKind.u8.wrap x18250)), .pointer (some ⟨b18244, 0 + (IntKind.i64.wrap (x18082 + x18201)).toNat * 1, none⟩)] [.idx (IntKind.i64.wrap (x18082 + x18201)) n18063, .cell ⟨b18244, 0 + (IntKind.i64.wrap (x18082 + x18201)).toNat * 1, none⟩ (.int .u8 x18241), .both (.nn (IntKind.u64.wrap (IntKind.i64.wrap (8 * x18201)))) (.veq (.int .u32 (shrI .u32 p2 (IntKind.u64.wrap (IntKind.i64.wrap (8 * x18201))))) (.int .u32 x18250)), .idx (IntKind.i64.wrap (x18082 + x18201)) n18063] (by kernel_rfl) (⟨(by rw [hn18204]; exact h18243), ha18248 0 _ rfl, ⟨h18249, int_v (someS hx18251)⟩, (by rw [hn18204]; exact h18254)⟩) ?_
                  obtain ⟨y18259, hy18260, hf⟩ := bindS hf
                  obtain ⟨h18261, hq18262⟩ := setS hy18260
                  obtain ⟨cl18263, hcl18264⟩ : ∃ q, setL cl18203 (0 + (IntKind.i64.wrap (x18082 + x18201)).toNat * 1) [.int .u8 (xorI .u8 x18241 (IntKind.u8.wrap x18250))] = q := ⟨_, rfl⟩
                  have rp18265 : RepL (Rp.int .u8) I18207 w18206 cl18263 y18259 := by rw [hq18262, ← hcl18264, Nat.zero_add]; exact RepL.set rp18205 (by omega) (rfl)
                  have hn18266 : n18063 = y18259.length := by rw [hq18262, List.length_set]; exact hn18204
                  refine RW.op (by kernel_rfl) (OK.storeSl hT (i := 0) (b := b18244) (off := 0 + (IntKind.i64.wrap (x18082 + x18201)).toNat * 1) (m := 1) (vs := [.int .u8 (xorI .u8 x18241 (IntKind.u8.wrap x18250))]) (c := c18064) (e := 49) (size := 1) (n := n18063) (cl := cl18203) (cl' := cl18263) s (by kernel_rfl) rfl rfl (flat_ok rfl) (by have h1 := RepL.length rp18205; simp only [List.length_cons, List.length_nil, h1]; exact row_bd (n := 1) h18261 rfl) hcl18264 ?_)
                  rintro w18257 s k18258
                  replace e17800 := e17800.st k18258
                  replace rp18265 := rp18265.st k18258
                  replace eg0 := eg0.st k18258
                  replace kk := kk.trans k18258
                  refine RW.nil ?_
                  refine WPK.region ?_
                  refine RW.seg hT 2 [] [] [.int .i64 (IntKind.i64.wrap (x18201 + 1)), .int .i64 (IntKind.i64.wrap (x18201 + 1))] [] (by kernel_rfl) (trivial) ?_
                  refine RW.nil ?_
                  subst hrec18238
                  exact ⟨n18237, Nat.le_refl _, fun X h => kc (by kernel_rfl) rfl (h I18207 (IntKind.i64.wrap (x18201 + 1)) y18259 [(D18200.getD 0 undef), (D18200.getD 1 undef), (D18200.getD 2 undef), (D18200.getD 3 undef), (D18200.getD 4 undef), .int .i64 x18201, (D18200.getD 6 undef), (D18200.getD 7 undef), (D18200.getD 8 undef), (D18200.getD 9 undef), (D18200.getD 10 undef), (D18200.getD 11 undef), (D18200.getD 12 undef), (D18200.getD 13 undef), (D18200.getD 14 undef), (D18200.getD 15 undef), (D18200.getD 16 undef), (D18200.getD 17 undef), (D18200.getD 18 undef), (D18200.getD 19 undef), (D18200.getD 20 undef), (D18200.getD 21 undef), (D18200.getD 22 undef), (D18200.getD 23 undef), (D18200.getD 24 undef), (D18200.getD 25 undef), (D18200.getD 26 undef), (D18200.getD 27 undef), (D18200.getD 28 undef), (D18200.getD 29 undef), (D18200.getD 30 undef), (D18200.getD 31 undef), (D18200.getD 32 undef), (D18200.getD 33 undef), (D18200.getD 34 undef), (D18200.getD 35 undef), (D18200.getD 36 undef), (D18200.getD 37 undef), (D18200.getD 38 undef), (D18200.getD 39 undef), (D18200.getD 40 undef), (D18200.getD 41 undef), (D18200.getD 42 undef), (D18200.getD 43 undef), (D18200.getD 44 undef), (D18200.getD 45 undef), (D18200.getD 46 undef), (D18200.getD 47 undef), (D18200.getD 48 undef), (D18200.getD 49 undef), (D18200.getD 50 undef), (D18200.getD 51 undef), .bool (decide (x18201 < 4)), .int .i64 x18201, .slice (some ⟨b18244, 0, none⟩) n18063 c18064, .int .i64 x18082, .int .i64 x18201, .int .i64 (IntKind.i64.wrap (x18082 + x18201)), (.pointer (some ⟨b18244, 0 + (IntKind.i64.wrap (x18082 + x18201)).toNat * 1, none⟩)), .int .u8 x18241, .int .u32 p2, .int .i64 x18201, .int .i64 (IntKind.i64.wrap (8 * x18201)), .int .u64 (IntKind.u64.wrap (IntKind.i64.wrap (8 * x18201))), .int .u32 x18250, .int .u8 (IntKind.u8.wrap x18250), .int .u8 (xorI .u8 x18241 (IntKind.u8.wrap x18250)), (.pointer (some ⟨b18244, 0 + (IntKind.i64.wrap (x18082 + x18201)).toNat * 1, none⟩)), .int .i64 (IntKind.i64.wrap (x18201 + 1)), (D18200.getD 69 undef), (D18200.getD 70 undef), (D18200.getD 71 undef)] cl18263 _ hf s kk e17800 hn18266 rp18265 eg0)⟩
                · have hf := iteF h18240 hf
                  refine WPK.condF (Eq.trans (b := .bool (decide (x18201 < 4))) (by kernel_rfl) (bo_f h18240)) ?_
                  refine WPK.exit (blockQ.same ?_)
                  refine WPK.seq ?_
                  refine WPK.region ?_
                  refine RW.seg hT 3 [.int .i64 p0.Page] [] [.slice A18062 n18063 c18064, .pointer (some ⟨b17802, 1, none⟩), .int .i64 p0.Page] [.cell ⟨b17802, 1, none⟩ (.int .i64 p0.Page)] (by kernel_rfl) (s.cell (i := 1) (off := 1) rfl rfl) ?_
                  have sa18267 := s
                  obtain ⟨hc18268, e18269⟩ := St.lend s (i := 0) rfl hn18204 rp18205
                  have k18270 := Kp.shut (I := I18207) (w := w18206) (p := .sl (.slice A18062 n18063 c18064) 49 1 n18063 cl18203)
                  replace s := s.shut 0 rfl
                  obtain ⟨x18271, hx18272, hf⟩ := bindS hf
                  have hc18275 := c8 (F := (.blk b17802 (.cells #[.int .i64 p0.Kind, .int .i64 p0.Page, .int .u64 p0.Epoch, .slice A17797 p0.Data.length c17798] 25 (0, 0))) :: F) x18202 p0.Page A18062 c18064 hc18268 e18269 (eg0.st k18270) s hx18272
                  rw [← hn18204] at hc18275
                  refine RW.op (by kernel_rfl) (OK.call' en8 (by kernel_rfl) (hc18275) ?_)
                  intro X18276 hX18277
                  refine fun _ _ hJ => hJ X18276 ?_
                  intro I18278 A18279 c18280 w18273 s k18274 hc18281 e18282
                  refine hX18277 _ _ ?_
                  have s' := St.back sa18267 (i := 0) rfl s k18274
                  replace k18274 := Kp.back sa18267 (i := 0) rfl k18274
                  replace s := s'; clear s'
                  obtain ⟨I18284, s, k18274⟩ : ∃ I : Nat → Prop, St w0 M I ((.sl (.slice A18062 n18063 c18064) 49 1 n18063 cl18203) :: (.blk b17802 (.cells #[.int .i64 p0.Kind, .int .i64 p0.Page, .int .u64 p0.Epoch, .slice A17797 p0.Data.length c17798] 25 (0, 0))) :: F) w18273 ∧ Kp _ _ I _ := ⟨_, s, k18274⟩
                  replace e17800 := e17800.st k18274
                  replace eg0 := eg0.st k18274
                  replace rp18205 := rp18205.st k18274
                  replace kk := kk.trans k18274
                  refine RW.seg hT 4 [] [] [.tuple #[.agg #[.int .i64 x18271.1.Kind, .int .i64 x18271.1.Page, .int .u64 x18271.1.Epoch, (.slice A18279 x18271.1.Data.length c18280)], .int .i64 x18271.2], .agg #[.int .i64 x18271.1.Kind, .int .i64 x18271.1.Page, .int .u64 x18271.1.Epoch, (.slice A18279 x18271.1.Data.length c18280)], .int .i64 x18271.2, .int .i64 x18271.2] [] (by kernel_rfl) (trivial) ?_
                  refine RW.nil ?_
                  refine WPK.seq ?_
                  refine WPK.region ?_
                  refine RW.seg hT 3 [] [(84, .bool (decide (x18271.2 = 40)))] [.int .i64 x18271.2, .bool (decide (x18271.2 = 40)), .bool (decide (x18271.2 = 40))] [.veq (.bool (x18271.2 == 40)) (.bool (decide (x18271.2 = 40)))] (by kernel_rfl) (eq_v) ?_
                  refine RW.nil ?_
                  refine WPK.ret (?_)
                  obtain rfl := someS hf
                  refine Fin.of (rs := [.tmp 6]) hT [] (.bool (decide (x18271.2 = 40))) [] rfl (by kernel_rfl) (trivial) ?_
                  replace s := s.pick [] 2 rfl
                  exact fun X h => vc rfl (h I18284 _ s kk)
              · refine WPK.seq ?_
                refine WPK.region ?_
                refine RW.seg hT 3 [] [(52, .bool (decide ((Int.tmod p1 2) = 1)))] [.int .u16 p1, .int .u16 (Int.tmod p1 2), .bool (decide ((Int.tmod p1 2) = 1))] [.ne0 2, .veq (.bool ((Int.tmod p1 2) == 1)) (.bool (decide ((Int.tmod p1 2) = 1)))] (by kernel_rfl) (⟨(show (2 : Int) ≠ 0 by decide), eq_v⟩) ?_
                refine RW.nil ?_
                by_cases h18289 : (Int.tmod p1 2) = 1
                · have hf := iteT h18289 hf
                  refine WPK.condT (Eq.trans (b := .bool (decide ((Int.tmod p1 2) = 1))) (by kernel_rfl) (bo_t h18289)) ?_
                  refine WPK.region ?_
                  obtain ⟨x18290, hx18291, hf⟩ := bindS hf
                  refine RW.seg hT 6 [undef] [(56, .int .i64 x18290)] [.int .u16 p1, .int .u16 (IntKind.u16.wrap (Int.tdiv p1 2)), .int .i64 (IntKind.i64.wrap (IntKind.u16.wrap (Int.tdiv p1 2))), .int .i64 x18290, .int .i64 (IntKind.i64.wrap (4 + x18290)), .int .i64 (IntKind.i64.wrap (4 + x18290))] [.ne0 2, .both (.ne0 249) (.veq (.int .i64 (Int.tmod (IntKind.i64.wrap (IntKind.u16.wrap (Int.tdiv p1 2))) 249)) (.int .i64 x18290))] (by kernel_rfl) (⟨(show (2 : Int) ≠ 0 by decide), ⟨(show (249 : Int) ≠ 0 by decide), int_v (someS hx18291)⟩⟩) ?_
                  refine RW.nil ?_
                  exact fun X h => kc (by kernel_rfl) rfl (h (IntKind.i64.wrap (4 + x18290)) [(D18073.getD 0 undef), .int .u16 p1, (D18073.getD 1 undef), (D18073.getD 2 undef), (D18073.getD 3 undef), (D18073.getD 4 undef), (D18073.getD 5 undef), (D18073.getD 6 undef), (D18073.getD 7 undef), (D18073.getD 8 undef), (D18073.getD 9 undef), (D18073.getD 10 undef), (D18073.getD 11 undef), (D18073.getD 12 undef), (D18073.getD 13 undef), (D18073.getD 14 undef), (D18073.getD 15 undef), (D18073.getD 16 undef), (D18073.getD 17 undef), (D18073.getD 18 undef), (D18073.getD 19 undef), (D18073.getD 20 undef), (D18073.getD 21 undef), (D18073.getD 22 undef), (D18073.getD 23 undef), (D18073.getD 24 undef), (D18073.getD 25 undef), (D18073.getD 26 undef), (D18073.getD 27 undef), (D18073.getD 28 undef), (D18073.getD 29 undef), (D18073.getD 30 undef), (D18073.getD 31 undef), (D18073.getD 32 undef), (D18073.getD 33 undef), (D18073.getD 34 undef), (D18073.getD 35 undef), (D18073.getD 36 undef), (D18073.getD 37 undef), .bool x18074, .slice A18062 n18063 c18064, .int .i64 (x18055.1.length : Int), .bool (decide ((x18055.1.length : Int) ≠ 256)), .int .u16 p1, .int .u16 (Int.tmod p1 2), .bool (decide ((Int.tmod p1 2) = 1)), .int .u16 p1, .int .u16 (IntKind.u16.wrap (Int.tdiv p1 2)), .int .i64 (IntKind.i64.wrap (IntKind.u16.wrap (Int.tdiv p1 2))), .int .i64 x18290, .int .i64 (IntKind.i64.wrap (4 + x18290)), (D18073.getD 39 undef), (D18073.getD 40 undef), (D18073.getD 41 undef)] hf)
                · have hf := iteF h18289 hf
                  refine WPK.condF (Eq.trans (b := .bool (decide ((Int.tmod p1 2) = 1))) (by kernel_rfl) (bo_f h18289)) ?_
                  refine WPK.skip ?_
                  exact fun X h => kc (by kernel_rfl) rfl (h 0 [(D18073.getD 0 undef), .int .u16 p1, (D18073.getD 1 undef), (D18073.getD 2 undef), (D18073.getD 3 undef), (D18073.getD 4 undef), (D18073.getD 5 undef), (D18073.getD 6 undef), (D18073.getD 7 undef), (D18073.getD 8 undef), (D18073.getD 9 undef), (D18073.getD 10 undef), (D18073.getD 11 undef), (D18073.getD 12 undef), (D18073.getD 13 undef), (D18073.getD 14 undef), (D18073.getD 15 undef), (D18073.getD 16 undef), (D18073.getD 17 undef), (D18073.getD 18 undef), (D18073.getD 19 undef), (D18073.getD 20 undef), (D18073.getD 21 undef), (D18073.getD 22 undef), (D18073.getD 23 undef), (D18073.getD 24 undef), (D18073.getD 25 undef), (D18073.getD 26 undef), (D18073.getD 27 undef), (D18073.getD 28 undef), (D18073.getD 29 undef), (D18073.getD 30 undef), (D18073.getD 31 undef), (D18073.getD 32 undef), (D18073.getD 33 undef), (D18073.getD 34 undef), (D18073.getD 35 undef), (D18073.getD 36 undef), (D18073.getD 37 undef), .bool x18074, .slice A18062 n18063 c18064, .int .i64 (x18055.1.length : Int), .bool (decide ((x18055.1.length : Int) ≠ 256)), .int .u16 p1, .int .u16 (Int.tmod p1 2), .bool (decide ((Int.tmod p1 2) = 1)), undef, undef, undef, undef, undef, (D18073.getD 39 undef), (D18073.getD 40 undef), (D18073.getD 41 undef)] hf)
        · refine WPK.region ?_
          refine RW.seg hT 2 [] [(42, .bool (decide (x18055.2 ≠ 0)))] [.int .i64 x18055.2, .bool (decide (x18055.2 ≠ 0))] [.veq (.bool (x18055.2 != 0)) (.bool (decide (x18055.2 ≠ 0)))] (by kernel_rfl) (ne_v) ?_
          by_cases h18294 : x18055.2 ≠ 0
          · have hf := iteT h18294 hf
            refine RW.seg hT 4 [] [(43, .bool true)] [.bool true, undef, undef, .bool true] [.veq (.bool (decide (x18055.2 ≠ 0))) (.bool true)] (by kernel_rfl) (bo_t h18294) ?_
            refine RW.nil ?_
            exact fun X h => kc (by kernel_rfl) rfl (h true [(D18028.getD 0 undef), (D18028.getD 1 undef), (D18028.getD 2 undef), (D18028.getD 3 undef), (D18028.getD 4 undef), (D18028.getD 5 undef), (D18028.getD 6 undef), (D18028.getD 7 undef), (D18028.getD 8 undef), (D18028.getD 9 undef), (D18028.getD 10 undef), (D18028.getD 11 undef), (D18028.getD 12 undef), (D18028.getD 13 undef), (D18028.getD 14 undef), (D18028.getD 15 undef), (D18028.getD 16 undef), (D18028.getD 17 undef), (D18028.getD 18 undef), (D18028.getD 19 undef), (D18028.getD 20 undef), (D18028.getD 21 undef), .bool x18029, undef, undef, undef, undef, undef, .tuple #[.slice A18062 n18063 c18064, .int .i64 x18055.2], .agg #[.int .i64 p0.Kind, .int .i64 p0.Page, .int .u64 p0.Epoch, .slice A17797 p0.Data.length c17798], .tuple #[.slice A18062 n18063 c18064, .int .i64 x18055.2], .slice A18062 n18063 c18064, .int .i64 x18055.2, .int .i64 x18055.2, .bool (decide (x18055.2 ≠ 0)), .bool true, undef, undef, (D18028.getD 23 undef), (D18028.getD 24 undef), (D18028.getD 25 undef), (D18028.getD 26 undef)] hf)
          · have hf := iteF h18294 hf
            refine RW.seg hT 4 [] [(43, .bool false), (45, .bool (decide (p2 = 0)))] [.bool false, .int .u32 p2, .bool (decide (p2 = 0)), .bool (decide (p2 = 0))] [.veq (.bool (decide (x18055.2 ≠ 0))) (.bool false), .veq (.bool (p2 == 0)) (.bool (decide (p2 = 0)))] (by kernel_rfl) (⟨bo_f h18294, eq_v⟩) ?_
            refine RW.nil ?_
            exact fun X h => kc (by kernel_rfl) rfl (h (decide (p2 = 0)) [(D18028.getD 0 undef), (D18028.getD 1 undef), (D18028.getD 2 undef), (D18028.getD 3 undef), (D18028.getD 4 undef), (D18028.getD 5 undef), (D18028.getD 6 undef), (D18028.getD 7 undef), (D18028.getD 8 undef), (D18028.getD 9 undef), (D18028.getD 10 undef), (D18028.getD 11 undef), (D18028.getD 12 undef), (D18028.getD 13 undef), (D18028.getD 14 undef), (D18028.getD 15 undef), (D18028.getD 16 undef), (D18028.getD 17 undef), (D18028.getD 18 undef), (D18028.getD 19 undef), (D18028.getD 20 undef), (D18028.getD 21 undef), .bool x18029, undef, undef, undef, undef, undef, .tuple #[.slice A18062 n18063 c18064, .int .i64 x18055.2], .agg #[.int .i64 p0.Kind, .int .i64 p0.Page, .int .u64 p0.Epoch, .slice A17797 p0.Data.length c17798], .tuple #[.slice A18062 n18063 c18064, .int .i64 x18055.2], .slice A18062 n18063 c18064, .int .i64 x18055.2, .int .i64 x18055.2, .bool (decide (x18055.2 ≠ 0)), .bool false, .int .u32 p2, .bool (decide (p2 = 0)), (D18028.getD 23 undef), (D18028.getD 24 undef), (D18028.getD 25 undef), (D18028.getD 26 undef)] hf)
    · refine WPK.region ?_
      obtain ⟨x18297, hx18298, hf⟩ := bindS hf
      refine RW.op (by kernel_rfl) (OK.call' en9 (by kernel_rfl) (c9 (F := (.blk b17802 (.cells #[.int .i64 p0.Kind, .int .i64 p0.Page, .int .u64 p0.Epoch, .slice A17797 p0.Data.length c17798] 25 (0, 0))) :: F) eg0 s hx18298) ?_)
      intro X18301 hX18302
      refine fun _ _ hJ => hJ X18301 ?_
      intro I18303 w18299 s k18300
      refine hX18302 _ _ ?_
      replace e17800 := e17800.st k18300
      replace eg0 := eg0.st k18300
      replace kk := kk.trans k18300
      refine RW.seg hT 1 [] [(20, .bool (decide (¬ (x18297 = true))))] [.bool (decide (¬ (x18297 = true)))] [.veq (.bool (!x18297)) (.bool (decide (¬ (x18297 = true))))] (by kernel_rfl) (not_b) ?_
      by_cases h18304 : ¬ (x18297 = true)
      · have hf := iteT h18304 hf
        refine RW.seg hT 10 [] [(21, .bool true)] [.bool true, undef, undef, .bool true, .bool true, undef, undef, undef, undef, .bool true] [.veq (.bool (decide (¬ (x18297 = true)))) (.bool true)] (by kernel_rfl) (bo_t h18304) ?_
        refine RW.nil ?_
        exact fun X h => kc (by kernel_rfl) rfl (h I18303 true [(D17894.getD 0 undef), (D17894.getD 1 undef), (D17894.getD 2 undef), (D17894.getD 3 undef), (D17894.getD 4 undef), (D17894.getD 5 undef), (D17894.getD 6 undef), (D17894.getD 7 undef), (D17894.getD 8 undef), (D17894.getD 9 undef), (D17894.getD 10 undef), .bool x18297, .bool (decide (¬ (x18297 = true))), .bool true, undef, undef, .bool true, .bool true, undef, undef, undef, undef, (D17894.getD 12 undef), (D17894.getD 13 undef), (D17894.getD 14 undef), (D17894.getD 15 undef), (D17894.getD 16 undef)] _ hf s kk e17800 eg0)
      · have hf := iteF h18304 hf
        refine RW.seg hT 4 [] [(21, .bool false), (23, .bool (decide (x17895 ≠ 40)))] [.bool false, .int .i64 x17895, .bool (decide (x17895 ≠ 40)), .bool (decide (x17895 ≠ 40))] [.veq (.bool (decide (¬ (x18297 = true)))) (.bool false), .veq (.bool (x17895 != 40)) (.bool (decide (x17895 ≠ 40)))] (by kernel_rfl) (⟨bo_f h18304, ne_v⟩) ?_
        by_cases h18305 : x17895 ≠ 40
        · have hf := iteT h18305 hf
          refine RW.seg hT 6 [] [(25, .bool true)] [.bool true, undef, undef, undef, undef, .bool true] [.veq (.bool (decide (x17895 ≠ 40))) (.bool true)] (by kernel_rfl) (bo_t h18305) ?_
          refine RW.nil ?_
          exact fun X h => kc (by kernel_rfl) rfl (h I18303 true [(D17894.getD 0 undef), (D17894.getD 1 undef), (D17894.getD 2 undef), (D17894.getD 3 undef), (D17894.getD 4 undef), (D17894.getD 5 undef), (D17894.getD 6 undef), (D17894.getD 7 undef), (D17894.getD 8 undef), (D17894.getD 9 undef), (D17894.getD 10 undef), .bool x18297, .bool (decide (¬ (x18297 = true))), .bool false, .int .i64 x17895, .bool (decide (x17895 ≠ 40)), .bool (decide (x17895 ≠ 40)), .bool true, undef, undef, undef, undef, (D17894.getD 12 undef), (D17894.getD 13 undef), (D17894.getD 14 undef), (D17894.getD 15 undef), (D17894.getD 16 undef)] _ hf s kk e17800 eg0)
        · have hf := iteF h18305 hf
          refine RW.seg hT 2 [.agg #[.int .i64 p0.Kind, .int .i64 p0.Page, .int .u64 p0.Epoch, .slice A17797 p0.Data.length c17798]] [(25, .bool false)] [.bool false, .agg #[.int .i64 p0.Kind, .int .i64 p0.Page, .int .u64 p0.Epoch, .slice A17797 p0.Data.length c17798]] [.veq (.bool (decide (x17895 ≠ 40))) (.bool false), .cells ⟨b17802, 0, none⟩ [.int .i64 p0.Kind, .int .i64 p0.Page, .int .u64 p0.Epoch, .slice A17797 p0.Data.length c17798] 4] (by kernel_rfl) (⟨bo_f h18305, s.cells (i := 0) rfl rfl rfl⟩) ?_
          refine RW.op (by kernel_rfl) (OK.new hT (f := fun b => .slice (some ⟨b, 0, none⟩) 1 1) (cs := [.int .i64 p0.Kind, .int .i64 p0.Page, .int .u64 p0.Epoch, .slice A17797 p0.Data.length c17798]) (e := 25) (c := .tt) s (by kernel_rfl) trivial ?_)
          rintro w18306 b18307 s k18308 -
          replace e17800 := e17800.st k18308
          replace eg0 := eg0.st k18308
          replace kk := kk.trans k18308
          have rp18309 : RepL rp_T_api_Frame I18303 w18306 [.int .i64 p0.Kind, .int .i64 p0.Page, .int .u64 p0.Epoch, .slice A17797 p0.Data.length c17798] ([p0] : List T_api_Frame) := RepL.cons (c := [.int .i64 p0.Kind, .int .i64 p0.Page, .int .u64 p0.Epoch, .slice A17797 p0.Data.length c17798]) (d := []) (⟨[.int .i64 p0.Kind], [.int .i64 p0.Page, .int .u64 p0.Epoch, .slice A17797 p0.Data.length c17798], rfl, rfl, ⟨[.int .i64 p0.Page], [.int .u64 p0.Epoch, .slice A17797 p0.Data.length c17798], rfl, rfl, ⟨[.int .u64 p0.Epoch], [.slice A17797 p0.Data.length c17798], rfl, rfl, ⟨_, _, rfl, hc17799.1, hc17799.2, e17800⟩⟩⟩⟩) (RepL.nil)
          replace s : St w0 M I18303 ((.sl (.slice (some ⟨b18307, 0, none⟩) 1 1) 25 4 1 [.int .i64 p0.Kind, .int .i64 p0.Page, .int .u64 p0.Epoch, .slice A17797 p0.Data.length c17798]) :: (.blk b17802 (.cells #[.int .i64 p0.Kind, .int .i64 p0.Page, .int .u64 p0.Epoch, .slice A17797 p0.Data.length c17798] 25 (0, 0))) :: F) w18306 := s.blkSl (i := 0) (n := 1) (c := 1) (size := 4) rfl rfl (Nat.le_refl _) (by decide)
          have sa18311 := s
          obtain ⟨hc18312, e18313⟩ := St.lend s (i := 0) rfl rfl rp18309
          have k18314 := Kp.shut (I := I18303) (w := w18306) (p := .sl (.slice (some ⟨b18307, 0, none⟩) 1 1) 25 4 1 [.int .i64 p0.Kind, .int .i64 p0.Page, .int .u64 p0.Epoch, .slice A17797 p0.Data.length c17798])
          replace s := s.shut 0 rfl
          obtain ⟨x18315, hx18316, hf⟩ := bindS hf
          refine RW.op (by kernel_rfl) (OK.call' en10 (by kernel_rfl) (c10 (F := (.blk b17802 (.cells #[.int .i64 p0.Kind, .int .i64 p0.Page, .int .u64 p0.Epoch, .slice A17797 p0.Data.length c17798] 25 (0, 0))) :: F) ([p0] : List T_api_Frame) (some ⟨b18307, 0, none⟩) 1 hc18312 e18313 s hx18316) ?_)
          intro X18319 hX18320
          refine fun _ _ hJ => hJ X18319 ?_
          intro I18321 w18317 s k18318
          refine hX18320 _ _ ?_
          have s' := St.back sa18311 (i := 0) rfl s k18318
          replace k18318 := Kp.back sa18311 (i := 0) rfl k18318
          replace s := s'; clear s'
          obtain ⟨I18323, s, k18318⟩ : ∃ I : Nat → Prop, St w0 M I ((.sl (.slice (some ⟨b18307, 0, none⟩) 1 1) 25 4 1 [.int .i64 p0.Kind, .int .i64 p0.Page, .int .u64 p0.Epoch, .slice A17797 p0.Data.length c17798]) :: (.blk b17802 (.cells #[.int .i64 p0.Kind, .int .i64 p0.Page, .int .u64 p0.Epoch, .slice A17797 p0.Data.length c17798] 25 (0, 0))) :: F) w18317 ∧ Kp _ _ I _ := ⟨_, s, k18318⟩
          replace e17800 := e17800.st k18318
          replace eg0 := eg0.st k18318
          replace rp18309 := rp18309.st k18318
          replace kk := kk.trans k18318
          refine RW.seg hT 2 [] [(29, .bool (decide (¬ (x18315 = true))))] [.bool (decide (¬ (x18315 = true))), .bool (decide (¬ (x18315 = true)))] [.veq (.bool (!x18315)) (.bool (decide (¬ (x18315 = true))))] (by kernel_rfl) (not_b) ?_
          refine RW.nil ?_
          replace s := s.pick [1] 2 rfl
          exact fun X h => kc (by kernel_rfl) rfl (h I18323 (decide (¬ (x18315 = true))) [(D17894.getD 0 undef), (D17894.getD 1 undef), (D17894.getD 2 undef), (D17894.getD 3 undef), (D17894.getD 4 undef), (D17894.getD 5 undef), (D17894.getD 6 undef), (D17894.getD 7 undef), (D17894.getD 8 undef), (D17894.getD 9 undef), (D17894.getD 10 undef), .bool x18297, .bool (decide (¬ (x18297 = true))), .bool false, .int .i64 x17895, .bool (decide (x17895 ≠ 40)), .bool (decide (x17895 ≠ 40)), .bool false, .agg #[.int .i64 p0.Kind, .int .i64 p0.Page, .int .u64 p0.Epoch, .slice A17797 p0.Data.length c17798], .slice (some ⟨b18307, 0, none⟩) 1 1, .bool x18315, .bool (decide (¬ (x18315 = true))), (D17894.getD 12 undef), (D17894.getD 13 undef), (D17894.getD 14 undef), (D17894.getD 15 undef), (D17894.getD 16 undef)] _ hf s kk e17800 eg0)
  · have e17800S18326 := e17800
    have eg0S18326 := eg0
    have kS18330 : Kp I w17801 I w17801 := Kp.refl
    refine WPK.draw (fun w' => ∃ I' : Nat → Prop, St w0 M I' ((.blk b17802 (.cells #[.int .i64 p0.Kind, .int .i64 p0.Page, .int .u64 p0.Epoch, .slice A17797 p0.Data.length c17798] 25 (0, 0))) :: F) w' ∧ Kp I w17801 I' w') 10 (by kernel_rfl) ?_
    intro w18327 hd18328
    have k18329 := Kp.dr s hd18328
    replace s := s.dr hd18328
    replace e17800 := e17800.st k18329
    replace eg0 := eg0.st k18329
    replace kk := kk.trans k18329
    replace kS18330 := kS18330.trans k18329
    refine RD.seg hT (by kernel_rfl) [1, 2] [.int .i64 p0.Page] [] [.pointer (some ⟨b17802, 1, none⟩), .int .i64 p0.Page] [.cell ⟨b17802, 1, none⟩ (.int .i64 p0.Page)] (by kernel_rfl) (by rintro w' ⟨I', s, k⟩; have e17800 := e17800S18326.st k; have eg0 := eg0S18326.st k; exact s.cell (i := 0) (off := 1) rfl rfl) ⟨_, s.pick [0] 1 rfl, kS18330⟩ ?_
    obtain ⟨x18331, hx18332, hf⟩ := bindS hf
    refine RD.ways [0, 7] (by kernel_rfl) (List.forall_mem_cons.2 ⟨?_, List.forall_mem_cons.2 ⟨?_, fun _ h => nomatch h⟩⟩)
    · refine RWay.op rfl (by kernel_rfl) (OK.make hT (r := (Rp.int .u8)) (n := 256) (z := .int .u8 0) (x := 0) (e := 5) (bytes := 1) s (by kernel_rfl) hx18332 (fun _ _ => rfl) ?_)
      rintro w18333 b18334 cl18335 s k18336 rp18337
      replace e17800 := e17800.st k18336
      replace eg0 := eg0.st k18336
      replace kk := kk.trans k18336
      replace kS18330 := kS18330.trans k18336
      refine ⟨fun _ => ⟨_, s.pick [1] 2 rfl, kS18330⟩, RD.fold ?_⟩
      obtain ⟨x18346, hx18347, hf⟩ := bindS hf
      refine RD.ways [3, 7] (by kernel_rfl) (List.forall_mem_cons.2 ⟨?_, List.forall_mem_cons.2 ⟨?_, fun _ h => nomatch h⟩⟩)
      · have sa18359 := s
        obtain ⟨hc18360, e18361⟩ := St.lend s (i := 0) rfl rfl rp18337
        have k18362 := Kp.shut (I := I) (w := w18333) (p := .sl (.slice (some ⟨b18334, 0, none⟩) x18331.length x18331.length) 5 1 x18331.length cl18335)
        replace s := s.shut 0 rfl
        refine RWay.op rfl (by kernel_rfl) (OK.call' en8 (by kernel_rfl) (c8 (F := (.blk b17802 (.cells #[.int .i64 p0.Kind, .int .i64 p0.Page, .int .u64 p0.Epoch, .slice A17797 p0.Data.length c17798] 25 (0, 0))) :: F) x18331 p0.Page (some ⟨b18334, 0, none⟩) x18331.length hc18360 e18361 (eg0.st k18362) s hx18347) ?_)
        intro X18367 hX18368
        refine fun _ _ hJ => hJ X18367 ?_
        intro I18369 A18370 c18371 w18365 s k18366 hc18372 e18373
        refine hX18368 _ _ ?_
        have s' := St.back sa18359 (i := 0) rfl s k18366
        replace k18366 := Kp.back sa18359 (i := 0) rfl k18366
        replace s := s'; clear s'
        obtain ⟨I18375, s, k18366⟩ : ∃ I : Nat → Prop, St w0 M I ((.sl (.slice (some ⟨b18334, 0, none⟩) x18331.length x18331.length) 5 1 x18331.length cl18335) :: (.blk b17802 (.cells #[.int .i64 p0.Kind, .int .i64 p0.Page, .int .u64 p0.Epoch, .slice A17797 p0.Data.length c17798] 25 (0, 0))) :: F) w18365 ∧ Kp _ _ I _ := ⟨_, s, k18366⟩
        replace e17800 := e17800.st k18366
        replace eg0 := eg0.st k18366
        replace rp18337 := rp18337.st k18366
        replace kk := kk.trans k18366
        replace kS18330 := kS18330.trans k18366
        refine ⟨fun _ => ⟨_, s.pick [1] 2 rfl, kS18330⟩, RD.fold ?_⟩
        refine RD.seg hT (by kernel_rfl) [4, 5, 6] [] [] [.tuple #[.agg #[.int .i64 x18346.1.Kind, .int .i64 x18346.1.Page, .int .u64 x18346.1.Epoch, (.slice A18370 x18346.1.Data.length c18371)], .int .i64 x18346.2], .agg #[.int .i64 x18346.1.Kind, .int .i64 x18346.1.Page, .int .u64 x18346.1.Epoch, (.slice A18370 x18346.1.Data.length c18371)], .int .i64 x18346.2] [] (by kernel_rfl) (fun _ _ => trivial) ⟨_, s.pick [1] 2 rfl, kS18330⟩ ?_
        refine RD.op (i := 7) rfl (by kernel_rfl) (by kernel_rfl) (OK.new hT (f := fun b => .pointer (some ⟨b, 0, none⟩)) (cs := [.int .i64 0, .int .i64 0, .int .u64 0, .slice none 0 0]) (e := 25) (c := .tt) s (by kernel_rfl) trivial ?_)
        rintro w18339 b18340 s k18341 -
        replace e17800 := e17800.st k18341
        replace rp18337 := rp18337.st k18341
        replace eg0 := eg0.st k18341
        replace kk := kk.trans k18341
        replace kS18330 := kS18330.trans k18341
        refine ⟨fun _ => ⟨_, s.pick [2] 3 rfl, kS18330⟩, RD.fold ?_⟩
        refine RD.op (i := 8) rfl (by kernel_rfl) (by kernel_rfl) (OK.store hT (i := 0) (b := b18340) (off := 0) (n := 4) (vs := [.int .i64 x18346.1.Kind, .int .i64 x18346.1.Page, .int .u64 x18346.1.Epoch, (.slice A18370 x18346.1.Data.length c18371)]) (cs := [.int .i64 0, .int .i64 0, .int .u64 0, .slice none 0 0]) (e := 25) s (by kernel_rfl) rfl rfl (flat_ok rfl) (Nat.le_of_ble_eq_true rfl) ?_)
        rintro w18376 s k18377 -
        replace e17800 := e17800.st k18377
        replace rp18337 := rp18337.st k18377
        replace eg0 := eg0.st k18377
        replace kk := kk.trans k18377
        replace kS18330 := kS18330.trans k18377
        refine ⟨fun _ => ⟨_, s.pick [2] 3 rfl, kS18330⟩, RD.fold ?_⟩
        refine RD.seg hT (by kernel_rfl) [9] [] [] [.int .i64 x18346.2] [] (by kernel_rfl) (fun _ _ => trivial) ⟨_, s.pick [2] 3 rfl, kS18330⟩ ?_
        refine RD.done (by kernel_rfl) ?_
        replace s := s.pick [2] 3 rfl
        exact fun X h => kc (by kernel_rfl) rfl (h I18375 x18346.2 [.agg #[.int .i64 p0.Kind, .int .i64 p0.Page, .int .u64 p0.Epoch, .slice A17797 p0.Data.length c17798], undef, undef, .pointer (some ⟨b18340, 0, none⟩), .tuple #[.agg #[.int .i64 x18346.1.Kind, .int .i64 x18346.1.Page, .int .u64 x18346.1.Epoch, (.slice A18370 x18346.1.Data.length c18371)], .int .i64 x18346.2], .slice (some ⟨b18334, 0, none⟩) x18331.length x18331.length, .pointer (some ⟨b17802, 1, none⟩), .int .i64 p0.Page, .tuple #[.agg #[.int .i64 x18346.1.Kind, .int .i64 x18346.1.Page, .int .u64 x18346.1.Epoch, (.slice A18370 x18346.1.Data.length c18371)], .int .i64 x18346.2], .agg #[.int .i64 x18346.1.Kind, .int .i64 x18346.1.Page, .int .u64 x18346.1.Epoch, (.slice A18370 x18346.1.Data.length c18371)], .int .i64 x18346.2, undef, undef, undef, undef, undef, undef] _ hf s kk e17800 eg0)
      · refine RWay.op rfl (by kernel_rfl) (OK.new hT (f := fun b => .pointer (some ⟨b, 0, none⟩)) (cs := [.int .i64 0, .int .i64 0, .int .u64 0, .slice none 0 0]) (e := 25) (c := .tt) s (by kernel_rfl) trivial ?_)
        rintro w18339 b18340 s k18341 -
        replace e17800 := e17800.st k18341
        replace rp18337 := rp18337.st k18341
        replace eg0 := eg0.st k18341
        replace kk := kk.trans k18341
        replace kS18330 := kS18330.trans k18341
        refine ⟨fun _ => ⟨_, s.pick [2] 3 rfl, kS18330⟩, RD.fold ?_⟩
        have sa18378 := s
        obtain ⟨hc18379, e18380⟩ := St.lend s (i := 1) rfl rfl rp18337
        have k18381 := Kp.shut (I := I) (w := w18339) (p := .sl (.slice (some ⟨b18334, 0, none⟩) x18331.length x18331.length) 5 1 x18331.length cl18335)
        replace s := s.shut 1 rfl
        refine RD.op (i := 3) rfl (by kernel_rfl) (by kernel_rfl) (OK.call' en8 (by kernel_rfl) (c8 (F := (.blk b18340 (.cells #[.int .i64 0, .int .i64 0, .int .u64 0, .slice none 0 0] 25 (0, 0))) :: (.blk b17802 (.cells #[.int .i64 p0.Kind, .int .i64 p0.Page, .int .u64 p0.Epoch, .slice A17797 p0.Data.length c17798] 25 (0, 0))) :: F) x18331 p0.Page (some ⟨b18334, 0, none⟩) x18331.length hc18379 e18380 (eg0.st k18381) s hx18347) ?_)
        intro X18386 hX18387
        refine fun _ _ hJ => hJ X18386 ?_
        intro I18388 A18389 c18390 w18384 s k18385 hc18391 e18392
        refine hX18387 _ _ ?_
        have s' := St.back sa18378 (i := 1) rfl s k18385
        replace k18385 := Kp.back sa18378 (i := 1) rfl k18385
        replace s := s'; clear s'
        obtain ⟨I18394, s, k18385⟩ : ∃ I : Nat → Prop, St w0 M I ((.sl (.slice (some ⟨b18334, 0, none⟩) x18331.length x18331.length) 5 1 x18331.length cl18335) :: (.blk b18340 (.cells #[.int .i64 0, .int .i64 0, .int .u64 0, .slice none 0 0] 25 (0, 0))) :: (.blk b17802 (.cells #[.int .i64 p0.Kind, .int .i64 p0.Page, .int .u64 p0.Epoch, .slice A17797 p0.Data.length c17798] 25 (0, 0))) :: F) w18384 ∧ Kp _ _ I _ := ⟨_, s, k18385⟩
        replace e17800 := e17800.st k18385
        replace eg0 := eg0.st k18385
        replace rp18337 := rp18337.st k18385
        replace kk := kk.trans k18385
        replace kS18330 := kS18330.trans k18385
        refine ⟨fun _ => ⟨_, s.pick [2] 3 rfl, kS18330⟩, RD.fold ?_⟩
        refine RD.seg hT (by kernel_rfl) [4, 5, 6] [] [] [.tuple #[.agg #[.int .i64 x18346.1.Kind, .int .i64 x18346.1.Page, .int .u64 x18346.1.Epoch, (.slice A18389 x18346.1.Data.length c18390)], .int .i64 x18346.2], .agg #[.int .i64 x18346.1.Kind, .int .i64 x18346.1.Page, .int .u64 x18346.1.Epoch, (.slice A18389 x18346.1.Data.length c18390)], .int .i64 x18346.2] [] (by kernel_rfl) (fun _ _ => trivial) ⟨_, s.pick [2] 3 rfl, kS18330⟩ ?_
        refine RD.op (i := 8) rfl (by kernel_rfl) (by kernel_rfl) (OK.store hT (i := 1) (b := b18340) (off := 0) (n := 4) (vs := [.int .i64 x18346.1.Kind, .int .i64 x18346.1.Page, .int .u64 x18346.1.Epoch, (.slice A18389 x18346.1.Data.length c18390)]) (cs := [.int .i64 0, .int .i64 0, .int .u64 0, .slice none 0 0]) (e := 25) s (by kernel_rfl) rfl rfl (flat_ok rfl) (Nat.le_of_ble_eq_true rfl) ?_)
        rintro w18395 s k18396 -
        replace e17800 := e17800.st k18396
        replace rp18337 := rp18337.st k18396
        replace eg0 := eg0.st k18396
        replace kk := kk.trans k18396
        replace kS18330 := kS18330.trans k18396
        refine ⟨fun _ => ⟨_, s.pick [2] 3 rfl, kS18330⟩, RD.fold ?_⟩
        refine RD.seg hT (by kernel_rfl) [9] [] [] [.int .i64 x18346.2] [] (by kernel_rfl) (fun _ _ => trivial) ⟨_, s.pick [2] 3 rfl, kS18330⟩ ?_
        refine RD.done (by kernel_rfl) ?_
        replace s := s.pick [2] 3 rfl
        exact fun X h => kc (by kernel_rfl) rfl (h I18394 x18346.2 [.agg #[.int .i64 p0.Kind, .int .i64 p0.Page, .int .u64 p0.Epoch, .slice A17797 p0.Data.length c17798], undef, undef, .pointer (some ⟨b18340, 0, none⟩), .tuple #[.agg #[.int .i64 x18346.1.Kind, .int .i64 x18346.1.Page, .int .u64 x18346.1.Epoch, (.slice A18389 x18346.1.Data.length c18390)], .int .i64 x18346.2], .slice (some ⟨b18334, 0, none⟩) x18331.length x18331.length, .pointer (some ⟨b17802, 1, none⟩), .int .i64 p0.Page, .tuple #[.agg #[.int .i64 x18346.1.Kind, .int .i64 x18346.1.Page, .int .u64 x18346.1.Epoch, (.slice A18389 x18346.1.Data.length c18390)], .int .i64 x18346.2], .agg #[.int .i64 x18346.1.Kind, .int .i64 x18346.1.Page, .int .u64 x18346.1.Epoch, (.slice A18389 x18346.1.Data.length c18390)], .int .i64 x18346.2, undef, undef, undef, undef, undef, undef] _ hf s kk e17800 eg0)
    · refine RWay.op rfl (by kernel_rfl) (OK.new hT (f := fun b => .pointer (some ⟨b, 0, none⟩)) (cs := [.int .i64 0, .int .i64 0, .int .u64 0, .slice none 0 0]) (e := 25) (c := .tt) s (by kernel_rfl) trivial ?_)
      rintro w18339 b18340 s k18341 -
      replace e17800 := e17800.st k18341
      replace eg0 := eg0.st k18341
      replace kk := kk.trans k18341
      replace kS18330 := kS18330.trans k18341
      refine ⟨fun _ => ⟨_, s.pick [1] 2 rfl, kS18330⟩, RD.fold ?_⟩
      refine RD.op (i := 0) rfl (by kernel_rfl) (by kernel_rfl) (OK.make hT (r := (Rp.int .u8)) (n := 256) (z := .int .u8 0) (x := 0) (e := 5) (bytes := 1) s (by kernel_rfl) hx18332 (fun _ _ => rfl) ?_)
      rintro w18333 b18334 cl18335 s k18336 rp18337
      replace e17800 := e17800.st k18336
      replace eg0 := eg0.st k18336
      replace kk := kk.trans k18336
      replace kS18330 := kS18330.trans k18336
      refine ⟨fun _ => ⟨_, s.pick [2] 3 rfl, kS18330⟩, RD.fold ?_⟩
      have sa18397 := s
      obtain ⟨hc18398, e18399⟩ := St.lend s (i := 0) rfl rfl rp18337
      have k18400 := Kp.shut (I := I) (w := w18333) (p := .sl (.slice (some ⟨b18334, 0, none⟩) x18331.length x18331.length) 5 1 x18331.length cl18335)
      replace s := s.shut 0 rfl
      obtain ⟨x18401, hx18402, hf⟩ := bindS hf
      refine RD.op (i := 3) rfl (by kernel_rfl) (by kernel_rfl) (OK.call' en8 (by kernel_rfl) (c8 (F := (.blk b18340 (.cells #[.int .i64 0, .int .i64 0, .int .u64 0, .slice none 0 0] 25 (0, 0))) :: (.blk b17802 (.cells #[.int .i64 p0.Kind, .int .i64 p0.Page, .int .u64 p0.Epoch, .slice A17797 p0.Data.length c17798] 25 (0, 0))) :: F) x18331 p0.Page (some ⟨b18334, 0, none⟩) x18331.length hc18398 e18399 (eg0.st k18400) s hx18402) ?_)
      intro X18405 hX18406
      refine fun _ _ hJ => hJ X18405 ?_
      intro I18407 A18408 c18409 w18403 s k18404 hc18410 e18411
      refine hX18406 _ _ ?_
      have s' := St.back sa18397 (i := 0) rfl s k18404
      replace k18404 := Kp.back sa18397 (i := 0) rfl k18404
      replace s := s'; clear s'
      obtain ⟨I18413, s, k18404⟩ : ∃ I : Nat → Prop, St w0 M I ((.sl (.slice (some ⟨b18334, 0, none⟩) x18331.length x18331.length) 5 1 x18331.length cl18335) :: (.blk b18340 (.cells #[.int .i64 0, .int .i64 0, .int .u64 0, .slice none 0 0] 25 (0, 0))) :: (.blk b17802 (.cells #[.int .i64 p0.Kind, .int .i64 p0.Page, .int .u64 p0.Epoch, .slice A17797 p0.Data.length c17798] 25 (0, 0))) :: F) w18403 ∧ Kp _ _ I _ := ⟨_, s, k18404⟩
      replace e17800 := e17800.st k18404
      replace eg0 := eg0.st k18404
      replace rp18337 := rp18337.st k18404
      replace kk := kk.trans k18404
      replace kS18330 := kS18330.trans k18404
      refine ⟨fun _ => ⟨_, s.pick [2] 3 rfl, kS18330⟩, RD.fold ?_⟩
      refine RD.seg hT (by kernel_rfl) [4, 5, 6] [] [] [.tuple #[.agg #[.int .i64 x18401.1.Kind, .int .i64 x18401.1.Page, .int .u64 x18401.1.Epoch, (.slice A18408 x18401.1.Data.length c18409)], .int .i64 x18401.2], .agg #[.int .i64 x18401.1.Kind, .int .i64 x18401.1.Page, .int .u64 x18401.1.Epoch, (.slice A18408 x18401.1.Data.length c18409)], .int .i64 x18401.2] [] (by kernel_rfl) (fun _ _ => trivial) ⟨_, s.pick [2] 3 rfl, kS18330⟩ ?_
      refine RD.op (i := 8) rfl (by kernel_rfl) (by kernel_rfl) (OK.store hT (i := 1) (b := b18340) (off := 0) (n := 4) (vs := [.int .i64 x18401.1.Kind, .int .i64 x18401.1.Page, .int .u64 x18401.1.Epoch, (.slice A18408 x18401.1.Data.length c18409)]) (cs := [.int .i64 0, .int .i64 0, .int .u64 0, .slice none 0 0]) (e := 25) s (by kernel_rfl) rfl rfl (flat_ok rfl) (Nat.le_of_ble_eq_true rfl) ?_)
      rintro w18414 s k18415 -
      replace e17800 := e17800.st k18415
      replace rp18337 := rp18337.st k18415
      replace eg0 := eg0.st k18415
      replace kk := kk.trans k18415
      replace kS18330 := kS18330.trans k18415
      refine ⟨fun _ => ⟨_, s.pick [2] 3 rfl, kS18330⟩, RD.fold ?_⟩
      refine RD.seg hT (by kernel_rfl) [9] [] [] [.int .i64 x18401.2] [] (by kernel_rfl) (fun _ _ => trivial) ⟨_, s.pick [2] 3 rfl, kS18330⟩ ?_
      refine RD.done (by kernel_rfl) ?_
      replace s := s.pick [2] 3 rfl
      exact fun X h => kc (by kernel_rfl) rfl (h I18413 x18401.2 [.agg #[.int .i64 p0.Kind, .int .i64 p0.Page, .int .u64 p0.Epoch, .slice A17797 p0.Data.length c17798], undef, undef, .pointer (some ⟨b18340, 0, none⟩), .tuple #[.agg #[.int .i64 x18401.1.Kind, .int .i64 x18401.1.Page, .int .u64 x18401.1.Epoch, (.slice A18408 x18401.1.Data.length c18409)], .int .i64 x18401.2], .slice (some ⟨b18334, 0, none⟩) x18331.length x18331.length, .pointer (some ⟨b17802, 1, none⟩), .int .i64 p0.Page, .tuple #[.agg #[.int .i64 x18401.1.Kind, .int .i64 x18401.1.Page, .int .u64 x18401.1.Epoch, (.slice A18408 x18401.1.Data.length c18409)], .int .i64 x18401.2], .agg #[.int .i64 x18401.1.Kind, .int .i64 x18401.1.Page, .int .u64 x18401.1.Epoch, (.slice A18408 x18401.1.Data.length c18409)], .int .i64 x18401.2, undef, undef, undef, undef, undef, undef] _ hf s kk e17800 eg0)
theorem c12 {w0 w : World} {M I : Nat → Prop} {F : List It} (p0 : T_api_Frame) (p1 : T_api_Frame) (A20479 : Option Addr) (c20480 : Nat) (A20483 : Option Addr) (c20484 : Nat) (hc20481 : (p0.Data.length ≤ c20480 ∧ c20480 ≤ 9223372036854775807)) (e20482 : Elems (Rp.int .u8) I w A20479 p0.Data) (hc20485 : (p1.Data.length ≤ c20484 ∧ c20484 ≤ 9223372036854775807)) (e20486 : Elems (Rp.int .u8) I w A20483 p1.Data) (s : St w0 M I (F) w) {r : Bool} (hf : g12 p0 p1 = some r) :
    Ret Tryd.prog 12 [.agg #[.int .i64 p0.Kind, .int .i64 p0.Page, .int .u64 p0.Epoch, .slice A20479 p0.Data.length c20480], .agg #[.int .i64 p1.Kind, .int .i64 p1.Page, .int .u64 p1.Epoch, .slice A20483 p1.Data.length c20484]] w fun v wz => ∀ X : Value → World → Prop, (∀ (I' : Nat → Prop) (w' : World), St w0 M I' (F) w' → Kp I w I' w' → X (.bool r) w') → X v wz := by
  have kk : Kp I w I w := Kp.refl
  unfold g12 at hf
  refine Ret.of Tryd.func12 rfl ?_
  refine WPK.seq ?_
  refine WPK.region ?_
  refine RW.op (by kernel_rfl) (OK.new hT (f := fun b => .pointer (some ⟨b, 0, none⟩)) (cs := [.int .i64 p0.Kind, .int .i64 p0.Page, .int .u64 p0.Epoch, .slice A20479 p0.Data.length c20480]) (e := 25) (c := .tt) s (by kernel_rfl) trivial ?_)
  rintro w20487 b20488 s k20489 -
  replace e20482 := e20482.st k20489
  replace e20486 := e20486.st k20489
  replace kk := kk.trans k20489
  refine RW.op (by kernel_rfl) (OK.new hT (f := fun b => .pointer (some ⟨b, 0, none⟩)) (cs := [.int .i64 p1.Kind, .int .i64 p1.Page, .int .u64 p1.Epoch, .slice A20483 p1.Data.length c20484]) (e := 25) (c := .tt) s (by kernel_rfl) trivial ?_)
  rintro w20490 b20491 s k20492 -
  replace e20482 := e20482.st k20492
  replace e20486 := e20486.st k20492
  replace kk := kk.trans k20492
  refine RW.seg hT 1 [] [] [.bool false] [] (by kernel_rfl) (trivial) ?_
  refine RW.nil ?_
  refine WPK.seq ?_
  refine WPK.cut' (Kn fun E ds wz => ∀ X : Kont, (∀ (I20506 : Nat → Prop) (x20504 : Bool) (D20503 : List Value) (w' : World), g12_j1 x20504 = some r → St w0 M I20506 (F) w' → Kp I w I20506 w' → X [(D20503.getD 0 undef), (D20503.getD 1 undef), (D20503.getD 2 undef), (D20503.getD 3 undef), .bool x20504, (D20503.getD 4 undef), (D20503.getD 5 undef), (D20503.getD 6 undef), (D20503.getD 7 undef), (D20503.getD 8 undef), (D20503.getD 9 undef), (D20503.getD 10 undef), (D20503.getD 11 undef), (D20503.getD 12 undef), (D20503.getD 13 undef), (D20503.getD 14 undef), (D20503.getD 15 undef), (D20503.getD 16 undef), (D20503.getD 17 undef), (D20503.getD 18 undef), (D20503.getD 19 undef), (D20503.getD 20 undef), (D20503.getD 21 undef), (D20503.getD 22 undef), (D20503.getD 23 undef), (D20503.getD 24 undef), (D20503.getD 25 undef), (D20503.getD 26 undef), (D20503.getD 27 undef), (D20503.getD 28 undef), (D20503.getD 29 undef)] [] w') → X E ds wz) ?_ ?_
  · intro X20507 hX20508
    refine fun _ _ _ hJ => hJ X20507 ?_
    intro I20506 x20504 D20503 w20505 hf s kk
    refine hX20508 _ _ _ ?_
    unfold g12_j1 at hf
    refine WPK.ret (?_)
    obtain rfl := someS hf
    refine Fin.of (rs := [.tmp 4]) hT [] (.bool x20504) [] rfl (by kernel_rfl) (trivial) ?_
    exact fun X h => vc rfl (h I20506 _ s kk)
  · refine WPK.region ?_
    refine RW.seg hT 5 [.int .i64 p0.Kind, .int .i64 p1.Kind] [(9, .bool (decide (p0.Kind = p1.Kind)))] [.pointer (some ⟨b20488, 0, none⟩), .int .i64 p0.Kind, .pointer (some ⟨b20491, 0, none⟩), .int .i64 p1.Kind, .bool (decide (p0.Kind = p1.Kind))] [.cell ⟨b20488, 0, none⟩ (.int .i64 p0.Kind), .cell ⟨b20491, 0, none⟩ (.int .i64 p1.Kind), .veq (.bool (p0.Kind == p1.Kind)) (.bool (decide (p0.Kind = p1.Kind)))] (by kernel_rfl) (⟨s.cell (i := 1) (off := 0) rfl rfl, s.cell (i := 0) (off := 0) rfl rfl, eq_v⟩) ?_
    by_cases h20509 : p0.Kind = p1.Kind
    · have hf := iteT h20509 hf
      refine RW.seg hT 7 [.int .i64 p0.Page, .int .i64 p1.Page] [(10, .bool true), (15, .bool (decide (p0.Page = p1.Page)))] [.bool true, .pointer (some ⟨b20488, 1, none⟩), .int .i64 p0.Page, .pointer (some ⟨b20491, 1, none⟩), .int .i64 p1.Page, .bool (decide (p0.Page = p1.Page)), .bool (decide (p0.Page = p1.Page))] [.veq (.bool (decide (p0.Kind = p1.Kind))) (.bool true), .cell ⟨b20488, 1, none⟩ (.int .i64 p0.Page), .cell ⟨b20491, 1, none⟩ (.int .i64 p1.Page), .veq (.bool (p0.Page == p1.Page)) (.bool (decide (p0.Page = p1.Page)))] (by kernel_rfl) (⟨bo_t h20509, s.cell (i := 1) (off := 1) rfl rfl, s.cell (i := 0) (off := 1) rfl rfl, eq_v⟩) ?_
      by_cases h20510 : p0.Page = p1.Page
      · have hf := iteT h20510 hf
        refine RW.seg hT 7 [.int .u64 p0.Epoch, .int .u64 p1.Epoch] [(17, .bool true), (22, .bool (decide (p0.Epoch = p1.Epoch)))] [.bool true, .pointer (some ⟨b20488, 2, none⟩), .int .u64 p0.Epoch, .pointer (some ⟨b20491, 2, none⟩), .int .u64 p1.Epoch, .bool (decide (p0.Epoch = p1.Epoch)), .bool (decide (p0.Epoch = p1.Epoch))] [.veq (.bool (decide (p0.Page = p1.Page))) (.bool true), .cell ⟨b20488, 2, none⟩ (.int .u64 p0.Epoch), .cell ⟨b20491, 2, none⟩ (.int .u64 p1.Epoch), .veq (.bool (p0.Epoch == p1.Epoch)) (.bool (decide (p0.Epoch = p1.Epoch)))] (by kernel_rfl) (⟨bo_t h20510, s.cell (i := 1) (off := 2) rfl rfl, s.cell (i := 0) (off := 2) rfl rfl, eq_v⟩) ?_
        by_cases h20511 : p0.Epoch = p1.Epoch
        · have hf := iteT h20511 hf
          refine RW.seg hT 5 [.slice A20479 p0.Data.length c20480, .slice A20483 p1.Data.length c20484] [(24, .bool true)] [.bool true, .pointer (some ⟨b20488, 3, none⟩), .slice A20479 p0.Data.length c20480, .pointer (some ⟨b20491, 3, none⟩), .slice A20483 p1.Data.length c20484] [.veq (.bool (decide (p0.Epoch = p1.Epoch))) (.bool true), .cell ⟨b20488, 3, none⟩ (.slice A20479 p0.Data.length c20480), .cell ⟨b20491, 3, none⟩ (.slice A20483 p1.Data.length c20484)] (by kernel_rfl) (⟨bo_t h20511, s.cell (i := 1) (off := 3) rfl rfl, s.cell (i := 0) (off := 3) rfl rfl⟩) ?_
          obtain ⟨x20512, hx20513, hf⟩ := bindS hf
          refine RW.op (by kernel_rfl) (OK.call' en20 (by kernel_rfl) (c20 (F := (.blk b20491 (.cells #[.int .i64 p1.Kind, .int .i64 p1.Page, .int .u64 p1.Epoch, .slice A20483 p1.Data.length c20484] 25 (0, 0))) :: (.blk b20488 (.cells #[.int .i64 p0.Kind, .int .i64 p0.Page, .int .u64 p0.Epoch, .slice A20479 p0.Data.length c20480] 25 (0, 0))) :: F) p0.Data p1.Data A20479 c20480 A20483 c20484 hc20481 e20482 hc20485 e20486 s hx20513) ?_)
          intro X20516 hX20517
          refine fun _ _ hJ => hJ X20516 ?_
          intro I20518 w20514 s k20515
          refine hX20517 _ _ ?_
          replace e20482 := e20482.st k20515
          replace e20486 := e20486.st k20515
          replace kk := kk.trans k20515
          refine RW.seg hT 2 [] [] [.bool x20512, .bool x20512] [] (by kernel_rfl) (trivial) ?_
          refine RW.nil ?_
          replace s := s.pick [] 2 rfl
          exact fun X h => kc (by kernel_rfl) rfl (h I20518 x20512 [.agg #[.int .i64 p0.Kind, .int .i64 p0.Page, .int .u64 p0.Epoch, .slice A20479 p0.Data.length c20480], .agg #[.int .i64 p1.Kind, .int .i64 p1.Page, .int .u64 p1.Epoch, .slice A20483 p1.Data.length c20484], .pointer (some ⟨b20488, 0, none⟩), .pointer (some ⟨b20491, 0, none⟩), .pointer (some ⟨b20488, 0, none⟩), .int .i64 p0.Kind, .pointer (some ⟨b20491, 0, none⟩), .int .i64 p1.Kind, .bool (decide (p0.Kind = p1.Kind)), .bool true, .pointer (some ⟨b20488, 1, none⟩), .int .i64 p0.Page, .pointer (some ⟨b20491, 1, none⟩), .int .i64 p1.Page, .bool (decide (p0.Page = p1.Page)), .bool (decide (p0.Page = p1.Page)), .bool true, .pointer (some ⟨b20488, 2, none⟩), .int .u64 p0.Epoch, .pointer (some ⟨b20491, 2, none⟩), .int .u64 p1.Epoch, .bool (decide (p0.Epoch = p1.Epoch)), .bool (decide (p0.Epoch = p1.Epoch)), .bool true, .pointer (some ⟨b20488, 3, none⟩), .slice A20479 p0.Data.length c20480, .pointer (some ⟨b20491, 3, none⟩), .slice A20483 p1.Data.length c20484, .bool x20512, .bool x20512] _ hf s kk)
        · have hf := iteF h20511 hf
          refine RW.seg hT 8 [] [(24, .bool false)] [.bool false, undef, undef, undef, undef, undef, .bool false, .bool false] [.veq (.bool (decide (p0.Epoch = p1.Epoch))) (.bool false)] (by kernel_rfl) (bo_f h20511) ?_
          refine RW.nil ?_
          replace s := s.pick [] 2 rfl
          exact fun X h => kc (by kernel_rfl) rfl (h I false [.agg #[.int .i64 p0.Kind, .int .i64 p0.Page, .int .u64 p0.Epoch, .slice A20479 p0.Data.length c20480], .agg #[.int .i64 p1.Kind, .int .i64 p1.Page, .int .u64 p1.Epoch, .slice A20483 p1.Data.length c20484], .pointer (some ⟨b20488, 0, none⟩), .pointer (some ⟨b20491, 0, none⟩), .pointer (some ⟨b20488, 0, none⟩), .int .i64 p0.Kind, .pointer (some ⟨b20491, 0, none⟩), .int .i64 p1.Kind, .bool (decide (p0.Kind = p1.Kind)), .bool true, .pointer (some ⟨b20488, 1, none⟩), .int .i64 p0.Page, .pointer (some ⟨b20491, 1, none⟩), .int .i64 p1.Page, .bool (decide (p0.Page = p1.Page)), .bool (decide (p0.Page = p1.Page)), .bool true, .pointer (some ⟨b20488, 2, none⟩), .int .u64 p0.Epoch, .pointer (some ⟨b20491, 2, none⟩), .int .u64 p1.Epoch, .bool (decide (p0.Epoch = p1.Epoch)), .bool (decide (p0.Epoch = p1.Epoch)), .bool false, undef, undef, undef, undef, undef, .bool false] _ hf s kk)
      · have hf := iteF h20510 hf
        refine RW.seg hT 15 [] [(17, .bool false)] [.bool false, undef, undef, undef, undef, undef, .bool false, .bool false, undef, undef, undef, undef, undef, .bool false, .bool false] [.veq (.bool (decide (p0.Page = p1.Page))) (.bool false)] (by kernel_rfl) (bo_f h20510) ?_
        refine RW.nil ?_
        replace s := s.pick [] 2 rfl
        exact fun X h => kc (by kernel_rfl) rfl (h I false [.agg #[.int .i64 p0.Kind, .int .i64 p0.Page, .int .u64 p0.Epoch, .slice A20479 p0.Data.length c20480], .agg #[.int .i64 p1.Kind, .int .i64 p1.Page, .int .u64 p1.Epoch, .slice A20483 p1.Data.length c20484], .pointer (some ⟨b20488, 0, none⟩), .pointer (some ⟨b20491, 0, none⟩), .pointer (some ⟨b20488, 0, none⟩), .int .i64 p0.Kind, .pointer (some ⟨b20491, 0, none⟩), .int .i64 p1.Kind, .bool (decide (p0.Kind = p1.Kind)), .bool true, .pointer (some ⟨b20488, 1, none⟩), .int .i64 p0.Page, .pointer (some ⟨b20491, 1, none⟩), .int .i64 p1.Page, .bool (decide (p0.Page = p1.Page)), .bool (decide (p0.Page = p1.Page)), .bool false, undef, undef, undef, undef, undef, .bool false, .bool false, undef, undef, undef, undef, undef, .bool false] _ hf s kk)
    · have hf := iteF h20509 hf
      refine RW.seg hT 22 [] [(10, .bool false)] [.bool false, undef, undef, undef, undef, undef, .bool false, .bool false, undef, undef, undef, undef, undef, .bool false, .bool false, undef, undef, undef, undef, undef, .bool false, .bool false] [.veq (.bool (decide (p0.Kind = p1.Kind))) (.bool false)] (by kernel_rfl) (bo_f h20509) ?_
      refine RW.nil ?_
      replace s := s.pick [] 2 rfl
      exact fun X h => kc (by kernel_rfl) rfl (h I false [.agg #[.int .i64 p0.Kind, .int .i64 p0.Page, .int .u64 p0.Epoch, .slice A20479 p0.Data.length c20480], .agg #[.int .i64 p1.Kind, .int .i64 p1.Page, .int .u64 p1.Epoch, .slice A20483 p1.Data.length c20484], .pointer (some ⟨b20488, 0, none⟩), .pointer (some ⟨b20491, 0, none⟩), .pointer (some ⟨b20488, 0, none⟩), .int .i64 p0.Kind, .pointer (some ⟨b20491, 0, none⟩), .int .i64 p1.Kind, .bool (decide (p0.Kind = p1.Kind)), .bool false, undef, undef, undef, undef, undef, .bool false, .bool false, undef, undef, undef, undef, undef, .bool false, .bool false, undef, undef, undef, undef, undef, .bool false] _ hf s kk)
end Go.Proofs.YtjkghheeeiacmaaDoor
