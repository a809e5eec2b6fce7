/- PRINTED BY sy.py: each call computes what the plain function of its number tells. -/
import Derived.Test.YtefjbhogpgihaaaDoorW3
namespace Go.Proofs.YtefjbhogpgihaaaDoor
open Go Go.SX Go.RowKit
set_option maxRecDepth 100000
set_option linter.unusedVariables false
attribute [local irreducible] WPK RW RD Ret SX.Fin SX.Any opK RoundBeg RoundEnd RangeEnd Rounds
theorem c36 {w0 w : World} {M I : Nat → Prop} {F : List It} (p0 : T_pack_Reader) (p1 : Int) (b77562 : Nat) (A77563 : Option Addr) (c77564 : Nat) (hc77565 : (p0.b.length ≤ c77564 ∧ c77564 ≤ 9223372036854775807)) (e77566 : Elems (Rp.int .u8) I w A77563 p0.b) (s : St w0 M I ((.blk b77562 (.cells #[.slice A77563 p0.b.length c77564, .int .i64 p0.err, .bool p0.made] 72 (0, 0))) :: F) w) {r : ((List Int) × T_pack_Reader)} (hf : g36 p0 p1 = some r) :
    Ret Tryd.prog 36 [.pointer (some ⟨b77562, 0, none⟩), .int .i64 p1] w fun v wz => ∀ X : Value → World → Prop, (∀ (I' : Nat → Prop) (A77698 : Option Addr) (c77699 : Nat) (A77702 : Option Addr) (c77703 : Nat) (w' : World), St w0 M I' ((.blk b77562 (.cells #[.slice A77702 r.2.b.length c77703, .int .i64 r.2.err, .bool r.2.made] 72 (0, 0))) :: F) w' → Kp I w I' w' → (r.1.length ≤ c77699 ∧ c77699 ≤ 9223372036854775807) → Elems (Rp.int .u8) I' w' A77698 r.1 → (r.2.b.length ≤ c77703 ∧ c77703 ≤ 9223372036854775807) → Elems (Rp.int .u8) I' w' A77702 r.2.b → X (.slice A77698 r.1.length c77699) w') → X v wz := by
  have kk : Kp I w I w := Kp.refl
  unfold g36 at hf
  refine Ret.of Tryd.func36 rfl ?_
  refine WPK.seq ?_
  refine WPK.region ?_
  refine RW.seg hT 1 [] [] [.slice none 0 0] [] (by kernel_rfl) (trivial) ?_
  refine RW.nil ?_
  refine WPK.seq ?_
  refine WPK.seq ?_
  refine WPK.region ?_
  refine RW.seg hT 1 [] [] [.pointer (some ⟨b77562, 0, none⟩)] [] (by kernel_rfl) (trivial) ?_
  obtain ⟨x77575, hx77576, hf⟩ := bindS hf
  refine RW.op (by kernel_rfl) (OK.call' en51 (by kernel_rfl) (c51_1 (F := F) p0 b77562 A77563 c77564 hc77565 e77566 s hx77576) ?_)
  intro X77579 hX77580
  refine fun _ _ hJ => hJ X77579 ?_
  clear s
  intro I77581 w77577 s k77578
  refine hX77580 _ _ ?_
  replace e77566 := e77566.st k77578
  replace kk := kk.trans k77578
  refine RW.nil ?_
  by_cases h77582 : x77575 = true
  · have hf := iteT h77582 hf
    refine WPK.condT (Eq.trans (b := .bool x77575) (by kernel_rfl) (b_t h77582)) ?_
    refine WPK.seq ?_
    refine WPK.region ?_
    refine RW.seg hT 1 [] [] [.slice none 0 0] [] (by kernel_rfl) (trivial) ?_
    refine RW.nil ?_
    refine WPK.ret (?_)
    obtain rfl := someS hf
    refine Fin.of (rs := [.tmp 4]) hT [] (.slice none 0 0) [] rfl (by kernel_rfl) (trivial) ?_
    exact fun X h => vc rfl (h I77581 none 0 A77563 c77564 _ s kk nil_hc Elems.nil hc77565 e77566)
  · have hf := iteF h77582 hf
    refine WPK.condF (Eq.trans (b := .bool x77575) (by kernel_rfl) (b_f h77582)) ?_
    refine WPK.skip ?_
    refine WPK.seq ?_
    refine WPK.region ?_
    refine RW.seg hT 1 [] [] [.int .i64 0] [] (by kernel_rfl) (trivial) ?_
    refine RW.nil ?_
    refine WPK.seq ?_
    refine WPK.cut' (Kn fun E ds wz => ∀ X : Kont, (∀ (I77612 : Nat → Prop) (x77610 : Int) (D77609 : List Value) (w' : World), g36_j1 p0 x77610 = some r → St w0 M I77612 ((.blk b77562 (.cells #[.slice A77563 p0.b.length c77564, .int .i64 p0.err, .bool p0.made] 72 (0, 0))) :: F) w' → Kp I w I77612 w' → Elems (Rp.int .u8) I77612 w' A77563 p0.b → X [.pointer (some ⟨b77562, 0, none⟩), (D77609.getD 0 undef), (D77609.getD 1 undef), (D77609.getD 2 undef), .slice none 0 0, .int .i64 x77610, (D77609.getD 3 undef), (D77609.getD 4 undef), (D77609.getD 5 undef), (D77609.getD 6 undef), (D77609.getD 7 undef), (D77609.getD 8 undef), (D77609.getD 9 undef), (D77609.getD 10 undef), (D77609.getD 11 undef), (D77609.getD 12 undef), (D77609.getD 13 undef), (D77609.getD 14 undef), (D77609.getD 15 undef), (D77609.getD 16 undef), (D77609.getD 17 undef), (D77609.getD 18 undef), (D77609.getD 19 undef), (D77609.getD 20 undef), (D77609.getD 21 undef), (D77609.getD 22 undef), (D77609.getD 23 undef), (D77609.getD 24 undef), (D77609.getD 25 undef), (D77609.getD 26 undef), (D77609.getD 27 undef), (D77609.getD 28 undef), (D77609.getD 29 undef), (D77609.getD 30 undef), (D77609.getD 31 undef), (D77609.getD 32 undef), (D77609.getD 33 undef), (D77609.getD 34 undef), (D77609.getD 35 undef), (D77609.getD 36 undef), (D77609.getD 37 undef), (D77609.getD 38 undef), undef, undef, undef, undef, (D77609.getD 39 undef), undef, undef, undef, undef, undef, undef, undef, undef, undef, undef, undef] [] w') → X E ds wz) ?_ ?_
    · intro X77670 hX77671
      refine fun _ _ _ hJ => hJ X77670 ?_
      clear s
      intro I77612 x77610 D77609 w77611 hf s kk e77566
      refine hX77671 _ _ _ ?_
      unfold g36_j1 at hf
      refine WPK.seq ?_
      refine WPK.seq ?_
      refine WPK.region ?_
      refine RW.seg hT 2 [] [(43, .bool (decide (x77610 ≠ 0)))] [.int .i64 x77610, .bool (decide (x77610 ≠ 0))] [.veq (.bool (x77610 != 0)) (.bool (decide (x77610 ≠ 0)))] (by kernel_rfl) (ne_v) ?_
      refine RW.nil ?_
      by_cases h77625 : x77610 ≠ 0
      · have hf := iteT h77625 hf
        refine WPK.condT (Eq.trans (b := .bool (decide (x77610 ≠ 0))) (by kernel_rfl) (bo_t h77625)) ?_
        refine WPK.seq ?_
        refine WPK.region ?_
        refine RW.seg hT 2 [] [] [.pointer (some ⟨b77562, 0, none⟩), .int .i64 x77610] [] (by kernel_rfl) (trivial) ?_
        obtain ⟨x77626, hx77627, hf⟩ := bindS hf
        refine RW.op (by kernel_rfl) (OK.call' en52 (by kernel_rfl) (c52_1 (F := F) p0 x77610 b77562 A77563 c77564 hc77565 e77566 s hx77627) ?_)
        intro X77630 hX77631
        refine fun _ _ hJ => hJ X77630 ?_
        clear s
        intro I77632 A77633 c77634 w77628 s k77629 hc77635 e77636
        refine hX77631 _ _ ?_
        replace e77566 := e77566.st k77629
        replace kk := kk.trans k77629
        refine RW.nil ?_
        refine WPK.seq ?_
        refine WPK.region ?_
        refine RW.seg hT 1 [] [] [.slice none 0 0] [] (by kernel_rfl) (trivial) ?_
        refine RW.nil ?_
        refine WPK.ret (?_)
        obtain rfl := someS hf
        refine Fin.of (rs := [.tmp 4]) hT [] (.slice none 0 0) [] rfl (by kernel_rfl) (trivial) ?_
        exact fun X h => vc rfl (h I77632 none 0 A77633 c77634 _ s kk nil_hc Elems.nil hc77635 e77636)
      · have hf := iteF h77625 hf
        refine WPK.condF (Eq.trans (b := .bool (decide (x77610 ≠ 0))) (by kernel_rfl) (bo_f h77625)) ?_
        refine WPK.skip ?_
        refine WPK.seq ?_
        refine WPK.region ?_
        obtain ⟨x77637, hx77638, hf⟩ := bindS hf
        obtain ⟨h77639, hx77638⟩ := getS hx77638
        obtain ⟨b77640, o77641, rfl⟩ := Elems.opn e77566 hx77638
        obtain ⟨cs77642, hr77643, ha77644⟩ := Elems.get e77566 hx77638
        obtain rfl : cs77642 = [.int .u8 x77637] := hr77643
        refine RW.seg hT 9 [.slice (some ⟨b77640, o77641, none⟩) p0.b.length c77564, .int .u8 x77637, undef] [] [.pointer (some ⟨b77562, 0, none⟩), .pointer (some ⟨b77562, 0, none⟩), .pointer (some ⟨b77562, 0, none⟩), .pointer (some ⟨b77562, 0, none⟩), .slice (some ⟨b77640, o77641, none⟩) p0.b.length c77564, .pointer (some ⟨b77640, o77641 + (0 : Int).toNat * 1, none⟩), .int .u8 x77637, .int .i64 (IntKind.i64.wrap x77637), .int .i64 (IntKind.i64.wrap (1 + (IntKind.i64.wrap x77637)))] [.cell ⟨b77562, 0, none⟩ (.slice (some ⟨b77640, o77641, none⟩) p0.b.length c77564), .idx 0 p0.b.length, .cell ⟨b77640, o77641 + (0 : Int).toNat * 1, none⟩ (.int .u8 x77637)] (by kernel_rfl) (⟨s.cell (i := 0) (off := 0) rfl rfl, h77639, ha77644 0 _ rfl⟩) ?_
        obtain ⟨x77645, hx77646, hf⟩ := bindS hf
        refine RW.op (by kernel_rfl) (OK.call' en53 (by kernel_rfl) (c53_1 (F := F) p0 (IntKind.i64.wrap (1 + (IntKind.i64.wrap x77637))) b77562 (some ⟨b77640, o77641, none⟩) c77564 hc77565 e77566 s hx77646) ?_)
        intro X77649 hX77650
        refine fun _ _ hJ => hJ X77649 ?_
        clear s
        intro I77651 A77652 c77653 A77656 c77657 w77647 s k77648 hc77654 e77655 hc77658 e77659
        refine hX77650 _ _ ?_
        replace e77566 := e77566.st k77648
        replace kk := kk.trans k77648
        obtain ⟨y77660, hy77661, hf⟩ := bindS hf
        obtain ⟨A77662, c77663, h77664, hc77665, e77666, q77667, q77668, q77669⟩ := slS (size := 1) rfl hc77654 e77655 hy77661
        refine RW.seg hT 2 [] [(57, .slice A77662 y77660.length c77663)] [.slice A77662 y77660.length c77663, .slice A77662 y77660.length c77663] [.both (.cut 1 (x77645.1.length : Int) c77653 c77653) (.veq (.slice (cutA A77652 (1 : Int).toNat c77653 1) (x77645.1.length - (1 : Int).toNat) (c77653 - (1 : Int).toNat)) (.slice A77662 y77660.length c77663))] (by kernel_rfl) (⟨⟨by omega, by omega, by omega, by omega⟩, sl_eq q77667 q77668 q77669⟩) ?_
        refine RW.nil ?_
        refine WPK.ret (?_)
        obtain rfl := someS hf
        refine Fin.of (rs := [.tmp 4]) hT [] (.slice A77662 y77660.length c77663) [] rfl (by kernel_rfl) (trivial) ?_
        exact fun X h => vc rfl (h I77651 A77662 c77663 A77656 c77657 _ s kk hc77665 e77666 hc77658 e77659)
    · refine WPK.block ?_
      refine WPK.seq ?_
      refine WPK.region ?_
      refine RW.seg hT 3 [] [] [.int .i64 p1, .bool (decide (p1 < 0)), .bool (decide (p1 < 0))] [] (by kernel_rfl) (trivial) ?_
      refine RW.nil ?_
      by_cases h77672 : p1 < 0
      · have hf := iteT h77672 hf
        refine WPK.condT (Eq.trans (b := .bool (decide (p1 < 0))) (by kernel_rfl) (bo_t h77672)) ?_
        refine WPK.region ?_
        refine RW.seg hT 1 [] [] [.int .i64 1] [] (by kernel_rfl) (trivial) ?_
        refine RW.nil ?_
        exact fun X h => kc (by kernel_rfl) rfl (h I77581 1 [.int .i64 p1, undef, undef, .pointer (some ⟨b77562, 0, none⟩), .bool x77575, .bool (decide (p1 < 0)), .int .i64 p1, .bool (decide (p1 < 0)), undef, undef, undef, undef, undef, undef, undef, undef, undef, undef, undef, undef, undef, undef, undef, undef, undef, undef, undef, undef, undef, undef, undef, undef, undef, undef, undef, undef, undef, undef, undef, undef] _ hf s kk e77566)
      · have hf := iteF h77672 hf
        refine WPK.condF (Eq.trans (b := .bool (decide (p1 < 0))) (by kernel_rfl) (bo_f h77672)) ?_
        refine WPK.seq ?_
        refine WPK.region ?_
        refine RW.seg hT 7 [.slice A77563 p0.b.length c77564] [(17, .bool (decide ((p0.b.length : Int) = 0)))] [.pointer (some ⟨b77562, 0, none⟩), .pointer (some ⟨b77562, 0, none⟩), .pointer (some ⟨b77562, 0, none⟩), .slice A77563 p0.b.length c77564, .int .i64 (p0.b.length : Int), .bool (decide ((p0.b.length : Int) = 0)), .bool (decide ((p0.b.length : Int) = 0))] [.cell ⟨b77562, 0, none⟩ (.slice A77563 p0.b.length c77564), .veq (.bool ((p0.b.length : Int) == 0)) (.bool (decide ((p0.b.length : Int) = 0)))] (by kernel_rfl) (⟨s.cell (i := 0) (off := 0) rfl rfl, eq_v⟩) ?_
        refine RW.nil ?_
        by_cases h77673 : (p0.b.length : Int) = 0
        · have hf := iteT h77673 hf
          refine WPK.condT (Eq.trans (b := .bool (decide ((p0.b.length : Int) = 0))) (by kernel_rfl) (bo_t h77673)) ?_
          refine WPK.region ?_
          refine RW.seg hT 1 [] [] [.int .i64 10] [] (by kernel_rfl) (trivial) ?_
          refine RW.nil ?_
          exact fun X h => kc (by kernel_rfl) rfl (h I77581 10 [.int .i64 p1, undef, undef, .pointer (some ⟨b77562, 0, none⟩), .bool x77575, .bool (decide (p1 < 0)), .int .i64 p1, .bool (decide (p1 < 0)), .bool (decide ((p0.b.length : Int) = 0)), .pointer (some ⟨b77562, 0, none⟩), .pointer (some ⟨b77562, 0, none⟩), .pointer (some ⟨b77562, 0, none⟩), .slice A77563 p0.b.length c77564, .int .i64 (p0.b.length : Int), .bool (decide ((p0.b.length : Int) = 0)), undef, undef, undef, undef, undef, undef, undef, undef, undef, undef, undef, undef, undef, undef, undef, undef, undef, undef, undef, undef, undef, undef, undef, undef, undef] _ hf s kk e77566)
        · have hf := iteF h77673 hf
          refine WPK.condF (Eq.trans (b := .bool (decide ((p0.b.length : Int) = 0))) (by kernel_rfl) (bo_f h77673)) ?_
          refine WPK.seq ?_
          refine WPK.region ?_
          obtain ⟨x77674, hx77675, hf⟩ := bindS hf
          obtain ⟨h77676, hx77675⟩ := getS hx77675
          obtain ⟨b77677, o77678, rfl⟩ := Elems.opn e77566 hx77675
          obtain ⟨cs77679, hr77680, ha77681⟩ := Elems.get e77566 hx77675
          obtain rfl : cs77679 = [.int .u8 x77674] := hr77680
          refine RW.seg hT 10 [.slice (some ⟨b77677, o77678, none⟩) p0.b.length c77564, .int .u8 x77674, undef] [] [.pointer (some ⟨b77562, 0, none⟩), .pointer (some ⟨b77562, 0, none⟩), .pointer (some ⟨b77562, 0, none⟩), .slice (some ⟨b77677, o77678, none⟩) p0.b.length c77564, .pointer (some ⟨b77677, o77678 + (0 : Int).toNat * 1, none⟩), .int .u8 x77674, .int .i64 (IntKind.i64.wrap x77674), .int .i64 p1, .bool (decide ((IntKind.i64.wrap x77674) > p1)), .bool (decide ((IntKind.i64.wrap x77674) > p1))] [.cell ⟨b77562, 0, none⟩ (.slice (some ⟨b77677, o77678, none⟩) p0.b.length c77564), .idx 0 p0.b.length, .cell ⟨b77677, o77678 + (0 : Int).toNat * 1, none⟩ (.int .u8 x77674)] (by kernel_rfl) (⟨s.cell (i := 0) (off := 0) rfl rfl, h77676, ha77681 0 _ rfl⟩) ?_
          refine RW.nil ?_
          by_cases h77682 : (IntKind.i64.wrap x77674) > p1
          · have hf := iteT h77682 hf
            refine WPK.condT (Eq.trans (b := .bool (decide ((IntKind.i64.wrap x77674) > p1))) (by kernel_rfl) (bo_t h77682)) ?_
            refine WPK.region ?_
            refine RW.seg hT 1 [] [] [.int .i64 3] [] (by kernel_rfl) (trivial) ?_
            refine RW.nil ?_
            exact fun X h => kc (by kernel_rfl) rfl (h I77581 3 [.int .i64 p1, undef, undef, .pointer (some ⟨b77562, 0, none⟩), .bool x77575, .bool (decide (p1 < 0)), .int .i64 p1, .bool (decide (p1 < 0)), .bool (decide ((p0.b.length : Int) = 0)), .pointer (some ⟨b77562, 0, none⟩), .pointer (some ⟨b77562, 0, none⟩), .pointer (some ⟨b77562, 0, none⟩), .slice (some ⟨b77677, o77678, none⟩) p0.b.length c77564, .int .i64 (p0.b.length : Int), .bool (decide ((p0.b.length : Int) = 0)), .bool (decide ((IntKind.i64.wrap x77674) > p1)), .pointer (some ⟨b77562, 0, none⟩), .pointer (some ⟨b77562, 0, none⟩), .pointer (some ⟨b77562, 0, none⟩), .slice (some ⟨b77677, o77678, none⟩) p0.b.length c77564, .pointer (some ⟨b77677, o77678 + (0 : Int).toNat * 1, none⟩), .int .u8 x77674, .int .i64 (IntKind.i64.wrap x77674), .int .i64 p1, .bool (decide ((IntKind.i64.wrap x77674) > p1)), undef, undef, undef, undef, undef, undef, undef, undef, undef, undef, undef, undef, undef, undef, undef] _ hf s kk e77566)
          · have hf := iteF h77682 hf
            refine WPK.condF (Eq.trans (b := .bool (decide ((IntKind.i64.wrap x77674) > p1))) (by kernel_rfl) (bo_f h77682)) ?_
            refine WPK.seq ?_
            have e77566S77683 := e77566
            have kS77687 : Kp I77581 w77577 I77581 w77577 := Kp.refl
            refine WPK.draw (fun w' => ∃ I' : Nat → Prop, St w0 M I' ((.blk b77562 (.cells #[.slice (some ⟨b77677, o77678, none⟩) p0.b.length c77564, .int .i64 p0.err, .bool p0.made] 72 (0, 0))) :: F) w' ∧ Kp I77581 w77577 I' w') 14 (by kernel_rfl) ?_
            intro w77684 hd77685
            have k77686 := Kp.dr s hd77685
            replace s := s.dr hd77685
            replace e77566 := e77566.st k77686
            replace kk := kk.trans k77686
            replace kS77687 := kS77687.trans k77686
            obtain ⟨x77688, hx77689, hf⟩ := bindS hf
            obtain ⟨h77690, hx77689⟩ := getS hx77689
            obtain ⟨cs77693, hr77694, ha77695, hb77696⟩ := Elems.getI e77566S77683 hx77689
            obtain rfl : cs77693 = [.int .u8 x77688] := hr77694
            refine RD.seg hT (by kernel_rfl) [0, 1, 2, 3, 4, 5, 6, 7, 8, 9, 10, 11, 12, 13] [.slice (some ⟨b77677, o77678, none⟩) p0.b.length c77564, .int .u8 x77688, undef, .slice (some ⟨b77677, o77678, none⟩) p0.b.length c77564] [] [.pointer (some ⟨b77562, 0, none⟩), .pointer (some ⟨b77562, 0, none⟩), .pointer (some ⟨b77562, 0, none⟩), .slice (some ⟨b77677, o77678, none⟩) p0.b.length c77564, .pointer (some ⟨b77677, o77678 + (0 : Int).toNat * 1, none⟩), .int .u8 x77688, .int .i64 (IntKind.i64.wrap x77688), .pointer (some ⟨b77562, 0, none⟩), .pointer (some ⟨b77562, 0, none⟩), .pointer (some ⟨b77562, 0, none⟩), .slice (some ⟨b77677, o77678, none⟩) p0.b.length c77564, .int .i64 (p0.b.length : Int), .bool (decide ((IntKind.i64.wrap x77688) ≥ (p0.b.length : Int))), .bool (decide ((IntKind.i64.wrap x77688) ≥ (p0.b.length : Int)))] [.cell ⟨b77562, 0, none⟩ (.slice (some ⟨b77677, o77678, none⟩) p0.b.length c77564), .idx 0 p0.b.length, .cell ⟨b77677, o77678 + (0 : Int).toNat * 1, none⟩ (.int .u8 x77688), .cell ⟨b77562, 0, none⟩ (.slice (some ⟨b77677, o77678, none⟩) p0.b.length c77564)] (by kernel_rfl) (by rintro w' ⟨I', s, k⟩; have e77566 := e77566S77683.st k; have ha77695 := ha77695.st k hb77696; exact ⟨s.cell (i := 0) (off := 0) rfl rfl, h77690, ha77695 0 _ rfl, s.cell (i := 0) (off := 0) rfl rfl⟩) ⟨_, s.pick [0] 1 rfl, kS77687⟩ ?_
            refine RD.done (by kernel_rfl) ?_
            by_cases h77697 : (IntKind.i64.wrap x77688) ≥ (p0.b.length : Int)
            · have hf := iteT h77697 hf
              refine WPK.condT (Eq.trans (b := .bool (decide ((IntKind.i64.wrap x77688) ≥ (p0.b.length : Int)))) (by kernel_rfl) (bo_t h77697)) ?_
              refine WPK.region ?_
              refine RW.seg hT 1 [] [] [.int .i64 10] [] (by kernel_rfl) (trivial) ?_
              refine RW.nil ?_
              exact fun X h => kc (by kernel_rfl) rfl (h I77581 10 [.int .i64 p1, undef, undef, .pointer (some ⟨b77562, 0, none⟩), .bool x77575, .bool (decide (p1 < 0)), .int .i64 p1, .bool (decide (p1 < 0)), .bool (decide ((p0.b.length : Int) = 0)), .pointer (some ⟨b77562, 0, none⟩), .pointer (some ⟨b77562, 0, none⟩), .pointer (some ⟨b77562, 0, none⟩), .slice (some ⟨b77677, o77678, none⟩) p0.b.length c77564, .int .i64 (p0.b.length : Int), .bool (decide ((p0.b.length : Int) = 0)), .bool (decide ((IntKind.i64.wrap x77674) > p1)), .pointer (some ⟨b77562, 0, none⟩), .pointer (some ⟨b77562, 0, none⟩), .pointer (some ⟨b77562, 0, none⟩), .slice (some ⟨b77677, o77678, none⟩) p0.b.length c77564, .pointer (some ⟨b77677, o77678 + (0 : Int).toNat * 1, none⟩), .int .u8 x77674, .int .i64 (IntKind.i64.wrap x77674), .int .i64 p1, .bool (decide ((IntKind.i64.wrap x77674) > p1)), .bool (decide ((IntKind.i64.wrap x77688) ≥ (p0.b.length : Int))), .pointer (some ⟨b77562, 0, none⟩), .pointer (some ⟨b77562, 0, none⟩), .pointer (some ⟨b77562, 0, none⟩), .slice (some ⟨b77677, o77678, none⟩) p0.b.length c77564, .pointer (some ⟨b77677, o77678 + (0 : Int).toNat * 1, none⟩), .int .u8 x77688, .int .i64 (IntKind.i64.wrap x77688), .pointer (some ⟨b77562, 0, none⟩), .pointer (some ⟨b77562, 0, none⟩), .pointer (some ⟨b77562, 0, none⟩), .slice (some ⟨b77677, o77678, none⟩) p0.b.length c77564, .int .i64 (p0.b.length : Int), .bool (decide ((IntKind.i64.wrap x77688) ≥ (p0.b.length : Int))), undef] _ hf s kk e77566)
            · have hf := iteF h77697 hf
              refine WPK.condF (Eq.trans (b := .bool (decide ((IntKind.i64.wrap x77688) ≥ (p0.b.length : Int)))) (by kernel_rfl) (bo_f h77697)) ?_
              refine WPK.skip ?_
              exact fun X h => kc (by kernel_rfl) rfl (h I77581 0 [.int .i64 p1, undef, undef, .pointer (some ⟨b77562, 0, none⟩), .bool x77575, .bool (decide (p1 < 0)), .int .i64 p1, .bool (decide (p1 < 0)), .bool (decide ((p0.b.length : Int) = 0)), .pointer (some ⟨b77562, 0, none⟩), .pointer (some ⟨b77562, 0, none⟩), .pointer (some ⟨b77562, 0, none⟩), .slice (some ⟨b77677, o77678, none⟩) p0.b.length c77564, .int .i64 (p0.b.length : Int), .bool (decide ((p0.b.length : Int) = 0)), .bool (decide ((IntKind.i64.wrap x77674) > p1)), .pointer (some ⟨b77562, 0, none⟩), .pointer (some ⟨b77562, 0, none⟩), .pointer (some ⟨b77562, 0, none⟩), .slice (some ⟨b77677, o77678, none⟩) p0.b.length c77564, .pointer (some ⟨b77677, o77678 + (0 : Int).toNat * 1, none⟩), .int .u8 x77674, .int .i64 (IntKind.i64.wrap x77674), .int .i64 p1, .bool (decide ((IntKind.i64.wrap x77674) > p1)), .bool (decide ((IntKind.i64.wrap x77688) ≥ (p0.b.length : Int))), .pointer (some ⟨b77562, 0, none⟩), .pointer (some ⟨b77562, 0, none⟩), .pointer (some ⟨b77562, 0, none⟩), .slice (some ⟨b77677, o77678, none⟩) p0.b.length c77564, .pointer (some ⟨b77677, o77678 + (0 : Int).toNat * 1, none⟩), .int .u8 x77688, .int .i64 (IntKind.i64.wrap x77688), .pointer (some ⟨b77562, 0, none⟩), .pointer (some ⟨b77562, 0, none⟩), .pointer (some ⟨b77562, 0, none⟩), .slice (some ⟨b77677, o77678, none⟩) p0.b.length c77564, .int .i64 (p0.b.length : Int), .bool (decide ((IntKind.i64.wrap x77688) ≥ (p0.b.length : Int))), undef] _ hf s kk e77566)
theorem c20 {w0 w : World} {M I : Nat → Prop} {F : List It} (p0 : T_pack_Reader) (b78295 : Nat) (A78296 : Option Addr) (c78297 : Nat) (hc78298 : (p0.b.length ≤ c78297 ∧ c78297 ≤ 9223372036854775807)) (e78299 : Elems (Rp.int .u8) I w A78296 p0.b) (s : St w0 M I ((.blk b78295 (.cells #[.slice A78296 p0.b.length c78297, .int .i64 p0.err, .bool p0.made] 72 (0, 0))) :: F) w) {r : Int} (hf : g20 p0 = some r) :
    Ret Tryd.prog 20 [.pointer (some ⟨b78295, 0, none⟩)] w fun v wz => ∀ X : Value → World → Prop, (∀ (I' : Nat → Prop) (w' : World), St w0 M I' ((.blk b78295 (.cells #[.slice A78296 p0.b.length c78297, .int .i64 p0.err, .bool p0.made] 72 (0, 0))) :: F) w' → Kp I w I' w' → X (.int .i64 r) w') → X v wz := by
  have kk : Kp I w I w := Kp.refl
  unfold g20 at hf
  refine Ret.of Tryd.func20 rfl ?_
  refine WPK.seq ?_
  refine WPK.region ?_
  refine RW.seg hT 1 [] [] [.int .i64 0] [] (by kernel_rfl) (trivial) ?_
  refine RW.nil ?_
  refine WPK.seq ?_
  refine WPK.seq ?_
  refine WPK.region ?_
  refine RW.seg hT 9 [.bool p0.made] [(10, .bool (decide (¬ (p0.made = true))))] [.pointer (some ⟨b78295, 0, none⟩), .bool false, .bool false, .pointer (some ⟨b78295, 0, none⟩), .pointer (some ⟨b78295, 0, none⟩), .pointer (some ⟨b78295, 2, none⟩), .bool p0.made, .bool (decide (¬ (p0.made = true))), .bool (decide (¬ (p0.made = true)))] [.cell ⟨b78295, 2, none⟩ (.bool p0.made), .veq (.bool (!p0.made)) (.bool (decide (¬ (p0.made = true))))] (by kernel_rfl) (⟨s.cell (i := 0) (off := 2) rfl rfl, not_b⟩) ?_
  refine RW.nil ?_
  by_cases h78301 : ¬ (p0.made = true)
  · have hf := iteT h78301 hf
    refine WPK.condT (Eq.trans (b := .bool (decide (¬ (p0.made = true)))) (by kernel_rfl) (bo_t h78301)) ?_
    refine WPK.seq ?_
    refine WPK.region ?_
    refine RW.seg hT 1 [] [] [.int .i64 2] [] (by kernel_rfl) (trivial) ?_
    refine RW.nil ?_
    refine WPK.ret (?_)
    obtain rfl := someS hf
    refine Fin.of (rs := [.tmp 2]) hT [] (.int .i64 2) [] rfl (by kernel_rfl) (trivial) ?_
    exact fun X h => vc rfl (h I _ s kk)
  · have hf := iteF h78301 hf
    refine WPK.condF (Eq.trans (b := .bool (decide (¬ (p0.made = true)))) (by kernel_rfl) (bo_f h78301)) ?_
    refine WPK.skip ?_
    refine WPK.seq ?_
    refine WPK.region ?_
    refine RW.seg hT 5 [.int .i64 p0.err] [] [.pointer (some ⟨b78295, 0, none⟩), .pointer (some ⟨b78295, 0, none⟩), .pointer (some ⟨b78295, 1, none⟩), .int .i64 p0.err, .int .i64 p0.err] [.cell ⟨b78295, 1, none⟩ (.int .i64 p0.err)] (by kernel_rfl) (s.cell (i := 0) (off := 1) rfl rfl) ?_
    refine RW.nil ?_
    refine WPK.ret (?_)
    obtain rfl := someS hf
    refine Fin.of (rs := [.tmp 2]) hT [] (.int .i64 p0.err) [] rfl (by kernel_rfl) (trivial) ?_
    exact fun X h => vc rfl (h I _ s kk)
theorem c18 {w0 w : World} {M I : Nat → Prop} {F : List It} (p0 : T_pack_Reader) (b87350 : Nat) (A87351 : Option Addr) (n87352 : Nat) (c87353 : Nat) (cl87354 : List Value) (hn87355 : n87352 = p0.b.length) (rp87356 : RepL (Rp.int .u8) I w cl87354 p0.b) (s : St w0 M I ((.blk b87350 (.cells #[.slice A87351 n87352 c87353, .int .i64 p0.err, .bool p0.made] 72 (0, 0))) :: (.sl (.slice A87351 n87352 c87353) 5 1 n87352 cl87354) :: F) w) {r : (T_api_Node × T_pack_Reader)} (hf : g18 p0 = some r) :
    Ret Tryd.prog 18 [.pointer (some ⟨b87350, 0, none⟩)] w fun v wz => ∀ X : Value → World → Prop, (∀ (I' : Nat → Prop) (A97012 : Option Addr) (n97013 : Nat) (c97014 : Nat) (cl97015 : List Value) (A97019 : Option Addr) (n97020 : Nat) (c97021 : Nat) (cl97022 : List Value) (A97026 : Option Addr) (n97027 : Nat) (c97028 : Nat) (cl97029 : List Value) (A97033 : Option Addr) (c97034 : Nat) (w' : World), St w0 M I' ((.sl (.slice A97012 n97013 c97014) 41 2 n97013 cl97015) :: (.sl (.slice A97019 n97020 c97021) 27 1 n97020 cl97022) :: (.sl (.slice A97026 n97027 c97028) 3 1 n97027 cl97029) :: (.blk b87350 (.cells #[.slice A97033 r.2.b.length c97034, .int .i64 r.2.err, .bool r.2.made] 72 (0, 0))) :: F) w' → Kp I w I' w' → n97013 = r.1.Pairs.length → RepL rp_T_api_Pair I' w' cl97015 r.1.Pairs → n97020 = r.1.Keys.length → RepL (Rp.slice (Rp.int .u8)) I' w' cl97022 r.1.Keys → n97027 = r.1.Kids.length → RepL (Rp.int .i64) I' w' cl97029 r.1.Kids → (r.2.b.length ≤ c97034 ∧ c97034 ≤ 9223372036854775807) → Elems (Rp.int .u8) I' w' A97033 r.2.b → X (.agg #[.bool r.1.Leaf, .slice A97012 n97013 c97014, .slice A97019 n97020 c97021, .slice A97026 n97027 c97028]) w') → X v wz := by
  have kk : Kp I w I w := Kp.refl
  unfold g18 at hf
  refine Ret.of Tryd.func18 rfl ?_
  refine WPK.seq ?_
  refine WPK.region ?_
  refine RW.op (by kernel_rfl) (OK.new hT (f := fun b => .pointer (some ⟨b, 0, none⟩)) (cs := [.bool false, .slice none 0 0, .slice none 0 0, .slice none 0 0]) (e := 26) (c := .tt) s (by kernel_rfl) trivial ?_)
  clear s
  rintro w87358 b87359 s k87360 -
  replace rp87356 := rp87356.st k87360
  replace kk := kk.trans k87360
  refine RW.nil ?_
  refine WPK.seq ?_
  refine WPK.region ?_
  refine RW.seg hT 1 [] [] [.agg #[.bool true, .slice none 0 0, .slice none 0 0, .slice none 0 0]] [] (by kernel_rfl) (trivial) ?_
  refine RW.op (by kernel_rfl) (OK.new hT (f := fun b => .pointer (some ⟨b, 0, none⟩)) (cs := [.bool false, .slice none 0 0, .slice none 0 0, .slice none 0 0]) (e := 26) (c := .tt) s (by kernel_rfl) trivial ?_)
  clear s
  rintro w87361 b87362 s k87363 -
  replace rp87356 := rp87356.st k87363
  replace kk := kk.trans k87363
  refine RW.op (by kernel_rfl) (OK.store hT (i := 0) (b := b87362) (off := 0) (n := 4) (vs := [.bool true, .slice none 0 0, .slice none 0 0, .slice none 0 0]) (cs := [.bool false, .slice none 0 0, .slice none 0 0, .slice none 0 0]) (e := 26) s (by kernel_rfl) rfl rfl (flat_ok rfl) (Nat.le_of_ble_eq_true rfl) ?_)
  clear s
  rintro w87364 s k87365 -
  replace rp87356 := rp87356.st k87365
  replace kk := kk.trans k87365
  refine RW.nil ?_
  refine WPK.seq ?_
  refine WPK.cut' (Kn fun E ds wz => ∀ X : Kont, (∀ (I92194 : Nat → Prop) (x92178 : (List Int)) (x92183 : Int) (x92184 : Bool) (x92185 : (List T_api_Pair)) (D92177 : List Value) (A92179 : Option Addr) (c92180 : Nat) (A92186 : Option Addr) (c92188 : Nat) (cl92189 : List Value) (w' : World), g18_j1 x92178 x92183 x92184 x92185 = some r → St w0 M I92194 ((.blk b87350 (.cells #[.slice A92179 x92178.length c92180, .int .i64 x92183, .bool x92184] 72 (0, 0))) :: (.blk b87362 (.cells #[.bool true, .slice A92186 x92185.length c92188, .slice none 0 0, .slice none 0 0] 26 (0, 0))) :: (.blk b87359 (.cells #[.bool false, .slice none 0 0, .slice none 0 0, .slice none 0 0] 26 (0, 0))) :: (.sl (.slice A92186 x92185.length c92188) 41 2 x92185.length cl92189) :: F) w' → Kp I w I92194 w' → (x92178.length ≤ c92180 ∧ c92180 ≤ 9223372036854775807) → Elems (Rp.int .u8) I92194 w' A92179 x92178 → RepL rp_T_api_Pair I92194 w' cl92189 x92185 → X [(D92177.getD 0 undef), (D92177.getD 1 undef), .pointer (some ⟨b87359, 0, none⟩), .pointer (some ⟨b87362, 0, none⟩), (D92177.getD 2 undef), (D92177.getD 3 undef), (D92177.getD 4 undef), (D92177.getD 5 undef), (D92177.getD 6 undef), (D92177.getD 7 undef), (D92177.getD 8 undef), (D92177.getD 9 undef), (D92177.getD 10 undef), (D92177.getD 11 undef), (D92177.getD 12 undef), (D92177.getD 13 undef), (D92177.getD 14 undef), (D92177.getD 15 undef), (D92177.getD 16 undef), (D92177.getD 17 undef), (D92177.getD 18 undef), (D92177.getD 19 undef), (D92177.getD 20 undef), (D92177.getD 21 undef), (D92177.getD 22 undef), undef] [] w') → X E ds wz) ?_ ?_
  · intro X92199 hX92200
    refine fun _ _ _ hJ => hJ X92199 ?_
    clear s
    intro I92194 x92178 x92183 x92184 x92185 D92177 A92179 c92180 A92186 c92188 cl92189 w92193 hf s kk hc92181 e92182 rp92191
    refine hX92200 _ _ _ ?_
    unfold g18_j1 at hf
    refine WPK.seq ?_
    refine WPK.region ?_
    refine RW.seg hT 1 [.agg #[.bool true, .slice A92186 x92185.length c92188, .slice none 0 0, .slice none 0 0]] [] [.agg #[.bool true, .slice A92186 x92185.length c92188, .slice none 0 0, .slice none 0 0]] [.cells ⟨b87362, 0, none⟩ [.bool true, .slice A92186 x92185.length c92188, .slice none 0 0, .slice none 0 0] 4] (by kernel_rfl) (s.cells (i := 1) rfl rfl rfl) ?_
    refine RW.op (by kernel_rfl) (OK.store hT (i := 2) (b := b87359) (off := 0) (n := 4) (vs := [.bool true, .slice A92186 x92185.length c92188, .slice none 0 0, .slice none 0 0]) (cs := [.bool false, .slice none 0 0, .slice none 0 0, .slice none 0 0]) (e := 26) s (by kernel_rfl) rfl rfl (flat_ok rfl) (Nat.le_of_ble_eq_true rfl) ?_)
    clear s
    rintro w92195 s k92196 -
    replace e92182 := e92182.st k92196
    replace rp92191 := rp92191.st k92196
    replace kk := kk.trans k92196
    refine RW.nil ?_
    refine WPK.ret (?_)
    obtain rfl := someS hf
    refine Fin.of (rs := [.cell 2 26]) hT [.agg #[.bool true, .slice A92186 x92185.length c92188, .slice none 0 0, .slice none 0 0]] (.agg #[.bool true, .slice A92186 x92185.length c92188, .slice none 0 0, .slice none 0 0]) [.cells ⟨b87359, 0, none⟩ [.bool true, .slice A92186 x92185.length c92188, .slice none 0 0, .slice none 0 0] 4] rfl (by kernel_rfl) (s.cells (i := 2) rfl rfl rfl) ?_
    replace s := s.pushNil 27 1
    replace s := s.pushNil 3 1
    replace s := s.pick [5, 1, 0, 2] 6 rfl
    exact fun X h => vc rfl (h I92194 A92186 x92185.length c92188 cl92189 none 0 0 [] none 0 0 [] A92179 c92180 _ s kk rfl rp92191 rfl (RepL.nil (r := (Rp.slice (Rp.int .u8)))) rfl (RepL.nil (r := (Rp.int .i64))) hc92181 e92182)
  · refine WPK.seq ?_
    refine WPK.region ?_
    refine RW.seg hT 1 [] [] [.pointer (some ⟨b87350, 0, none⟩)] [] (by kernel_rfl) (trivial) ?_
    replace s := s.pick [2, 3, 0, 1] 4 rfl
    obtain ⟨x92201, hx92202, hf⟩ := bindS hf
    refine RW.op (by kernel_rfl) (OK.call' en35 (by kernel_rfl) (c35 (F := (.blk b87362 (.cells #[.bool true, .slice none 0 0, .slice none 0 0, .slice none 0 0] 26 (0, 0))) :: (.blk b87359 (.cells #[.bool false, .slice none 0 0, .slice none 0 0, .slice none 0 0] 26 (0, 0))) :: F) p0 b87350 A87351 n87352 c87353 cl87354 hn87355 rp87356 s hx92202) ?_)
    intro X92205 hX92206
    refine fun _ _ hJ => hJ X92205 ?_
    clear s
    intro I92207 A92208 c92209 w92203 s k92204 hc92210 e92211
    refine hX92206 _ _ ?_
    replace rp87356 := rp87356.st k92204
    replace kk := kk.trans k92204
    refine RW.seg hT 1 [] [] [.int .u8 0] [] (by kernel_rfl) (trivial) ?_
    refine RW.nil ?_
    refine WPK.block ?_
    replace s := s.pushNil 41 2
    replace s := s.pick [1, 2, 3, 0] 4 rfl
    refine WPK.loop' (J := fun n95275 E ds wz => ∀ X : Kont, (∀ (I93541 : Nat → Prop) (x93524 : Int) (x93525 : (List Int)) (x93530 : Int) (x93531 : Bool) (x93532 : (List T_api_Pair)) (D93523 : List Value) (A93526 : Option Addr) (c93527 : Nat) (A93533 : Option Addr) (c93535 : Nat) (cl93536 : List Value) (w' : World), g18_l2 x92201 n95275 x93524 x93525 x93530 x93531 x93532 = some r → St w0 M I93541 ((.blk b87350 (.cells #[.slice A93526 x93525.length c93527, .int .i64 x93530, .bool x93531] 72 (0, 0))) :: (.blk b87362 (.cells #[.bool true, .slice A93533 x93532.length c93535, .slice none 0 0, .slice none 0 0] 26 (0, 0))) :: (.blk b87359 (.cells #[.bool false, .slice none 0 0, .slice none 0 0, .slice none 0 0] 26 (0, 0))) :: (.sl (.slice A93533 x93532.length c93535) 41 2 x93532.length cl93536) :: F) w' → Kp I w I93541 w' → (x93525.length ≤ c93527 ∧ c93527 ≤ 9223372036854775807) → Elems (Rp.int .u8) I93541 w' A93526 x93525 → RepL rp_T_api_Pair I93541 w' cl93536 x93532 → X [.pointer (some ⟨b87350, 0, none⟩), (D93523.getD 0 undef), .pointer (some ⟨b87359, 0, none⟩), .pointer (some ⟨b87362, 0, none⟩), (D93523.getD 1 undef), (D93523.getD 2 undef), (D93523.getD 3 undef), .int .u8 x92201.1, .int .u8 x93524, (D93523.getD 4 undef), (D93523.getD 5 undef), (D93523.getD 6 undef), (D93523.getD 7 undef), (D93523.getD 8 undef), (D93523.getD 9 undef), (D93523.getD 10 undef), (D93523.getD 11 undef), (D93523.getD 12 undef), (D93523.getD 13 undef), (D93523.getD 14 undef), (D93523.getD 15 undef), (D93523.getD 16 undef), (D93523.getD 17 undef), (D93523.getD 18 undef), (D93523.getD 19 undef), undef] [] w') → X E ds wz) FUEL (fun X h => kc (by kernel_rfl) rfl (h I92207 0 x92201.2.b x92201.2.err x92201.2.made ([] : List T_api_Pair) [undef, undef, .agg #[.bool true, .slice none 0 0, .slice none 0 0, .slice none 0 0], .pointer (some ⟨b87350, 0, none⟩), undef, undef, undef, undef, undef, undef, undef, undef, undef, undef, undef, undef, undef, undef, undef, undef] A92208 c92209 none 0 [] _ hf s kk hc92210 e92211 (RepL.nil (r := rp_T_api_Pair)))) (fun _ _ _ hJ => hJ (fun _ _ _ => False) (by intro I93541 x93524 x93525 x93530 x93531 x93532 D93523 A93526 c93527 A93533 c93535 cl93536 w93540 hf s kk hc93528 e93529 rp93538; exact noneS hf)) ?_
    intro X97010 hX97011
    refine fun n95275 _ _ _ hJ => hJ (X97010 n95275) ?_
    clear s
    intro I93541 x93524 x93525 x93530 x93531 x93532 D93523 A93526 c93527 A93533 c93535 cl93536 w93540 hf s kk hc93528 e93529 rp93538
    refine hX97011 _ _ _ _ ?_
    replace hf : g18_l2B x92201 (g18_l2 x92201 n95275) x93524 x93525 x93530 x93531 x93532 = some r := hf
    generalize hrec95276 : g18_l2 x92201 n95275 = rec95274 at hf
    unfold g18_l2B at hf
    refine WPK.seq ?_
    refine WPK.region ?_
    refine RW.seg hT 1 [] [] [.bool (decide (x93524 < x92201.1))] [] (by kernel_rfl) (trivial) ?_
    refine RW.nil ?_
    refine WPK.seq ?_
    by_cases h95278 : x93524 < x92201.1
    · have hf := iteT h95278 hf
      refine WPK.condT (Eq.trans (b := .bool (decide (x93524 < x92201.1))) (by kernel_rfl) (bo_t h95278)) ?_
      refine WPK.skip ?_
      refine WPK.seq ?_
      refine WPK.block ?_
      refine WPK.seq ?_
      refine WPK.region ?_
      refine RW.seg hT 1 [] [] [.pointer (some ⟨b87350, 0, none⟩)] [] (by kernel_rfl) (trivial) ?_
      obtain ⟨x96144, hx96145, hf⟩ := bindS hf
      refine RW.op (by kernel_rfl) (OK.call' en36 (by kernel_rfl) (c36 (F := (.blk b87362 (.cells #[.bool true, .slice A93533 x93532.length c93535, .slice none 0 0, .slice none 0 0] 26 (0, 0))) :: (.blk b87359 (.cells #[.bool false, .slice none 0 0, .slice none 0 0, .slice none 0 0] 26 (0, 0))) :: (.sl (.slice A93533 x93532.length c93535) 41 2 x93532.length cl93536) :: F) (T_pack_Reader.mk x93525 x93530 x93531) 25 b87350 A93526 c93527 hc93528 e93529 s hx96145) ?_)
      intro X96148 hX96149
      refine fun _ _ hJ => hJ X96148 ?_
      clear s
      intro I96150 A96151 c96152 A96155 c96156 w96146 s k96147 hc96153 e96154 hc96157 e96158
      refine hX96149 _ _ ?_
      replace e93529 := e93529.st k96147
      replace rp93538 := rp93538.st k96147
      replace kk := kk.trans k96147
      refine RW.seg hT 1 [] [] [.slice A96151 x96144.1.length c96152] [] (by kernel_rfl) (trivial) ?_
      refine RW.nil ?_
      refine WPK.seq ?_
      have e96154S96886 := e96154
      have e96158S96886 := e96158
      have rp93538S96886 := rp93538
      have kS96890 : Kp I96150 w96146 I96150 w96146 := Kp.refl
      refine WPK.draw (fun w' => ∃ I' : Nat → Prop, St w0 M I' ((.blk b87359 (.cells #[.bool false, .slice none 0 0, .slice none 0 0, .slice none 0 0] 26 (0, 0))) :: F) w' ∧ Kp I96150 w96146 I' w') 10 (by kernel_rfl) ?_
      intro w96887 hd96888
      have k96889 := Kp.dr s hd96888
      replace s := s.dr hd96888
      replace e96154 := e96154.st k96889
      replace e96158 := e96158.st k96889
      replace rp93538 := rp93538.st k96889
      replace kk := kk.trans k96889
      replace kS96890 := kS96890.trans k96889
      refine RD.seg hT (by kernel_rfl) [0, 2, 3] [] [] [.pointer (some ⟨b87362, 1, none⟩), .slice A96151 x96144.1.length c96152, .pointer (some ⟨b87350, 0, none⟩)] [] (by kernel_rfl) (fun _ _ => trivial) ⟨_, s.pick [2] 4 rfl, kS96890⟩ ?_
      obtain ⟨x96891, hx96892, hf⟩ := bindS hf
      refine RD.ways [1, 4] (by kernel_rfl) (List.forall_mem_cons.2 ⟨?_, List.forall_mem_cons.2 ⟨?_, fun _ h => nomatch h⟩⟩)
      · refine RWay.op rfl (by kernel_rfl) (OK.pure hT (ld := (.slice A93533 x93532.length c93535)) (v := .slice A93533 x93532.length c93535) (c := .cell ⟨b87362, 1, none⟩ (.slice A93533 x93532.length c93535)) (by kernel_rfl) (s.cell (i := 1) (off := 1) rfl rfl) ?_)
        refine ⟨fun _ => ⟨_, s.pick [2] 4 rfl, kS96890⟩, RD.fold ?_⟩
        refine RD.op (i := 4) rfl (by kernel_rfl) (by kernel_rfl) (OK.call' en36 (by kernel_rfl) (c36 (F := (.blk b87362 (.cells #[.bool true, .slice A93533 x93532.length c93535, .slice none 0 0, .slice none 0 0] 26 (0, 0))) :: (.blk b87359 (.cells #[.bool false, .slice none 0 0, .slice none 0 0, .slice none 0 0] 26 (0, 0))) :: (.sl (.slice A93533 x93532.length c93535) 41 2 x93532.length cl93536) :: F) x96144.2 24 b87350 A96155 c96156 hc96157 e96158 s hx96892) ?_)
        intro X96910 hX96911
        refine fun _ _ hJ => hJ X96910 ?_
        clear s
        intro I96912 A96913 c96914 A96917 c96918 w96908 s k96909 hc96915 e96916 hc96919 e96920
        refine hX96911 _ _ ?_
        replace e96154 := e96154.st k96909
        replace e96158 := e96158.st k96909
        replace rp93538 := rp93538.st k96909
        replace kk := kk.trans k96909
        replace kS96890 := kS96890.trans k96909
        refine ⟨fun _ => ⟨_, s.pick [2] 4 rfl, kS96890⟩, RD.fold ?_⟩
        refine RD.seg hT (by kernel_rfl) [5] [] [] [.agg #[.slice A96151 x96144.1.length c96152, .slice A96913 x96891.1.length c96914]] [] (by kernel_rfl) (fun _ _ => trivial) ⟨_, s.pick [2] 4 rfl, kS96890⟩ ?_
        refine RD.op (i := 6) rfl (by kernel_rfl) (by kernel_rfl) (OK.new hT (f := fun b => .slice (some ⟨b, 0, none⟩) 1 1) (cs := [.slice A96151 x96144.1.length c96152, .slice A96913 x96891.1.length c96914]) (e := 41) (c := .tt) s (by kernel_rfl) trivial ?_)
        clear s
        rintro w96921 b96922 s k96923 -
        replace e96154 := e96154.st k96923
        replace e96916 := e96916.st k96923
        replace e96920 := e96920.st k96923
        replace rp93538 := rp93538.st k96923
        replace kk := kk.trans k96923
        replace kS96890 := kS96890.trans k96923
        have rp96924 : RepL rp_T_api_Pair I96912 w96921 [.slice A96151 x96144.1.length c96152, .slice A96913 x96891.1.length c96914] ([(T_api_Pair.mk x96144.1 x96891.1)] : List T_api_Pair) := RepL.cons (c := [.slice A96151 x96144.1.length c96152, .slice A96913 x96891.1.length c96914]) (d := []) (⟨[.slice A96151 x96144.1.length c96152], [.slice A96913 x96891.1.length c96914], rfl, ⟨_, _, rfl, hc96153.1, hc96153.2, e96154⟩, ⟨_, _, rfl, hc96915.1, hc96915.2, e96916⟩⟩) (RepL.nil)
        replace s : St w0 M I96912 ((.sl (.slice (some ⟨b96922, 0, none⟩) 1 1) 41 2 1 [.slice A96151 x96144.1.length c96152, .slice A96913 x96891.1.length c96914]) :: (.blk b87350 (.cells #[.slice A96917 x96891.2.b.length c96918, .int .i64 x96891.2.err, .bool x96891.2.made] 72 (0, 0))) :: (.blk b87362 (.cells #[.bool true, .slice A93533 x93532.length c93535, .slice none 0 0, .slice none 0 0] 26 (0, 0))) :: (.blk b87359 (.cells #[.bool false, .slice none 0 0, .slice none 0 0, .slice none 0 0] 26 (0, 0))) :: (.sl (.slice A93533 x93532.length c93535) 41 2 x93532.length cl93536) :: F) w96921 := s.blkSl (i := 0) (n := 1) (c := 1) (size := 2) rfl rfl (Nat.le_refl _) (by decide)
        refine ⟨fun _ => ⟨_, s.pick [3] 5 rfl, kS96890⟩, RD.fold ?_⟩
        have hs96927 := St.src s (i := 0) rfl rfl rp96924
        have rq96928 := rp96924
        obtain ⟨x96929, hx96930, hf⟩ := bindS hf
        refine RD.op (i := 7) rfl (by kernel_rfl) (by kernel_rfl) (OK.app hT (r := rp_T_api_Pair) (i := 4) (t := 22) (e := 41) (size := 2) (bytes := 48) (c := c93535) (n := x93532.length) (m := 1) s (by kernel_rfl) rfl rfl rfl rfl rfl (by decide) rfl rfl rfl rfl rp93538 hs96927 rq96928 (flat_iso (flat_pair flat_slice flat_slice)) rfl hx96930 ?_)
        clear s
        rintro A96931 c96932 cl96933 w96934 s k96935 rp96936
        replace e96154 := e96154.st k96935
        replace e96916 := e96916.st k96935
        replace e96920 := e96920.st k96935
        replace rp96924 := rp96924.st k96935
        replace rp93538 := rp93538.st k96935
        replace kk := kk.trans k96935
        replace kS96890 := kS96890.trans k96935
        refine ⟨fun _ => ⟨_, s.pick [3] 5 rfl, kS96890⟩, RD.fold ?_⟩
        refine RD.seg hT (by kernel_rfl) [8] [] [] [.pointer (some ⟨b87362, 1, none⟩)] [] (by kernel_rfl) (fun _ _ => trivial) ⟨_, s.pick [3] 5 rfl, kS96890⟩ ?_
        refine RD.op (i := 9) rfl (by kernel_rfl) (by kernel_rfl) (OK.store hT (i := 2) (b := b87362) (off := 1) (n := 1) (vs := [.slice A96931 x96929.length c96932]) (cs := [.bool true, (.slice A93533 x93532.length c93535), .slice none 0 0, .slice none 0 0]) (e := 26) s (by kernel_rfl) rfl rfl (flat_ok rfl) (Nat.le_of_ble_eq_true rfl) ?_)
        clear s
        rintro w96937 s k96938 -
        replace e96154 := e96154.st k96938
        replace e96916 := e96916.st k96938
        replace e96920 := e96920.st k96938
        replace rp96924 := rp96924.st k96938
        replace rp96936 := rp96936.st k96938
        replace kk := kk.trans k96938
        replace kS96890 := kS96890.trans k96938
        refine ⟨fun _ => ⟨_, s.pick [3] 5 rfl, kS96890⟩, RD.fold ?_⟩
        refine RD.done (by kernel_rfl) ?_
        refine WPK.seq ?_
        refine WPK.region ?_
        refine RW.seg hT 1 [] [] [.pointer (some ⟨b87350, 0, none⟩)] [] (by kernel_rfl) (trivial) ?_
        replace s := s.pick [1, 0, 2, 3, 4] 5 rfl
        obtain ⟨x96939, hx96940, hf⟩ := bindS hf
        refine RW.op (by kernel_rfl) (OK.call' en20 (by kernel_rfl) (c20 (F := (.sl (.slice (some ⟨b96922, 0, none⟩) 1 1) 41 2 1 [.slice A96151 x96144.1.length c96152, .slice A96913 x96891.1.length c96914]) :: (.blk b87362 (.cells #[.bool true, .slice A96931 x96929.length c96932, .slice none 0 0, .slice none 0 0] 26 (0, 0))) :: (.blk b87359 (.cells #[.bool false, .slice none 0 0, .slice none 0 0, .slice none 0 0] 26 (0, 0))) :: (.sl (.slice A96931 x96929.length c96932) 41 2 x96929.length cl96933) :: F) x96891.2 b87350 A96917 c96918 hc96919 e96920 s hx96940) ?_)
        intro X96943 hX96944
        refine fun _ _ hJ => hJ X96943 ?_
        clear s
        intro I96945 w96941 s k96942
        refine hX96944 _ _ ?_
        replace e96154 := e96154.st k96942
        replace e96916 := e96916.st k96942
        replace e96920 := e96920.st k96942
        replace rp96924 := rp96924.st k96942
        replace rp96936 := rp96936.st k96942
        replace kk := kk.trans k96942
        refine RW.seg hT 1 [] [(23, .bool (decide (x96939 ≠ 0)))] [.bool (decide (x96939 ≠ 0))] [.veq (.bool (x96939 != 0)) (.bool (decide (x96939 ≠ 0)))] (by kernel_rfl) (ne_v) ?_
        refine RW.nil ?_
        by_cases h96946 : x96939 ≠ 0
        · have hf := iteT h96946 hf
          refine WPK.condT (Eq.trans (b := .bool (decide (x96939 ≠ 0))) (by kernel_rfl) (bo_t h96946)) ?_
          refine WPK.exit (blockQ.other rfl (blockQ.same ?_))
          replace s := s.pick [0, 2, 3, 4] 5 rfl
          exact fun X h => kc (by kernel_rfl) rfl (h I96945 x96891.2.b x96891.2.err x96891.2.made x96929 [.pointer (some ⟨b87350, 0, none⟩), (D93523.getD 0 undef), .slice A96151 x96144.1.length c96152, (D93523.getD 2 undef), (D93523.getD 3 undef), .int .u8 x92201.1, .int .u8 x93524, .bool (decide (x93524 < x92201.1)), .pointer (some ⟨b87350, 0, none⟩), .slice A96151 x96144.1.length c96152, .pointer (some ⟨b87362, 1, none⟩), (.slice A93533 x93532.length c93535), .slice A96151 x96144.1.length c96152, .pointer (some ⟨b87350, 0, none⟩), .slice A96913 x96891.1.length c96914, .agg #[.slice A96151 x96144.1.length c96152, .slice A96913 x96891.1.length c96914], .slice (some ⟨b96922, 0, none⟩) 1 1, .slice A96931 x96929.length c96932, .pointer (some ⟨b87362, 1, none⟩), .pointer (some ⟨b87350, 0, none⟩), .int .i64 x96939, .bool (decide (x96939 ≠ 0)), (D93523.getD 19 undef)] A96917 c96918 A96931 c96932 cl96933 _ hf s kk hc96919 e96920 rp96936)
        · have hf := iteF h96946 hf
          refine WPK.condF (Eq.trans (b := .bool (decide (x96939 ≠ 0))) (by kernel_rfl) (bo_f h96946)) ?_
          refine WPK.skip ?_
          refine WPK.region ?_
          refine RW.seg hT 2 [] [] [.int .u8 (IntKind.u8.wrap (x93524 + 1)), .int .u8 (IntKind.u8.wrap (x93524 + 1))] [] (by kernel_rfl) (trivial) ?_
          refine RW.nil ?_
          subst hrec95276
          replace s := s.pick [0, 2, 3, 4] 5 rfl
          exact ⟨n95275, Nat.le_refl _, fun X h => kc (by kernel_rfl) rfl (h I96945 (IntKind.u8.wrap (x93524 + 1)) x96891.2.b x96891.2.err x96891.2.made x96929 [(D93523.getD 0 undef), .slice A96151 x96144.1.length c96152, (D93523.getD 2 undef), (D93523.getD 3 undef), .bool (decide (x93524 < x92201.1)), .pointer (some ⟨b87350, 0, none⟩), .slice A96151 x96144.1.length c96152, .pointer (some ⟨b87362, 1, none⟩), (.slice A93533 x93532.length c93535), .slice A96151 x96144.1.length c96152, .pointer (some ⟨b87350, 0, none⟩), .slice A96913 x96891.1.length c96914, .agg #[.slice A96151 x96144.1.length c96152, .slice A96913 x96891.1.length c96914], .slice (some ⟨b96922, 0, none⟩) 1 1, .slice A96931 x96929.length c96932, .pointer (some ⟨b87362, 1, none⟩), .pointer (some ⟨b87350, 0, none⟩), .int .i64 x96939, .bool (decide (x96939 ≠ 0)), .int .u8 (IntKind.u8.wrap (x93524 + 1))] A96917 c96918 A96931 c96932 cl96933 _ hf s kk hc96919 e96920 rp96936)⟩
      · refine RWay.op rfl (by kernel_rfl) (OK.call' en36 (by kernel_rfl) (c36 (F := (.blk b87362 (.cells #[.bool true, .slice A93533 x93532.length c93535, .slice none 0 0, .slice none 0 0] 26 (0, 0))) :: (.blk b87359 (.cells #[.bool false, .slice none 0 0, .slice none 0 0, .slice none 0 0] 26 (0, 0))) :: (.sl (.slice A93533 x93532.length c93535) 41 2 x93532.length cl93536) :: F) x96144.2 24 b87350 A96155 c96156 hc96157 e96158 s hx96892) ?_)
        intro X96951 hX96952
        refine fun _ _ hJ => hJ X96951 ?_
        clear s
        intro I96953 A96954 c96955 A96958 c96959 w96949 s k96950 hc96956 e96957 hc96960 e96961
        refine hX96952 _ _ ?_
        replace e96154 := e96154.st k96950
        replace e96158 := e96158.st k96950
        replace rp93538 := rp93538.st k96950
        replace kk := kk.trans k96950
        replace kS96890 := kS96890.trans k96950
        refine ⟨fun _ => ⟨_, s.pick [2] 4 rfl, kS96890⟩, RD.fold ?_⟩
        refine RD.seg hT (by kernel_rfl) [5] [] [] [.agg #[.slice A96151 x96144.1.length c96152, .slice A96954 x96891.1.length c96955]] [] (by kernel_rfl) (fun _ _ => trivial) ⟨_, s.pick [2] 4 rfl, kS96890⟩ ?_
        refine RD.ways [1, 6] (by kernel_rfl) (List.forall_mem_cons.2 ⟨?_, List.forall_mem_cons.2 ⟨?_, fun _ h => nomatch h⟩⟩)
        · refine RWay.op rfl (by kernel_rfl) (OK.pure hT (ld := (.slice A93533 x93532.length c93535)) (v := .slice A93533 x93532.length c93535) (c := .cell ⟨b87362, 1, none⟩ (.slice A93533 x93532.length c93535)) (by kernel_rfl) (s.cell (i := 1) (off := 1) rfl rfl) ?_)
          refine ⟨fun _ => ⟨_, s.pick [2] 4 rfl, kS96890⟩, RD.fold ?_⟩
          refine RD.op (i := 6) rfl (by kernel_rfl) (by kernel_rfl) (OK.new hT (f := fun b => .slice (some ⟨b, 0, none⟩) 1 1) (cs := [.slice A96151 x96144.1.length c96152, .slice A96954 x96891.1.length c96955]) (e := 41) (c := .tt) s (by kernel_rfl) trivial ?_)
          clear s
          rintro w96962 b96963 s k96964 -
          replace e96154 := e96154.st k96964
          replace e96957 := e96957.st k96964
          replace e96961 := e96961.st k96964
          replace rp93538 := rp93538.st k96964
          replace kk := kk.trans k96964
          replace kS96890 := kS96890.trans k96964
          have rp96965 : RepL rp_T_api_Pair I96953 w96962 [.slice A96151 x96144.1.length c96152, .slice A96954 x96891.1.length c96955] ([(T_api_Pair.mk x96144.1 x96891.1)] : List T_api_Pair) := RepL.cons (c := [.slice A96151 x96144.1.length c96152, .slice A96954 x96891.1.length c96955]) (d := []) (⟨[.slice A96151 x96144.1.length c96152], [.slice A96954 x96891.1.length c96955], rfl, ⟨_, _, rfl, hc96153.1, hc96153.2, e96154⟩, ⟨_, _, rfl, hc96956.1, hc96956.2, e96957⟩⟩) (RepL.nil)
          replace s : St w0 M I96953 ((.sl (.slice (some ⟨b96963, 0, none⟩) 1 1) 41 2 1 [.slice A96151 x96144.1.length c96152, .slice A96954 x96891.1.length c96955]) :: (.blk b87350 (.cells #[.slice A96958 x96891.2.b.length c96959, .int .i64 x96891.2.err, .bool x96891.2.made] 72 (0, 0))) :: (.blk b87362 (.cells #[.bool true, .slice A93533 x93532.length c93535, .slice none 0 0, .slice none 0 0] 26 (0, 0))) :: (.blk b87359 (.cells #[.bool false, .slice none 0 0, .slice none 0 0, .slice none 0 0] 26 (0, 0))) :: (.sl (.slice A93533 x93532.length c93535) 41 2 x93532.length cl93536) :: F) w96962 := s.blkSl (i := 0) (n := 1) (c := 1) (size := 2) rfl rfl (Nat.le_refl _) (by decide)
          refine ⟨fun _ => ⟨_, s.pick [3] 5 rfl, kS96890⟩, RD.fold ?_⟩
          have hs96968 := St.src s (i := 0) rfl rfl rp96965
          have rq96969 := rp96965
          obtain ⟨x96970, hx96971, hf⟩ := bindS hf
          refine RD.op (i := 7) rfl (by kernel_rfl) (by kernel_rfl) (OK.app hT (r := rp_T_api_Pair) (i := 4) (t := 22) (e := 41) (size := 2) (bytes := 48) (c := c93535) (n := x93532.length) (m := 1) s (by kernel_rfl) rfl rfl rfl rfl rfl (by decide) rfl rfl rfl rfl rp93538 hs96968 rq96969 (flat_iso (flat_pair flat_slice flat_slice)) rfl hx96971 ?_)
          clear s
          rintro A96972 c96973 cl96974 w96975 s k96976 rp96977
          replace e96154 := e96154.st k96976
          replace e96957 := e96957.st k96976
          replace e96961 := e96961.st k96976
          replace rp96965 := rp96965.st k96976
          replace rp93538 := rp93538.st k96976
          replace kk := kk.trans k96976
          replace kS96890 := kS96890.trans k96976
          refine ⟨fun _ => ⟨_, s.pick [3] 5 rfl, kS96890⟩, RD.fold ?_⟩
          refine RD.seg hT (by kernel_rfl) [8] [] [] [.pointer (some ⟨b87362, 1, none⟩)] [] (by kernel_rfl) (fun _ _ => trivial) ⟨_, s.pick [3] 5 rfl, kS96890⟩ ?_
          refine RD.op (i := 9) rfl (by kernel_rfl) (by kernel_rfl) (OK.store hT (i := 2) (b := b87362) (off := 1) (n := 1) (vs := [.slice A96972 x96970.length c96973]) (cs := [.bool true, (.slice A93533 x93532.length c93535), .slice none 0 0, .slice none 0 0]) (e := 26) s (by kernel_rfl) rfl rfl (flat_ok rfl) (Nat.le_of_ble_eq_true rfl) ?_)
          clear s
          rintro w96978 s k96979 -
          replace e96154 := e96154.st k96979
          replace e96957 := e96957.st k96979
          replace e96961 := e96961.st k96979
          replace rp96965 := rp96965.st k96979
          replace rp96977 := rp96977.st k96979
          replace kk := kk.trans k96979
          replace kS96890 := kS96890.trans k96979
          refine ⟨fun _ => ⟨_, s.pick [3] 5 rfl, kS96890⟩, RD.fold ?_⟩
          refine RD.done (by kernel_rfl) ?_
          refine WPK.seq ?_
          refine WPK.region ?_
          refine RW.seg hT 1 [] [] [.pointer (some ⟨b87350, 0, none⟩)] [] (by kernel_rfl) (trivial) ?_
          replace s := s.pick [1, 0, 2, 3, 4] 5 rfl
          obtain ⟨x96980, hx96981, hf⟩ := bindS hf
          refine RW.op (by kernel_rfl) (OK.call' en20 (by kernel_rfl) (c20 (F := (.sl (.slice (some ⟨b96963, 0, none⟩) 1 1) 41 2 1 [.slice A96151 x96144.1.length c96152, .slice A96954 x96891.1.length c96955]) :: (.blk b87362 (.cells #[.bool true, .slice A96972 x96970.length c96973, .slice none 0 0, .slice none 0 0] 26 (0, 0))) :: (.blk b87359 (.cells #[.bool false, .slice none 0 0, .slice none 0 0, .slice none 0 0] 26 (0, 0))) :: (.sl (.slice A96972 x96970.length c96973) 41 2 x96970.length cl96974) :: F) x96891.2 b87350 A96958 c96959 hc96960 e96961 s hx96981) ?_)
          intro X96984 hX96985
          refine fun _ _ hJ => hJ X96984 ?_
          clear s
          intro I96986 w96982 s k96983
          refine hX96985 _ _ ?_
          replace e96154 := e96154.st k96983
          replace e96957 := e96957.st k96983
          replace e96961 := e96961.st k96983
          replace rp96965 := rp96965.st k96983
          replace rp96977 := rp96977.st k96983
          replace kk := kk.trans k96983
          refine RW.seg hT 1 [] [(23, .bool (decide (x96980 ≠ 0)))] [.bool (decide (x96980 ≠ 0))] [.veq (.bool (x96980 != 0)) (.bool (decide (x96980 ≠ 0)))] (by kernel_rfl) (ne_v) ?_
          refine RW.nil ?_
          by_cases h96987 : x96980 ≠ 0
          · have hf := iteT h96987 hf
            refine WPK.condT (Eq.trans (b := .bool (decide (x96980 ≠ 0))) (by kernel_rfl) (bo_t h96987)) ?_
            refine WPK.exit (blockQ.other rfl (blockQ.same ?_))
            replace s := s.pick [0, 2, 3, 4] 5 rfl
            exact fun X h => kc (by kernel_rfl) rfl (h I96986 x96891.2.b x96891.2.err x96891.2.made x96970 [.pointer (some ⟨b87350, 0, none⟩), (D93523.getD 0 undef), .slice A96151 x96144.1.length c96152, (D93523.getD 2 undef), (D93523.getD 3 undef), .int .u8 x92201.1, .int .u8 x93524, .bool (decide (x93524 < x92201.1)), .pointer (some ⟨b87350, 0, none⟩), .slice A96151 x96144.1.length c96152, .pointer (some ⟨b87362, 1, none⟩), (.slice A93533 x93532.length c93535), .slice A96151 x96144.1.length c96152, .pointer (some ⟨b87350, 0, none⟩), .slice A96954 x96891.1.length c96955, .agg #[.slice A96151 x96144.1.length c96152, .slice A96954 x96891.1.length c96955], .slice (some ⟨b96963, 0, none⟩) 1 1, .slice A96972 x96970.length c96973, .pointer (some ⟨b87362, 1, none⟩), .pointer (some ⟨b87350, 0, none⟩), .int .i64 x96980, .bool (decide (x96980 ≠ 0)), (D93523.getD 19 undef)] A96958 c96959 A96972 c96973 cl96974 _ hf s kk hc96960 e96961 rp96977)
          · have hf := iteF h96987 hf
            refine WPK.condF (Eq.trans (b := .bool (decide (x96980 ≠ 0))) (by kernel_rfl) (bo_f h96987)) ?_
            refine WPK.skip ?_
            refine WPK.region ?_
            refine RW.seg hT 2 [] [] [.int .u8 (IntKind.u8.wrap (x93524 + 1)), .int .u8 (IntKind.u8.wrap (x93524 + 1))] [] (by kernel_rfl) (trivial) ?_
            refine RW.nil ?_
            subst hrec95276
            replace s := s.pick [0, 2, 3, 4] 5 rfl
            exact ⟨n95275, Nat.le_refl _, fun X h => kc (by kernel_rfl) rfl (h I96986 (IntKind.u8.wrap (x93524 + 1)) x96891.2.b x96891.2.err x96891.2.made x96970 [(D93523.getD 0 undef), .slice A96151 x96144.1.length c96152, (D93523.getD 2 undef), (D93523.getD 3 undef), .bool (decide (x93524 < x92201.1)), .pointer (some ⟨b87350, 0, none⟩), .slice A96151 x96144.1.length c96152, .pointer (some ⟨b87362, 1, none⟩), (.slice A93533 x93532.length c93535), .slice A96151 x96144.1.length c96152, .pointer (some ⟨b87350, 0, none⟩), .slice A96954 x96891.1.length c96955, .agg #[.slice A96151 x96144.1.length c96152, .slice A96954 x96891.1.length c96955], .slice (some ⟨b96963, 0, none⟩) 1 1, .slice A96972 x96970.length c96973, .pointer (some ⟨b87362, 1, none⟩), .pointer (some ⟨b87350, 0, none⟩), .int .i64 x96980, .bool (decide (x96980 ≠ 0)), .int .u8 (IntKind.u8.wrap (x93524 + 1))] A96958 c96959 A96972 c96973 cl96974 _ hf s kk hc96960 e96961 rp96977)⟩
        · refine RWay.op rfl (by kernel_rfl) (OK.new hT (f := fun b => .slice (some ⟨b, 0, none⟩) 1 1) (cs := [.slice A96151 x96144.1.length c96152, .slice A96954 x96891.1.length c96955]) (e := 41) (c := .tt) s (by kernel_rfl) trivial ?_)
          clear s
          rintro w96962 b96963 s k96964 -
          replace e96154 := e96154.st k96964
          replace e96957 := e96957.st k96964
          replace e96961 := e96961.st k96964
          replace rp93538 := rp93538.st k96964
          replace kk := kk.trans k96964
          replace kS96890 := kS96890.trans k96964
          have rp96965 : RepL rp_T_api_Pair I96953 w96962 [.slice A96151 x96144.1.length c96152, .slice A96954 x96891.1.length c96955] ([(T_api_Pair.mk x96144.1 x96891.1)] : List T_api_Pair) := RepL.cons (c := [.slice A96151 x96144.1.length c96152, .slice A96954 x96891.1.length c96955]) (d := []) (⟨[.slice A96151 x96144.1.length c96152], [.slice A96954 x96891.1.length c96955], rfl, ⟨_, _, rfl, hc96153.1, hc96153.2, e96154⟩, ⟨_, _, rfl, hc96956.1, hc96956.2, e96957⟩⟩) (RepL.nil)
          replace s : St w0 M I96953 ((.sl (.slice (some ⟨b96963, 0, none⟩) 1 1) 41 2 1 [.slice A96151 x96144.1.length c96152, .slice A96954 x96891.1.length c96955]) :: (.blk b87350 (.cells #[.slice A96958 x96891.2.b.length c96959, .int .i64 x96891.2.err, .bool x96891.2.made] 72 (0, 0))) :: (.blk b87362 (.cells #[.bool true, .slice A93533 x93532.length c93535, .slice none 0 0, .slice none 0 0] 26 (0, 0))) :: (.blk b87359 (.cells #[.bool false, .slice none 0 0, .slice none 0 0, .slice none 0 0] 26 (0, 0))) :: (.sl (.slice A93533 x93532.length c93535) 41 2 x93532.length cl93536) :: F) w96962 := s.blkSl (i := 0) (n := 1) (c := 1) (size := 2) rfl rfl (Nat.le_refl _) (by decide)
          refine ⟨fun _ => ⟨_, s.pick [3] 5 rfl, kS96890⟩, RD.fold ?_⟩
          refine RD.op (i := 1) rfl (by kernel_rfl) (by kernel_rfl) (OK.pure hT (ld := (.slice A93533 x93532.length c93535)) (v := .slice A93533 x93532.length c93535) (c := .cell ⟨b87362, 1, none⟩ (.slice A93533 x93532.length c93535)) (by kernel_rfl) (s.cell (i := 2) (off := 1) rfl rfl) ?_)
          refine ⟨fun _ => ⟨_, s.pick [3] 5 rfl, kS96890⟩, RD.fold ?_⟩
          have hs96989 := St.src s (i := 0) rfl rfl rp96965
          have rq96990 := rp96965
          obtain ⟨x96991, hx96992, hf⟩ := bindS hf
          refine RD.op (i := 7) rfl (by kernel_rfl) (by kernel_rfl) (OK.app hT (r := rp_T_api_Pair) (i := 4) (t := 22) (e := 41) (size := 2) (bytes := 48) (c := c93535) (n := x93532.length) (m := 1) s (by kernel_rfl) rfl rfl rfl rfl rfl (by decide) rfl rfl rfl rfl rp93538 hs96989 rq96990 (flat_iso (flat_pair flat_slice flat_slice)) rfl hx96992 ?_)
          clear s
          rintro A96993 c96994 cl96995 w96996 s k96997 rp96998
          replace e96154 := e96154.st k96997
          replace e96957 := e96957.st k96997
          replace e96961 := e96961.st k96997
          replace rp96965 := rp96965.st k96997
          replace rp93538 := rp93538.st k96997
          replace kk := kk.trans k96997
          replace kS96890 := kS96890.trans k96997
          refine ⟨fun _ => ⟨_, s.pick [3] 5 rfl, kS96890⟩, RD.fold ?_⟩
          refine RD.seg hT (by kernel_rfl) [8] [] [] [.pointer (some ⟨b87362, 1, none⟩)] [] (by kernel_rfl) (fun _ _ => trivial) ⟨_, s.pick [3] 5 rfl, kS96890⟩ ?_
          refine RD.op (i := 9) rfl (by kernel_rfl) (by kernel_rfl) (OK.store hT (i := 2) (b := b87362) (off := 1) (n := 1) (vs := [.slice A96993 x96991.length c96994]) (cs := [.bool true, (.slice A93533 x93532.length c93535), .slice none 0 0, .slice none 0 0]) (e := 26) s (by kernel_rfl) rfl rfl (flat_ok rfl) (Nat.le_of_ble_eq_true rfl) ?_)
          clear s
          rintro w96999 s k97000 -
          replace e96154 := e96154.st k97000
          replace e96957 := e96957.st k97000
          replace e96961 := e96961.st k97000
          replace rp96965 := rp96965.st k97000
          replace rp96998 := rp96998.st k97000
          replace kk := kk.trans k97000
          replace kS96890 := kS96890.trans k97000
          refine ⟨fun _ => ⟨_, s.pick [3] 5 rfl, kS96890⟩, RD.fold ?_⟩
          refine RD.done (by kernel_rfl) ?_
          refine WPK.seq ?_
          refine WPK.region ?_
          refine RW.seg hT 1 [] [] [.pointer (some ⟨b87350, 0, none⟩)] [] (by kernel_rfl) (trivial) ?_
          replace s := s.pick [1, 0, 2, 3, 4] 5 rfl
          obtain ⟨x97001, hx97002, hf⟩ := bindS hf
          refine RW.op (by kernel_rfl) (OK.call' en20 (by kernel_rfl) (c20 (F := (.sl (.slice (some ⟨b96963, 0, none⟩) 1 1) 41 2 1 [.slice A96151 x96144.1.length c96152, .slice A96954 x96891.1.length c96955]) :: (.blk b87362 (.cells #[.bool true, .slice A96993 x96991.length c96994, .slice none 0 0, .slice none 0 0] 26 (0, 0))) :: (.blk b87359 (.cells #[.bool false, .slice none 0 0, .slice none 0 0, .slice none 0 0] 26 (0, 0))) :: (.sl (.slice A96993 x96991.length c96994) 41 2 x96991.length cl96995) :: F) x96891.2 b87350 A96958 c96959 hc96960 e96961 s hx97002) ?_)
          intro X97005 hX97006
          refine fun _ _ hJ => hJ X97005 ?_
          clear s
          intro I97007 w97003 s k97004
          refine hX97006 _ _ ?_
          replace e96154 := e96154.st k97004
          replace e96957 := e96957.st k97004
          replace e96961 := e96961.st k97004
          replace rp96965 := rp96965.st k97004
          replace rp96998 := rp96998.st k97004
          replace kk := kk.trans k97004
          refine RW.seg hT 1 [] [(23, .bool (decide (x97001 ≠ 0)))] [.bool (decide (x97001 ≠ 0))] [.veq (.bool (x97001 != 0)) (.bool (decide (x97001 ≠ 0)))] (by kernel_rfl) (ne_v) ?_
          refine RW.nil ?_
          by_cases h97008 : x97001 ≠ 0
          · have hf := iteT h97008 hf
            refine WPK.condT (Eq.trans (b := .bool (decide (x97001 ≠ 0))) (by kernel_rfl) (bo_t h97008)) ?_
            refine WPK.exit (blockQ.other rfl (blockQ.same ?_))
            replace s := s.pick [0, 2, 3, 4] 5 rfl
            exact fun X h => kc (by kernel_rfl) rfl (h I97007 x96891.2.b x96891.2.err x96891.2.made x96991 [.pointer (some ⟨b87350, 0, none⟩), (D93523.getD 0 undef), .slice A96151 x96144.1.length c96152, (D93523.getD 2 undef), (D93523.getD 3 undef), .int .u8 x92201.1, .int .u8 x93524, .bool (decide (x93524 < x92201.1)), .pointer (some ⟨b87350, 0, none⟩), .slice A96151 x96144.1.length c96152, .pointer (some ⟨b87362, 1, none⟩), (.slice A93533 x93532.length c93535), .slice A96151 x96144.1.length c96152, .pointer (some ⟨b87350, 0, none⟩), .slice A96954 x96891.1.length c96955, .agg #[.slice A96151 x96144.1.length c96152, .slice A96954 x96891.1.length c96955], .slice (some ⟨b96963, 0, none⟩) 1 1, .slice A96993 x96991.length c96994, .pointer (some ⟨b87362, 1, none⟩), .pointer (some ⟨b87350, 0, none⟩), .int .i64 x97001, .bool (decide (x97001 ≠ 0)), (D93523.getD 19 undef)] A96958 c96959 A96993 c96994 cl96995 _ hf s kk hc96960 e96961 rp96998)
          · have hf := iteF h97008 hf
            refine WPK.condF (Eq.trans (b := .bool (decide (x97001 ≠ 0))) (by kernel_rfl) (bo_f h97008)) ?_
            refine WPK.skip ?_
            refine WPK.region ?_
            refine RW.seg hT 2 [] [] [.int .u8 (IntKind.u8.wrap (x93524 + 1)), .int .u8 (IntKind.u8.wrap (x93524 + 1))] [] (by kernel_rfl) (trivial) ?_
            refine RW.nil ?_
            subst hrec95276
            replace s := s.pick [0, 2, 3, 4] 5 rfl
            exact ⟨n95275, Nat.le_refl _, fun X h => kc (by kernel_rfl) rfl (h I97007 (IntKind.u8.wrap (x93524 + 1)) x96891.2.b x96891.2.err x96891.2.made x96991 [(D93523.getD 0 undef), .slice A96151 x96144.1.length c96152, (D93523.getD 2 undef), (D93523.getD 3 undef), .bool (decide (x93524 < x92201.1)), .pointer (some ⟨b87350, 0, none⟩), .slice A96151 x96144.1.length c96152, .pointer (some ⟨b87362, 1, none⟩), (.slice A93533 x93532.length c93535), .slice A96151 x96144.1.length c96152, .pointer (some ⟨b87350, 0, none⟩), .slice A96954 x96891.1.length c96955, .agg #[.slice A96151 x96144.1.length c96152, .slice A96954 x96891.1.length c96955], .slice (some ⟨b96963, 0, none⟩) 1 1, .slice A96993 x96991.length c96994, .pointer (some ⟨b87362, 1, none⟩), .pointer (some ⟨b87350, 0, none⟩), .int .i64 x97001, .bool (decide (x97001 ≠ 0)), .int .u8 (IntKind.u8.wrap (x93524 + 1))] A96958 c96959 A96993 c96994 cl96995 _ hf s kk hc96960 e96961 rp96998)⟩
    · have hf := iteF h95278 hf
      refine WPK.condF (Eq.trans (b := .bool (decide (x93524 < x92201.1))) (by kernel_rfl) (bo_f h95278)) ?_
      refine WPK.exit (blockQ.same ?_)
      exact fun X h => kc (by kernel_rfl) rfl (h I93541 x93525 x93530 x93531 x93532 [.pointer (some ⟨b87350, 0, none⟩), (D93523.getD 0 undef), (D93523.getD 1 undef), (D93523.getD 2 undef), (D93523.getD 3 undef), .int .u8 x92201.1, .int .u8 x93524, .bool (decide (x93524 < x92201.1)), (D93523.getD 5 undef), (D93523.getD 6 undef), (D93523.getD 7 undef), (D93523.getD 8 undef), (D93523.getD 9 undef), (D93523.getD 10 undef), (D93523.getD 11 undef), (D93523.getD 12 undef), (D93523.getD 13 undef), (D93523.getD 14 undef), (D93523.getD 15 undef), (D93523.getD 16 undef), (D93523.getD 17 undef), (D93523.getD 18 undef), (D93523.getD 19 undef)] A93526 c93527 A93533 c93535 cl93536 _ hf s kk hc93528 e93529 rp93538)
theorem c50_1 {w0 w : World} {M I : Nat → Prop} {F : List It} (p0 : T_pack_Reader) (p1 : Int) (b97212 : Nat) (A97213 : Option Addr) (c97214 : Nat) (hc97215 : (p0.b.length ≤ c97214 ∧ c97214 ≤ 9223372036854775807)) (e97216 : Elems (Rp.int .u8) I w A97213 p0.b) (s : St w0 M I ((.blk b97212 (.cells #[.slice A97213 p0.b.length c97214, .int .i64 p0.err, .bool p0.made] 72 (0, 0))) :: F) w) {r : (Int × T_pack_Reader)} (hf : g50_1 p0 p1 = some r) :
    Ret Tryd.prog 50 [.pointer (some ⟨b97212, 0, none⟩), .int .i64 p1] w fun v wz => ∀ X : Value → World → Prop, (∀ (I' : Nat → Prop) (A97325 : Option Addr) (c97326 : Nat) (w' : World), St w0 M I' ((.blk b97212 (.cells #[.slice A97325 r.2.b.length c97326, .int .i64 r.2.err, .bool r.2.made] 72 (0, 0))) :: F) w' → Kp I w I' w' → (r.2.b.length ≤ c97326 ∧ c97326 ≤ 9223372036854775807) → Elems (Rp.int .u8) I' w' A97325 r.2.b → X (.int .u64 r.1) w') → X v wz := by
  have kk : Kp I w I w := Kp.refl
  unfold g50_1 at hf
  refine Ret.of Tryd.func50 rfl ?_
  refine WPK.seq ?_
  refine WPK.region ?_
  refine RW.seg hT 1 [] [] [.int .u64 0] [] (by kernel_rfl) (trivial) ?_
  refine RW.nil ?_
  refine WPK.seq ?_
  refine WPK.region ?_
  refine RW.seg hT 1 [] [] [.int .u64 0] [] (by kernel_rfl) (trivial) ?_
  refine RW.nil ?_
  refine WPK.seq ?_
  refine WPK.seq ?_
  refine WPK.region ?_
  refine RW.seg hT 2 [] [] [.pointer (some ⟨b97212, 0, none⟩), .int .i64 p1] [] (by kernel_rfl) (trivial) ?_
  obtain ⟨x97271, hx97272, hf⟩ := bindS hf
  refine RW.op (by kernel_rfl) (OK.call' en53 (by kernel_rfl) (c53_1 (F := F) p0 p1 b97212 A97213 c97214 hc97215 e97216 s hx97272) ?_)
  intro X97275 hX97276
  refine fun _ _ hJ => hJ X97275 ?_
  clear s
  intro I97277 A97278 c97279 A97282 c97283 w97273 s k97274 hc97280 e97281 hc97284 e97285
  refine hX97276 _ _ ?_
  replace e97216 := e97216.st k97274
  replace kk := kk.trans k97274
  refine RW.seg hT 2 [] [] [.int .i64 (x97271.1.length : Int), .int .i64 0] [] (by kernel_rfl) (trivial) ?_
  refine RW.nil ?_
  refine WPK.block ?_
  refine WPK.loop' (J := fun n97311 E ds wz => ∀ X : Kont, (∀ (x97298 : Int) (x97299 : Int) (D97297 : List Value), g50_1_l1 x97271 n97311 x97298 x97299 = some r → X [(D97297.getD 0 undef), (D97297.getD 1 undef), (D97297.getD 2 undef), (D97297.getD 3 undef), .int .u64 0, .int .u64 x97298, (D97297.getD 4 undef), (D97297.getD 5 undef), (D97297.getD 6 undef), (D97297.getD 7 undef), .slice A97278 x97271.1.length c97279, .int .i64 (x97271.1.length : Int), .int .i64 x97299, (D97297.getD 8 undef), (D97297.getD 9 undef), (D97297.getD 10 undef), (D97297.getD 11 undef), (D97297.getD 12 undef), (D97297.getD 13 undef), (D97297.getD 14 undef), (D97297.getD 15 undef), (D97297.getD 16 undef), undef] [] w97273) → X E ds wz) FUEL (fun X h => kc (by kernel_rfl) rfl (h 0 0 [.pointer (some ⟨b97212, 0, none⟩), .int .i64 p1, undef, undef, undef, undef, .pointer (some ⟨b97212, 0, none⟩), .int .i64 p1, undef, undef, undef, undef, undef, undef, undef, undef, undef] hf)) (fun _ _ _ hJ => hJ (fun _ _ _ => False) (by intro x97298 x97299 D97297 hf; exact noneS hf)) ?_
  intro X97323 hX97324
  refine fun n97311 _ _ _ hJ => hJ (X97323 n97311) ?_
  intro x97298 x97299 D97297 hf
  refine hX97324 _ _ _ _ ?_
  replace hf : g50_1_l1B x97271 (g50_1_l1 x97271 n97311) x97298 x97299 = some r := hf
  generalize hrec97312 : g50_1_l1 x97271 n97311 = rec97310 at hf
  unfold g50_1_l1B at hf
  refine WPK.seq ?_
  refine WPK.region ?_
  refine RW.seg hT 1 [] [] [.bool (decide (x97299 < (x97271.1.length : Int)))] [] (by kernel_rfl) (trivial) ?_
  refine RW.nil ?_
  refine WPK.seq ?_
  by_cases h97314 : x97299 < (x97271.1.length : Int)
  · have hf := iteT h97314 hf
    refine WPK.condT (Eq.trans (b := .bool (decide (x97299 < (x97271.1.length : Int)))) (by kernel_rfl) (bo_t h97314)) ?_
    refine WPK.skip ?_
    refine WPK.seq ?_
    refine WPK.block ?_
    refine WPK.seq ?_
    refine WPK.region ?_
    obtain ⟨x97315, hx97316, hf⟩ := bindS hf
    obtain ⟨h97317, hx97316⟩ := getS hx97316
    obtain ⟨b97318, o97319, rfl⟩ := Elems.opn e97281 hx97316
    obtain ⟨cs97320, hr97321, ha97322⟩ := Elems.get e97281 hx97316
    obtain rfl : cs97320 = [.int .u8 x97315] := hr97321
    refine RW.seg hT 3 [.int .u8 x97315] [] [.pointer (some ⟨b97318, o97319 + x97299.toNat * 1, none⟩), .int .u8 x97315, .int .u8 x97315] [.idx x97299 x97271.1.length, .cell ⟨b97318, o97319 + x97299.toNat * 1, none⟩ (.int .u8 x97315)] (by kernel_rfl) (⟨h97317, ha97322 0 _ rfl⟩) ?_
    refine RW.nil ?_
    refine WPK.region ?_
    refine RW.seg hT 6 [undef] [] [.int .u64 x97298, .int .u64 (shlI .u64 x97298 8), .int .u8 x97315, .int .u64 (IntKind.u64.wrap x97315), .int .u64 (orI .u64 (shlI .u64 x97298 8) (IntKind.u64.wrap x97315)), .int .u64 (orI .u64 (shlI .u64 x97298 8) (IntKind.u64.wrap x97315))] [.nn 8] (by kernel_rfl) ((show (0 : Int) ≤ 8 by decide)) ?_
    refine RW.nil ?_
    refine WPK.region ?_
    refine RW.seg hT 2 [] [] [.int .i64 (IntKind.i64.wrap (x97299 + 1)), .int .i64 (IntKind.i64.wrap (x97299 + 1))] [] (by kernel_rfl) (trivial) ?_
    refine RW.nil ?_
    subst hrec97312
    exact ⟨n97311, Nat.le_refl _, fun X h => kc (by kernel_rfl) rfl (h (orI .u64 (shlI .u64 x97298 8) (IntKind.u64.wrap x97315)) (IntKind.i64.wrap (x97299 + 1)) [(D97297.getD 0 undef), (D97297.getD 1 undef), (D97297.getD 2 undef), (D97297.getD 3 undef), (D97297.getD 4 undef), .int .u8 x97315, (D97297.getD 6 undef), (D97297.getD 7 undef), .bool (decide (x97299 < (x97271.1.length : Int))), .pointer (some ⟨b97318, o97319 + x97299.toNat * 1, none⟩), .int .u8 x97315, .int .u64 x97298, .int .u64 (shlI .u64 x97298 8), .int .u8 x97315, .int .u64 (IntKind.u64.wrap x97315), .int .u64 (orI .u64 (shlI .u64 x97298 8) (IntKind.u64.wrap x97315)), .int .i64 (IntKind.i64.wrap (x97299 + 1))] hf)⟩
  · have hf := iteF h97314 hf
    refine WPK.condF (Eq.trans (b := .bool (decide (x97299 < (x97271.1.length : Int)))) (by kernel_rfl) (bo_f h97314)) ?_
    refine WPK.exit (blockQ.same ?_)
    refine WPK.seq ?_
    refine WPK.region ?_
    refine RW.seg hT 2 [] [] [.int .u64 x97298, .int .u64 x97298] [] (by kernel_rfl) (trivial) ?_
    refine RW.nil ?_
    refine WPK.ret (?_)
    obtain rfl := someS hf
    refine Fin.of (rs := [.tmp 4]) hT [] (.int .u64 x97298) [] rfl (by kernel_rfl) (trivial) ?_
    exact fun X h => vc rfl (h I97277 A97282 c97283 _ s kk hc97284 e97285)
theorem c37 {w0 w : World} {M I : Nat → Prop} {F : List It} (p0 : T_pack_Reader) (b97340 : Nat) (A97341 : Option Addr) (c97342 : Nat) (hc97343 : (p0.b.length ≤ c97342 ∧ c97342 ≤ 9223372036854775807)) (e97344 : Elems (Rp.int .u8) I w A97341 p0.b) (s : St w0 M I ((.blk b97340 (.cells #[.slice A97341 p0.b.length c97342, .int .i64 p0.err, .bool p0.made] 72 (0, 0))) :: F) w) {r : (Int × T_pack_Reader)} (hf : g37 p0 = some r) :
    Ret Tryd.prog 37 [.pointer (some ⟨b97340, 0, none⟩)] w fun v wz => ∀ X : Value → World → Prop, (∀ (I' : Nat → Prop) (A97356 : Option Addr) (c97357 : Nat) (w' : World), St w0 M I' ((.blk b97340 (.cells #[.slice A97356 r.2.b.length c97357, .int .i64 r.2.err, .bool r.2.made] 72 (0, 0))) :: F) w' → Kp I w I' w' → (r.2.b.length ≤ c97357 ∧ c97357 ≤ 9223372036854775807) → Elems (Rp.int .u8) I' w' A97356 r.2.b → X (.int .u16 r.1) w') → X v wz := by
  have kk : Kp I w I w := Kp.refl
  unfold g37 at hf
  refine Ret.of Tryd.func37 rfl ?_
  refine WPK.seq ?_
  refine WPK.region ?_
  refine RW.seg hT 1 [] [] [.int .u16 0] [] (by kernel_rfl) (trivial) ?_
  refine RW.nil ?_
  refine WPK.seq ?_
  refine WPK.region ?_
  refine RW.seg hT 1 [] [] [.pointer (some ⟨b97340, 0, none⟩)] [] (by kernel_rfl) (trivial) ?_
  obtain ⟨x97345, hx97346, hf⟩ := bindS hf
  refine RW.op (by kernel_rfl) (OK.call' en50 (by kernel_rfl) (c50_1 (F := F) p0 2 b97340 A97341 c97342 hc97343 e97344 s hx97346) ?_)
  intro X97349 hX97350
  refine fun _ _ hJ => hJ X97349 ?_
  clear s
  intro I97351 A97352 c97353 w97347 s k97348 hc97354 e97355
  refine hX97350 _ _ ?_
  replace e97344 := e97344.st k97348
  replace kk := kk.trans k97348
  refine RW.seg hT 2 [undef] [] [.int .u16 (IntKind.u16.wrap x97345.1), .int .u16 (IntKind.u16.wrap x97345.1)] [] (by kernel_rfl) (trivial) ?_
  refine RW.nil ?_
  refine WPK.ret (?_)
  obtain rfl := someS hf
  refine Fin.of (rs := [.tmp 2]) hT [] (.int .u16 (IntKind.u16.wrap x97345.1)) [] rfl (by kernel_rfl) (trivial) ?_
  exact fun X h => vc rfl (h I97351 A97352 c97353 _ s kk hc97354 e97355)
theorem c19 {w0 w : World} {M I : Nat → Prop} {F : List It} (p0 : T_pack_Reader) (b113063 : Nat) (A113064 : Option Addr) (n113065 : Nat) (c113066 : Nat) (cl113067 : List Value) (hn113068 : n113065 = p0.b.length) (rp113069 : RepL (Rp.int .u8) I w cl113067 p0.b) (s : St w0 M I ((.blk b113063 (.cells #[.slice A113064 n113065 c113066, .int .i64 p0.err, .bool p0.made] 72 (0, 0))) :: (.sl (.slice A113064 n113065 c113066) 5 1 n113065 cl113067) :: F) w) {r : (T_api_Node × T_pack_Reader)} (hf : g19 p0 = some r) :
    Ret Tryd.prog 19 [.pointer (some ⟨b113063, 0, none⟩)] w fun v wz => ∀ X : Value → World → Prop, (∀ (I' : Nat → Prop) (A128789 : Option Addr) (n128790 : Nat) (c128791 : Nat) (cl128792 : List Value) (A128796 : Option Addr) (n128797 : Nat) (c128798 : Nat) (cl128799 : List Value) (A128803 : Option Addr) (n128804 : Nat) (c128805 : Nat) (cl128806 : List Value) (A128810 : Option Addr) (c128811 : Nat) (w' : World), St w0 M I' ((.sl (.slice A128789 n128790 c128791) 41 2 n128790 cl128792) :: (.sl (.slice A128796 n128797 c128798) 27 1 n128797 cl128799) :: (.sl (.slice A128803 n128804 c128805) 3 1 n128804 cl128806) :: (.blk b113063 (.cells #[.slice A128810 r.2.b.length c128811, .int .i64 r.2.err, .bool r.2.made] 72 (0, 0))) :: F) w' → Kp I w I' w' → n128790 = r.1.Pairs.length → RepL rp_T_api_Pair I' w' cl128792 r.1.Pairs → n128797 = r.1.Keys.length → RepL (Rp.slice (Rp.int .u8)) I' w' cl128799 r.1.Keys → n128804 = r.1.Kids.length → RepL (Rp.int .i64) I' w' cl128806 r.1.Kids → (r.2.b.length ≤ c128811 ∧ c128811 ≤ 9223372036854775807) → Elems (Rp.int .u8) I' w' A128810 r.2.b → X (.agg #[.bool r.1.Leaf, .slice A128789 n128790 c128791, .slice A128796 n128797 c128798, .slice A128803 n128804 c128805]) w') → X v wz := by
  have kk : Kp I w I w := Kp.refl
  unfold g19 at hf
  refine Ret.of Tryd.func19 rfl ?_
  refine WPK.seq ?_
  refine WPK.region ?_
  refine RW.op (by kernel_rfl) (OK.new hT (f := fun b => .pointer (some ⟨b, 0, none⟩)) (cs := [.bool false, .slice none 0 0, .slice none 0 0, .slice none 0 0]) (e := 26) (c := .tt) s (by kernel_rfl) trivial ?_)
  clear s
  rintro w113071 b113072 s k113073 -
  replace rp113069 := rp113069.st k113073
  replace kk := kk.trans k113073
  refine RW.nil ?_
  refine WPK.seq ?_
  refine WPK.region ?_
  refine RW.seg hT 1 [] [] [.pointer (some ⟨b113063, 0, none⟩)] [] (by kernel_rfl) (trivial) ?_
  replace s := s.pick [1, 2, 0] 3 rfl
  obtain ⟨x113074, hx113075, hf⟩ := bindS hf
  refine RW.op (by kernel_rfl) (OK.call' en35 (by kernel_rfl) (c35 (F := (.blk b113072 (.cells #[.bool false, .slice none 0 0, .slice none 0 0, .slice none 0 0] 26 (0, 0))) :: F) p0 b113063 A113064 n113065 c113066 cl113067 hn113068 rp113069 s hx113075) ?_)
  intro X113078 hX113079
  refine fun _ _ hJ => hJ X113078 ?_
  clear s
  intro I113080 A113081 c113082 w113076 s k113077 hc113083 e113084
  refine hX113079 _ _ ?_
  replace rp113069 := rp113069.st k113077
  replace kk := kk.trans k113077
  refine RW.seg hT 1 [] [] [.int .u8 x113074.1] [] (by kernel_rfl) (trivial) ?_
  refine RW.nil ?_
  refine WPK.seq ?_
  refine WPK.region ?_
  refine RW.seg hT 1 [] [] [.pointer (some ⟨b113063, 0, none⟩)] [] (by kernel_rfl) (trivial) ?_
  obtain ⟨x113085, hx113086, hf⟩ := bindS hf
  refine RW.op (by kernel_rfl) (OK.call' en37 (by kernel_rfl) (c37 (F := (.blk b113072 (.cells #[.bool false, .slice none 0 0, .slice none 0 0, .slice none 0 0] 26 (0, 0))) :: F) x113074.2 b113063 A113081 c113082 hc113083 e113084 s hx113086) ?_)
  intro X113089 hX113090
  refine fun _ _ hJ => hJ X113089 ?_
  clear s
  intro I113091 A113092 c113093 w113087 s k113088 hc113094 e113095
  refine hX113090 _ _ ?_
  replace e113084 := e113084.st k113088
  replace kk := kk.trans k113088
  refine RW.seg hT 1 [undef] [] [.int .i64 (IntKind.i64.wrap x113085.1)] [] (by kernel_rfl) (trivial) ?_
  refine RW.op (by kernel_rfl) (OK.new hT (f := fun b => .slice (some ⟨b, 0, none⟩) 1 1) (cs := [.int .i64 (IntKind.i64.wrap x113085.1)]) (e := 3) (c := .tt) s (by kernel_rfl) trivial ?_)
  clear s
  rintro w113096 b113097 s k113098 -
  replace e113095 := e113095.st k113098
  replace kk := kk.trans k113098
  have rp113099 : RepL (Rp.int .i64) I113091 w113096 [.int .i64 (IntKind.i64.wrap x113085.1)] ([IntKind.i64.wrap x113085.1] : List Int) := RepL.cons (c := [.int .i64 (IntKind.i64.wrap x113085.1)]) (d := []) (rfl) (RepL.nil)
  replace s : St w0 M I113091 ((.sl (.slice (some ⟨b113097, 0, none⟩) 1 1) 3 1 1 [.int .i64 (IntKind.i64.wrap x113085.1)]) :: (.blk b113063 (.cells #[.slice A113092 x113085.2.b.length c113093, .int .i64 x113085.2.err, .bool x113085.2.made] 72 (0, 0))) :: (.blk b113072 (.cells #[.bool false, .slice none 0 0, .slice none 0 0, .slice none 0 0] 26 (0, 0))) :: F) w113096 := s.blkSl (i := 0) (n := 1) (c := 1) (size := 1) rfl rfl (Nat.le_refl _) (by decide)
  refine RW.seg hT 1 [] [] [.agg #[.bool false, .slice none 0 0, .slice none 0 0, .slice (some ⟨b113097, 0, none⟩) 1 1]] [] (by kernel_rfl) (trivial) ?_
  refine RW.op (by kernel_rfl) (OK.new hT (f := fun b => .pointer (some ⟨b, 0, none⟩)) (cs := [.bool false, .slice none 0 0, .slice none 0 0, .slice none 0 0]) (e := 26) (c := .tt) s (by kernel_rfl) trivial ?_)
  clear s
  rintro w113101 b113102 s k113103 -
  replace e113095 := e113095.st k113103
  replace rp113099 := rp113099.st k113103
  replace kk := kk.trans k113103
  refine RW.op (by kernel_rfl) (OK.store hT (i := 0) (b := b113102) (off := 0) (n := 4) (vs := [.bool false, .slice none 0 0, .slice none 0 0, .slice (some ⟨b113097, 0, none⟩) 1 1]) (cs := [.bool false, .slice none 0 0, .slice none 0 0, .slice none 0 0]) (e := 26) s (by kernel_rfl) rfl rfl (flat_ok rfl) (Nat.le_of_ble_eq_true rfl) ?_)
  clear s
  rintro w113104 s k113105 -
  replace e113095 := e113095.st k113105
  replace rp113099 := rp113099.st k113105
  replace kk := kk.trans k113105
  refine RW.nil ?_
  refine WPK.seq ?_
  refine WPK.cut' (Kn fun E ds wz => ∀ X : Kont, (∀ (I120957 : Nat → Prop) (x120933 : (List Int)) (x120938 : Int) (x120939 : Bool) (x120940 : (List (List Int))) (x120948 : (List Int)) (D120932 : List Value) (A120934 : Option Addr) (c120935 : Nat) (A120941 : Option Addr) (c120943 : Nat) (cl120944 : List Value) (A120949 : Option Addr) (c120951 : Nat) (cl120952 : List Value) (w' : World), g19_j1 x120933 x120938 x120939 x120940 x120948 = some r → St w0 M I120957 ((.blk b113063 (.cells #[.slice A120934 x120933.length c120935, .int .i64 x120938, .bool x120939] 72 (0, 0))) :: (.blk b113102 (.cells #[.bool false, .slice none 0 0, .slice A120941 x120940.length c120943, .slice A120949 x120948.length c120951] 26 (0, 0))) :: (.sl (.slice A120949 x120948.length c120951) 3 1 x120948.length cl120952) :: (.blk b113072 (.cells #[.bool false, .slice none 0 0, .slice none 0 0, .slice none 0 0] 26 (0, 0))) :: (.sl (.slice A120941 x120940.length c120943) 27 1 x120940.length cl120944) :: F) w' → Kp I w I120957 w' → (x120933.length ≤ c120935 ∧ c120935 ≤ 9223372036854775807) → Elems (Rp.int .u8) I120957 w' A120934 x120933 → RepL (Rp.slice (Rp.int .u8)) I120957 w' cl120944 x120940 → RepL (Rp.int .i64) I120957 w' cl120952 x120948 → X [(D120932.getD 0 undef), (D120932.getD 1 undef), .pointer (some ⟨b113072, 0, none⟩), (D120932.getD 2 undef), .pointer (some ⟨b113102, 0, none⟩), (D120932.getD 3 undef), (D120932.getD 4 undef), (D120932.getD 5 undef), (D120932.getD 6 undef), (D120932.getD 7 undef), (D120932.getD 8 undef), (D120932.getD 9 undef), (D120932.getD 10 undef), (D120932.getD 11 undef), (D120932.getD 12 undef), (D120932.getD 13 undef), (D120932.getD 14 undef), (D120932.getD 15 undef), (D120932.getD 16 undef), (D120932.getD 17 undef), (D120932.getD 18 undef), (D120932.getD 19 undef), (D120932.getD 20 undef), (D120932.getD 21 undef), (D120932.getD 22 undef), (D120932.getD 23 undef), (D120932.getD 24 undef), (D120932.getD 25 undef), (D120932.getD 26 undef), (D120932.getD 27 undef), (D120932.getD 28 undef), (D120932.getD 29 undef), (D120932.getD 30 undef), (D120932.getD 31 undef), undef] [] w') → X E ds wz) ?_ ?_
  · intro X120961 hX120962
    refine fun _ _ _ hJ => hJ X120961 ?_
    clear s
    intro I120957 x120933 x120938 x120939 x120940 x120948 D120932 A120934 c120935 A120941 c120943 cl120944 A120949 c120951 cl120952 w120956 hf s kk hc120936 e120937 rp120946 rp120954
    refine hX120962 _ _ _ ?_
    unfold g19_j1 at hf
    refine WPK.seq ?_
    refine WPK.region ?_
    refine RW.seg hT 1 [.agg #[.bool false, .slice none 0 0, .slice A120941 x120940.length c120943, .slice A120949 x120948.length c120951]] [] [.agg #[.bool false, .slice none 0 0, .slice A120941 x120940.length c120943, .slice A120949 x120948.length c120951]] [.cells ⟨b113102, 0, none⟩ [.bool false, .slice none 0 0, .slice A120941 x120940.length c120943, .slice A120949 x120948.length c120951] 4] (by kernel_rfl) (s.cells (i := 1) rfl rfl rfl) ?_
    refine RW.op (by kernel_rfl) (OK.store hT (i := 3) (b := b113072) (off := 0) (n := 4) (vs := [.bool false, .slice none 0 0, .slice A120941 x120940.length c120943, .slice A120949 x120948.length c120951]) (cs := [.bool false, .slice none 0 0, .slice none 0 0, .slice none 0 0]) (e := 26) s (by kernel_rfl) rfl rfl (flat_ok rfl) (Nat.le_of_ble_eq_true rfl) ?_)
    clear s
    rintro w120958 s k120959 -
    replace e120937 := e120937.st k120959
    replace rp120954 := rp120954.st k120959
    replace rp120946 := rp120946.st k120959
    replace kk := kk.trans k120959
    refine RW.nil ?_
    refine WPK.ret (?_)
    obtain rfl := someS hf
    refine Fin.of (rs := [.cell 2 26]) hT [.agg #[.bool false, .slice none 0 0, .slice A120941 x120940.length c120943, .slice A120949 x120948.length c120951]] (.agg #[.bool false, .slice none 0 0, .slice A120941 x120940.length c120943, .slice A120949 x120948.length c120951]) [.cells ⟨b113072, 0, none⟩ [.bool false, .slice none 0 0, .slice A120941 x120940.length c120943, .slice A120949 x120948.length c120951] 4] rfl (by kernel_rfl) (s.cells (i := 3) rfl rfl rfl) ?_
    replace s := s.pushNil 41 2
    replace s := s.pick [0, 5, 3, 1] 6 rfl
    exact fun X h => vc rfl (h I120957 none 0 0 [] A120941 x120940.length c120943 cl120944 A120949 x120948.length c120951 cl120952 A120934 c120935 _ s kk rfl (RepL.nil (r := rp_T_api_Pair)) rfl rp120946 rfl rp120954 hc120936 e120937)
  · refine WPK.seq ?_
    refine WPK.region ?_
    refine RW.seg hT 2 [] [] [.int .u8 x113074.1, .int .u8 0] [] (by kernel_rfl) (trivial) ?_
    refine RW.nil ?_
    refine WPK.block ?_
    replace s := s.pushNil 27 1
    replace s := s.pick [1, 2, 3, 4, 0] 5 rfl
    refine WPK.loop' (J := fun n125948 E ds wz => ∀ X : Kont, (∀ (I123110 : Nat → Prop) (x123085 : Int) (x123086 : (List (List Int))) (x123094 : (List Int)) (x123102 : (List Int)) (x123107 : Int) (x123108 : Bool) (D123084 : List Value) (A123087 : Option Addr) (c123089 : Nat) (cl123090 : List Value) (A123095 : Option Addr) (c123097 : Nat) (cl123098 : List Value) (A123103 : Option Addr) (c123104 : Nat) (w' : World), g19_l2 x113074 n125948 x123085 x123086 x123094 x123102 x123107 x123108 = some r → St w0 M I123110 ((.blk b113102 (.cells #[.bool false, .slice none 0 0, .slice A123087 x123086.length c123089, .slice A123095 x123094.length c123097] 26 (0, 0))) :: (.sl (.slice A123095 x123094.length c123097) 3 1 x123094.length cl123098) :: (.blk b113063 (.cells #[.slice A123103 x123102.length c123104, .int .i64 x123107, .bool x123108] 72 (0, 0))) :: (.blk b113072 (.cells #[.bool false, .slice none 0 0, .slice none 0 0, .slice none 0 0] 26 (0, 0))) :: (.sl (.slice A123087 x123086.length c123089) 27 1 x123086.length cl123090) :: F) w' → Kp I w I123110 w' → RepL (Rp.slice (Rp.int .u8)) I123110 w' cl123090 x123086 → RepL (Rp.int .i64) I123110 w' cl123098 x123094 → (x123102.length ≤ c123104 ∧ c123104 ≤ 9223372036854775807) → Elems (Rp.int .u8) I123110 w' A123103 x123102 → X [.pointer (some ⟨b113063, 0, none⟩), (D123084.getD 0 undef), .pointer (some ⟨b113072, 0, none⟩), (D123084.getD 1 undef), .pointer (some ⟨b113102, 0, none⟩), (D123084.getD 2 undef), (D123084.getD 3 undef), (D123084.getD 4 undef), (D123084.getD 5 undef), (D123084.getD 6 undef), (D123084.getD 7 undef), (D123084.getD 8 undef), .int .u8 x113074.1, .int .u8 x123085, (D123084.getD 9 undef), (D123084.getD 10 undef), (D123084.getD 11 undef), (D123084.getD 12 undef), (D123084.getD 13 undef), (D123084.getD 14 undef), (D123084.getD 15 undef), (D123084.getD 16 undef), (D123084.getD 17 undef), (D123084.getD 18 undef), (D123084.getD 19 undef), (D123084.getD 20 undef), (D123084.getD 21 undef), (D123084.getD 22 undef), (D123084.getD 23 undef), (D123084.getD 24 undef), (D123084.getD 25 undef), (D123084.getD 26 undef), (D123084.getD 27 undef), (D123084.getD 28 undef), undef] [] w') → X E ds wz) FUEL (fun X h => kc (by kernel_rfl) rfl (h I113091 0 ([] : List (List Int)) ([IntKind.i64.wrap x113085.1] : List Int) x113085.2.b x113085.2.err x113085.2.made [undef, .int .u8 x113074.1, .pointer (some ⟨b113063, 0, none⟩), .int .u8 x113074.1, .pointer (some ⟨b113063, 0, none⟩), .int .u16 x113085.1, .int .i64 (IntKind.i64.wrap x113085.1), .slice (some ⟨b113097, 0, none⟩) 1 1, .agg #[.bool false, .slice none 0 0, .slice none 0 0, .slice (some ⟨b113097, 0, none⟩) 1 1], undef, undef, undef, undef, undef, undef, undef, undef, undef, undef, undef, undef, undef, undef, undef, undef, undef, undef, undef, undef] none 0 [] (some ⟨b113097, 0, none⟩) 1 [.int .i64 (IntKind.i64.wrap x113085.1)] A113092 c113093 _ hf s kk (RepL.nil (r := (Rp.slice (Rp.int .u8)))) rp113099 hc113094 e113095)) (fun _ _ _ hJ => hJ (fun _ _ _ => False) (by intro I123110 x123085 x123086 x123094 x123102 x123107 x123108 D123084 A123087 c123089 cl123090 A123095 c123097 cl123098 A123103 c123104 w123109 hf s kk rp123092 rp123100 hc123105 e123106; exact noneS hf)) ?_
    intro X128787 hX128788
    refine fun n125948 _ _ _ hJ => hJ (X128787 n125948) ?_
    clear s
    intro I123110 x123085 x123086 x123094 x123102 x123107 x123108 D123084 A123087 c123089 cl123090 A123095 c123097 cl123098 A123103 c123104 w123109 hf s kk rp123092 rp123100 hc123105 e123106
    refine hX128788 _ _ _ _ ?_
    replace hf : g19_l2B x113074 (g19_l2 x113074 n125948) x123085 x123086 x123094 x123102 x123107 x123108 = some r := hf
    generalize hrec125949 : g19_l2 x113074 n125948 = rec125947 at hf
    unfold g19_l2B at hf
    refine WPK.seq ?_
    refine WPK.region ?_
    refine RW.seg hT 1 [] [] [.bool (decide (x123085 < x113074.1))] [] (by kernel_rfl) (trivial) ?_
    refine RW.nil ?_
    refine WPK.seq ?_
    by_cases h125951 : x123085 < x113074.1
    · have hf := iteT h125951 hf
      refine WPK.condT (Eq.trans (b := .bool (decide (x123085 < x113074.1))) (by kernel_rfl) (bo_t h125951)) ?_
      refine WPK.skip ?_
      refine WPK.seq ?_
      refine WPK.block ?_
      refine WPK.seq ?_
      refine WPK.cut' (Kn fun E ds wz => ∀ X : Kont, (∀ (I127886 : Nat → Prop) (x127857 : (List Int)) (x127862 : (List (List Int))) (x127870 : (List (List Int))) (x127878 : (List Int)) (x127883 : Int) (x127884 : Bool) (D127856 : List Value) (A127858 : Option Addr) (c127859 : Nat) (A127863 : Option Addr) (c127865 : Nat) (cl127866 : List Value) (A127871 : Option Addr) (c127873 : Nat) (cl127874 : List Value) (A127879 : Option Addr) (c127880 : Nat) (w' : World), g19_j3 x123085 x123094 rec125947 x127857 x127862 x127870 x127878 x127883 x127884 = some r → St w0 M I127886 ((.sl (.slice A127863 x127862.length c127865) 27 1 x127862.length cl127866) :: (.blk b113063 (.cells #[.slice A127879 x127878.length c127880, .int .i64 x127883, .bool x127884] 72 (0, 0))) :: (.blk b113102 (.cells #[.bool false, .slice none 0 0, .slice A127871 x127870.length c127873, .slice A123095 x123094.length c123097] 26 (0, 0))) :: (.sl (.slice A123095 x123094.length c123097) 3 1 x123094.length cl123098) :: (.blk b113072 (.cells #[.bool false, .slice none 0 0, .slice none 0 0, .slice none 0 0] 26 (0, 0))) :: (.sl (.slice A127871 x127870.length c127873) 27 1 x127870.length cl127874) :: F) w' → Kp I w I127886 w' → (x127857.length ≤ c127859 ∧ c127859 ≤ 9223372036854775807) → Elems (Rp.int .u8) I127886 w' A127858 x127857 → RepL (Rp.slice (Rp.int .u8)) I127886 w' cl127866 x127862 → RepL (Rp.slice (Rp.int .u8)) I127886 w' cl127874 x127870 → (x127878.length ≤ c127880 ∧ c127880 ≤ 9223372036854775807) → Elems (Rp.int .u8) I127886 w' A127879 x127878 → RepL (Rp.int .i64) I127886 w' cl123098 x123094 → X [.pointer (some ⟨b113063, 0, none⟩), (D127856.getD 0 undef), .pointer (some ⟨b113072, 0, none⟩), (D127856.getD 1 undef), .pointer (some ⟨b113102, 0, none⟩), (D127856.getD 2 undef), (D127856.getD 3 undef), (D127856.getD 4 undef), (D127856.getD 5 undef), (D127856.getD 6 undef), (D127856.getD 7 undef), (D127856.getD 8 undef), .int .u8 x113074.1, .int .u8 x123085, .bool (decide (x123085 < x113074.1)), .pointer (some ⟨b113102, 2, none⟩), (.slice A123087 x123086.length c123089), .pointer (some ⟨b113063, 0, none⟩), .slice A127858 x127857.length c127859, .slice A127863 x127862.length c127865, .slice A127871 x127870.length c127873, .pointer (some ⟨b113102, 2, none⟩), (D123084.getD 17 undef), (D123084.getD 18 undef), (D123084.getD 19 undef), (D123084.getD 20 undef), (D123084.getD 21 undef), (D123084.getD 22 undef), (D123084.getD 23 undef), (D123084.getD 24 undef), (D123084.getD 25 undef), (D123084.getD 26 undef), (D123084.getD 27 undef), (D123084.getD 28 undef), undef] [] w') → X E ds wz) ?_ ?_
      · intro X128297 hX128298
        refine fun _ _ _ hJ => hJ X128297 ?_
        clear s
        intro I127886 x127857 x127862 x127870 x127878 x127883 x127884 D127856 A127858 c127859 A127863 c127865 cl127866 A127871 c127873 cl127874 A127879 c127880 w127885 hf s kk hc127860 e127861 rp127868 rp127876 hc127881 e127882 rp123100
        refine hX128298 _ _ _ ?_
        unfold g19_j3 at hf
        refine WPK.seq ?_
        have e127861S128186 := e127861
        have e127882S128186 := e127882
        have rp127868S128186 := rp127868
        have rp123100S128186 := rp123100
        have rp127876S128186 := rp127876
        have kS128190 : Kp I127886 w127885 I127886 w127885 := Kp.refl
        refine WPK.draw (fun w' => ∃ I' : Nat → Prop, St w0 M I' ((.sl (.slice A127863 x127862.length c127865) 27 1 x127862.length cl127866) :: (.blk b113072 (.cells #[.bool false, .slice none 0 0, .slice none 0 0, .slice none 0 0] 26 (0, 0))) :: (.sl (.slice A127871 x127870.length c127873) 27 1 x127870.length cl127874) :: F) w' ∧ Kp I127886 w127885 I' w') 9 (by kernel_rfl) ?_
        intro w128187 hd128188
        have k128189 := Kp.dr s hd128188
        replace s := s.dr hd128188
        replace e127861 := e127861.st k128189
        replace e127882 := e127882.st k128189
        replace rp127868 := rp127868.st k128189
        replace rp123100 := rp123100.st k128189
        replace rp127876 := rp127876.st k128189
        replace kk := kk.trans k128189
        replace kS128190 := kS128190.trans k128189
        refine RD.seg hT (by kernel_rfl) [0, 2] [] [] [.pointer (some ⟨b113102, 3, none⟩), .pointer (some ⟨b113063, 0, none⟩)] [] (by kernel_rfl) (fun _ _ => trivial) ⟨_, s.pick [0, 4, 5] 6 rfl, kS128190⟩ ?_
        obtain ⟨x128191, hx128192, hf⟩ := bindS hf
        refine RD.ways [1, 3] (by kernel_rfl) (List.forall_mem_cons.2 ⟨?_, List.forall_mem_cons.2 ⟨?_, fun _ h => nomatch h⟩⟩)
        · refine RWay.op rfl (by kernel_rfl) (OK.pure hT (ld := (.slice A123095 x123094.length c123097)) (v := .slice A123095 x123094.length c123097) (c := .cell ⟨b113102, 3, none⟩ (.slice A123095 x123094.length c123097)) (by kernel_rfl) (s.cell (i := 2) (off := 3) rfl rfl) ?_)
          refine ⟨fun _ => ⟨_, s.pick [0, 4, 5] 6 rfl, kS128190⟩, RD.fold ?_⟩
          replace s := s.pick [1, 0, 2, 3, 4, 5] 6 rfl
          refine RD.op (i := 3) rfl (by kernel_rfl) (by kernel_rfl) (OK.call' en37 (by kernel_rfl) (c37 (F := (.sl (.slice A127863 x127862.length c127865) 27 1 x127862.length cl127866) :: (.blk b113102 (.cells #[.bool false, .slice none 0 0, .slice A127871 x127870.length c127873, .slice A123095 x123094.length c123097] 26 (0, 0))) :: (.sl (.slice A123095 x123094.length c123097) 3 1 x123094.length cl123098) :: (.blk b113072 (.cells #[.bool false, .slice none 0 0, .slice none 0 0, .slice none 0 0] 26 (0, 0))) :: (.sl (.slice A127871 x127870.length c127873) 27 1 x127870.length cl127874) :: F) (T_pack_Reader.mk x127878 x127883 x127884) b113063 A127879 c127880 hc127881 e127882 s hx128192) ?_)
          intro X128206 hX128207
          refine fun _ _ hJ => hJ X128206 ?_
          clear s
          intro I128208 A128209 c128210 w128204 s k128205 hc128211 e128212
          refine hX128207 _ _ ?_
          replace e127861 := e127861.st k128205
          replace e127882 := e127882.st k128205
          replace rp127868 := rp127868.st k128205
          replace rp123100 := rp123100.st k128205
          replace rp127876 := rp127876.st k128205
          replace kk := kk.trans k128205
          replace kS128190 := kS128190.trans k128205
          refine ⟨fun _ => ⟨_, s.pick [1, 4, 5] 6 rfl, kS128190⟩, RD.fold ?_⟩
          refine RD.seg hT (by kernel_rfl) [4] [undef] [] [.int .i64 (IntKind.i64.wrap x128191.1)] [] (by kernel_rfl) (fun _ _ => trivial) ⟨_, s.pick [1, 4, 5] 6 rfl, kS128190⟩ ?_
          refine RD.op (i := 5) rfl (by kernel_rfl) (by kernel_rfl) (OK.new hT (f := fun b => .slice (some ⟨b, 0, none⟩) 1 1) (cs := [.int .i64 (IntKind.i64.wrap x128191.1)]) (e := 3) (c := .tt) s (by kernel_rfl) trivial ?_)
          clear s
          rintro w128213 b128214 s k128215 -
          replace e127861 := e127861.st k128215
          replace e128212 := e128212.st k128215
          replace rp127868 := rp127868.st k128215
          replace rp123100 := rp123100.st k128215
          replace rp127876 := rp127876.st k128215
          replace kk := kk.trans k128215
          replace kS128190 := kS128190.trans k128215
          have rp128216 : RepL (Rp.int .i64) I128208 w128213 [.int .i64 (IntKind.i64.wrap x128191.1)] ([IntKind.i64.wrap x128191.1] : List Int) := RepL.cons (c := [.int .i64 (IntKind.i64.wrap x128191.1)]) (d := []) (rfl) (RepL.nil)
          replace s : St w0 M I128208 ((.sl (.slice (some ⟨b128214, 0, none⟩) 1 1) 3 1 1 [.int .i64 (IntKind.i64.wrap x128191.1)]) :: (.blk b113063 (.cells #[.slice A128209 x128191.2.b.length c128210, .int .i64 x128191.2.err, .bool x128191.2.made] 72 (0, 0))) :: (.sl (.slice A127863 x127862.length c127865) 27 1 x127862.length cl127866) :: (.blk b113102 (.cells #[.bool false, .slice none 0 0, .slice A127871 x127870.length c127873, .slice A123095 x123094.length c123097] 26 (0, 0))) :: (.sl (.slice A123095 x123094.length c123097) 3 1 x123094.length cl123098) :: (.blk b113072 (.cells #[.bool false, .slice none 0 0, .slice none 0 0, .slice none 0 0] 26 (0, 0))) :: (.sl (.slice A127871 x127870.length c127873) 27 1 x127870.length cl127874) :: F) w128213 := s.blkSl (i := 0) (n := 1) (c := 1) (size := 1) rfl rfl (Nat.le_refl _) (by decide)
          refine ⟨fun _ => ⟨_, s.pick [2, 5, 6] 7 rfl, kS128190⟩, RD.fold ?_⟩
          have hs128219 := St.src s (i := 0) rfl rfl rp128216
          have rq128220 := rp128216
          obtain ⟨x128221, hx128222, hf⟩ := bindS hf
          refine RD.op (i := 6) rfl (by kernel_rfl) (by kernel_rfl) (OK.app hT (r := (Rp.int .i64)) (i := 4) (t := 24) (e := 3) (size := 1) (bytes := 8) (c := c123097) (n := x123094.length) (m := 1) s (by kernel_rfl) rfl rfl rfl rfl rfl (by decide) rfl rfl rfl rfl rp123100 hs128219 rq128220 flat_int rfl hx128222 ?_)
          clear s
          rintro A128223 c128224 cl128225 w128226 s k128227 rp128228
          replace e127861 := e127861.st k128227
          replace e128212 := e128212.st k128227
          replace rp128216 := rp128216.st k128227
          replace rp127868 := rp127868.st k128227
          replace rp123100 := rp123100.st k128227
          replace rp127876 := rp127876.st k128227
          replace kk := kk.trans k128227
          replace kS128190 := kS128190.trans k128227
          refine ⟨fun _ => ⟨_, s.pick [2, 5, 6] 7 rfl, kS128190⟩, RD.fold ?_⟩
          refine RD.seg hT (by kernel_rfl) [7] [] [] [.pointer (some ⟨b113102, 3, none⟩)] [] (by kernel_rfl) (fun _ _ => trivial) ⟨_, s.pick [2, 5, 6] 7 rfl, kS128190⟩ ?_
          refine RD.op (i := 8) rfl (by kernel_rfl) (by kernel_rfl) (OK.store hT (i := 3) (b := b113102) (off := 3) (n := 1) (vs := [.slice A128223 x128221.length c128224]) (cs := [.bool false, .slice none 0 0, .slice A127871 x127870.length c127873, (.slice A123095 x123094.length c123097)]) (e := 26) s (by kernel_rfl) rfl rfl (flat_ok rfl) (Nat.le_of_ble_eq_true rfl) ?_)
          clear s
          rintro w128229 s k128230 -
          replace e127861 := e127861.st k128230
          replace e128212 := e128212.st k128230
          replace rp128216 := rp128216.st k128230
          replace rp127868 := rp127868.st k128230
          replace rp128228 := rp128228.st k128230
          replace rp127876 := rp127876.st k128230
          replace kk := kk.trans k128230
          replace kS128190 := kS128190.trans k128230
          refine ⟨fun _ => ⟨_, s.pick [2, 5, 6] 7 rfl, kS128190⟩, RD.fold ?_⟩
          refine RD.done (by kernel_rfl) ?_
          refine WPK.seq ?_
          refine WPK.region ?_
          refine RW.seg hT 1 [] [] [.pointer (some ⟨b113063, 0, none⟩)] [] (by kernel_rfl) (trivial) ?_
          replace s := s.pick [1, 0, 2, 3, 4, 5, 6] 7 rfl
          obtain ⟨x128231, hx128232, hf⟩ := bindS hf
          refine RW.op (by kernel_rfl) (OK.call' en20 (by kernel_rfl) (c20 (F := (.sl (.slice (some ⟨b128214, 0, none⟩) 1 1) 3 1 1 [.int .i64 (IntKind.i64.wrap x128191.1)]) :: (.sl (.slice A127863 x127862.length c127865) 27 1 x127862.length cl127866) :: (.blk b113102 (.cells #[.bool false, .slice none 0 0, .slice A127871 x127870.length c127873, .slice A128223 x128221.length c128224] 26 (0, 0))) :: (.sl (.slice A128223 x128221.length c128224) 3 1 x128221.length cl128225) :: (.blk b113072 (.cells #[.bool false, .slice none 0 0, .slice none 0 0, .slice none 0 0] 26 (0, 0))) :: (.sl (.slice A127871 x127870.length c127873) 27 1 x127870.length cl127874) :: F) x128191.2 b113063 A128209 c128210 hc128211 e128212 s hx128232) ?_)
          intro X128235 hX128236
          refine fun _ _ hJ => hJ X128235 ?_
          clear s
          intro I128237 w128233 s k128234
          refine hX128236 _ _ ?_
          replace e127861 := e127861.st k128234
          replace e128212 := e128212.st k128234
          replace rp128216 := rp128216.st k128234
          replace rp127868 := rp127868.st k128234
          replace rp128228 := rp128228.st k128234
          replace rp127876 := rp127876.st k128234
          replace kk := kk.trans k128234
          refine RW.seg hT 1 [] [(32, .bool (decide (x128231 ≠ 0)))] [.bool (decide (x128231 ≠ 0))] [.veq (.bool (x128231 != 0)) (.bool (decide (x128231 ≠ 0)))] (by kernel_rfl) (ne_v) ?_
          refine RW.nil ?_
          by_cases h128238 : x128231 ≠ 0
          · have hf := iteT h128238 hf
            refine WPK.condT (Eq.trans (b := .bool (decide (x128231 ≠ 0))) (by kernel_rfl) (bo_t h128238)) ?_
            refine WPK.exit (blockQ.other rfl (blockQ.same ?_))
            replace s := s.pick [0, 3, 4, 5, 6] 7 rfl
            exact fun X h => kc (by kernel_rfl) rfl (h I128237 x128191.2.b x128191.2.err x128191.2.made x127870 x128221 [.pointer (some ⟨b113063, 0, none⟩), (D127856.getD 0 undef), (D127856.getD 1 undef), (D127856.getD 2 undef), (D127856.getD 3 undef), (D127856.getD 4 undef), (D127856.getD 5 undef), (D127856.getD 6 undef), (D127856.getD 7 undef), (D127856.getD 8 undef), .int .u8 x113074.1, .int .u8 x123085, .bool (decide (x123085 < x113074.1)), .pointer (some ⟨b113102, 2, none⟩), (.slice A123087 x123086.length c123089), .pointer (some ⟨b113063, 0, none⟩), .slice A127858 x127857.length c127859, .slice A127863 x127862.length c127865, .slice A127871 x127870.length c127873, .pointer (some ⟨b113102, 2, none⟩), .pointer (some ⟨b113102, 3, none⟩), (.slice A123095 x123094.length c123097), .pointer (some ⟨b113063, 0, none⟩), .int .u16 x128191.1, .int .i64 (IntKind.i64.wrap x128191.1), .slice (some ⟨b128214, 0, none⟩) 1 1, .slice A128223 x128221.length c128224, .pointer (some ⟨b113102, 3, none⟩), .pointer (some ⟨b113063, 0, none⟩), .int .i64 x128231, .bool (decide (x128231 ≠ 0)), (D123084.getD 28 undef)] A128209 c128210 A127871 c127873 cl127874 A128223 c128224 cl128225 _ hf s kk hc128211 e128212 rp127876 rp128228)
          · have hf := iteF h128238 hf
            refine WPK.condF (Eq.trans (b := .bool (decide (x128231 ≠ 0))) (by kernel_rfl) (bo_f h128238)) ?_
            refine WPK.skip ?_
            refine WPK.region ?_
            refine RW.seg hT 2 [] [] [.int .u8 (IntKind.u8.wrap (x123085 + 1)), .int .u8 (IntKind.u8.wrap (x123085 + 1))] [] (by kernel_rfl) (trivial) ?_
            refine RW.nil ?_
            subst hrec125949
            replace s := s.pick [3, 4, 0, 5, 6] 7 rfl
            exact ⟨n125948, Nat.le_refl _, fun X h => kc (by kernel_rfl) rfl (h I128237 (IntKind.u8.wrap (x123085 + 1)) x127870 x128221 x128191.2.b x128191.2.err x128191.2.made [(D127856.getD 0 undef), (D127856.getD 1 undef), (D127856.getD 2 undef), (D127856.getD 3 undef), (D127856.getD 4 undef), (D127856.getD 5 undef), (D127856.getD 6 undef), (D127856.getD 7 undef), (D127856.getD 8 undef), .bool (decide (x123085 < x113074.1)), .pointer (some ⟨b113102, 2, none⟩), (.slice A123087 x123086.length c123089), .pointer (some ⟨b113063, 0, none⟩), .slice A127858 x127857.length c127859, .slice A127863 x127862.length c127865, .slice A127871 x127870.length c127873, .pointer (some ⟨b113102, 2, none⟩), .pointer (some ⟨b113102, 3, none⟩), (.slice A123095 x123094.length c123097), .pointer (some ⟨b113063, 0, none⟩), .int .u16 x128191.1, .int .i64 (IntKind.i64.wrap x128191.1), .slice (some ⟨b128214, 0, none⟩) 1 1, .slice A128223 x128221.length c128224, .pointer (some ⟨b113102, 3, none⟩), .pointer (some ⟨b113063, 0, none⟩), .int .i64 x128231, .bool (decide (x128231 ≠ 0)), .int .u8 (IntKind.u8.wrap (x123085 + 1))] A127871 c127873 cl127874 A128223 c128224 cl128225 A128209 c128210 _ hf s kk rp127876 rp128228 hc128211 e128212)⟩
        · replace s := s.pick [1, 0, 2, 3, 4, 5] 6 rfl
          refine RWay.op rfl (by kernel_rfl) (OK.call' en37 (by kernel_rfl) (c37 (F := (.sl (.slice A127863 x127862.length c127865) 27 1 x127862.length cl127866) :: (.blk b113102 (.cells #[.bool false, .slice none 0 0, .slice A127871 x127870.length c127873, .slice A123095 x123094.length c123097] 26 (0, 0))) :: (.sl (.slice A123095 x123094.length c123097) 3 1 x123094.length cl123098) :: (.blk b113072 (.cells #[.bool false, .slice none 0 0, .slice none 0 0, .slice none 0 0] 26 (0, 0))) :: (.sl (.slice A127871 x127870.length c127873) 27 1 x127870.length cl127874) :: F) (T_pack_Reader.mk x127878 x127883 x127884) b113063 A127879 c127880 hc127881 e127882 s hx128192) ?_)
          intro X128243 hX128244
          refine fun _ _ hJ => hJ X128243 ?_
          clear s
          intro I128245 A128246 c128247 w128241 s k128242 hc128248 e128249
          refine hX128244 _ _ ?_
          replace e127861 := e127861.st k128242
          replace e127882 := e127882.st k128242
          replace rp127868 := rp127868.st k128242
          replace rp123100 := rp123100.st k128242
          replace rp127876 := rp127876.st k128242
          replace kk := kk.trans k128242
          replace kS128190 := kS128190.trans k128242
          refine ⟨fun _ => ⟨_, s.pick [1, 4, 5] 6 rfl, kS128190⟩, RD.fold ?_⟩
          refine RD.seg hT (by kernel_rfl) [4] [undef] [] [.int .i64 (IntKind.i64.wrap x128191.1)] [] (by kernel_rfl) (fun _ _ => trivial) ⟨_, s.pick [1, 4, 5] 6 rfl, kS128190⟩ ?_
          refine RD.ways [1, 5] (by kernel_rfl) (List.forall_mem_cons.2 ⟨?_, List.forall_mem_cons.2 ⟨?_, fun _ h => nomatch h⟩⟩)
          · refine RWay.op rfl (by kernel_rfl) (OK.pure hT (ld := (.slice A123095 x123094.length c123097)) (v := .slice A123095 x123094.length c123097) (c := .cell ⟨b113102, 3, none⟩ (.slice A123095 x123094.length c123097)) (by kernel_rfl) (s.cell (i := 2) (off := 3) rfl rfl) ?_)
            refine ⟨fun _ => ⟨_, s.pick [1, 4, 5] 6 rfl, kS128190⟩, RD.fold ?_⟩
            refine RD.op (i := 5) rfl (by kernel_rfl) (by kernel_rfl) (OK.new hT (f := fun b => .slice (some ⟨b, 0, none⟩) 1 1) (cs := [.int .i64 (IntKind.i64.wrap x128191.1)]) (e := 3) (c := .tt) s (by kernel_rfl) trivial ?_)
            clear s
            rintro w128250 b128251 s k128252 -
            replace e127861 := e127861.st k128252
            replace e128249 := e128249.st k128252
            replace rp127868 := rp127868.st k128252
            replace rp123100 := rp123100.st k128252
            replace rp127876 := rp127876.st k128252
            replace kk := kk.trans k128252
            replace kS128190 := kS128190.trans k128252
            have rp128253 : RepL (Rp.int .i64) I128245 w128250 [.int .i64 (IntKind.i64.wrap x128191.1)] ([IntKind.i64.wrap x128191.1] : List Int) := RepL.cons (c := [.int .i64 (IntKind.i64.wrap x128191.1)]) (d := []) (rfl) (RepL.nil)
            replace s : St w0 M I128245 ((.sl (.slice (some ⟨b128251, 0, none⟩) 1 1) 3 1 1 [.int .i64 (IntKind.i64.wrap x128191.1)]) :: (.blk b113063 (.cells #[.slice A128246 x128191.2.b.length c128247, .int .i64 x128191.2.err, .bool x128191.2.made] 72 (0, 0))) :: (.sl (.slice A127863 x127862.length c127865) 27 1 x127862.length cl127866) :: (.blk b113102 (.cells #[.bool false, .slice none 0 0, .slice A127871 x127870.length c127873, .slice A123095 x123094.length c123097] 26 (0, 0))) :: (.sl (.slice A123095 x123094.length c123097) 3 1 x123094.length cl123098) :: (.blk b113072 (.cells #[.bool false, .slice none 0 0, .slice none 0 0, .slice none 0 0] 26 (0, 0))) :: (.sl (.slice A127871 x127870.length c127873) 27 1 x127870.length cl127874) :: F) w128250 := s.blkSl (i := 0) (n := 1) (c := 1) (size := 1) rfl rfl (Nat.le_refl _) (by decide)
            refine ⟨fun _ => ⟨_, s.pick [2, 5, 6] 7 rfl, kS128190⟩, RD.fold ?_⟩
            have hs128256 := St.src s (i := 0) rfl rfl rp128253
            have rq128257 := rp128253
            obtain ⟨x128258, hx128259, hf⟩ := bindS hf
            refine RD.op (i := 6) rfl (by kernel_rfl) (by kernel_rfl) (OK.app hT (r := (Rp.int .i64)) (i := 4) (t := 24) (e := 3) (size := 1) (bytes := 8) (c := c123097) (n := x123094.length) (m := 1) s (by kernel_rfl) rfl rfl rfl rfl rfl (by decide) rfl rfl rfl rfl rp123100 hs128256 rq128257 flat_int rfl hx128259 ?_)
            clear s
            rintro A128260 c128261 cl128262 w128263 s k128264 rp128265
            replace e127861 := e127861.st k128264
            replace e128249 := e128249.st k128264
            replace rp128253 := rp128253.st k128264
            replace rp127868 := rp127868.st k128264
            replace rp123100 := rp123100.st k128264
            replace rp127876 := rp127876.st k128264
            replace kk := kk.trans k128264
            replace kS128190 := kS128190.trans k128264
            refine ⟨fun _ => ⟨_, s.pick [2, 5, 6] 7 rfl, kS128190⟩, RD.fold ?_⟩
            refine RD.seg hT (by kernel_rfl) [7] [] [] [.pointer (some ⟨b113102, 3, none⟩)] [] (by kernel_rfl) (fun _ _ => trivial) ⟨_, s.pick [2, 5, 6] 7 rfl, kS128190⟩ ?_
            refine RD.op (i := 8) rfl (by kernel_rfl) (by kernel_rfl) (OK.store hT (i := 3) (b := b113102) (off := 3) (n := 1) (vs := [.slice A128260 x128258.length c128261]) (cs := [.bool false, .slice none 0 0, .slice A127871 x127870.length c127873, (.slice A123095 x123094.length c123097)]) (e := 26) s (by kernel_rfl) rfl rfl (flat_ok rfl) (Nat.le_of_ble_eq_true rfl) ?_)
            clear s
            rintro w128266 s k128267 -
            replace e127861 := e127861.st k128267
            replace e128249 := e128249.st k128267
            replace rp128253 := rp128253.st k128267
            replace rp127868 := rp127868.st k128267
            replace rp128265 := rp128265.st k128267
            replace rp127876 := rp127876.st k128267
            replace kk := kk.trans k128267
            replace kS128190 := kS128190.trans k128267
            refine ⟨fun _ => ⟨_, s.pick [2, 5, 6] 7 rfl, kS128190⟩, RD.fold ?_⟩
            refine RD.done (by kernel_rfl) ?_
            refine WPK.seq ?_
            refine WPK.region ?_
            refine RW.seg hT 1 [] [] [.pointer (some ⟨b113063, 0, none⟩)] [] (by kernel_rfl) (trivial) ?_
            replace s := s.pick [1, 0, 2, 3, 4, 5, 6] 7 rfl
            obtain ⟨x128268, hx128269, hf⟩ := bindS hf
            refine RW.op (by kernel_rfl) (OK.call' en20 (by kernel_rfl) (c20 (F := (.sl (.slice (some ⟨b128251, 0, none⟩) 1 1) 3 1 1 [.int .i64 (IntKind.i64.wrap x128191.1)]) :: (.sl (.slice A127863 x127862.length c127865) 27 1 x127862.length cl127866) :: (.blk b113102 (.cells #[.bool false, .slice none 0 0, .slice A127871 x127870.length c127873, .slice A128260 x128258.length c128261] 26 (0, 0))) :: (.sl (.slice A128260 x128258.length c128261) 3 1 x128258.length cl128262) :: (.blk b113072 (.cells #[.bool false, .slice none 0 0, .slice none 0 0, .slice none 0 0] 26 (0, 0))) :: (.sl (.slice A127871 x127870.length c127873) 27 1 x127870.length cl127874) :: F) x128191.2 b113063 A128246 c128247 hc128248 e128249 s hx128269) ?_)
            intro X128272 hX128273
            refine fun _ _ hJ => hJ X128272 ?_
            clear s
            intro I128274 w128270 s k128271
            refine hX128273 _ _ ?_
            replace e127861 := e127861.st k128271
            replace e128249 := e128249.st k128271
            replace rp128253 := rp128253.st k128271
            replace rp127868 := rp127868.st k128271
            replace rp128265 := rp128265.st k128271
            replace rp127876 := rp127876.st k128271
            replace kk := kk.trans k128271
            refine RW.seg hT 1 [] [(32, .bool (decide (x128268 ≠ 0)))] [.bool (decide (x128268 ≠ 0))] [.veq (.bool (x128268 != 0)) (.bool (decide (x128268 ≠ 0)))] (by kernel_rfl) (ne_v) ?_
            refine RW.nil ?_
            by_cases h128275 : x128268 ≠ 0
            · have hf := iteT h128275 hf
              refine WPK.condT (Eq.trans (b := .bool (decide (x128268 ≠ 0))) (by kernel_rfl) (bo_t h128275)) ?_
              refine WPK.exit (blockQ.other rfl (blockQ.same ?_))
              replace s := s.pick [0, 3, 4, 5, 6] 7 rfl
              exact fun X h => kc (by kernel_rfl) rfl (h I128274 x128191.2.b x128191.2.err x128191.2.made x127870 x128258 [.pointer (some ⟨b113063, 0, none⟩), (D127856.getD 0 undef), (D127856.getD 1 undef), (D127856.getD 2 undef), (D127856.getD 3 undef), (D127856.getD 4 undef), (D127856.getD 5 undef), (D127856.getD 6 undef), (D127856.getD 7 undef), (D127856.getD 8 undef), .int .u8 x113074.1, .int .u8 x123085, .bool (decide (x123085 < x113074.1)), .pointer (some ⟨b113102, 2, none⟩), (.slice A123087 x123086.length c123089), .pointer (some ⟨b113063, 0, none⟩), .slice A127858 x127857.length c127859, .slice A127863 x127862.length c127865, .slice A127871 x127870.length c127873, .pointer (some ⟨b113102, 2, none⟩), .pointer (some ⟨b113102, 3, none⟩), (.slice A123095 x123094.length c123097), .pointer (some ⟨b113063, 0, none⟩), .int .u16 x128191.1, .int .i64 (IntKind.i64.wrap x128191.1), .slice (some ⟨b128251, 0, none⟩) 1 1, .slice A128260 x128258.length c128261, .pointer (some ⟨b113102, 3, none⟩), .pointer (some ⟨b113063, 0, none⟩), .int .i64 x128268, .bool (decide (x128268 ≠ 0)), (D123084.getD 28 undef)] A128246 c128247 A127871 c127873 cl127874 A128260 c128261 cl128262 _ hf s kk hc128248 e128249 rp127876 rp128265)
            · have hf := iteF h128275 hf
              refine WPK.condF (Eq.trans (b := .bool (decide (x128268 ≠ 0))) (by kernel_rfl) (bo_f h128275)) ?_
              refine WPK.skip ?_
              refine WPK.region ?_
              refine RW.seg hT 2 [] [] [.int .u8 (IntKind.u8.wrap (x123085 + 1)), .int .u8 (IntKind.u8.wrap (x123085 + 1))] [] (by kernel_rfl) (trivial) ?_
              refine RW.nil ?_
              subst hrec125949
              replace s := s.pick [3, 4, 0, 5, 6] 7 rfl
              exact ⟨n125948, Nat.le_refl _, fun X h => kc (by kernel_rfl) rfl (h I128274 (IntKind.u8.wrap (x123085 + 1)) x127870 x128258 x128191.2.b x128191.2.err x128191.2.made [(D127856.getD 0 undef), (D127856.getD 1 undef), (D127856.getD 2 undef), (D127856.getD 3 undef), (D127856.getD 4 undef), (D127856.getD 5 undef), (D127856.getD 6 undef), (D127856.getD 7 undef), (D127856.getD 8 undef), .bool (decide (x123085 < x113074.1)), .pointer (some ⟨b113102, 2, none⟩), (.slice A123087 x123086.length c123089), .pointer (some ⟨b113063, 0, none⟩), .slice A127858 x127857.length c127859, .slice A127863 x127862.length c127865, .slice A127871 x127870.length c127873, .pointer (some ⟨b113102, 2, none⟩), .pointer (some ⟨b113102, 3, none⟩), (.slice A123095 x123094.length c123097), .pointer (some ⟨b113063, 0, none⟩), .int .u16 x128191.1, .int .i64 (IntKind.i64.wrap x128191.1), .slice (some ⟨b128251, 0, none⟩) 1 1, .slice A128260 x128258.length c128261, .pointer (some ⟨b113102, 3, none⟩), .pointer (some ⟨b113063, 0, none⟩), .int .i64 x128268, .bool (decide (x128268 ≠ 0)), .int .u8 (IntKind.u8.wrap (x123085 + 1))] A127871 c127873 cl127874 A128260 c128261 cl128262 A128246 c128247 _ hf s kk rp127876 rp128265 hc128248 e128249)⟩
          · refine RWay.op rfl (by kernel_rfl) (OK.new hT (f := fun b => .slice (some ⟨b, 0, none⟩) 1 1) (cs := [.int .i64 (IntKind.i64.wrap x128191.1)]) (e := 3) (c := .tt) s (by kernel_rfl) trivial ?_)
            clear s
            rintro w128250 b128251 s k128252 -
            replace e127861 := e127861.st k128252
            replace e128249 := e128249.st k128252
            replace rp127868 := rp127868.st k128252
            replace rp123100 := rp123100.st k128252
            replace rp127876 := rp127876.st k128252
            replace kk := kk.trans k128252
            replace kS128190 := kS128190.trans k128252
            have rp128253 : RepL (Rp.int .i64) I128245 w128250 [.int .i64 (IntKind.i64.wrap x128191.1)] ([IntKind.i64.wrap x128191.1] : List Int) := RepL.cons (c := [.int .i64 (IntKind.i64.wrap x128191.1)]) (d := []) (rfl) (RepL.nil)
            replace s : St w0 M I128245 ((.sl (.slice (some ⟨b128251, 0, none⟩) 1 1) 3 1 1 [.int .i64 (IntKind.i64.wrap x128191.1)]) :: (.blk b113063 (.cells #[.slice A128246 x128191.2.b.length c128247, .int .i64 x128191.2.err, .bool x128191.2.made] 72 (0, 0))) :: (.sl (.slice A127863 x127862.length c127865) 27 1 x127862.length cl127866) :: (.blk b113102 (.cells #[.bool false, .slice none 0 0, .slice A127871 x127870.length c127873, .slice A123095 x123094.length c123097] 26 (0, 0))) :: (.sl (.slice A123095 x123094.length c123097) 3 1 x123094.length cl123098) :: (.blk b113072 (.cells #[.bool false, .slice none 0 0, .slice none 0 0, .slice none 0 0] 26 (0, 0))) :: (.sl (.slice A127871 x127870.length c127873) 27 1 x127870.length cl127874) :: F) w128250 := s.blkSl (i := 0) (n := 1) (c := 1) (size := 1) rfl rfl (Nat.le_refl _) (by decide)
            refine ⟨fun _ => ⟨_, s.pick [2, 5, 6] 7 rfl, kS128190⟩, RD.fold ?_⟩
            refine RD.op (i := 1) rfl (by kernel_rfl) (by kernel_rfl) (OK.pure hT (ld := (.slice A123095 x123094.length c123097)) (v := .slice A123095 x123094.length c123097) (c := .cell ⟨b113102, 3, none⟩ (.slice A123095 x123094.length c123097)) (by kernel_rfl) (s.cell (i := 3) (off := 3) rfl rfl) ?_)
            refine ⟨fun _ => ⟨_, s.pick [2, 5, 6] 7 rfl, kS128190⟩, RD.fold ?_⟩
            have hs128277 := St.src s (i := 0) rfl rfl rp128253
            have rq128278 := rp128253
            obtain ⟨x128279, hx128280, hf⟩ := bindS hf
            refine RD.op (i := 6) rfl (by kernel_rfl) (by kernel_rfl) (OK.app hT (r := (Rp.int .i64)) (i := 4) (t := 24) (e := 3) (size := 1) (bytes := 8) (c := c123097) (n := x123094.length) (m := 1) s (by kernel_rfl) rfl rfl rfl rfl rfl (by decide) rfl rfl rfl rfl rp123100 hs128277 rq128278 flat_int rfl hx128280 ?_)
            clear s
            rintro A128281 c128282 cl128283 w128284 s k128285 rp128286
            replace e127861 := e127861.st k128285
            replace e128249 := e128249.st k128285
            replace rp128253 := rp128253.st k128285
            replace rp127868 := rp127868.st k128285
            replace rp123100 := rp123100.st k128285
            replace rp127876 := rp127876.st k128285
            replace kk := kk.trans k128285
            replace kS128190 := kS128190.trans k128285
            refine ⟨fun _ => ⟨_, s.pick [2, 5, 6] 7 rfl, kS128190⟩, RD.fold ?_⟩
            refine RD.seg hT (by kernel_rfl) [7] [] [] [.pointer (some ⟨b113102, 3, none⟩)] [] (by kernel_rfl) (fun _ _ => trivial) ⟨_, s.pick [2, 5, 6] 7 rfl, kS128190⟩ ?_
            refine RD.op (i := 8) rfl (by kernel_rfl) (by kernel_rfl) (OK.store hT (i := 3) (b := b113102) (off := 3) (n := 1) (vs := [.slice A128281 x128279.length c128282]) (cs := [.bool false, .slice none 0 0, .slice A127871 x127870.length c127873, (.slice A123095 x123094.length c123097)]) (e := 26) s (by kernel_rfl) rfl rfl (flat_ok rfl) (Nat.le_of_ble_eq_true rfl) ?_)
            clear s
            rintro w128287 s k128288 -
            replace e127861 := e127861.st k128288
            replace e128249 := e128249.st k128288
            replace rp128253 := rp128253.st k128288
            replace rp127868 := rp127868.st k128288
            replace rp128286 := rp128286.st k128288
            replace rp127876 := rp127876.st k128288
            replace kk := kk.trans k128288
            replace kS128190 := kS128190.trans k128288
            refine ⟨fun _ => ⟨_, s.pick [2, 5, 6] 7 rfl, kS128190⟩, RD.fold ?_⟩
            refine RD.done (by kernel_rfl) ?_
            refine WPK.seq ?_
            refine WPK.region ?_
            refine RW.seg hT 1 [] [] [.pointer (some ⟨b113063, 0, none⟩)] [] (by kernel_rfl) (trivial) ?_
            replace s := s.pick [1, 0, 2, 3, 4, 5, 6] 7 rfl
            obtain ⟨x128289, hx128290, hf⟩ := bindS hf
            refine RW.op (by kernel_rfl) (OK.call' en20 (by kernel_rfl) (c20 (F := (.sl (.slice (some ⟨b128251, 0, none⟩) 1 1) 3 1 1 [.int .i64 (IntKind.i64.wrap x128191.1)]) :: (.sl (.slice A127863 x127862.length c127865) 27 1 x127862.length cl127866) :: (.blk b113102 (.cells #[.bool false, .slice none 0 0, .slice A127871 x127870.length c127873, .slice A128281 x128279.length c128282] 26 (0, 0))) :: (.sl (.slice A128281 x128279.length c128282) 3 1 x128279.length cl128283) :: (.blk b113072 (.cells #[.bool false, .slice none 0 0, .slice none 0 0, .slice none 0 0] 26 (0, 0))) :: (.sl (.slice A127871 x127870.length c127873) 27 1 x127870.length cl127874) :: F) x128191.2 b113063 A128246 c128247 hc128248 e128249 s hx128290) ?_)
            intro X128293 hX128294
            refine fun _ _ hJ => hJ X128293 ?_
            clear s
            intro I128295 w128291 s k128292
            refine hX128294 _ _ ?_
            replace e127861 := e127861.st k128292
            replace e128249 := e128249.st k128292
            replace rp128253 := rp128253.st k128292
            replace rp127868 := rp127868.st k128292
            replace rp128286 := rp128286.st k128292
            replace rp127876 := rp127876.st k128292
            replace kk := kk.trans k128292
            refine RW.seg hT 1 [] [(32, .bool (decide (x128289 ≠ 0)))] [.bool (decide (x128289 ≠ 0))] [.veq (.bool (x128289 != 0)) (.bool (decide (x128289 ≠ 0)))] (by kernel_rfl) (ne_v) ?_
            refine RW.nil ?_
            by_cases h128296 : x128289 ≠ 0
            · have hf := iteT h128296 hf
              refine WPK.condT (Eq.trans (b := .bool (decide (x128289 ≠ 0))) (by kernel_rfl) (bo_t h128296)) ?_
              refine WPK.exit (blockQ.other rfl (blockQ.same ?_))
              replace s := s.pick [0, 3, 4, 5, 6] 7 rfl
              exact fun X h => kc (by kernel_rfl) rfl (h I128295 x128191.2.b x128191.2.err x128191.2.made x127870 x128279 [.pointer (some ⟨b113063, 0, none⟩), (D127856.getD 0 undef), (D127856.getD 1 undef), (D127856.getD 2 undef), (D127856.getD 3 undef), (D127856.getD 4 undef), (D127856.getD 5 undef), (D127856.getD 6 undef), (D127856.getD 7 undef), (D127856.getD 8 undef), .int .u8 x113074.1, .int .u8 x123085, .bool (decide (x123085 < x113074.1)), .pointer (some ⟨b113102, 2, none⟩), (.slice A123087 x123086.length c123089), .pointer (some ⟨b113063, 0, none⟩), .slice A127858 x127857.length c127859, .slice A127863 x127862.length c127865, .slice A127871 x127870.length c127873, .pointer (some ⟨b113102, 2, none⟩), .pointer (some ⟨b113102, 3, none⟩), (.slice A123095 x123094.length c123097), .pointer (some ⟨b113063, 0, none⟩), .int .u16 x128191.1, .int .i64 (IntKind.i64.wrap x128191.1), .slice (some ⟨b128251, 0, none⟩) 1 1, .slice A128281 x128279.length c128282, .pointer (some ⟨b113102, 3, none⟩), .pointer (some ⟨b113063, 0, none⟩), .int .i64 x128289, .bool (decide (x128289 ≠ 0)), (D123084.getD 28 undef)] A128246 c128247 A127871 c127873 cl127874 A128281 c128282 cl128283 _ hf s kk hc128248 e128249 rp127876 rp128286)
            · have hf := iteF h128296 hf
              refine WPK.condF (Eq.trans (b := .bool (decide (x128289 ≠ 0))) (by kernel_rfl) (bo_f h128296)) ?_
              refine WPK.skip ?_
              refine WPK.region ?_
              refine RW.seg hT 2 [] [] [.int .u8 (IntKind.u8.wrap (x123085 + 1)), .int .u8 (IntKind.u8.wrap (x123085 + 1))] [] (by kernel_rfl) (trivial) ?_
              refine RW.nil ?_
              subst hrec125949
              replace s := s.pick [3, 4, 0, 5, 6] 7 rfl
              exact ⟨n125948, Nat.le_refl _, fun X h => kc (by kernel_rfl) rfl (h I128295 (IntKind.u8.wrap (x123085 + 1)) x127870 x128279 x128191.2.b x128191.2.err x128191.2.made [(D127856.getD 0 undef), (D127856.getD 1 undef), (D127856.getD 2 undef), (D127856.getD 3 undef), (D127856.getD 4 undef), (D127856.getD 5 undef), (D127856.getD 6 undef), (D127856.getD 7 undef), (D127856.getD 8 undef), .bool (decide (x123085 < x113074.1)), .pointer (some ⟨b113102, 2, none⟩), (.slice A123087 x123086.length c123089), .pointer (some ⟨b113063, 0, none⟩), .slice A127858 x127857.length c127859, .slice A127863 x127862.length c127865, .slice A127871 x127870.length c127873, .pointer (some ⟨b113102, 2, none⟩), .pointer (some ⟨b113102, 3, none⟩), (.slice A123095 x123094.length c123097), .pointer (some ⟨b113063, 0, none⟩), .int .u16 x128191.1, .int .i64 (IntKind.i64.wrap x128191.1), .slice (some ⟨b128251, 0, none⟩) 1 1, .slice A128281 x128279.length c128282, .pointer (some ⟨b113102, 3, none⟩), .pointer (some ⟨b113063, 0, none⟩), .int .i64 x128289, .bool (decide (x128289 ≠ 0)), .int .u8 (IntKind.u8.wrap (x123085 + 1))] A127871 c127873 cl127874 A128281 c128282 cl128283 A128246 c128247 _ hf s kk rp127876 rp128286 hc128248 e128249)⟩
      · have e123106S128687 := e123106
        have rp123100S128687 := rp123100
        have rp123092S128687 := rp123092
        have kS128691 : Kp I123110 w123109 I123110 w123109 := Kp.refl
        refine WPK.draw (fun w' => ∃ I' : Nat → Prop, St w0 M I' ((.sl (.slice A123095 x123094.length c123097) 3 1 x123094.length cl123098) :: (.blk b113072 (.cells #[.bool false, .slice none 0 0, .slice none 0 0, .slice none 0 0] 26 (0, 0))) :: F) w' ∧ Kp I123110 w123109 I' w') 8 (by kernel_rfl) ?_
        intro w128688 hd128689
        have k128690 := Kp.dr s hd128689
        replace s := s.dr hd128689
        replace e123106 := e123106.st k128690
        replace rp123100 := rp123100.st k128690
        replace rp123092 := rp123092.st k128690
        replace kk := kk.trans k128690
        replace kS128691 := kS128691.trans k128690
        refine RD.seg hT (by kernel_rfl) [0, 2] [] [] [.pointer (some ⟨b113102, 2, none⟩), .pointer (some ⟨b113063, 0, none⟩)] [] (by kernel_rfl) (fun _ _ => trivial) ⟨_, s.pick [1, 3] 5 rfl, kS128691⟩ ?_
        obtain ⟨x128692, hx128693, hf⟩ := bindS hf
        refine RD.ways [1, 3] (by kernel_rfl) (List.forall_mem_cons.2 ⟨?_, List.forall_mem_cons.2 ⟨?_, fun _ h => nomatch h⟩⟩)
        · refine RWay.op rfl (by kernel_rfl) (OK.pure hT (ld := (.slice A123087 x123086.length c123089)) (v := .slice A123087 x123086.length c123089) (c := .cell ⟨b113102, 2, none⟩ (.slice A123087 x123086.length c123089)) (by kernel_rfl) (s.cell (i := 0) (off := 2) rfl rfl) ?_)
          refine ⟨fun _ => ⟨_, s.pick [1, 3] 5 rfl, kS128691⟩, RD.fold ?_⟩
          replace s := s.pick [2, 0, 1, 3, 4] 5 rfl
          refine RD.op (i := 3) rfl (by kernel_rfl) (by kernel_rfl) (OK.call' en36 (by kernel_rfl) (c36 (F := (.blk b113102 (.cells #[.bool false, .slice none 0 0, .slice A123087 x123086.length c123089, .slice A123095 x123094.length c123097] 26 (0, 0))) :: (.sl (.slice A123095 x123094.length c123097) 3 1 x123094.length cl123098) :: (.blk b113072 (.cells #[.bool false, .slice none 0 0, .slice none 0 0, .slice none 0 0] 26 (0, 0))) :: (.sl (.slice A123087 x123086.length c123089) 27 1 x123086.length cl123090) :: F) (T_pack_Reader.mk x123102 x123107 x123108) 25 b113063 A123103 c123104 hc123105 e123106 s hx128693) ?_)
          intro X128711 hX128712
          refine fun _ _ hJ => hJ X128711 ?_
          clear s
          intro I128713 A128714 c128715 A128718 c128719 w128709 s k128710 hc128716 e128717 hc128720 e128721
          refine hX128712 _ _ ?_
          replace e123106 := e123106.st k128710
          replace rp123100 := rp123100.st k128710
          replace rp123092 := rp123092.st k128710
          replace kk := kk.trans k128710
          replace kS128691 := kS128691.trans k128710
          refine ⟨fun _ => ⟨_, s.pick [2, 3] 5 rfl, kS128691⟩, RD.fold ?_⟩
          refine RD.op (i := 4) rfl (by kernel_rfl) (by kernel_rfl) (OK.new hT (f := fun b => .slice (some ⟨b, 0, none⟩) 1 1) (cs := [.slice A128714 x128692.1.length c128715]) (e := 27) (c := .tt) s (by kernel_rfl) trivial ?_)
          clear s
          rintro w128722 b128723 s k128724 -
          replace e128717 := e128717.st k128724
          replace e128721 := e128721.st k128724
          replace rp123100 := rp123100.st k128724
          replace rp123092 := rp123092.st k128724
          replace kk := kk.trans k128724
          replace kS128691 := kS128691.trans k128724
          have rp128725 : RepL (Rp.slice (Rp.int .u8)) I128713 w128722 [.slice A128714 x128692.1.length c128715] ([x128692.1] : List (List Int)) := RepL.cons (c := [.slice A128714 x128692.1.length c128715]) (d := []) (⟨_, _, rfl, hc128716.1, hc128716.2, e128717⟩) (RepL.nil)
          replace s : St w0 M I128713 ((.sl (.slice (some ⟨b128723, 0, none⟩) 1 1) 27 1 1 [.slice A128714 x128692.1.length c128715]) :: (.blk b113063 (.cells #[.slice A128718 x128692.2.b.length c128719, .int .i64 x128692.2.err, .bool x128692.2.made] 72 (0, 0))) :: (.blk b113102 (.cells #[.bool false, .slice none 0 0, .slice A123087 x123086.length c123089, .slice A123095 x123094.length c123097] 26 (0, 0))) :: (.sl (.slice A123095 x123094.length c123097) 3 1 x123094.length cl123098) :: (.blk b113072 (.cells #[.bool false, .slice none 0 0, .slice none 0 0, .slice none 0 0] 26 (0, 0))) :: (.sl (.slice A123087 x123086.length c123089) 27 1 x123086.length cl123090) :: F) w128722 := s.blkSl (i := 0) (n := 1) (c := 1) (size := 1) rfl rfl (Nat.le_refl _) (by decide)
          refine ⟨fun _ => ⟨_, s.pick [3, 4] 6 rfl, kS128691⟩, RD.fold ?_⟩
          have hs128728 := St.src s (i := 0) rfl rfl rp128725
          have rq128729 := rp128725
          obtain ⟨x128730, hx128731, hf⟩ := bindS hf
          refine RD.op (i := 5) rfl (by kernel_rfl) (by kernel_rfl) (OK.app hT (r := (Rp.slice (Rp.int .u8))) (i := 5) (t := 23) (e := 27) (size := 1) (bytes := 24) (c := c123089) (n := x123086.length) (m := 1) s (by kernel_rfl) rfl rfl rfl rfl rfl (by decide) rfl rfl rfl rfl rp123092 hs128728 rq128729 flat_slice rfl hx128731 ?_)
          clear s
          rintro A128732 c128733 cl128734 w128735 s k128736 rp128737
          replace e128717 := e128717.st k128736
          replace e128721 := e128721.st k128736
          replace rp128725 := rp128725.st k128736
          replace rp123100 := rp123100.st k128736
          replace rp123092 := rp123092.st k128736
          replace kk := kk.trans k128736
          replace kS128691 := kS128691.trans k128736
          refine ⟨fun _ => ⟨_, s.pick [3, 4] 6 rfl, kS128691⟩, RD.fold ?_⟩
          refine RD.seg hT (by kernel_rfl) [6] [] [] [.pointer (some ⟨b113102, 2, none⟩)] [] (by kernel_rfl) (fun _ _ => trivial) ⟨_, s.pick [3, 4] 6 rfl, kS128691⟩ ?_
          refine RD.op (i := 7) rfl (by kernel_rfl) (by kernel_rfl) (OK.store hT (i := 2) (b := b113102) (off := 2) (n := 1) (vs := [.slice A128732 x128730.length c128733]) (cs := [.bool false, .slice none 0 0, (.slice A123087 x123086.length c123089), .slice A123095 x123094.length c123097]) (e := 26) s (by kernel_rfl) rfl rfl (flat_ok rfl) (Nat.le_of_ble_eq_true rfl) ?_)
          clear s
          rintro w128738 s k128739 -
          replace e128717 := e128717.st k128739
          replace e128721 := e128721.st k128739
          replace rp128725 := rp128725.st k128739
          replace rp123100 := rp123100.st k128739
          replace rp128737 := rp128737.st k128739
          replace kk := kk.trans k128739
          replace kS128691 := kS128691.trans k128739
          refine ⟨fun _ => ⟨_, s.pick [3, 4] 6 rfl, kS128691⟩, RD.fold ?_⟩
          refine RD.done (by kernel_rfl) ?_
          exact fun X h => kc (by kernel_rfl) rfl (h I128713 x128692.1 ([x128692.1] : List (List Int)) x128730 x128692.2.b x128692.2.err x128692.2.made [(D123084.getD 0 undef), (D123084.getD 1 undef), (D123084.getD 2 undef), (D123084.getD 3 undef), (D123084.getD 4 undef), (D123084.getD 5 undef), (D123084.getD 6 undef), (D123084.getD 7 undef), (D123084.getD 8 undef)] A128714 c128715 (some ⟨b128723, 0, none⟩) 1 [.slice A128714 x128692.1.length c128715] A128732 c128733 cl128734 A128718 c128719 _ hf s kk hc128716 e128717 rp128725 rp128737 hc128720 e128721 rp123100)
        · replace s := s.pick [2, 0, 1, 3, 4] 5 rfl
          refine RWay.op rfl (by kernel_rfl) (OK.call' en36 (by kernel_rfl) (c36 (F := (.blk b113102 (.cells #[.bool false, .slice none 0 0, .slice A123087 x123086.length c123089, .slice A123095 x123094.length c123097] 26 (0, 0))) :: (.sl (.slice A123095 x123094.length c123097) 3 1 x123094.length cl123098) :: (.blk b113072 (.cells #[.bool false, .slice none 0 0, .slice none 0 0, .slice none 0 0] 26 (0, 0))) :: (.sl (.slice A123087 x123086.length c123089) 27 1 x123086.length cl123090) :: F) (T_pack_Reader.mk x123102 x123107 x123108) 25 b113063 A123103 c123104 hc123105 e123106 s hx128693) ?_)
          intro X128744 hX128745
          refine fun _ _ hJ => hJ X128744 ?_
          clear s
          intro I128746 A128747 c128748 A128751 c128752 w128742 s k128743 hc128749 e128750 hc128753 e128754
          refine hX128745 _ _ ?_
          replace e123106 := e123106.st k128743
          replace rp123100 := rp123100.st k128743
          replace rp123092 := rp123092.st k128743
          replace kk := kk.trans k128743
          replace kS128691 := kS128691.trans k128743
          refine ⟨fun _ => ⟨_, s.pick [2, 3] 5 rfl, kS128691⟩, RD.fold ?_⟩
          refine RD.ways [1, 4] (by kernel_rfl) (List.forall_mem_cons.2 ⟨?_, List.forall_mem_cons.2 ⟨?_, fun _ h => nomatch h⟩⟩)
          · refine RWay.op rfl (by kernel_rfl) (OK.pure hT (ld := (.slice A123087 x123086.length c123089)) (v := .slice A123087 x123086.length c123089) (c := .cell ⟨b113102, 2, none⟩ (.slice A123087 x123086.length c123089)) (by kernel_rfl) (s.cell (i := 1) (off := 2) rfl rfl) ?_)
            refine ⟨fun _ => ⟨_, s.pick [2, 3] 5 rfl, kS128691⟩, RD.fold ?_⟩
            refine RD.op (i := 4) rfl (by kernel_rfl) (by kernel_rfl) (OK.new hT (f := fun b => .slice (some ⟨b, 0, none⟩) 1 1) (cs := [.slice A128747 x128692.1.length c128748]) (e := 27) (c := .tt) s (by kernel_rfl) trivial ?_)
            clear s
            rintro w128755 b128756 s k128757 -
            replace e128750 := e128750.st k128757
            replace e128754 := e128754.st k128757
            replace rp123100 := rp123100.st k128757
            replace rp123092 := rp123092.st k128757
            replace kk := kk.trans k128757
            replace kS128691 := kS128691.trans k128757
            have rp128758 : RepL (Rp.slice (Rp.int .u8)) I128746 w128755 [.slice A128747 x128692.1.length c128748] ([x128692.1] : List (List Int)) := RepL.cons (c := [.slice A128747 x128692.1.length c128748]) (d := []) (⟨_, _, rfl, hc128749.1, hc128749.2, e128750⟩) (RepL.nil)
            replace s : St w0 M I128746 ((.sl (.slice (some ⟨b128756, 0, none⟩) 1 1) 27 1 1 [.slice A128747 x128692.1.length c128748]) :: (.blk b113063 (.cells #[.slice A128751 x128692.2.b.length c128752, .int .i64 x128692.2.err, .bool x128692.2.made] 72 (0, 0))) :: (.blk b113102 (.cells #[.bool false, .slice none 0 0, .slice A123087 x123086.length c123089, .slice A123095 x123094.length c123097] 26 (0, 0))) :: (.sl (.slice A123095 x123094.length c123097) 3 1 x123094.length cl123098) :: (.blk b113072 (.cells #[.bool false, .slice none 0 0, .slice none 0 0, .slice none 0 0] 26 (0, 0))) :: (.sl (.slice A123087 x123086.length c123089) 27 1 x123086.length cl123090) :: F) w128755 := s.blkSl (i := 0) (n := 1) (c := 1) (size := 1) rfl rfl (Nat.le_refl _) (by decide)
            refine ⟨fun _ => ⟨_, s.pick [3, 4] 6 rfl, kS128691⟩, RD.fold ?_⟩
            have hs128761 := St.src s (i := 0) rfl rfl rp128758
            have rq128762 := rp128758
            obtain ⟨x128763, hx128764, hf⟩ := bindS hf
            refine RD.op (i := 5) rfl (by kernel_rfl) (by kernel_rfl) (OK.app hT (r := (Rp.slice (Rp.int .u8))) (i := 5) (t := 23) (e := 27) (size := 1) (bytes := 24) (c := c123089) (n := x123086.length) (m := 1) s (by kernel_rfl) rfl rfl rfl rfl rfl (by decide) rfl rfl rfl rfl rp123092 hs128761 rq128762 flat_slice rfl hx128764 ?_)
            clear s
            rintro A128765 c128766 cl128767 w128768 s k128769 rp128770
            replace e128750 := e128750.st k128769
            replace e128754 := e128754.st k128769
            replace rp128758 := rp128758.st k128769
            replace rp123100 := rp123100.st k128769
            replace rp123092 := rp123092.st k128769
            replace kk := kk.trans k128769
            replace kS128691 := kS128691.trans k128769
            refine ⟨fun _ => ⟨_, s.pick [3, 4] 6 rfl, kS128691⟩, RD.fold ?_⟩
            refine RD.seg hT (by kernel_rfl) [6] [] [] [.pointer (some ⟨b113102, 2, none⟩)] [] (by kernel_rfl) (fun _ _ => trivial) ⟨_, s.pick [3, 4] 6 rfl, kS128691⟩ ?_
            refine RD.op (i := 7) rfl (by kernel_rfl) (by kernel_rfl) (OK.store hT (i := 2) (b := b113102) (off := 2) (n := 1) (vs := [.slice A128765 x128763.length c128766]) (cs := [.bool false, .slice none 0 0, (.slice A123087 x123086.length c123089), .slice A123095 x123094.length c123097]) (e := 26) s (by kernel_rfl) rfl rfl (flat_ok rfl) (Nat.le_of_ble_eq_true rfl) ?_)
            clear s
            rintro w128771 s k128772 -
            replace e128750 := e128750.st k128772
            replace e128754 := e128754.st k128772
            replace rp128758 := rp128758.st k128772
            replace rp123100 := rp123100.st k128772
            replace rp128770 := rp128770.st k128772
            replace kk := kk.trans k128772
            replace kS128691 := kS128691.trans k128772
            refine ⟨fun _ => ⟨_, s.pick [3, 4] 6 rfl, kS128691⟩, RD.fold ?_⟩
            refine RD.done (by kernel_rfl) ?_
            exact fun X h => kc (by kernel_rfl) rfl (h I128746 x128692.1 ([x128692.1] : List (List Int)) x128763 x128692.2.b x128692.2.err x128692.2.made [(D123084.getD 0 undef), (D123084.getD 1 undef), (D123084.getD 2 undef), (D123084.getD 3 undef), (D123084.getD 4 undef), (D123084.getD 5 undef), (D123084.getD 6 undef), (D123084.getD 7 undef), (D123084.getD 8 undef)] A128747 c128748 (some ⟨b128756, 0, none⟩) 1 [.slice A128747 x128692.1.length c128748] A128765 c128766 cl128767 A128751 c128752 _ hf s kk hc128749 e128750 rp128758 rp128770 hc128753 e128754 rp123100)
          · refine RWay.op rfl (by kernel_rfl) (OK.new hT (f := fun b => .slice (some ⟨b, 0, none⟩) 1 1) (cs := [.slice A128747 x128692.1.length c128748]) (e := 27) (c := .tt) s (by kernel_rfl) trivial ?_)
            clear s
            rintro w128755 b128756 s k128757 -
            replace e128750 := e128750.st k128757
            replace e128754 := e128754.st k128757
            replace rp123100 := rp123100.st k128757
            replace rp123092 := rp123092.st k128757
            replace kk := kk.trans k128757
            replace kS128691 := kS128691.trans k128757
            have rp128758 : RepL (Rp.slice (Rp.int .u8)) I128746 w128755 [.slice A128747 x128692.1.length c128748] ([x128692.1] : List (List Int)) := RepL.cons (c := [.slice A128747 x128692.1.length c128748]) (d := []) (⟨_, _, rfl, hc128749.1, hc128749.2, e128750⟩) (RepL.nil)
            replace s : St w0 M I128746 ((.sl (.slice (some ⟨b128756, 0, none⟩) 1 1) 27 1 1 [.slice A128747 x128692.1.length c128748]) :: (.blk b113063 (.cells #[.slice A128751 x128692.2.b.length c128752, .int .i64 x128692.2.err, .bool x128692.2.made] 72 (0, 0))) :: (.blk b113102 (.cells #[.bool false, .slice none 0 0, .slice A123087 x123086.length c123089, .slice A123095 x123094.length c123097] 26 (0, 0))) :: (.sl (.slice A123095 x123094.length c123097) 3 1 x123094.length cl123098) :: (.blk b113072 (.cells #[.bool false, .slice none 0 0, .slice none 0 0, .slice none 0 0] 26 (0, 0))) :: (.sl (.slice A123087 x123086.length c123089) 27 1 x123086.length cl123090) :: F) w128755 := s.blkSl (i := 0) (n := 1) (c := 1) (size := 1) rfl rfl (Nat.le_refl _) (by decide)
            refine ⟨fun _ => ⟨_, s.pick [3, 4] 6 rfl, kS128691⟩, RD.fold ?_⟩
            refine RD.op (i := 1) rfl (by kernel_rfl) (by kernel_rfl) (OK.pure hT (ld := (.slice A123087 x123086.length c123089)) (v := .slice A123087 x123086.length c123089) (c := .cell ⟨b113102, 2, none⟩ (.slice A123087 x123086.length c123089)) (by kernel_rfl) (s.cell (i := 2) (off := 2) rfl rfl) ?_)
            refine ⟨fun _ => ⟨_, s.pick [3, 4] 6 rfl, kS128691⟩, RD.fold ?_⟩
            have hs128774 := St.src s (i := 0) rfl rfl rp128758
            have rq128775 := rp128758
            obtain ⟨x128776, hx128777, hf⟩ := bindS hf
            refine RD.op (i := 5) rfl (by kernel_rfl) (by kernel_rfl) (OK.app hT (r := (Rp.slice (Rp.int .u8))) (i := 5) (t := 23) (e := 27) (size := 1) (bytes := 24) (c := c123089) (n := x123086.length) (m := 1) s (by kernel_rfl) rfl rfl rfl rfl rfl (by decide) rfl rfl rfl rfl rp123092 hs128774 rq128775 flat_slice rfl hx128777 ?_)
            clear s
            rintro A128778 c128779 cl128780 w128781 s k128782 rp128783
            replace e128750 := e128750.st k128782
            replace e128754 := e128754.st k128782
            replace rp128758 := rp128758.st k128782
            replace rp123100 := rp123100.st k128782
            replace rp123092 := rp123092.st k128782
            replace kk := kk.trans k128782
            replace kS128691 := kS128691.trans k128782
            refine ⟨fun _ => ⟨_, s.pick [3, 4] 6 rfl, kS128691⟩, RD.fold ?_⟩
            refine RD.seg hT (by kernel_rfl) [6] [] [] [.pointer (some ⟨b113102, 2, none⟩)] [] (by kernel_rfl) (fun _ _ => trivial) ⟨_, s.pick [3, 4] 6 rfl, kS128691⟩ ?_
            refine RD.op (i := 7) rfl (by kernel_rfl) (by kernel_rfl) (OK.store hT (i := 2) (b := b113102) (off := 2) (n := 1) (vs := [.slice A128778 x128776.length c128779]) (cs := [.bool false, .slice none 0 0, (.slice A123087 x123086.length c123089), .slice A123095 x123094.length c123097]) (e := 26) s (by kernel_rfl) rfl rfl (flat_ok rfl) (Nat.le_of_ble_eq_true rfl) ?_)
            clear s
            rintro w128784 s k128785 -
            replace e128750 := e128750.st k128785
            replace e128754 := e128754.st k128785
            replace rp128758 := rp128758.st k128785
            replace rp123100 := rp123100.st k128785
            replace rp128783 := rp128783.st k128785
            replace kk := kk.trans k128785
            replace kS128691 := kS128691.trans k128785
            refine ⟨fun _ => ⟨_, s.pick [3, 4] 6 rfl, kS128691⟩, RD.fold ?_⟩
            refine RD.done (by kernel_rfl) ?_
            exact fun X h => kc (by kernel_rfl) rfl (h I128746 x128692.1 ([x128692.1] : List (List Int)) x128776 x128692.2.b x128692.2.err x128692.2.made [(D123084.getD 0 undef), (D123084.getD 1 undef), (D123084.getD 2 undef), (D123084.getD 3 undef), (D123084.getD 4 undef), (D123084.getD 5 undef), (D123084.getD 6 undef), (D123084.getD 7 undef), (D123084.getD 8 undef)] A128747 c128748 (some ⟨b128756, 0, none⟩) 1 [.slice A128747 x128692.1.length c128748] A128778 c128779 cl128780 A128751 c128752 _ hf s kk hc128749 e128750 rp128758 rp128783 hc128753 e128754 rp123100)
    · have hf := iteF h125951 hf
      refine WPK.condF (Eq.trans (b := .bool (decide (x123085 < x113074.1))) (by kernel_rfl) (bo_f h125951)) ?_
      refine WPK.exit (blockQ.same ?_)
      replace s := s.pick [2, 0, 1, 3, 4] 5 rfl
      exact fun X h => kc (by kernel_rfl) rfl (h I123110 x123102 x123107 x123108 x123086 x123094 [.pointer (some ⟨b113063, 0, none⟩), (D123084.getD 0 undef), (D123084.getD 1 undef), (D123084.getD 2 undef), (D123084.getD 3 undef), (D123084.getD 4 undef), (D123084.getD 5 undef), (D123084.getD 6 undef), (D123084.getD 7 undef), (D123084.getD 8 undef), .int .u8 x113074.1, .int .u8 x123085, .bool (decide (x123085 < x113074.1)), (D123084.getD 10 undef), (D123084.getD 11 undef), (D123084.getD 12 undef), (D123084.getD 13 undef), (D123084.getD 14 undef), (D123084.getD 15 undef), (D123084.getD 16 undef), (D123084.getD 17 undef), (D123084.getD 18 undef), (D123084.getD 19 undef), (D123084.getD 20 undef), (D123084.getD 21 undef), (D123084.getD 22 undef), (D123084.getD 23 undef), (D123084.getD 24 undef), (D123084.getD 25 undef), (D123084.getD 26 undef), (D123084.getD 27 undef), (D123084.getD 28 undef)] A123103 c123104 A123087 c123089 cl123090 A123095 c123097 cl123098 _ hf s kk hc123105 e123106 rp123092 rp123100)
end Go.Proofs.YtefjbhogpgihaaaDoor
