/- PRINTED BY sy.py: each call computes what the plain function of its number tells. -/
import Derived.Test.YtgcielbnmlfjbaaDoorNW1
namespace Go.Proofs.YtgcielbnmlfjbaaDoor
open Go Go.SX Go.RowKit
set_option maxRecDepth 100000
set_option linter.unusedVariables false
attribute [local irreducible] WPK RW RD Ret SX.Fin SX.Any opK RoundBeg RoundEnd RangeEnd Rounds
theorem c15_1 {w0 w : World} {M I : Nat → Prop} {F : List It} (p0 : T_extent_Set) (p1 : Int) (b13291 : Nat) (A13292 : Option Addr) (n13293 : Nat) (c13294 : Nat) (cl13295 : List Value) (hn13296 : n13293 = p0.w.length) (rp13297 : RepL (Rp.int .u64) I w cl13295 p0.w) (eg0 : Elems (Rp.int .u8) I w (some ⟨0, 0, none⟩) TAB0) (s : St w0 M I ((.blk b13291 (.cells #[.int .i64 p0.n, .slice A13292 n13293 c13294] 53 (0, 0))) :: (.sl (.slice A13292 n13293 c13294) 61 1 n13293 cl13295) :: F) w) {r : Int} (hf : g15_1 p0 p1 = some r) :
    Ret Tryd.prog 15 [.pointer (some ⟨b13291, 0, none⟩), .int .i64 p1] w fun v wz => ∀ X : Value → World → Prop, (∀ (I' : Nat → Prop) (w' : World), St w0 M I' ((.blk b13291 (.cells #[.int .i64 p0.n, .slice A13292 n13293 c13294] 53 (0, 0))) :: (.sl (.slice A13292 n13293 c13294) 61 1 n13293 cl13295) :: F) w' → Kp I w I' w' → X (.int .i64 r) w') → X v wz := by
  have kk : Kp I w I w := Kp.refl
  unfold g15_1 at hf
  refine Ret.of Tryd.func15 rfl ?_
  refine WPK.seq ?_
  refine WPK.region ?_
  refine RW.op (by kernel_rfl) (OK.new hT (f := fun b => .pointer (some ⟨b, 0, none⟩)) (cs := [.int .i64 p1]) (e := 3) (c := .tt) s (by kernel_rfl) trivial ?_)
  rintro w13299 b13300 s k13301 -
  replace rp13297 := rp13297.st k13301
  replace eg0 := eg0.st k13301
  replace kk := kk.trans k13301
  refine RW.seg hT 1 [] [] [.int .i64 0] [] (by kernel_rfl) (trivial) ?_
  refine RW.nil ?_
  refine WPK.scope ?_
  refine WPK.seq ?_
  refine WPK.region ?_
  refine RW.op (by kernel_rfl) (OK.new hT (f := fun b => .pointer (some ⟨b, 0, none⟩)) (cs := [.int .i64 0]) (e := 3) (c := .tt) s (by kernel_rfl) trivial ?_)
  rintro w13302 b13303 s k13304 -
  replace rp13297 := rp13297.st k13304
  replace eg0 := eg0.st k13304
  replace kk := kk.trans k13304
  refine RW.op (by kernel_rfl) (OK.store hT (i := 0) (b := b13303) (off := 0) (n := 1) (vs := [.int .i64 (-1)]) (cs := [.int .i64 0]) (e := 3) s (by kernel_rfl) rfl rfl (flat_ok rfl) (Nat.le_of_ble_eq_true rfl) ?_)
  rintro w13305 s k13306 -
  replace rp13297 := rp13297.st k13306
  replace eg0 := eg0.st k13306
  replace kk := kk.trans k13306
  refine RW.nil ?_
  refine WPK.seq ?_
  refine WPK.seq ?_
  refine WPK.region ?_
  refine RW.seg hT 2 [.int .i64 p1] [] [.int .i64 p1, .bool (decide (p1 < 1))] [.cell ⟨b13300, 0, none⟩ (.int .i64 p1)] (by kernel_rfl) (s.cell (i := 1) (off := 0) rfl rfl) ?_
  refine RW.nil ?_
  by_cases h13308 : p1 < 1
  · have hf := iteT h13308 hf
    refine WPK.condT (Eq.trans (b := .bool (decide (p1 < 1))) (by kernel_rfl) (bo_t h13308)) ?_
    refine WPK.seq ?_
    refine WPK.region ?_
    refine RW.seg hT 2 [.int .i64 (-1)] [] [.int .i64 (-1), .int .i64 (-1)] [.cell ⟨b13303, 0, none⟩ (.int .i64 (-1))] (by kernel_rfl) (s.cell (i := 0) (off := 0) rfl rfl) ?_
    refine RW.nil ?_
    refine WPK.ret (scopeQ.ret (?_))
    obtain rfl := someS hf
    refine Fin.of (rs := [.tmp 4]) hT [] (.int .i64 (-1)) [] rfl (by kernel_rfl) (trivial) ?_
    replace s := s.pick [2, 3] 4 rfl
    exact fun X h => vc rfl (h I _ s kk)
  · have hf := iteF h13308 hf
    refine WPK.condF (Eq.trans (b := .bool (decide (p1 < 1))) (by kernel_rfl) (bo_f h13308)) ?_
    refine WPK.skip ?_
    refine WPK.seq ?_
    refine WPK.label ?_
    refine WPK.seq ?_
    refine WPK.cut' (fun E ds wz => ∀ X : Kont, (∀ (I13652 : Nat → Prop) (x13650 : Int) (d13648 : Nat) (D13649 : List Value) (w' : World), g15_1_j1 x13650 = some r → St w0 M I13652 ((.blk b13291 (.cells #[.int .i64 p0.n, .slice A13292 n13293 c13294] 53 (0, 0))) :: (.sl (.slice A13292 n13293 c13294) 61 1 n13293 cl13295) :: (.blk b13303 (.cells #[.int .i64 x13650] 3 (0, 0))) :: (.blk d13648 (.deferred (some []))) :: F) w' → Kp I w I13652 w' → RepL (Rp.int .u64) I13652 w' cl13295 p0.w → Elems (Rp.int .u8) I13652 w' (some ⟨0, 0, none⟩) TAB0 → X [(D13649.getD 0 undef), (D13649.getD 1 undef), (D13649.getD 2 undef), (D13649.getD 3 undef), .int .i64 0, .pointer (some ⟨b13303, 0, none⟩), (D13649.getD 4 undef), (D13649.getD 5 undef), (D13649.getD 6 undef), (D13649.getD 7 undef), (D13649.getD 8 undef), (D13649.getD 9 undef), (D13649.getD 10 undef), (D13649.getD 11 undef), (D13649.getD 12 undef), (D13649.getD 13 undef), (D13649.getD 14 undef), (D13649.getD 15 undef), (D13649.getD 16 undef), undef] [mk d13648] w') → X E ds wz) ?_ ?_
    · intro X13655 hX13656
      refine fun _ _ _ hJ => hJ X13655 ?_
      intro I13652 x13650 d13648 D13649 w13651 hf s kk rp13297 eg0
      refine hX13656 _ _ _ ?_
      unfold g15_1_j1 at hf
      refine WPK.seq ?_
      refine WPK.region ?_
      refine RW.seg hT 2 [.int .i64 x13650] [] [.int .i64 x13650, .int .i64 x13650] [.cell ⟨b13303, 0, none⟩ (.int .i64 x13650)] (by kernel_rfl) (s.cell (i := 2) (off := 0) rfl rfl) ?_
      refine RW.nil ?_
      refine WPK.ret (scopeQ.ret (?_))
      obtain rfl := someS hf
      refine Fin.mark (i := 3) s rfl ?_
      intro w13653 s k13654
      replace rp13297 := rp13297.st k13654
      replace eg0 := eg0.st k13654
      replace kk := kk.trans k13654
      refine Fin.of (rs := [.tmp 4]) hT [] (.int .i64 x13650) [] rfl (by kernel_rfl) (trivial) ?_
      replace s := s.pick [0, 1] 3 rfl
      exact fun X h => vc rfl (h I13652 _ s kk)
    · refine WPK.seq ?_
      refine WPK.region ?_
      refine RW.seg hT 1 [] [] [.pointer (some ⟨b13291, 0, none⟩)] [] (by kernel_rfl) (trivial) ?_
      refine RW.op (by kernel_rfl) (OK.inl (args := [.pointer (some ⟨b13291, 0, none⟩)]) en12 (by kernel_rfl) ?_)
      intro R13657 hR13658
      refine Ret.of Tryd.func12 rfl ?_
      refine WPK.seq ?_
      refine WPK.region ?_
      refine RW.op (by kernel_rfl) (OK.new hT (f := fun b => .pointer (some ⟨b, 0, none⟩)) (cs := [.pointer (some ⟨b13291, 0, none⟩)]) (e := 25) (c := .tt) s (by kernel_rfl) trivial ?_)
      rintro w13662 b13663 s k13664 -
      replace rp13297 := rp13297.st k13664
      replace eg0 := eg0.st k13664
      replace kk := kk.trans k13664
      refine RW.seg hT 1 [] [] [.nilFunc] [] (by kernel_rfl) (trivial) ?_
      refine RW.nil ?_
      refine WPK.seq ?_
      refine WPK.region ?_
      refine RW.seg hT 2 [] [] [.func (.func 31) #[] #[.pointer (some ⟨b13663, 0, none⟩)], .func (.func 31) #[] #[.pointer (some ⟨b13663, 0, none⟩)]] [] (by kernel_rfl) (trivial) ?_
      refine RW.nil ?_
      refine WPK.ret (?_)
      refine Fin.of (rs := [.tmp 2]) hT [] (.func (.func 31) #[] #[.pointer (some ⟨b13663, 0, none⟩)]) [] rfl (by kernel_rfl) (trivial) ?_
      refine hR13658 _ _ ?_
      refine RW.nil ?_
      refine WPK.block ?_
      refine WPK.range (gf := 31) (first := []) (cap := [.pointer (some ⟨b13663, 0, none⟩)]) s (by kernel_rfl) en31 ?_
      intro l13665 d13666 rec13667 w13669 R13671 hrec13668 s k13670 hR13672
      replace rp13297 := rp13297.st k13670
      replace eg0 := eg0.st k13670
      replace kk := kk.trans k13670
      refine Ret.of Tryd.func31 rfl ?_
      refine WPK.seq ?_
      refine WPK.region ?_
      refine RW.seg hT 1 [.pointer (some ⟨b13291, 0, none⟩)] [] [.pointer (some ⟨b13291, 0, none⟩)] [.cell ⟨b13663, 0, none⟩ (.pointer (some ⟨b13291, 0, none⟩))] (by kernel_rfl) (s.cell (i := 2) (off := 0) rfl rfl) ?_
      replace s := s.pick [5, 6, 0, 1, 2, 3, 4] 7 rfl
      obtain ⟨x13673, hx13674, hf⟩ := bindS hf
      refine RW.op (by kernel_rfl) (OK.call' en16 (by kernel_rfl) (c16_1 (F := (.blk l13665 (rec13667 .ready none)) :: (.blk d13666 (.deferred (some []))) :: (.blk b13663 (.cells #[.pointer (some ⟨b13291, 0, none⟩)] 25 (0, 0))) :: (.blk b13303 (.cells #[.int .i64 (-1)] 3 (0, 0))) :: (.blk b13300 (.cells #[.int .i64 p1] 3 (0, 0))) :: F) p0 b13291 A13292 n13293 c13294 cl13295 hn13296 rp13297 s hx13674) ?_)
      intro X13677 hX13678
      refine fun _ _ hJ => hJ X13677 ?_ ?_
      · intro I13679 w13675 hv s k13676
        refine hX13678 _ _ ?_
        replace hf := optN hv hf
        replace rp13297 := rp13297.st k13676
        replace eg0 := eg0.st k13676
        replace kk := kk.trans k13676
        refine RW.seg hT 1 [] [] [.pointer none] [] (by kernel_rfl) (trivial) ?_
        refine RW.nil ?_
        refine WPK.seq ?_
        refine WPK.region ?_
        refine RW.seg hT 1 [.pointer (some ⟨b13291, 0, none⟩)] [] [.pointer (some ⟨b13291, 0, none⟩)] [.cell ⟨b13663, 0, none⟩ (.pointer (some ⟨b13291, 0, none⟩))] (by kernel_rfl) (s.cell (i := 4) (off := 0) rfl rfl) ?_
        obtain ⟨x13690, hx13691, hf⟩ := bindS hf
        refine RW.op (by kernel_rfl) (OK.call' en27 (by kernel_rfl) (c27_1 (F := (.blk l13665 (rec13667 .ready none)) :: (.blk d13666 (.deferred (some []))) :: (.blk b13663 (.cells #[.pointer (some ⟨b13291, 0, none⟩)] 25 (0, 0))) :: (.blk b13303 (.cells #[.int .i64 (-1)] 3 (0, 0))) :: (.blk b13300 (.cells #[.int .i64 p1] 3 (0, 0))) :: F) p0 0 b13291 A13292 n13293 c13294 cl13295 hn13296 rp13297 eg0 s hx13691) ?_)
        intro X13694 hX13695
        refine fun _ _ hJ => hJ X13694 ?_
        intro I13696 w13692 s k13693
        refine hX13695 _ _ ?_
        replace rp13297 := rp13297.st k13693
        replace eg0 := eg0.st k13693
        replace kk := kk.trans k13693
        refine RW.seg hT 1 [] [] [.int .i64 x13690] [] (by kernel_rfl) (trivial) ?_
        refine RW.nil ?_
        refine WPK.block ?_
        refine WPK.loop' (J := fun n13791 E ds wz => ∀ X : Kont, (∀ (I13745 : Nat → Prop) (x13743 : Int) (D13742 : List Value) (w' : World), g15_1_l2 p0 p1 n13791 x13743 = some r → St w0 M I13745 ((.blk b13291 (.cells #[.int .i64 p0.n, .slice A13292 n13293 c13294] 53 (0, 0))) :: (.sl (.slice A13292 n13293 c13294) 61 1 n13293 cl13295) :: (.blk l13665 (rec13667 .ready none)) :: (.blk d13666 (.deferred (some []))) :: (.blk b13663 (.cells #[.pointer (some ⟨b13291, 0, none⟩)] 25 (0, 0))) :: (.blk b13303 (.cells #[.int .i64 (-1)] 3 (0, 0))) :: (.blk b13300 (.cells #[.int .i64 p1] 3 (0, 0))) :: F) w' → Kp I w I13745 w' → RepL (Rp.int .u64) I13745 w' cl13295 p0.w → Elems (Rp.int .u8) I13745 w' (some ⟨0, 0, none⟩) TAB0 → X [.func (.yield l13665) #[] #[], .pointer (some ⟨b13663, 0, none⟩), (D13742.getD 0 undef), .pointer none, .int .i64 x13743, (D13742.getD 1 undef), (D13742.getD 2 undef), (D13742.getD 3 undef), (D13742.getD 4 undef), (D13742.getD 5 undef), (D13742.getD 6 undef), (D13742.getD 7 undef), (D13742.getD 8 undef), (D13742.getD 9 undef), (D13742.getD 10 undef), (D13742.getD 11 undef), (D13742.getD 12 undef), (D13742.getD 13 undef), (D13742.getD 14 undef), (D13742.getD 15 undef), (D13742.getD 16 undef), (D13742.getD 17 undef), (D13742.getD 18 undef), (D13742.getD 19 undef), (D13742.getD 20 undef), (D13742.getD 21 undef), (D13742.getD 22 undef), (D13742.getD 23 undef), (D13742.getD 24 undef), (D13742.getD 25 undef), (D13742.getD 26 undef)] [] w') → X E ds wz) FUEL (fun X h => kc (by kernel_rfl) rfl (h I13696 x13690 [undef, undef, .pointer (some ⟨b13291, 0, none⟩), .pointer none, .pointer (some ⟨b13291, 0, none⟩), .int .i64 x13690, undef, undef, undef, undef, undef, undef, undef, undef, undef, undef, undef, undef, undef, undef, undef, undef, undef, undef, undef, undef, undef] _ hf s kk rp13297 eg0)) (fun _ _ _ hJ => hJ (fun _ _ _ => False) (by intro I13745 x13743 D13742 w13744 hf s kk rp13297 eg0; exact noneS hf)) ?_
        intro X13841 hX13842
        refine fun n13791 _ _ _ hJ => hJ (X13841 n13791) ?_
        intro I13745 x13743 D13742 w13744 hf s kk rp13297 eg0
        refine hX13842 _ _ _ _ ?_
        replace hf : g15_1_l2B p0 p1 (g15_1_l2 p0 p1 n13791) x13743 = some r := hf
        generalize hrec13792 : g15_1_l2 p0 p1 n13791 = rec13790 at hf
        unfold g15_1_l2B at hf
        refine WPK.seq ?_
        refine WPK.seq ?_
        refine WPK.region ?_
        refine RW.seg hT 2 [] [] [.int .i64 x13743, .bool (decide (x13743 ≥ 0))] [] (by kernel_rfl) (trivial) ?_
        refine RW.nil ?_
        by_cases h13794 : x13743 ≥ 0
        · have hf := iteT h13794 hf
          refine WPK.condT (Eq.trans (b := .bool (decide (x13743 ≥ 0))) (by kernel_rfl) (bo_t h13794)) ?_
          refine WPK.skip ?_
          refine WPK.block ?_
          refine WPK.seq ?_
          refine WPK.region ?_
          refine RW.seg hT 2 [] [] [.pointer none, .int .i64 x13743] [] (by kernel_rfl) (trivial) ?_
          obtain ⟨x13795, hx13796, hf⟩ := bindS hf
          refine RW.op (by kernel_rfl) (OK.call' en27 (by kernel_rfl) (c27 (F := (.blk b13291 (.cells #[.int .i64 p0.n, .slice A13292 n13293 c13294] 53 (0, 0))) :: (.sl (.slice A13292 n13293 c13294) 61 1 n13293 cl13295) :: (.blk l13665 (rec13667 .ready none)) :: (.blk d13666 (.deferred (some []))) :: (.blk b13663 (.cells #[.pointer (some ⟨b13291, 0, none⟩)] 25 (0, 0))) :: (.blk b13303 (.cells #[.int .i64 (-1)] 3 (0, 0))) :: (.blk b13300 (.cells #[.int .i64 p1] 3 (0, 0))) :: F) x13743 s hx13796) ?_)
          intro X13799 hX13800
          refine fun _ _ hJ => hJ X13799 ?_
          intro I13801 w13797 s k13798
          refine hX13800 _ _ ?_
          replace rp13297 := rp13297.st k13798
          replace eg0 := eg0.st k13798
          replace kk := kk.trans k13798
          refine RW.seg hT 1 [] [] [.int .i64 x13795] [] (by kernel_rfl) (trivial) ?_
          refine RW.nil ?_
          refine WPK.seq ?_
          refine WPK.cut' (fun E ds wz => ∀ X : Kont, (∀ (x13804 : Int) (D13803 : List Value), g15_1_j3 p0 p1 x13743 rec13790 x13804 = some r → X [.func (.yield l13665) #[] #[], .pointer (some ⟨b13663, 0, none⟩), (D13803.getD 0 undef), .pointer none, .int .i64 x13743, .int .i64 x13804, (D13803.getD 1 undef), (D13803.getD 2 undef), (D13803.getD 3 undef), (D13803.getD 4 undef), .int .i64 x13743, .bool (decide (x13743 ≥ 0)), (D13803.getD 5 undef), (D13803.getD 6 undef), .int .i64 x13795, .int .i64 x13795, .bool (decide (x13795 < 0)), (D13803.getD 7 undef), (D13803.getD 8 undef), (D13803.getD 9 undef), (D13803.getD 10 undef), (D13803.getD 11 undef), (D13803.getD 12 undef), (D13742.getD 19 undef), (D13742.getD 20 undef), (D13803.getD 13 undef), (D13742.getD 22 undef), (D13742.getD 23 undef), (D13803.getD 14 undef), (D13803.getD 15 undef), (D13742.getD 26 undef)] [] w13797) → X E ds wz) ?_ ?_
          · intro X13836 hX13837
            refine fun _ _ _ hJ => hJ X13836 ?_
            intro x13804 D13803 hf
            refine hX13837 _ _ _ ?_
            unfold g15_1_j3 at hf
            refine WPK.seq ?_
            refine WPK.seq ?_
            refine WPK.region ?_
            refine RW.seg hT 5 [] [] [.func (.yield l13665) #[] #[], .int .i64 x13743, .int .i64 x13804, .int .i64 x13743, .int .i64 (IntKind.i64.wrap (x13804 - x13743))] [] (by kernel_rfl) (trivial) ?_
            refine RW.op (by kernel_rfl) (OK.yield (args := [.int .i64 x13743, .int .i64 (IntKind.i64.wrap (x13804 - x13743))]) hrec13668 s (i := 2) rfl (by kernel_rfl) rfl ?_)
            intro R13816 hR13817
            refine WPK.seq ?_
            refine WPK.region ?_
            refine RW.seg hT 1 [] [] [.int .i64 x13743] [] (by kernel_rfl) (trivial) ?_
            refine RW.nil ?_
            refine WPK.region ?_
            refine RW.seg hT 1 [] [] [.int .i64 (IntKind.i64.wrap (x13804 - x13743))] [] (by kernel_rfl) (trivial) ?_
            refine RW.nil ?_
            refine RoundBeg.of hrec13668 s (i := 2) rfl ?_
            intro w13818 s k13819
            replace rp13297 := rp13297.st k13819
            replace eg0 := eg0.st k13819
            replace kk := kk.trans k13819
            refine WPK.block ?_
            refine WPK.seq ?_
            refine WPK.region ?_
            refine RW.seg hT 3 [.int .i64 p1] [] [.int .i64 (IntKind.i64.wrap (x13804 - x13743)), .int .i64 p1, .bool (decide ((IntKind.i64.wrap (x13804 - x13743)) ≥ p1))] [.cell ⟨b13300, 0, none⟩ (.int .i64 p1)] (by kernel_rfl) (s.cell (i := 6) (off := 0) rfl rfl) ?_
            refine RW.nil ?_
            by_cases h13820 : (IntKind.i64.wrap (x13804 - x13743)) ≥ p1
            · have hf := iteT h13820 hf
              refine WPK.condT (Eq.trans (b := .bool (decide ((IntKind.i64.wrap (x13804 - x13743)) ≥ p1))) (by kernel_rfl) (bo_t h13820)) ?_
              refine WPK.seq ?_
              refine WPK.region ?_
              refine RW.seg hT 1 [] [] [.int .i64 x13743] [] (by kernel_rfl) (trivial) ?_
              refine RW.op (by kernel_rfl) (OK.store hT (i := 5) (b := b13303) (off := 0) (n := 1) (vs := [.int .i64 x13743]) (cs := [.int .i64 (-1)]) (e := 3) s (by kernel_rfl) rfl rfl (flat_ok rfl) (Nat.le_of_ble_eq_true rfl) ?_)
              rintro w13821 s k13822 -
              replace rp13297 := rp13297.st k13822
              replace eg0 := eg0.st k13822
              replace kk := kk.trans k13822
              refine RW.nil ?_
              refine WPK.exit (blockQ.other rfl (?_))
              refine RoundEnd.stop (Code.exit 0) hrec13668 s (i := 2) rfl ?_
              intro w13823 s k13824
              replace rp13297 := rp13297.st k13824
              replace eg0 := eg0.st k13824
              replace kk := kk.trans k13824
              refine hR13817 _ _ ?_
              refine RW.seg hT 1 [] [] [.bool true] [] (by kernel_rfl) (trivial) ?_
              refine RW.nil ?_
              refine WPK.condT (by kernel_rfl) ?_
              refine WPK.ret (blockQ.ret (blockQ.ret (?_)))
              refine Fin.of (rs := []) hT [] (.tuple #[]) [] rfl (by kernel_rfl) (trivial) ?_
              refine hR13672 _ _ (RangeEnd.jump hrec13668 s (i := 2) rfl ?_)
              intro w13825 s k13826
              replace rp13297 := rp13297.st k13826
              replace eg0 := eg0.st k13826
              replace kk := kk.trans k13826
              refine WPK.exit (blockQ.same ?_)
              replace s := s.pick [0, 1, 4, 2] 6 rfl
              exact fun X h => kc (by kernel_rfl) rfl (h I13801 x13743 d13666 [.pointer (some ⟨b13291, 0, none⟩), .int .i64 p1, undef, .pointer (some ⟨b13300, 0, none⟩), undef, undef, .int .i64 p1, .bool (decide (p1 < 1)), undef, .pointer (some ⟨b13291, 0, none⟩), .func (.func 31) #[] #[.pointer (some ⟨b13663, 0, none⟩)], undef, undef, undef, undef, undef, undef] _ hf s kk rp13297 eg0)
            · have hf := iteF h13820 hf
              refine WPK.condF (Eq.trans (b := .bool (decide ((IntKind.i64.wrap (x13804 - x13743)) ≥ p1))) (by kernel_rfl) (bo_f h13820)) ?_
              refine WPK.skip ?_
              refine RoundEnd.next hrec13668 s (i := 2) rfl ?_
              intro w13827 s k13828
              replace rp13297 := rp13297.st k13828
              replace eg0 := eg0.st k13828
              replace kk := kk.trans k13828
              refine hR13817 _ _ ?_
              refine RW.seg hT 1 [] [] [.bool false] [] (by kernel_rfl) (trivial) ?_
              refine RW.nil ?_
              refine WPK.condF (by kernel_rfl) ?_
              refine WPK.skip ?_
              refine WPK.region ?_
              refine RW.seg hT 2 [.pointer (some ⟨b13291, 0, none⟩)] [] [.pointer (some ⟨b13291, 0, none⟩), .int .i64 x13804] [.cell ⟨b13663, 0, none⟩ (.pointer (some ⟨b13291, 0, none⟩))] (by kernel_rfl) (s.cell (i := 4) (off := 0) rfl rfl) ?_
              obtain ⟨x13829, hx13830, hf⟩ := bindS hf
              refine RW.op (by kernel_rfl) (OK.call' en27 (by kernel_rfl) (c27_1 (F := (.blk l13665 (rec13667 .ready none)) :: (.blk d13666 (.deferred (some []))) :: (.blk b13663 (.cells #[.pointer (some ⟨b13291, 0, none⟩)] 25 (0, 0))) :: (.blk b13303 (.cells #[.int .i64 (-1)] 3 (0, 0))) :: (.blk b13300 (.cells #[.int .i64 p1] 3 (0, 0))) :: F) p0 x13804 b13291 A13292 n13293 c13294 cl13295 hn13296 rp13297 eg0 s hx13830) ?_)
              intro X13833 hX13834
              refine fun _ _ hJ => hJ X13833 ?_
              intro I13835 w13831 s k13832
              refine hX13834 _ _ ?_
              replace rp13297 := rp13297.st k13832
              replace eg0 := eg0.st k13832
              replace kk := kk.trans k13832
              refine RW.seg hT 1 [] [] [.int .i64 x13829] [] (by kernel_rfl) (trivial) ?_
              refine RW.nil ?_
              subst hrec13792
              exact ⟨n13791, Nat.le_refl _, fun X h => kc (by kernel_rfl) rfl (h I13835 x13829 [(D13803.getD 0 undef), .int .i64 x13804, (D13803.getD 1 undef), (D13803.getD 2 undef), (D13803.getD 3 undef), (D13803.getD 4 undef), .int .i64 x13743, .bool (decide (x13743 ≥ 0)), (D13803.getD 5 undef), (D13803.getD 6 undef), .int .i64 x13795, .int .i64 x13795, .bool (decide (x13795 < 0)), (D13803.getD 7 undef), (D13803.getD 8 undef), (D13803.getD 9 undef), (D13803.getD 10 undef), .func (.yield l13665) #[] #[], .int .i64 x13743, .int .i64 x13804, .int .i64 x13743, .int .i64 (IntKind.i64.wrap (x13804 - x13743)), .bool true, .bool false, .pointer (some ⟨b13291, 0, none⟩), .int .i64 x13804, .int .i64 x13829] _ hf s kk rp13297 eg0)⟩
          · refine WPK.seq ?_
            refine WPK.region ?_
            refine RW.seg hT 2 [] [] [.int .i64 x13795, .bool (decide (x13795 < 0))] [] (by kernel_rfl) (trivial) ?_
            refine RW.nil ?_
            by_cases h13838 : x13795 < 0
            · have hf := iteT h13838 hf
              refine WPK.condT (Eq.trans (b := .bool (decide (x13795 < 0))) (by kernel_rfl) (bo_t h13838)) ?_
              refine WPK.region ?_
              refine RW.seg hT 5 [.pointer (some ⟨b13291, 0, none⟩), .int .i64 p0.n] [] [.pointer (some ⟨b13291, 0, none⟩), .pointer (some ⟨b13291, 0, none⟩), .pointer (some ⟨b13291, 0, none⟩), .int .i64 p0.n, .int .i64 p0.n] [.cell ⟨b13663, 0, none⟩ (.pointer (some ⟨b13291, 0, none⟩)), .cell ⟨b13291, 0, none⟩ (.int .i64 p0.n)] (by kernel_rfl) (⟨s.cell (i := 4) (off := 0) rfl rfl, s.cell (i := 0) (off := 0) rfl rfl⟩) ?_
              refine RW.nil ?_
              exact fun X h => kc (by kernel_rfl) rfl (h p0.n [(D13742.getD 0 undef), (D13742.getD 2 undef), (D13742.getD 3 undef), (D13742.getD 4 undef), (D13742.getD 5 undef), .pointer none, .int .i64 x13743, .pointer (some ⟨b13291, 0, none⟩), .pointer (some ⟨b13291, 0, none⟩), .pointer (some ⟨b13291, 0, none⟩), .int .i64 p0.n, (D13742.getD 17 undef), (D13742.getD 18 undef), (D13742.getD 21 undef), (D13742.getD 24 undef), (D13742.getD 25 undef)] hf)
            · have hf := iteF h13838 hf
              refine WPK.condF (Eq.trans (b := .bool (decide (x13795 < 0))) (by kernel_rfl) (bo_f h13838)) ?_
              refine WPK.skip ?_
              exact fun X h => kc (by kernel_rfl) rfl (h x13795 [(D13742.getD 0 undef), (D13742.getD 2 undef), (D13742.getD 3 undef), (D13742.getD 4 undef), (D13742.getD 5 undef), .pointer none, .int .i64 x13743, (D13742.getD 13 undef), (D13742.getD 14 undef), (D13742.getD 15 undef), (D13742.getD 16 undef), (D13742.getD 17 undef), (D13742.getD 18 undef), (D13742.getD 21 undef), (D13742.getD 24 undef), (D13742.getD 25 undef)] hf)
        · have hf := iteF h13794 hf
          refine WPK.condF (Eq.trans (b := .bool (decide (x13743 ≥ 0))) (by kernel_rfl) (bo_f h13794)) ?_
          refine WPK.exit (blockQ.same ?_)
          refine Fin.of (rs := []) hT [] (.tuple #[]) [] rfl (by kernel_rfl) (trivial) ?_
          refine hR13672 _ _ (RangeEnd.done hrec13668 s (i := 2) rfl ?_)
          intro w13839 s k13840
          replace rp13297 := rp13297.st k13840
          replace eg0 := eg0.st k13840
          replace kk := kk.trans k13840
          replace s := s.pick [0, 1, 4, 2] 6 rfl
          exact fun X h => kc (by kernel_rfl) rfl (h I13745 (-1) d13666 [.pointer (some ⟨b13291, 0, none⟩), .int .i64 p1, undef, .pointer (some ⟨b13300, 0, none⟩), undef, undef, .int .i64 p1, .bool (decide (p1 < 1)), undef, .pointer (some ⟨b13291, 0, none⟩), .func (.func 31) #[] #[.pointer (some ⟨b13663, 0, none⟩)], undef, undef, undef, undef, undef, undef] _ hf s kk rp13297 eg0)
      · intro x13681 I13680 b13682 A13683 n13684 c13685 cl13686 w13675 hv s k13676 hn13687 rp13688
        refine hX13678 _ _ ?_
        replace hf := optS hv hf
        replace rp13297 := rp13297.st k13676
        replace eg0 := eg0.st k13676
        replace kk := kk.trans k13676
        refine RW.seg hT 1 [] [] [.pointer (some ⟨b13682, 0, none⟩)] [] (by kernel_rfl) (trivial) ?_
        refine RW.nil ?_
        refine WPK.seq ?_
        refine WPK.region ?_
        refine RW.seg hT 1 [.pointer (some ⟨b13291, 0, none⟩)] [] [.pointer (some ⟨b13291, 0, none⟩)] [.cell ⟨b13663, 0, none⟩ (.pointer (some ⟨b13291, 0, none⟩))] (by kernel_rfl) (s.cell (i := 6) (off := 0) rfl rfl) ?_
        replace s := s.pick [2, 3, 0, 1, 4, 5, 6, 7, 8] 9 rfl
        obtain ⟨x13843, hx13844, hf⟩ := bindS hf
        refine RW.op (by kernel_rfl) (OK.call' en27 (by kernel_rfl) (c27_1 (F := (.blk b13682 (.cells #[.int .i64 x13681.n, .slice A13683 n13684 c13685] 53 (0, 0))) :: (.sl (.slice A13683 n13684 c13685) 61 1 n13684 cl13686) :: (.blk l13665 (rec13667 .ready none)) :: (.blk d13666 (.deferred (some []))) :: (.blk b13663 (.cells #[.pointer (some ⟨b13291, 0, none⟩)] 25 (0, 0))) :: (.blk b13303 (.cells #[.int .i64 (-1)] 3 (0, 0))) :: (.blk b13300 (.cells #[.int .i64 p1] 3 (0, 0))) :: F) p0 0 b13291 A13292 n13293 c13294 cl13295 hn13296 rp13297 eg0 s hx13844) ?_)
        intro X13847 hX13848
        refine fun _ _ hJ => hJ X13847 ?_
        intro I13849 w13845 s k13846
        refine hX13848 _ _ ?_
        replace rp13297 := rp13297.st k13846
        replace rp13688 := rp13688.st k13846
        replace eg0 := eg0.st k13846
        replace kk := kk.trans k13846
        refine RW.seg hT 1 [] [] [.int .i64 x13843] [] (by kernel_rfl) (trivial) ?_
        refine RW.nil ?_
        refine WPK.block ?_
        refine WPK.loop' (J := fun n13944 E ds wz => ∀ X : Kont, (∀ (I13898 : Nat → Prop) (x13896 : Int) (D13895 : List Value) (w' : World), g15_1_l4 p0 p1 x13681 n13944 x13896 = some r → St w0 M I13898 ((.blk b13291 (.cells #[.int .i64 p0.n, .slice A13292 n13293 c13294] 53 (0, 0))) :: (.sl (.slice A13292 n13293 c13294) 61 1 n13293 cl13295) :: (.blk b13682 (.cells #[.int .i64 x13681.n, .slice A13683 n13684 c13685] 53 (0, 0))) :: (.sl (.slice A13683 n13684 c13685) 61 1 n13684 cl13686) :: (.blk l13665 (rec13667 .ready none)) :: (.blk d13666 (.deferred (some []))) :: (.blk b13663 (.cells #[.pointer (some ⟨b13291, 0, none⟩)] 25 (0, 0))) :: (.blk b13303 (.cells #[.int .i64 (-1)] 3 (0, 0))) :: (.blk b13300 (.cells #[.int .i64 p1] 3 (0, 0))) :: F) w' → Kp I w I13898 w' → RepL (Rp.int .u64) I13898 w' cl13295 p0.w → RepL (Rp.int .u64) I13898 w' cl13686 x13681.w → Elems (Rp.int .u8) I13898 w' (some ⟨0, 0, none⟩) TAB0 → X [.func (.yield l13665) #[] #[], .pointer (some ⟨b13663, 0, none⟩), (D13895.getD 0 undef), .pointer (some ⟨b13682, 0, none⟩), .int .i64 x13896, (D13895.getD 1 undef), (D13895.getD 2 undef), (D13895.getD 3 undef), (D13895.getD 4 undef), (D13895.getD 5 undef), (D13895.getD 6 undef), (D13895.getD 7 undef), (D13895.getD 8 undef), (D13895.getD 9 undef), (D13895.getD 10 undef), (D13895.getD 11 undef), (D13895.getD 12 undef), (D13895.getD 13 undef), (D13895.getD 14 undef), (D13895.getD 15 undef), (D13895.getD 16 undef), (D13895.getD 17 undef), (D13895.getD 18 undef), (D13895.getD 19 undef), (D13895.getD 20 undef), (D13895.getD 21 undef), (D13895.getD 22 undef), (D13895.getD 23 undef), (D13895.getD 24 undef), (D13895.getD 25 undef), (D13895.getD 26 undef)] [] w') → X E ds wz) FUEL (fun X h => kc (by kernel_rfl) rfl (h I13849 x13843 [undef, undef, .pointer (some ⟨b13291, 0, none⟩), .pointer (some ⟨b13682, 0, none⟩), .pointer (some ⟨b13291, 0, none⟩), .int .i64 x13843, undef, undef, undef, undef, undef, undef, undef, undef, undef, undef, undef, undef, undef, undef, undef, undef, undef, undef, undef, undef, undef] _ hf s kk rp13297 rp13688 eg0)) (fun _ _ _ hJ => hJ (fun _ _ _ => False) (by intro I13898 x13896 D13895 w13897 hf s kk rp13297 rp13688 eg0; exact noneS hf)) ?_
        intro X13994 hX13995
        refine fun n13944 _ _ _ hJ => hJ (X13994 n13944) ?_
        intro I13898 x13896 D13895 w13897 hf s kk rp13297 rp13688 eg0
        refine hX13995 _ _ _ _ ?_
        replace hf : g15_1_l4B p0 p1 x13681 (g15_1_l4 p0 p1 x13681 n13944) x13896 = some r := hf
        generalize hrec13945 : g15_1_l4 p0 p1 x13681 n13944 = rec13943 at hf
        unfold g15_1_l4B at hf
        refine WPK.seq ?_
        refine WPK.seq ?_
        refine WPK.region ?_
        refine RW.seg hT 2 [] [] [.int .i64 x13896, .bool (decide (x13896 ≥ 0))] [] (by kernel_rfl) (trivial) ?_
        refine RW.nil ?_
        by_cases h13947 : x13896 ≥ 0
        · have hf := iteT h13947 hf
          refine WPK.condT (Eq.trans (b := .bool (decide (x13896 ≥ 0))) (by kernel_rfl) (bo_t h13947)) ?_
          refine WPK.skip ?_
          refine WPK.block ?_
          refine WPK.seq ?_
          refine WPK.region ?_
          refine RW.seg hT 2 [] [] [.pointer (some ⟨b13682, 0, none⟩), .int .i64 x13896] [] (by kernel_rfl) (trivial) ?_
          replace s := s.pick [2, 3, 0, 1, 4, 5, 6, 7, 8] 9 rfl
          obtain ⟨x13948, hx13949, hf⟩ := bindS hf
          refine RW.op (by kernel_rfl) (OK.call' en27 (by kernel_rfl) (c27_1 (F := (.blk b13291 (.cells #[.int .i64 p0.n, .slice A13292 n13293 c13294] 53 (0, 0))) :: (.sl (.slice A13292 n13293 c13294) 61 1 n13293 cl13295) :: (.blk l13665 (rec13667 .ready none)) :: (.blk d13666 (.deferred (some []))) :: (.blk b13663 (.cells #[.pointer (some ⟨b13291, 0, none⟩)] 25 (0, 0))) :: (.blk b13303 (.cells #[.int .i64 (-1)] 3 (0, 0))) :: (.blk b13300 (.cells #[.int .i64 p1] 3 (0, 0))) :: F) x13681 x13896 b13682 A13683 n13684 c13685 cl13686 hn13687 rp13688 eg0 s hx13949) ?_)
          intro X13952 hX13953
          refine fun _ _ hJ => hJ X13952 ?_
          intro I13954 w13950 s k13951
          refine hX13953 _ _ ?_
          replace rp13688 := rp13688.st k13951
          replace rp13297 := rp13297.st k13951
          replace eg0 := eg0.st k13951
          replace kk := kk.trans k13951
          refine RW.seg hT 1 [] [] [.int .i64 x13948] [] (by kernel_rfl) (trivial) ?_
          refine RW.nil ?_
          refine WPK.seq ?_
          refine WPK.cut' (fun E ds wz => ∀ X : Kont, (∀ (x13957 : Int) (D13956 : List Value), g15_1_j5 p0 p1 x13896 rec13943 x13957 = some r → X [.func (.yield l13665) #[] #[], .pointer (some ⟨b13663, 0, none⟩), (D13956.getD 0 undef), .pointer (some ⟨b13682, 0, none⟩), .int .i64 x13896, .int .i64 x13957, (D13956.getD 1 undef), (D13956.getD 2 undef), (D13956.getD 3 undef), (D13956.getD 4 undef), .int .i64 x13896, .bool (decide (x13896 ≥ 0)), (D13956.getD 5 undef), (D13956.getD 6 undef), .int .i64 x13948, .int .i64 x13948, .bool (decide (x13948 < 0)), (D13956.getD 7 undef), (D13956.getD 8 undef), (D13956.getD 9 undef), (D13956.getD 10 undef), (D13956.getD 11 undef), (D13956.getD 12 undef), (D13895.getD 19 undef), (D13895.getD 20 undef), (D13956.getD 13 undef), (D13895.getD 22 undef), (D13895.getD 23 undef), (D13956.getD 14 undef), (D13956.getD 15 undef), (D13895.getD 26 undef)] [] w13950) → X E ds wz) ?_ ?_
          · intro X13989 hX13990
            refine fun _ _ _ hJ => hJ X13989 ?_
            intro x13957 D13956 hf
            refine hX13990 _ _ _ ?_
            unfold g15_1_j5 at hf
            refine WPK.seq ?_
            refine WPK.seq ?_
            refine WPK.region ?_
            refine RW.seg hT 5 [] [] [.func (.yield l13665) #[] #[], .int .i64 x13896, .int .i64 x13957, .int .i64 x13896, .int .i64 (IntKind.i64.wrap (x13957 - x13896))] [] (by kernel_rfl) (trivial) ?_
            refine RW.op (by kernel_rfl) (OK.yield (args := [.int .i64 x13896, .int .i64 (IntKind.i64.wrap (x13957 - x13896))]) hrec13668 s (i := 4) rfl (by kernel_rfl) rfl ?_)
            intro R13969 hR13970
            refine WPK.seq ?_
            refine WPK.region ?_
            refine RW.seg hT 1 [] [] [.int .i64 x13896] [] (by kernel_rfl) (trivial) ?_
            refine RW.nil ?_
            refine WPK.region ?_
            refine RW.seg hT 1 [] [] [.int .i64 (IntKind.i64.wrap (x13957 - x13896))] [] (by kernel_rfl) (trivial) ?_
            refine RW.nil ?_
            refine RoundBeg.of hrec13668 s (i := 4) rfl ?_
            intro w13971 s k13972
            replace rp13688 := rp13688.st k13972
            replace rp13297 := rp13297.st k13972
            replace eg0 := eg0.st k13972
            replace kk := kk.trans k13972
            refine WPK.block ?_
            refine WPK.seq ?_
            refine WPK.region ?_
            refine RW.seg hT 3 [.int .i64 p1] [] [.int .i64 (IntKind.i64.wrap (x13957 - x13896)), .int .i64 p1, .bool (decide ((IntKind.i64.wrap (x13957 - x13896)) ≥ p1))] [.cell ⟨b13300, 0, none⟩ (.int .i64 p1)] (by kernel_rfl) (s.cell (i := 8) (off := 0) rfl rfl) ?_
            refine RW.nil ?_
            by_cases h13973 : (IntKind.i64.wrap (x13957 - x13896)) ≥ p1
            · have hf := iteT h13973 hf
              refine WPK.condT (Eq.trans (b := .bool (decide ((IntKind.i64.wrap (x13957 - x13896)) ≥ p1))) (by kernel_rfl) (bo_t h13973)) ?_
              refine WPK.seq ?_
              refine WPK.region ?_
              refine RW.seg hT 1 [] [] [.int .i64 x13896] [] (by kernel_rfl) (trivial) ?_
              refine RW.op (by kernel_rfl) (OK.store hT (i := 7) (b := b13303) (off := 0) (n := 1) (vs := [.int .i64 x13896]) (cs := [.int .i64 (-1)]) (e := 3) s (by kernel_rfl) rfl rfl (flat_ok rfl) (Nat.le_of_ble_eq_true rfl) ?_)
              rintro w13974 s k13975 -
              replace rp13688 := rp13688.st k13975
              replace rp13297 := rp13297.st k13975
              replace eg0 := eg0.st k13975
              replace kk := kk.trans k13975
              refine RW.nil ?_
              refine WPK.exit (blockQ.other rfl (?_))
              refine RoundEnd.stop (Code.exit 0) hrec13668 s (i := 4) rfl ?_
              intro w13976 s k13977
              replace rp13688 := rp13688.st k13977
              replace rp13297 := rp13297.st k13977
              replace eg0 := eg0.st k13977
              replace kk := kk.trans k13977
              refine hR13970 _ _ ?_
              refine RW.seg hT 1 [] [] [.bool true] [] (by kernel_rfl) (trivial) ?_
              refine RW.nil ?_
              refine WPK.condT (by kernel_rfl) ?_
              refine WPK.ret (blockQ.ret (blockQ.ret (?_)))
              refine Fin.of (rs := []) hT [] (.tuple #[]) [] rfl (by kernel_rfl) (trivial) ?_
              refine hR13672 _ _ (RangeEnd.jump hrec13668 s (i := 4) rfl ?_)
              intro w13978 s k13979
              replace rp13688 := rp13688.st k13979
              replace rp13297 := rp13297.st k13979
              replace eg0 := eg0.st k13979
              replace kk := kk.trans k13979
              refine WPK.exit (blockQ.same ?_)
              replace s := s.pick [2, 3, 6, 4] 8 rfl
              exact fun X h => kc (by kernel_rfl) rfl (h I13954 x13896 d13666 [.pointer (some ⟨b13291, 0, none⟩), .int .i64 p1, undef, .pointer (some ⟨b13300, 0, none⟩), undef, undef, .int .i64 p1, .bool (decide (p1 < 1)), undef, .pointer (some ⟨b13291, 0, none⟩), .func (.func 31) #[] #[.pointer (some ⟨b13663, 0, none⟩)], undef, undef, undef, undef, undef, undef] _ hf s kk rp13297 eg0)
            · have hf := iteF h13973 hf
              refine WPK.condF (Eq.trans (b := .bool (decide ((IntKind.i64.wrap (x13957 - x13896)) ≥ p1))) (by kernel_rfl) (bo_f h13973)) ?_
              refine WPK.skip ?_
              refine RoundEnd.next hrec13668 s (i := 4) rfl ?_
              intro w13980 s k13981
              replace rp13688 := rp13688.st k13981
              replace rp13297 := rp13297.st k13981
              replace eg0 := eg0.st k13981
              replace kk := kk.trans k13981
              refine hR13970 _ _ ?_
              refine RW.seg hT 1 [] [] [.bool false] [] (by kernel_rfl) (trivial) ?_
              refine RW.nil ?_
              refine WPK.condF (by kernel_rfl) ?_
              refine WPK.skip ?_
              refine WPK.region ?_
              refine RW.seg hT 2 [.pointer (some ⟨b13291, 0, none⟩)] [] [.pointer (some ⟨b13291, 0, none⟩), .int .i64 x13957] [.cell ⟨b13663, 0, none⟩ (.pointer (some ⟨b13291, 0, none⟩))] (by kernel_rfl) (s.cell (i := 6) (off := 0) rfl rfl) ?_
              replace s := s.pick [2, 3, 0, 1, 4, 5, 6, 7, 8] 9 rfl
              obtain ⟨x13982, hx13983, hf⟩ := bindS hf
              refine RW.op (by kernel_rfl) (OK.call' en27 (by kernel_rfl) (c27_1 (F := (.blk b13682 (.cells #[.int .i64 x13681.n, .slice A13683 n13684 c13685] 53 (0, 0))) :: (.sl (.slice A13683 n13684 c13685) 61 1 n13684 cl13686) :: (.blk l13665 (rec13667 .ready none)) :: (.blk d13666 (.deferred (some []))) :: (.blk b13663 (.cells #[.pointer (some ⟨b13291, 0, none⟩)] 25 (0, 0))) :: (.blk b13303 (.cells #[.int .i64 (-1)] 3 (0, 0))) :: (.blk b13300 (.cells #[.int .i64 p1] 3 (0, 0))) :: F) p0 x13957 b13291 A13292 n13293 c13294 cl13295 hn13296 rp13297 eg0 s hx13983) ?_)
              intro X13986 hX13987
              refine fun _ _ hJ => hJ X13986 ?_
              intro I13988 w13984 s k13985
              refine hX13987 _ _ ?_
              replace rp13297 := rp13297.st k13985
              replace rp13688 := rp13688.st k13985
              replace eg0 := eg0.st k13985
              replace kk := kk.trans k13985
              refine RW.seg hT 1 [] [] [.int .i64 x13982] [] (by kernel_rfl) (trivial) ?_
              refine RW.nil ?_
              subst hrec13945
              exact ⟨n13944, Nat.le_refl _, fun X h => kc (by kernel_rfl) rfl (h I13988 x13982 [(D13956.getD 0 undef), .int .i64 x13957, (D13956.getD 1 undef), (D13956.getD 2 undef), (D13956.getD 3 undef), (D13956.getD 4 undef), .int .i64 x13896, .bool (decide (x13896 ≥ 0)), (D13956.getD 5 undef), (D13956.getD 6 undef), .int .i64 x13948, .int .i64 x13948, .bool (decide (x13948 < 0)), (D13956.getD 7 undef), (D13956.getD 8 undef), (D13956.getD 9 undef), (D13956.getD 10 undef), .func (.yield l13665) #[] #[], .int .i64 x13896, .int .i64 x13957, .int .i64 x13896, .int .i64 (IntKind.i64.wrap (x13957 - x13896)), .bool true, .bool false, .pointer (some ⟨b13291, 0, none⟩), .int .i64 x13957, .int .i64 x13982] _ hf s kk rp13297 rp13688 eg0)⟩
          · refine WPK.seq ?_
            refine WPK.region ?_
            refine RW.seg hT 2 [] [] [.int .i64 x13948, .bool (decide (x13948 < 0))] [] (by kernel_rfl) (trivial) ?_
            refine RW.nil ?_
            by_cases h13991 : x13948 < 0
            · have hf := iteT h13991 hf
              refine WPK.condT (Eq.trans (b := .bool (decide (x13948 < 0))) (by kernel_rfl) (bo_t h13991)) ?_
              refine WPK.region ?_
              refine RW.seg hT 5 [.pointer (some ⟨b13291, 0, none⟩), .int .i64 p0.n] [] [.pointer (some ⟨b13291, 0, none⟩), .pointer (some ⟨b13291, 0, none⟩), .pointer (some ⟨b13291, 0, none⟩), .int .i64 p0.n, .int .i64 p0.n] [.cell ⟨b13663, 0, none⟩ (.pointer (some ⟨b13291, 0, none⟩)), .cell ⟨b13291, 0, none⟩ (.int .i64 p0.n)] (by kernel_rfl) (⟨s.cell (i := 6) (off := 0) rfl rfl, s.cell (i := 2) (off := 0) rfl rfl⟩) ?_
              refine RW.nil ?_
              exact fun X h => kc (by kernel_rfl) rfl (h p0.n [(D13895.getD 0 undef), (D13895.getD 2 undef), (D13895.getD 3 undef), (D13895.getD 4 undef), (D13895.getD 5 undef), .pointer (some ⟨b13682, 0, none⟩), .int .i64 x13896, .pointer (some ⟨b13291, 0, none⟩), .pointer (some ⟨b13291, 0, none⟩), .pointer (some ⟨b13291, 0, none⟩), .int .i64 p0.n, (D13895.getD 17 undef), (D13895.getD 18 undef), (D13895.getD 21 undef), (D13895.getD 24 undef), (D13895.getD 25 undef)] hf)
            · have hf := iteF h13991 hf
              refine WPK.condF (Eq.trans (b := .bool (decide (x13948 < 0))) (by kernel_rfl) (bo_f h13991)) ?_
              refine WPK.skip ?_
              exact fun X h => kc (by kernel_rfl) rfl (h x13948 [(D13895.getD 0 undef), (D13895.getD 2 undef), (D13895.getD 3 undef), (D13895.getD 4 undef), (D13895.getD 5 undef), .pointer (some ⟨b13682, 0, none⟩), .int .i64 x13896, (D13895.getD 13 undef), (D13895.getD 14 undef), (D13895.getD 15 undef), (D13895.getD 16 undef), (D13895.getD 17 undef), (D13895.getD 18 undef), (D13895.getD 21 undef), (D13895.getD 24 undef), (D13895.getD 25 undef)] hf)
        · have hf := iteF h13947 hf
          refine WPK.condF (Eq.trans (b := .bool (decide (x13896 ≥ 0))) (by kernel_rfl) (bo_f h13947)) ?_
          refine WPK.exit (blockQ.same ?_)
          refine Fin.of (rs := []) hT [] (.tuple #[]) [] rfl (by kernel_rfl) (trivial) ?_
          refine hR13672 _ _ (RangeEnd.done hrec13668 s (i := 4) rfl ?_)
          intro w13992 s k13993
          replace rp13297 := rp13297.st k13993
          replace rp13688 := rp13688.st k13993
          replace eg0 := eg0.st k13993
          replace kk := kk.trans k13993
          replace s := s.pick [0, 1, 6, 4] 8 rfl
          exact fun X h => kc (by kernel_rfl) rfl (h I13898 (-1) d13666 [.pointer (some ⟨b13291, 0, none⟩), .int .i64 p1, undef, .pointer (some ⟨b13300, 0, none⟩), undef, undef, .int .i64 p1, .bool (decide (p1 < 1)), undef, .pointer (some ⟨b13291, 0, none⟩), .func (.func 31) #[] #[.pointer (some ⟨b13663, 0, none⟩)], undef, undef, undef, undef, undef, undef] _ hf s kk rp13297 eg0)
theorem c18_1 {w0 w : World} {M I : Nat → Prop} {F : List It} (p0 : T_extent_Set) (b14942 : Nat) (A14943 : Option Addr) (n14944 : Nat) (c14945 : Nat) (cl14946 : List Value) (hn14947 : n14944 = p0.w.length) (rp14948 : RepL (Rp.int .u64) I w cl14946 p0.w) (s : St w0 M I ((.blk b14942 (.cells #[.int .i64 p0.n, .slice A14943 n14944 c14945] 53 (0, 0))) :: (.sl (.slice A14943 n14944 c14945) 61 1 n14944 cl14946) :: F) w) {r : Bool} (hf : g18_1 p0 = some r) :
    Ret Tryd.prog 18 [.pointer (some ⟨b14942, 0, none⟩), .pointer none] w fun v wz => ∀ X : Value → World → Prop, (∀ (I' : Nat → Prop) (w' : World), St w0 M I' ((.blk b14942 (.cells #[.int .i64 p0.n, .slice A14943 n14944 c14945] 53 (0, 0))) :: (.sl (.slice A14943 n14944 c14945) 61 1 n14944 cl14946) :: F) w' → Kp I w I' w' → X (.bool r) w') → X v wz := by
  have kk : Kp I w I w := Kp.refl
  unfold g18_1 at hf
  refine Ret.of Tryd.func18 rfl ?_
  refine WPK.seq ?_
  refine WPK.region ?_
  refine RW.seg hT 1 [] [] [.bool false] [] (by kernel_rfl) (trivial) ?_
  refine RW.nil ?_
  refine WPK.seq ?_
  refine WPK.seq ?_
  refine WPK.cut' (fun E ds wz => ∀ X : Kont, (∀ (I15035 : Nat → Prop) (x15033 : Bool) (D15032 : List Value) (w' : World), g18_1_j1 p0 x15033 = some r → St w0 M I15035 ((.blk b14942 (.cells #[.int .i64 p0.n, .slice A14943 n14944 c14945] 53 (0, 0))) :: (.sl (.slice A14943 n14944 c14945) 61 1 n14944 cl14946) :: F) w' → Kp I w I15035 w' → RepL (Rp.int .u64) I15035 w' cl14946 p0.w → X [.pointer (some ⟨b14942, 0, none⟩), .pointer none, (D15032.getD 0 undef), (D15032.getD 1 undef), .bool false, (D15032.getD 2 undef), (D15032.getD 3 undef), (D15032.getD 4 undef), (D15032.getD 5 undef), (D15032.getD 6 undef), .bool x15033, (D15032.getD 7 undef), undef, undef, (D15032.getD 8 undef), undef, undef, undef, undef, undef, undef, undef, undef, undef, undef, undef, undef, undef, undef, undef, (D15032.getD 9 undef), undef, undef, undef, (D15032.getD 10 undef), undef, undef] [] w') → X E ds wz) ?_ ?_
  · intro X15083 hX15084
    refine fun _ _ _ hJ => hJ X15083 ?_
    intro I15035 x15033 D15032 w15034 hf s kk rp14948
    refine hX15084 _ _ _ ?_
    unfold g18_1_j1 at hf
    by_cases h15036 : x15033 = true
    · have hf := iteT h15036 hf
      refine WPK.condT (Eq.trans (b := .bool x15033) (by kernel_rfl) (b_t h15036)) ?_
      refine WPK.seq ?_
      refine WPK.cut' (fun E ds wz => ∀ X : Kont, (∀ (I15055 : Nat → Prop) (x15053 : Bool) (D15052 : List Value) (w' : World), g18_1_j2 x15053 = some r → St w0 M I15055 ((.blk b14942 (.cells #[.int .i64 p0.n, .slice A14943 n14944 c14945] 53 (0, 0))) :: (.sl (.slice A14943 n14944 c14945) 61 1 n14944 cl14946) :: F) w' → Kp I w I15055 w' → RepL (Rp.int .u64) I15055 w' cl14946 p0.w → X [.pointer (some ⟨b14942, 0, none⟩), .pointer none, (D15052.getD 0 undef), (D15052.getD 1 undef), .bool x15053, (D15052.getD 2 undef), (D15052.getD 3 undef), (D15052.getD 4 undef), (D15052.getD 5 undef), (D15052.getD 6 undef), (D15052.getD 7 undef), (D15052.getD 8 undef), (D15052.getD 9 undef), (D15052.getD 10 undef), (D15052.getD 11 undef), (D15052.getD 12 undef), (D15052.getD 13 undef), undef, undef, undef, undef, undef, undef, undef, undef, undef, undef, undef, undef, undef, (D15052.getD 14 undef), undef, undef, undef, (D15052.getD 15 undef), undef, undef] [] w') → X E ds wz) ?_ ?_
      · intro X15056 hX15057
        refine fun _ _ _ hJ => hJ X15056 ?_
        intro I15055 x15053 D15052 w15054 hf s kk rp14948
        refine hX15057 _ _ _ ?_
        unfold g18_1_j2 at hf
        refine WPK.ret (?_)
        obtain rfl := someS hf
        refine Fin.of (rs := [.tmp 4]) hT [] (.bool x15053) [] rfl (by kernel_rfl) (trivial) ?_
        exact fun X h => vc rfl (h I15055 _ s kk)
      · refine WPK.region ?_
        refine RW.seg hT 1 [] [] [.pointer (some ⟨b14942, 0, none⟩)] [] (by kernel_rfl) (trivial) ?_
        obtain ⟨x15058, hx15059, hf⟩ := bindS hf
        refine RW.op (by kernel_rfl) (OK.call' en34 (by kernel_rfl) (c34_1 (F := F) p0 b14942 A14943 n14944 c14945 cl14946 hn14947 rp14948 s hx15059) ?_)
        intro X15062 hX15063
        refine fun _ _ hJ => hJ X15062 ?_
        intro I15064 w15060 s k15061
        refine hX15063 _ _ ?_
        replace rp14948 := rp14948.st k15061
        replace kk := kk.trans k15061
        by_cases h15065 : x15058 = true
        · have hf := iteT h15065 hf
          refine RW.seg hT 2 [] [(13, .bool true)] [.bool true, .pointer none] [.veq (.bool (x15058)) (.bool true)] (by kernel_rfl) (b_t h15065) ?_
          obtain ⟨x15066, hx15067, hf⟩ := bindS hf
          refine RW.op (by kernel_rfl) (OK.call' en34 (by kernel_rfl) (c34 (F := (.blk b14942 (.cells #[.int .i64 p0.n, .slice A14943 n14944 c14945] 53 (0, 0))) :: (.sl (.slice A14943 n14944 c14945) 61 1 n14944 cl14946) :: F) s hx15067) ?_)
          intro X15070 hX15071
          refine fun _ _ hJ => hJ X15070 ?_
          intro I15072 w15068 s k15069
          refine hX15071 _ _ ?_
          replace rp14948 := rp14948.st k15069
          replace kk := kk.trans k15069
          refine RW.seg hT 2 [] [] [.bool x15066, .bool x15066] [] (by kernel_rfl) (trivial) ?_
          refine RW.nil ?_
          exact fun X h => kc (by kernel_rfl) rfl (h I15072 x15066 [(D15032.getD 0 undef), (D15032.getD 1 undef), (D15032.getD 2 undef), (D15032.getD 3 undef), (D15032.getD 4 undef), (D15032.getD 5 undef), (D15032.getD 6 undef), .bool x15033, .pointer (some ⟨b14942, 0, none⟩), .bool x15058, .bool true, .pointer none, .bool x15066, .bool x15066, (D15032.getD 9 undef), (D15032.getD 10 undef)] _ hf s kk rp14948)
        · have hf := iteF h15065 hf
          refine RW.seg hT 5 [] [(13, .bool false)] [.bool false, undef, undef, .bool false, .bool false] [.veq (.bool (x15058)) (.bool false)] (by kernel_rfl) (b_f h15065) ?_
          refine RW.nil ?_
          exact fun X h => kc (by kernel_rfl) rfl (h I15064 false [(D15032.getD 0 undef), (D15032.getD 1 undef), (D15032.getD 2 undef), (D15032.getD 3 undef), (D15032.getD 4 undef), (D15032.getD 5 undef), (D15032.getD 6 undef), .bool x15033, .pointer (some ⟨b14942, 0, none⟩), .bool x15058, .bool false, undef, undef, .bool false, (D15032.getD 9 undef), (D15032.getD 10 undef)] _ hf s kk rp14948)
    · have hf := iteF h15036 hf
      refine WPK.condF (Eq.trans (b := .bool x15033) (by kernel_rfl) (b_f h15036)) ?_
      refine WPK.skip ?_
      refine WPK.seq ?_
      have rp14948S15078 := rp14948
      have kS15082 : Kp I15035 w15034 I15035 w15034 := Kp.refl
      refine WPK.draw (fun w' => ∃ I' : Nat → Prop, St w0 M I' ((.blk b14942 (.cells #[.int .i64 p0.n, .slice A14943 n14944 c14945] 53 (0, 0))) :: (.sl (.slice A14943 n14944 c14945) 61 1 n14944 cl14946) :: F) w' ∧ Kp I15035 w15034 I' w') 21 (by kernel_rfl) ?_
      intro w15079 hd15080
      have k15081 := Kp.dr s hd15080
      replace s := s.dr hd15080
      replace rp14948 := rp14948.st k15081
      replace kk := kk.trans k15081
      replace kS15082 := kS15082.trans k15081
      exact noneS hf
  · refine WPK.region ?_
    refine RW.seg hT 1 [] [] [.pointer (some ⟨b14942, 0, none⟩)] [] (by kernel_rfl) (trivial) ?_
    obtain ⟨x15085, hx15086, hf⟩ := bindS hf
    refine RW.op (by kernel_rfl) (OK.call' en34 (by kernel_rfl) (c34_1 (F := F) p0 b14942 A14943 n14944 c14945 cl14946 hn14947 rp14948 s hx15086) ?_)
    intro X15089 hX15090
    refine fun _ _ hJ => hJ X15089 ?_
    intro I15091 w15087 s k15088
    refine hX15090 _ _ ?_
    replace rp14948 := rp14948.st k15088
    replace kk := kk.trans k15088
    by_cases h15092 : x15085 = true
    · have hf := iteT h15092 hf
      refine RW.seg hT 4 [] [(7, .bool true)] [.bool true, undef, undef, .bool true] [.veq (.bool (x15085)) (.bool true)] (by kernel_rfl) (b_t h15092) ?_
      refine RW.nil ?_
      exact fun X h => kc (by kernel_rfl) rfl (h I15091 true [undef, undef, .pointer (some ⟨b14942, 0, none⟩), .bool x15085, .bool true, undef, undef, undef, undef, undef, undef] _ hf s kk rp14948)
    · have hf := iteF h15092 hf
      refine RW.seg hT 2 [] [(7, .bool false)] [.bool false, .pointer none] [.veq (.bool (x15085)) (.bool false)] (by kernel_rfl) (b_f h15092) ?_
      obtain ⟨x15093, hx15094, hf⟩ := bindS hf
      refine RW.op (by kernel_rfl) (OK.call' en34 (by kernel_rfl) (c34 (F := (.blk b14942 (.cells #[.int .i64 p0.n, .slice A14943 n14944 c14945] 53 (0, 0))) :: (.sl (.slice A14943 n14944 c14945) 61 1 n14944 cl14946) :: F) s hx15094) ?_)
      intro X15097 hX15098
      refine fun _ _ hJ => hJ X15097 ?_
      intro I15099 w15095 s k15096
      refine hX15098 _ _ ?_
      replace rp14948 := rp14948.st k15096
      replace kk := kk.trans k15096
      refine RW.seg hT 1 [] [] [.bool x15093] [] (by kernel_rfl) (trivial) ?_
      refine RW.nil ?_
      exact fun X h => kc (by kernel_rfl) rfl (h I15099 x15093 [undef, undef, .pointer (some ⟨b14942, 0, none⟩), .bool x15085, .bool false, .pointer none, .bool x15093, undef, undef, undef, undef] _ hf s kk rp14948)
theorem c19 {w0 w : World} {M I : Nat → Prop} {F : List It} (p0 : Int) (s : St w0 M I (F) w) {r : ((Option T_extent_Set) × Int)} (hf : g19 p0 = some r) :
    Ret Tryd.prog 19 [.int .i64 p0] w fun v wz => ∀ X : Value → World → Prop, (∀ (I' : Nat → Prop) (w' : World), r.1 = none → St w0 M I' (F) w' → Kp I w I' w' → X (.tuple #[.pointer none, .int .i64 r.2]) w') → (∀ (y : T_extent_Set) (I' : Nat → Prop) (b39093 : Nat) (A39094 : Option Addr) (n39095 : Nat) (c39096 : Nat) (cl39097 : List Value) (w' : World), r.1 = some y → St w0 M I' ((.blk b39093 (.cells #[.int .i64 y.n, .slice A39094 n39095 c39096] 53 (0, 0))) :: (.sl (.slice A39094 n39095 c39096) 61 1 n39095 cl39097) :: F) w' → Kp I w I' w' → n39095 = y.w.length → RepL (Rp.int .u64) I' w' cl39097 y.w → X (.tuple #[.pointer (some ⟨b39093, 0, none⟩), .int .i64 r.2]) w') → X v wz := by
  have kk : Kp I w I w := Kp.refl
  unfold g19 at hf
  refine Ret.of Tryd.func19 rfl ?_
  refine WPK.seq ?_
  refine WPK.region ?_
  refine RW.seg hT 2 [] [] [.pointer none, .int .i64 0] [] (by kernel_rfl) (trivial) ?_
  refine RW.nil ?_
  refine WPK.seq ?_
  refine WPK.seq ?_
  refine WPK.cut' (fun E ds wz => ∀ X : Kont, (∀ (x39075 : Bool) (D39074 : List Value), g19_j1 p0 x39075 = some r → X [.int .i64 p0, (D39074.getD 0 undef), .pointer none, .int .i64 0, (D39074.getD 1 undef), (D39074.getD 2 undef), (D39074.getD 3 undef), (D39074.getD 4 undef), (D39074.getD 5 undef), .bool x39075, undef, undef, undef, undef, undef, undef, undef, undef] [] w) → X E ds wz) ?_ ?_
  · intro X39090 hX39091
    refine fun _ _ _ hJ => hJ X39090 ?_
    intro x39075 D39074 hf
    refine hX39091 _ _ _ ?_
    unfold g19_j1 at hf
    by_cases h39076 : x39075 = true
    · have hf := iteT h39076 hf
      refine WPK.condT (Eq.trans (b := .bool x39075) (by kernel_rfl) (b_t h39076)) ?_
      refine WPK.seq ?_
      refine WPK.region ?_
      refine RW.seg hT 2 [] [] [.pointer none, .int .i64 1] [] (by kernel_rfl) (trivial) ?_
      refine RW.nil ?_
      refine WPK.ret (?_)
      obtain rfl := someS hf
      refine Fin.of (rs := [.tmp 2, .tmp 3]) hT [] (.tuple #[.pointer none, .int .i64 1]) [] rfl (by kernel_rfl) (trivial) ?_
      exact fun X h h' => vc rfl (h I _ rfl s kk)
    · have hf := iteF h39076 hf
      refine WPK.condF (Eq.trans (b := .bool x39075) (by kernel_rfl) (b_f h39076)) ?_
      refine WPK.skip ?_
      refine WPK.seq ?_
      refine WPK.region ?_
      obtain ⟨x39077, hx39078, hf⟩ := bindS hf
      refine RW.seg hT 5 [] [(14, .int .i64 x39077)] [.int .i64 p0, .int .i64 p0, .int .i64 (IntKind.i64.wrap (p0 + 64)), .int .i64 (IntKind.i64.wrap ((IntKind.i64.wrap (p0 + 64)) - 1)), .int .i64 x39077] [.both (.ne0 64) (.veq (.int .i64 (IntKind.i64.wrap (Int.tdiv (IntKind.i64.wrap ((IntKind.i64.wrap (p0 + 64)) - 1)) 64))) (.int .i64 x39077))] (by kernel_rfl) (⟨(show (64 : Int) ≠ 0 by decide), int_v (someS hx39078)⟩) ?_
      obtain ⟨x39079, hx39080, hf⟩ := bindS hf
      refine RW.op (by kernel_rfl) (OK.make hT (r := (Rp.int .u64)) (n := x39077) (z := .int .u64 0) (x := 0) (e := 61) (bytes := 8) s (by kernel_rfl) hx39080 (fun _ _ => rfl) ?_)
      rintro w39081 b39082 cl39083 s k39084 rp39085
      replace kk := kk.trans k39084
      refine RW.seg hT 1 [] [] [.agg #[.int .i64 p0, .slice (some ⟨b39082, 0, none⟩) x39079.length x39079.length]] [] (by kernel_rfl) (trivial) ?_
      refine RW.op (by kernel_rfl) (OK.new hT (f := fun b => .pointer (some ⟨b, 0, none⟩)) (cs := [.int .i64 p0, .slice (some ⟨b39082, 0, none⟩) x39079.length x39079.length]) (e := 53) (c := .tt) s (by kernel_rfl) trivial ?_)
      rintro w39087 b39088 s k39089 -
      replace rp39085 := rp39085.st k39089
      replace kk := kk.trans k39089
      refine RW.seg hT 2 [] [] [.pointer (some ⟨b39088, 0, none⟩), .int .i64 0] [] (by kernel_rfl) (trivial) ?_
      refine RW.nil ?_
      refine WPK.ret (?_)
      obtain rfl := someS hf
      refine Fin.of (rs := [.tmp 2, .tmp 3]) hT [] (.tuple #[.pointer (some ⟨b39088, 0, none⟩), .int .i64 0]) [] rfl (by kernel_rfl) (trivial) ?_
      exact fun X h h' => vc rfl (h' (T_extent_Set.mk p0 x39079) I b39088 (some ⟨b39082, 0, none⟩) x39079.length x39079.length cl39083 _ rfl s kk rfl rp39085)
  · refine WPK.region ?_
    refine RW.seg hT 2 [] [] [.int .i64 p0, .bool (decide (p0 < 1))] [] (by kernel_rfl) (trivial) ?_
    by_cases h39092 : p0 < 1
    · have hf := iteT h39092 hf
      refine RW.seg hT 4 [] [(6, .bool true)] [.bool true, undef, undef, .bool true] [.veq (.bool (decide (p0 < 1))) (.bool true)] (by kernel_rfl) (bo_t h39092) ?_
      refine RW.nil ?_
      exact fun X h => kc (by kernel_rfl) rfl (h true [undef, .int .i64 p0, .bool (decide (p0 < 1)), .bool true, undef, undef] hf)
    · have hf := iteF h39092 hf
      refine RW.seg hT 4 [] [(6, .bool false)] [.bool false, .int .i64 p0, .bool (decide (p0 > 2048)), .bool (decide (p0 > 2048))] [.veq (.bool (decide (p0 < 1))) (.bool false)] (by kernel_rfl) (bo_f h39092) ?_
      refine RW.nil ?_
      exact fun X h => kc (by kernel_rfl) rfl (h (decide (p0 > 2048)) [undef, .int .i64 p0, .bool (decide (p0 < 1)), .bool false, .int .i64 p0, .bool (decide (p0 > 2048))] hf)
theorem c10 {w0 w : World} {M I : Nat → Prop} {F : List It} (p0 : Int) (p1 : (List Int)) (A39316 : Option Addr) (c39317 : Nat) (hc39318 : (p1.length ≤ c39317 ∧ c39317 ≤ 9223372036854775807)) (e39319 : Elems (Rp.int .i64) I w A39316 p1) (s : St w0 M I (F) w) {r : (Option T_extent_Set)} (hf : g10 p0 p1 = some r) :
    Ret Tryd.prog 10 [.int .i64 p0, .slice A39316 p1.length c39317] w fun v wz => ∀ X : Value → World → Prop, (∀ (I' : Nat → Prop) (w' : World), r = none → St w0 M I' (F) w' → Kp I w I' w' → X (.pointer none) w') → (∀ (y : T_extent_Set) (I' : Nat → Prop) (b39535 : Nat) (A39536 : Option Addr) (n39537 : Nat) (c39538 : Nat) (cl39539 : List Value) (w' : World), r = some y → St w0 M I' ((.blk b39535 (.cells #[.int .i64 y.n, .slice A39536 n39537 c39538] 53 (0, 0))) :: (.sl (.slice A39536 n39537 c39538) 61 1 n39537 cl39539) :: F) w' → Kp I w I' w' → n39537 = y.w.length → RepL (Rp.int .u64) I' w' cl39539 y.w → X (.pointer (some ⟨b39535, 0, none⟩)) w') → X v wz := by
  have kk : Kp I w I w := Kp.refl
  unfold g10 at hf
  refine Ret.of Tryd.func10 rfl ?_
  refine WPK.seq ?_
  refine WPK.region ?_
  refine RW.seg hT 1 [] [] [.pointer none] [] (by kernel_rfl) (trivial) ?_
  refine RW.nil ?_
  refine WPK.seq ?_
  refine WPK.region ?_
  refine RW.seg hT 1 [] [] [.int .i64 p0] [] (by kernel_rfl) (trivial) ?_
  obtain ⟨x39320, hx39321, hf⟩ := bindS hf
  refine RW.op (by kernel_rfl) (OK.call' en19 (by kernel_rfl) (c19 (F := F) p0 s hx39321) ?_)
  intro X39324 hX39325
  refine fun _ _ hJ => hJ X39324 ?_ ?_
  · intro I39326 w39322 hv s k39323
    refine hX39325 _ _ ?_
    replace hf := optN hv hf
    replace e39319 := e39319.st k39323
    replace kk := kk.trans k39323
    refine RW.seg hT 5 [] [] [.tuple #[.pointer none, .int .i64 x39320.2], .pointer none, .int .i64 x39320.2, .pointer none, .int .i64 x39320.2] [] (by kernel_rfl) (trivial) ?_
    refine RW.nil ?_
    refine WPK.seq ?_
    refine WPK.seq ?_
    refine WPK.cut' (fun E ds wz => ∀ X : Kont, (∀ (D39340 : List Value), g10_j1 = some r → X [(D39340.getD 0 undef), .slice A39316 p1.length c39317, (D39340.getD 1 undef), (D39340.getD 2 undef), .pointer none, .pointer none, (D39340.getD 3 undef), (D39340.getD 4 undef), undef, (D39340.getD 5 undef), (D39340.getD 6 undef), (D39340.getD 7 undef), (D39340.getD 8 undef), (D39340.getD 9 undef), (D39340.getD 10 undef), (D39340.getD 11 undef), (D39340.getD 12 undef), (D39340.getD 13 undef), (D39340.getD 14 undef), .bool true, undef, undef, undef, undef, undef, undef, (D39340.getD 15 undef), (D39340.getD 16 undef), (D39340.getD 17 undef), undef, undef] [] w39322) → X E ds wz) ?_ ?_
    · intro X39341 hX39342
      refine fun _ _ _ hJ => hJ X39341 ?_
      intro D39340 hf
      refine hX39342 _ _ _ ?_
      unfold g10_j1 at hf
      refine WPK.condT (by kernel_rfl) ?_
      refine WPK.seq ?_
      refine WPK.region ?_
      refine RW.seg hT 1 [] [] [.pointer none] [] (by kernel_rfl) (trivial) ?_
      refine RW.nil ?_
      refine WPK.ret (?_)
      obtain rfl := someS hf
      refine Fin.of (rs := [.tmp 4]) hT [] (.pointer none) [] rfl (by kernel_rfl) (trivial) ?_
      exact fun X h h' => vc rfl (h I39326 _ rfl s kk)
    · refine WPK.region ?_
      refine RW.seg hT 2 [] [(15, .bool (decide (x39320.2 ≠ 0)))] [.int .i64 x39320.2, .bool (decide (x39320.2 ≠ 0))] [.veq (.bool (x39320.2 != 0)) (.bool (decide (x39320.2 ≠ 0)))] (by kernel_rfl) (ne_v) ?_
      by_cases h39343 : x39320.2 ≠ 0
      · have hf := iteT h39343 hf
        refine RW.seg hT 4 [] [(16, .bool true)] [.bool true, undef, undef, .bool true] [.veq (.bool (decide (x39320.2 ≠ 0))) (.bool true)] (by kernel_rfl) (bo_t h39343) ?_
        refine RW.nil ?_
        exact fun X h => kc (by kernel_rfl) rfl (h [.int .i64 p0, undef, undef, .int .i64 x39320.2, undef, .tuple #[.pointer none, .int .i64 x39320.2], .int .i64 p0, .tuple #[.pointer none, .int .i64 x39320.2], .pointer none, .int .i64 x39320.2, .int .i64 x39320.2, .bool (decide (x39320.2 ≠ 0)), .bool true, undef, undef, undef, undef, undef] hf)
      · have hf := iteF h39343 hf
        refine RW.seg hT 4 [] [(16, .bool false)] [.bool false, .pointer none, .bool true, .bool true] [.veq (.bool (decide (x39320.2 ≠ 0))) (.bool false)] (by kernel_rfl) (bo_f h39343) ?_
        refine RW.nil ?_
        exact fun X h => kc (by kernel_rfl) rfl (h [.int .i64 p0, undef, undef, .int .i64 x39320.2, undef, .tuple #[.pointer none, .int .i64 x39320.2], .int .i64 p0, .tuple #[.pointer none, .int .i64 x39320.2], .pointer none, .int .i64 x39320.2, .int .i64 x39320.2, .bool (decide (x39320.2 ≠ 0)), .bool false, .pointer none, .bool true, undef, undef, undef] hf)
  · intro x39328 I39327 b39329 A39330 n39331 c39332 cl39333 w39322 hv s k39323 hn39334 rp39335
    refine hX39325 _ _ ?_
    replace hf := optS hv hf
    replace e39319 := e39319.st k39323
    replace kk := kk.trans k39323
    refine RW.seg hT 5 [] [] [.tuple #[.pointer (some ⟨b39329, 0, none⟩), .int .i64 x39320.2], .pointer (some ⟨b39329, 0, none⟩), .int .i64 x39320.2, .pointer (some ⟨b39329, 0, none⟩), .int .i64 x39320.2] [] (by kernel_rfl) (trivial) ?_
    refine RW.nil ?_
    refine WPK.seq ?_
    refine WPK.seq ?_
    refine WPK.cut' (fun E ds wz => ∀ X : Kont, (∀ (x39348 : Bool) (D39347 : List Value), g10_j2 p1 x39328 x39348 = some r → X [(D39347.getD 0 undef), .slice A39316 p1.length c39317, (D39347.getD 1 undef), (D39347.getD 2 undef), .pointer none, .pointer (some ⟨b39329, 0, none⟩), (D39347.getD 3 undef), (D39347.getD 4 undef), undef, (D39347.getD 5 undef), (D39347.getD 6 undef), (D39347.getD 7 undef), (D39347.getD 8 undef), (D39347.getD 9 undef), (D39347.getD 10 undef), (D39347.getD 11 undef), (D39347.getD 12 undef), (D39347.getD 13 undef), (D39347.getD 14 undef), .bool x39348, undef, undef, undef, undef, undef, undef, (D39347.getD 15 undef), (D39347.getD 16 undef), (D39347.getD 17 undef), undef, undef] [] w39322) → X E ds wz) ?_ ?_
    · intro X39532 hX39533
      refine fun _ _ _ hJ => hJ X39532 ?_
      intro x39348 D39347 hf
      refine hX39533 _ _ _ ?_
      unfold g10_j2 at hf
      by_cases h39349 : x39348 = true
      · have hf := iteT h39349 hf
        refine WPK.condT (Eq.trans (b := .bool x39348) (by kernel_rfl) (b_t h39349)) ?_
        refine WPK.seq ?_
        refine WPK.region ?_
        refine RW.seg hT 1 [] [] [.pointer none] [] (by kernel_rfl) (trivial) ?_
        refine RW.nil ?_
        refine WPK.ret (?_)
        obtain rfl := someS hf
        refine Fin.of (rs := [.tmp 4]) hT [] (.pointer none) [] rfl (by kernel_rfl) (trivial) ?_
        replace s := s.pick [] 2 rfl
        exact fun X h h' => vc rfl (h I39327 _ rfl s kk)
      · have hf := iteF h39349 hf
        refine WPK.condF (Eq.trans (b := .bool x39348) (by kernel_rfl) (b_f h39349)) ?_
        refine WPK.skip ?_
        refine WPK.seq ?_
        refine WPK.seq ?_
        refine WPK.region ?_
        refine RW.seg hT 3 [] [] [.slice A39316 p1.length c39317, .int .i64 (p1.length : Int), .int .i64 0] [] (by kernel_rfl) (trivial) ?_
        refine RW.nil ?_
        refine WPK.block ?_
        refine WPK.loop' (J := fun n39504 E ds wz => ∀ X : Kont, (∀ (I39478 : Nat → Prop) (x39467 : Int) (x39468 : Int) (x39469 : (List Int)) (D39466 : List Value) (A39470 : Option Addr) (n39471 : Nat) (c39472 : Nat) (cl39473 : List Value) (w' : World), g10_l3 p1 n39504 x39467 x39468 x39469 = some r → St w0 M I39478 ((.blk b39329 (.cells #[.int .i64 x39468, .slice A39470 n39471 c39472] 53 (0, 0))) :: (.sl (.slice A39470 n39471 c39472) 61 1 n39471 cl39473) :: F) w' → Kp I w I39478 w' → Elems (Rp.int .i64) I39478 w' A39316 p1 → n39471 = x39469.length → RepL (Rp.int .u64) I39478 w' cl39473 x39469 → X [(D39466.getD 0 undef), (D39466.getD 1 undef), (D39466.getD 2 undef), (D39466.getD 3 undef), .pointer none, .pointer (some ⟨b39329, 0, none⟩), (D39466.getD 4 undef), (D39466.getD 5 undef), (D39466.getD 6 undef), (D39466.getD 7 undef), (D39466.getD 8 undef), (D39466.getD 9 undef), (D39466.getD 10 undef), (D39466.getD 11 undef), (D39466.getD 12 undef), (D39466.getD 13 undef), (D39466.getD 14 undef), (D39466.getD 15 undef), (D39466.getD 16 undef), (D39466.getD 17 undef), .slice A39316 p1.length c39317, .int .i64 (p1.length : Int), .int .i64 x39467, (D39466.getD 18 undef), (D39466.getD 19 undef), (D39466.getD 20 undef), (D39466.getD 21 undef), (D39466.getD 22 undef), (D39466.getD 23 undef), (D39466.getD 24 undef), undef] [] w') → X E ds wz) FUEL (fun X h => kc (by kernel_rfl) rfl (h I39327 0 x39328.n x39328.w [(D39347.getD 0 undef), .slice A39316 p1.length c39317, (D39347.getD 1 undef), (D39347.getD 2 undef), (D39347.getD 3 undef), (D39347.getD 4 undef), undef, (D39347.getD 5 undef), (D39347.getD 6 undef), (D39347.getD 7 undef), (D39347.getD 8 undef), (D39347.getD 9 undef), (D39347.getD 10 undef), (D39347.getD 11 undef), (D39347.getD 12 undef), (D39347.getD 13 undef), (D39347.getD 14 undef), .bool x39348, undef, undef, undef, (D39347.getD 15 undef), (D39347.getD 16 undef), (D39347.getD 17 undef), undef] A39330 n39331 c39332 cl39333 _ hf s kk e39319 hn39334 rp39335)) (fun _ _ _ hJ => hJ (fun _ _ _ => False) (by intro I39478 x39467 x39468 x39469 D39466 A39470 n39471 c39472 cl39473 w39477 hf s kk e39319 hn39474 rp39475; exact noneS hf)) ?_
        intro X39530 hX39531
        refine fun n39504 _ _ _ hJ => hJ (X39530 n39504) ?_
        intro I39478 x39467 x39468 x39469 D39466 A39470 n39471 c39472 cl39473 w39477 hf s kk e39319 hn39474 rp39475
        refine hX39531 _ _ _ _ ?_
        replace hf : g10_l3B p1 (g10_l3 p1 n39504) x39467 x39468 x39469 = some r := hf
        generalize hrec39505 : g10_l3 p1 n39504 = rec39503 at hf
        unfold g10_l3B at hf
        refine WPK.seq ?_
        refine WPK.region ?_
        refine RW.seg hT 1 [] [] [.bool (decide (x39467 < (p1.length : Int)))] [] (by kernel_rfl) (trivial) ?_
        refine RW.nil ?_
        refine WPK.seq ?_
        by_cases h39507 : x39467 < (p1.length : Int)
        · have hf := iteT h39507 hf
          refine WPK.condT (Eq.trans (b := .bool (decide (x39467 < (p1.length : Int)))) (by kernel_rfl) (bo_t h39507)) ?_
          refine WPK.skip ?_
          refine WPK.seq ?_
          refine WPK.block ?_
          refine WPK.seq ?_
          refine WPK.region ?_
          obtain ⟨x39508, hx39509, hf⟩ := bindS hf
          obtain ⟨h39510, hx39509⟩ := getS hx39509
          obtain ⟨b39511, o39512, rfl⟩ := Elems.opn e39319 hx39509
          obtain ⟨cs39513, hr39514, ha39515⟩ := Elems.get e39319 hx39509
          obtain rfl : cs39513 = [.int .i64 x39508] := hr39514
          refine RW.seg hT 3 [.int .i64 x39508] [] [.pointer (some ⟨b39511, o39512 + x39467.toNat * 1, none⟩), .int .i64 x39508, .int .i64 x39508] [.idx x39467 p1.length, .cell ⟨b39511, o39512 + x39467.toNat * 1, none⟩ (.int .i64 x39508)] (by kernel_rfl) (⟨h39510, ha39515 0 _ rfl⟩) ?_
          refine RW.nil ?_
          refine WPK.region ?_
          refine RW.seg hT 2 [] [] [.pointer (some ⟨b39329, 0, none⟩), .int .i64 x39508] [] (by kernel_rfl) (trivial) ?_
          obtain ⟨x39516, hx39517, hf⟩ := bindS hf
          refine RW.op (by kernel_rfl) (OK.call' en22 (by kernel_rfl) (c22_1 (F := F) (T_extent_Set.mk x39468 x39469) x39508 b39329 A39470 n39471 c39472 cl39473 hn39474 rp39475 s hx39517) ?_)
          intro X39520 hX39521
          refine fun _ _ hJ => hJ X39520 ?_
          intro I39522 A39523 n39524 c39525 cl39526 w39518 s k39519 hn39527 rp39528
          refine hX39521 _ _ ?_
          replace e39319 := e39319.st k39519
          replace rp39475 := rp39475.st k39519
          replace kk := kk.trans k39519
          refine RW.nil ?_
          refine WPK.region ?_
          refine RW.seg hT 2 [] [] [.int .i64 (IntKind.i64.wrap (x39467 + 1)), .int .i64 (IntKind.i64.wrap (x39467 + 1))] [] (by kernel_rfl) (trivial) ?_
          refine RW.nil ?_
          subst hrec39505
          exact ⟨n39504, Nat.le_refl _, fun X h => kc (by kernel_rfl) rfl (h I39522 (IntKind.i64.wrap (x39467 + 1)) x39516.2.n x39516.2.w [(D39466.getD 0 undef), (D39466.getD 1 undef), (D39466.getD 2 undef), (D39466.getD 3 undef), (D39466.getD 4 undef), (D39466.getD 5 undef), .int .i64 x39508, (D39466.getD 7 undef), (D39466.getD 8 undef), (D39466.getD 9 undef), (D39466.getD 10 undef), (D39466.getD 11 undef), (D39466.getD 12 undef), (D39466.getD 13 undef), (D39466.getD 14 undef), (D39466.getD 15 undef), (D39466.getD 16 undef), (D39466.getD 17 undef), .bool (decide (x39467 < (p1.length : Int))), .pointer (some ⟨b39511, o39512 + x39467.toNat * 1, none⟩), .int .i64 x39508, .pointer (some ⟨b39329, 0, none⟩), .int .i64 x39508, .int .i64 x39516.1, .int .i64 (IntKind.i64.wrap (x39467 + 1))] A39523 n39524 c39525 cl39526 _ hf s kk e39319 hn39527 rp39528)⟩
        · have hf := iteF h39507 hf
          refine WPK.condF (Eq.trans (b := .bool (decide (x39467 < (p1.length : Int)))) (by kernel_rfl) (bo_f h39507)) ?_
          refine WPK.exit (blockQ.same ?_)
          refine WPK.seq ?_
          refine WPK.region ?_
          refine RW.seg hT 2 [] [] [.pointer (some ⟨b39329, 0, none⟩), .pointer (some ⟨b39329, 0, none⟩)] [] (by kernel_rfl) (trivial) ?_
          refine RW.nil ?_
          refine WPK.ret (?_)
          obtain rfl := someS hf
          refine Fin.of (rs := [.tmp 4]) hT [] (.pointer (some ⟨b39329, 0, none⟩)) [] rfl (by kernel_rfl) (trivial) ?_
          exact fun X h h' => vc rfl (h' (T_extent_Set.mk x39468 x39469) I39478 b39329 A39470 n39471 c39472 cl39473 _ rfl s kk hn39474 rp39475)
    · refine WPK.region ?_
      refine RW.seg hT 2 [] [(15, .bool (decide (x39320.2 ≠ 0)))] [.int .i64 x39320.2, .bool (decide (x39320.2 ≠ 0))] [.veq (.bool (x39320.2 != 0)) (.bool (decide (x39320.2 ≠ 0)))] (by kernel_rfl) (ne_v) ?_
      by_cases h39534 : x39320.2 ≠ 0
      · have hf := iteT h39534 hf
        refine RW.seg hT 4 [] [(16, .bool true)] [.bool true, undef, undef, .bool true] [.veq (.bool (decide (x39320.2 ≠ 0))) (.bool true)] (by kernel_rfl) (bo_t h39534) ?_
        refine RW.nil ?_
        exact fun X h => kc (by kernel_rfl) rfl (h true [.int .i64 p0, undef, undef, .int .i64 x39320.2, undef, .tuple #[.pointer (some ⟨b39329, 0, none⟩), .int .i64 x39320.2], .int .i64 p0, .tuple #[.pointer (some ⟨b39329, 0, none⟩), .int .i64 x39320.2], .pointer (some ⟨b39329, 0, none⟩), .int .i64 x39320.2, .int .i64 x39320.2, .bool (decide (x39320.2 ≠ 0)), .bool true, undef, undef, undef, undef, undef] hf)
      · have hf := iteF h39534 hf
        refine RW.seg hT 4 [] [(16, .bool false)] [.bool false, .pointer (some ⟨b39329, 0, none⟩), .bool false, .bool false] [.veq (.bool (decide (x39320.2 ≠ 0))) (.bool false)] (by kernel_rfl) (bo_f h39534) ?_
        refine RW.nil ?_
        exact fun X h => kc (by kernel_rfl) rfl (h false [.int .i64 p0, undef, undef, .int .i64 x39320.2, undef, .tuple #[.pointer (some ⟨b39329, 0, none⟩), .int .i64 x39320.2], .int .i64 p0, .tuple #[.pointer (some ⟨b39329, 0, none⟩), .int .i64 x39320.2], .pointer (some ⟨b39329, 0, none⟩), .int .i64 x39320.2, .int .i64 x39320.2, .bool (decide (x39320.2 ≠ 0)), .bool false, .pointer (some ⟨b39329, 0, none⟩), .bool false, undef, undef, undef] hf)
theorem c30 {w0 w : World} {M I : Nat → Prop} {F : List It} (p0 : (List Int)) (p1 : (List Int)) (A42348 : Option Addr) (c42349 : Nat) (A42352 : Option Addr) (c42353 : Nat) (hc42350 : (p0.length ≤ c42349 ∧ c42349 ≤ 9223372036854775807)) (e42351 : Elems (Rp.int .i64) I w A42348 p0) (hc42354 : (p1.length ≤ c42353 ∧ c42353 ≤ 9223372036854775807)) (e42355 : Elems (Rp.int .i64) I w A42352 p1) (s : St w0 M I (F) w) {r : Bool} (hf : g30 p0 p1 = some r) :
    Ret Tryd.prog 30 [.slice A42348 p0.length c42349, .slice A42352 p1.length c42353] w fun v wz => ∀ X : Value → World → Prop, (∀ (I' : Nat → Prop) (w' : World), St w0 M I' (F) w' → Kp I w I' w' → X (.bool r) w') → X v wz := by
  have kk : Kp I w I w := Kp.refl
  unfold g30 at hf
  refine Ret.of Tryd.func30 rfl ?_
  refine WPK.seq ?_
  refine WPK.region ?_
  refine RW.seg hT 1 [] [] [.bool false] [] (by kernel_rfl) (trivial) ?_
  refine RW.nil ?_
  refine WPK.seq ?_
  refine WPK.seq ?_
  refine WPK.region ?_
  refine RW.seg hT 5 [] [(10, .bool (decide ((p0.length : Int) ≠ (p1.length : Int))))] [.slice A42348 p0.length c42349, .int .i64 (p0.length : Int), .slice A42352 p1.length c42353, .int .i64 (p1.length : Int), .bool (decide ((p0.length : Int) ≠ (p1.length : Int)))] [.veq (.bool ((p0.length : Int) != (p1.length : Int))) (.bool (decide ((p0.length : Int) ≠ (p1.length : Int))))] (by kernel_rfl) (ne_v) ?_
  refine RW.nil ?_
  by_cases h42357 : (p0.length : Int) ≠ (p1.length : Int)
  · have hf := iteT h42357 hf
    refine WPK.condT (Eq.trans (b := .bool (decide ((p0.length : Int) ≠ (p1.length : Int)))) (by kernel_rfl) (bo_t h42357)) ?_
    refine WPK.seq ?_
    refine WPK.region ?_
    refine RW.seg hT 1 [] [] [.bool false] [] (by kernel_rfl) (trivial) ?_
    refine RW.nil ?_
    refine WPK.ret (?_)
    obtain rfl := someS hf
    refine Fin.of (rs := [.tmp 4]) hT [] (.bool false) [] rfl (by kernel_rfl) (trivial) ?_
    exact fun X h => vc rfl (h I _ s kk)
  · have hf := iteF h42357 hf
    refine WPK.condF (Eq.trans (b := .bool (decide ((p0.length : Int) ≠ (p1.length : Int)))) (by kernel_rfl) (bo_f h42357)) ?_
    refine WPK.skip ?_
    refine WPK.seq ?_
    refine WPK.seq ?_
    refine WPK.region ?_
    refine RW.seg hT 1 [] [] [.int .i64 0] [] (by kernel_rfl) (trivial) ?_
    refine RW.nil ?_
    refine WPK.block ?_
    refine WPK.loop' (J := fun n42624 E ds wz => ∀ X : Kont, (∀ (I42572 : Nat → Prop) (x42570 : Int) (D42569 : List Value) (w' : World), g30_l1 p0 p1 n42624 x42570 = some r → St w0 M I42572 (F) w' → Kp I w I42572 w' → Elems (Rp.int .i64) I42572 w' A42348 p0 → Elems (Rp.int .i64) I42572 w' A42352 p1 → X [.slice A42348 p0.length c42349, .slice A42352 p1.length c42353, (D42569.getD 0 undef), (D42569.getD 1 undef), .bool false, .int .i64 x42570, (D42569.getD 2 undef), (D42569.getD 3 undef), (D42569.getD 4 undef), (D42569.getD 5 undef), (D42569.getD 6 undef), (D42569.getD 7 undef), (D42569.getD 8 undef), (D42569.getD 9 undef), (D42569.getD 10 undef), (D42569.getD 11 undef), (D42569.getD 12 undef), (D42569.getD 13 undef), (D42569.getD 14 undef), (D42569.getD 15 undef), (D42569.getD 16 undef), (D42569.getD 17 undef), (D42569.getD 18 undef), (D42569.getD 19 undef), (D42569.getD 20 undef), (D42569.getD 21 undef)] [] w') → X E ds wz) FUEL (fun X h => kc (by kernel_rfl) rfl (h I 0 [undef, undef, .slice A42348 p0.length c42349, .int .i64 (p0.length : Int), .slice A42352 p1.length c42353, .int .i64 (p1.length : Int), .bool (decide ((p0.length : Int) ≠ (p1.length : Int))), undef, undef, undef, undef, undef, undef, undef, undef, undef, undef, undef, undef, undef, undef, undef] _ hf s kk e42351 e42355)) (fun _ _ _ hJ => hJ (fun _ _ _ => False) (by intro I42572 x42570 D42569 w42571 hf s kk e42351 e42355; exact noneS hf)) ?_
    intro X42676 hX42677
    refine fun n42624 _ _ _ hJ => hJ (X42676 n42624) ?_
    intro I42572 x42570 D42569 w42571 hf s kk e42351 e42355
    refine hX42677 _ _ _ _ ?_
    replace hf : g30_l1B p0 p1 (g30_l1 p0 p1 n42624) x42570 = some r := hf
    generalize hrec42625 : g30_l1 p0 p1 n42624 = rec42623 at hf
    unfold g30_l1B at hf
    refine WPK.seq ?_
    refine WPK.seq ?_
    refine WPK.region ?_
    refine RW.seg hT 4 [] [] [.int .i64 x42570, .slice A42348 p0.length c42349, .int .i64 (p0.length : Int), .bool (decide (x42570 < (p0.length : Int)))] [] (by kernel_rfl) (trivial) ?_
    refine RW.nil ?_
    by_cases h42627 : x42570 < (p0.length : Int)
    · have hf := iteT h42627 hf
      refine WPK.condT (Eq.trans (b := .bool (decide (x42570 < (p0.length : Int)))) (by kernel_rfl) (bo_t h42627)) ?_
      refine WPK.skip ?_
      refine WPK.seq ?_
      refine WPK.block ?_
      refine WPK.seq ?_
      have e42351S42652 := e42351
      have e42355S42652 := e42355
      have kS42656 : Kp I42572 w42571 I42572 w42571 := Kp.refl
      refine WPK.draw (fun w' => ∃ I' : Nat → Prop, St w0 M I' (F) w' ∧ Kp I42572 w42571 I' w') 9 (by kernel_rfl) ?_
      intro w42653 hd42654
      have k42655 := Kp.dr s hd42654
      replace s := s.dr hd42654
      replace e42351 := e42351.st k42655
      replace e42355 := e42355.st k42655
      replace kk := kk.trans k42655
      replace kS42656 := kS42656.trans k42655
      obtain ⟨x42657, hx42658, hf⟩ := bindS hf
      obtain ⟨h42659, hx42658⟩ := getS hx42658
      obtain ⟨b42660, o42661, rfl⟩ := Elems.opn e42351 hx42658
      obtain ⟨cs42662, hr42663, ha42664, hb42665⟩ := Elems.getI e42351S42652 hx42658
      obtain rfl : cs42662 = [.int .i64 x42657] := hr42663
      obtain ⟨x42666, hx42667, hf⟩ := bindS hf
      obtain ⟨h42668, hx42667⟩ := getS hx42667
      obtain ⟨b42669, o42670, rfl⟩ := Elems.opn e42355 hx42667
      obtain ⟨cs42671, hr42672, ha42673, hb42674⟩ := Elems.getI e42355S42652 hx42667
      obtain rfl : cs42671 = [.int .i64 x42666] := hr42672
      refine RD.seg hT (by kernel_rfl) [0, 1, 2, 3, 4, 5, 6, 7, 8] [.int .i64 x42657, .int .i64 x42666] [(25, .bool (decide (x42657 ≠ x42666)))] [.slice (some ⟨b42660, o42661, none⟩) p0.length c42349, .int .i64 x42570, .pointer (some ⟨b42660, o42661 + x42570.toNat * 1, none⟩), .int .i64 x42657, .slice (some ⟨b42669, o42670, none⟩) p1.length c42353, .int .i64 x42570, .pointer (some ⟨b42669, o42670 + x42570.toNat * 1, none⟩), .int .i64 x42666, .bool (decide (x42657 ≠ x42666))] [.idx x42570 p0.length, .cell ⟨b42660, o42661 + x42570.toNat * 1, none⟩ (.int .i64 x42657), .idx x42570 p1.length, .cell ⟨b42669, o42670 + x42570.toNat * 1, none⟩ (.int .i64 x42666), .veq (.bool (x42657 != x42666)) (.bool (decide (x42657 ≠ x42666)))] (by kernel_rfl) (by rintro w' ⟨I', s, k⟩; have e42351 := e42351S42652.st k; have e42355 := e42355S42652.st k; have ha42664 := ha42664.st k hb42665; have ha42673 := ha42673.st k hb42674; exact ⟨h42659, ha42664 0 _ rfl, h42668, ha42673 0 _ rfl, ne_v⟩) ⟨_, s.pick [] 0 rfl, kS42656⟩ ?_
      refine RD.done (by kernel_rfl) ?_
      by_cases h42675 : x42657 ≠ x42666
      · have hf := iteT h42675 hf
        refine WPK.condT (Eq.trans (b := .bool (decide (x42657 ≠ x42666))) (by kernel_rfl) (bo_t h42675)) ?_
        refine WPK.seq ?_
        refine WPK.region ?_
        refine RW.seg hT 1 [] [] [.bool false] [] (by kernel_rfl) (trivial) ?_
        refine RW.nil ?_
        refine WPK.ret (blockQ.ret (blockQ.ret (?_)))
        obtain rfl := someS hf
        refine Fin.of (rs := [.tmp 4]) hT [] (.bool false) [] rfl (by kernel_rfl) (trivial) ?_
        exact fun X h => vc rfl (h I42572 _ s kk)
      · have hf := iteF h42675 hf
        refine WPK.condF (Eq.trans (b := .bool (decide (x42657 ≠ x42666))) (by kernel_rfl) (bo_f h42675)) ?_
        refine WPK.skip ?_
        refine WPK.region ?_
        refine RW.seg hT 3 [] [] [.int .i64 x42570, .int .i64 (IntKind.i64.wrap (x42570 + 1)), .int .i64 (IntKind.i64.wrap (x42570 + 1))] [] (by kernel_rfl) (trivial) ?_
        refine RW.nil ?_
        subst hrec42625
        exact ⟨n42624, Nat.le_refl _, fun X h => kc (by kernel_rfl) rfl (h I42572 (IntKind.i64.wrap (x42570 + 1)) [(D42569.getD 0 undef), (D42569.getD 1 undef), (D42569.getD 2 undef), (D42569.getD 3 undef), (D42569.getD 4 undef), (D42569.getD 5 undef), (D42569.getD 6 undef), .int .i64 x42570, .slice (some ⟨b42660, o42661, none⟩) p0.length c42349, .int .i64 (p0.length : Int), .bool (decide (x42570 < (p0.length : Int))), .int .i64 x42570, .int .i64 (IntKind.i64.wrap (x42570 + 1)), .slice (some ⟨b42660, o42661, none⟩) p0.length c42349, .int .i64 x42570, .pointer (some ⟨b42660, o42661 + x42570.toNat * 1, none⟩), .int .i64 x42657, .slice (some ⟨b42669, o42670, none⟩) p1.length c42353, .int .i64 x42570, .pointer (some ⟨b42669, o42670 + x42570.toNat * 1, none⟩), .int .i64 x42666, .bool (decide (x42657 ≠ x42666))] _ hf s kk e42351 e42355)⟩
    · have hf := iteF h42627 hf
      refine WPK.condF (Eq.trans (b := .bool (decide (x42570 < (p0.length : Int)))) (by kernel_rfl) (bo_f h42627)) ?_
      refine WPK.exit (blockQ.same ?_)
      refine WPK.seq ?_
      refine WPK.region ?_
      refine RW.seg hT 1 [] [] [.bool true] [] (by kernel_rfl) (trivial) ?_
      refine RW.nil ?_
      refine WPK.ret (?_)
      obtain rfl := someS hf
      refine Fin.of (rs := [.tmp 4]) hT [] (.bool true) [] rfl (by kernel_rfl) (trivial) ?_
      exact fun X h => vc rfl (h I42572 _ s kk)
end Go.Proofs.YtgcielbnmlfjbaaDoor
