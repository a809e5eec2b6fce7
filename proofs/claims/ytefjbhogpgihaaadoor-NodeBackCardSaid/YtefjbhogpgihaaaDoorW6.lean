/- PRINTED BY sy.py: each call computes what the plain function of its number tells. -/
import Derived.Test.YtefjbhogpgihaaaDoorW5
namespace Go.Proofs.YtefjbhogpgihaaaDoor
open Go Go.SX Go.RowKit
set_option maxRecDepth 100000
set_option linter.unusedVariables false
attribute [local irreducible] WPK RW RD Ret SX.Fin SX.Any opK RoundBeg RoundEnd RangeEnd Rounds
theorem c3 {w0 w : World} {M I : Nat → Prop} {F : List It} (p0 : T_api_Node) (p1 : Int) (p2 : (List Int)) (A142190 : Option Addr) (c142191 : Nat) (A142194 : Option Addr) (c142195 : Nat) (A142198 : Option Addr) (c142199 : Nat) (A142202 : Option Addr) (c142203 : Nat) (hc142192 : (p0.Pairs.length ≤ c142191 ∧ c142191 ≤ 9223372036854775807)) (e142193 : Elems rp_T_api_Pair I w A142190 p0.Pairs) (hc142196 : (p0.Keys.length ≤ c142195 ∧ c142195 ≤ 9223372036854775807)) (e142197 : Elems (Rp.slice (Rp.int .u8)) I w A142194 p0.Keys) (hc142200 : (p0.Kids.length ≤ c142199 ∧ c142199 ≤ 9223372036854775807)) (e142201 : Elems (Rp.int .i64) I w A142198 p0.Kids) (hc142204 : (p2.length ≤ c142203 ∧ c142203 ≤ 9223372036854775807)) (e142205 : Elems (Rp.int .u8) I w A142202 p2) (s : St w0 M I (F) w) {r : Bool} (hf : g3 p0 p1 p2 = some r) :
    Ret Tryd.prog 3 [.agg #[.bool p0.Leaf, .slice A142190 p0.Pairs.length c142191, .slice A142194 p0.Keys.length c142195, .slice A142198 p0.Kids.length c142199], .int .i64 p1, .slice A142202 p2.length c142203] w fun v wz => ∀ X : Value → World → Prop, (∀ (I' : Nat → Prop) (w' : World), St w0 M I' (F) w' → Kp I w I' w' → X (.bool r) w') → X v wz := by
  have kk : Kp I w I w := Kp.refl
  unfold g3 at hf
  refine Ret.of Tryd.func3 rfl ?_
  refine WPK.seq ?_
  refine WPK.region ?_
  refine RW.op (by kernel_rfl) (OK.new hT (f := fun b => .pointer (some ⟨b, 0, none⟩)) (cs := [.bool p0.Leaf, .slice A142190 p0.Pairs.length c142191, .slice A142194 p0.Keys.length c142195, .slice A142198 p0.Kids.length c142199]) (e := 26) (c := .tt) s (by kernel_rfl) trivial ?_)
  clear s
  rintro w142206 b142207 s k142208 -
  replace e142193 := e142193.st k142208
  replace e142197 := e142197.st k142208
  replace e142201 := e142201.st k142208
  replace e142205 := e142205.st k142208
  replace kk := kk.trans k142208
  refine RW.seg hT 1 [] [] [.bool false] [] (by kernel_rfl) (trivial) ?_
  refine RW.nil ?_
  refine WPK.seq ?_
  refine WPK.seq ?_
  refine WPK.cut' (Kn fun E ds wz => ∀ X : Kont, (∀ (I142315 : Nat → Prop) (x142313 : Bool) (D142312 : List Value) (w' : World), g3_j1 p0 p1 p2 x142313 = some r → St w0 M I142315 ((.blk b142207 (.cells #[.bool p0.Leaf, .slice A142190 p0.Pairs.length c142191, .slice A142194 p0.Keys.length c142195, .slice A142198 p0.Kids.length c142199] 26 (0, 0))) :: F) w' → Kp I w I142315 w' → Elems (Rp.int .u8) I142315 w' A142202 p2 → Elems rp_T_api_Pair I142315 w' A142190 p0.Pairs → Elems (Rp.slice (Rp.int .u8)) I142315 w' A142194 p0.Keys → Elems (Rp.int .i64) I142315 w' A142198 p0.Kids → X [(D142312.getD 0 undef), .int .i64 p1, .slice A142202 p2.length c142203, .pointer (some ⟨b142207, 0, none⟩), (D142312.getD 1 undef), (D142312.getD 2 undef), .bool false, undef, undef, undef, undef, undef, undef, undef, undef, undef, (D142312.getD 3 undef), (D142312.getD 4 undef), (D142312.getD 5 undef), (D142312.getD 6 undef), (D142312.getD 7 undef), (D142312.getD 8 undef), (D142312.getD 9 undef), (D142312.getD 10 undef), (D142312.getD 11 undef), (D142312.getD 12 undef), (D142312.getD 13 undef), (D142312.getD 14 undef), .bool x142313, undef, undef, undef, undef, undef, undef, undef, undef, undef, undef, undef, undef, undef, undef, undef, undef, undef, undef, undef, undef, undef, undef, undef, undef, undef, undef, undef, undef, undef, undef, undef, undef, undef, undef, undef, undef, undef, undef, undef, undef, undef, undef, undef, undef, undef, undef, undef, undef, undef, undef, undef, undef, undef, undef, undef, undef, undef, undef, undef, undef, undef, undef, undef, undef, undef] [] w') → X E ds wz) ?_ ?_
  · intro X142940 hX142941
    refine fun _ _ _ hJ => hJ X142940 ?_
    clear s
    intro I142315 x142313 D142312 w142314 hf s kk e142205 e142193 e142197 e142201
    refine hX142941 _ _ _ ?_
    unfold g3_j1 at hf
    by_cases h142316 : x142313 = true
    · have hf := iteT h142316 hf
      refine WPK.condT (Eq.trans (b := .bool x142313) (by kernel_rfl) (b_t h142316)) ?_
      refine WPK.seq ?_
      refine WPK.region ?_
      obtain ⟨x142317, hx142318, hf⟩ := bindS hf
      refine RW.op (by kernel_rfl) (OK.call' en4 (by kernel_rfl) (c4 (F := (.blk b142207 (.cells #[.bool p0.Leaf, .slice A142190 p0.Pairs.length c142191, .slice A142194 p0.Keys.length c142195, .slice A142198 p0.Kids.length c142199] 26 (0, 0))) :: F) s hx142318) ?_)
      intro X142321 hX142322
      refine fun _ _ hJ => hJ X142321 ?_
      clear s
      intro I142323 w142319 s k142320
      refine hX142322 _ _ ?_
      replace e142205 := e142205.st k142320
      replace e142193 := e142193.st k142320
      replace e142197 := e142197.st k142320
      replace e142201 := e142201.st k142320
      replace kk := kk.trans k142320
      refine RW.seg hT 1 [] [] [.bool x142317] [] (by kernel_rfl) (trivial) ?_
      refine RW.nil ?_
      refine WPK.ret (?_)
      obtain rfl := someS hf
      refine Fin.of (rs := [.tmp 6]) hT [] (.bool x142317) [] rfl (by kernel_rfl) (trivial) ?_
      replace s := s.pick [] 1 rfl
      exact fun X h => vc rfl (h I142323 _ s kk)
    · have hf := iteF h142316 hf
      refine WPK.condF (Eq.trans (b := .bool x142313) (by kernel_rfl) (b_f h142316)) ?_
      refine WPK.skip ?_
      refine WPK.seq ?_
      refine WPK.cut' (Kn fun E ds wz => ∀ X : Kont, (∀ (I142583 : Nat → Prop) (D142581 : List Value) (w' : World), g3_j2 p1 p2 = some r → St w0 M I142583 (F) w' → Kp I w I142583 w' → Elems (Rp.int .u8) I142583 w' A142202 p2 → X [(D142581.getD 0 undef), .int .i64 p1, .slice A142202 p2.length c142203, (D142581.getD 1 undef), (D142581.getD 2 undef), (D142581.getD 3 undef), .bool false, (D142581.getD 4 undef), (D142581.getD 5 undef), (D142581.getD 6 undef), (D142581.getD 7 undef), (D142581.getD 8 undef), undef, undef, undef, undef, (D142581.getD 9 undef), (D142581.getD 10 undef), (D142581.getD 11 undef), (D142581.getD 12 undef), (D142581.getD 13 undef), (D142581.getD 14 undef), (D142581.getD 15 undef), (D142581.getD 16 undef), (D142581.getD 17 undef), (D142581.getD 18 undef), (D142581.getD 19 undef), (D142581.getD 20 undef), (D142581.getD 21 undef), (D142581.getD 22 undef), (D142581.getD 23 undef), (D142581.getD 24 undef), (D142581.getD 25 undef), (D142581.getD 26 undef), (D142581.getD 27 undef), (D142581.getD 28 undef), (D142581.getD 29 undef), (D142581.getD 30 undef), (D142581.getD 31 undef), (D142581.getD 32 undef), (D142581.getD 33 undef), (D142581.getD 34 undef), (D142581.getD 35 undef), (D142581.getD 36 undef), (D142581.getD 37 undef), (D142581.getD 38 undef), (D142581.getD 39 undef), (D142581.getD 40 undef), (D142581.getD 41 undef), (D142581.getD 42 undef), (D142581.getD 43 undef), (D142581.getD 44 undef), (D142581.getD 45 undef), (D142581.getD 46 undef), (D142581.getD 47 undef), (D142581.getD 48 undef), (D142581.getD 49 undef), (D142581.getD 50 undef), (D142581.getD 51 undef), (D142581.getD 52 undef), (D142581.getD 53 undef), (D142581.getD 54 undef), (D142581.getD 55 undef), (D142581.getD 56 undef), (D142581.getD 57 undef), undef, undef, undef, undef, undef, undef, undef, undef, undef, undef, undef, undef, undef, undef, undef, undef, undef, undef, undef, undef, undef, undef, undef, undef, undef, undef, undef, undef, undef] [] w') → X E ds wz) ?_ ?_
      · intro X142681 hX142682
        refine fun _ _ _ hJ => hJ X142681 ?_
        clear s
        intro I142583 D142581 w142582 hf s kk e142205
        refine hX142682 _ _ _ ?_
        unfold g3_j2 at hf
        refine WPK.seq ?_
        refine WPK.region ?_
        refine RW.seg hT 2 [] [] [.int .i64 p1, .slice A142202 p2.length c142203] [] (by kernel_rfl) (trivial) ?_
        obtain ⟨x142584, hx142585, hf⟩ := bindS hf
        refine RW.op (by kernel_rfl) (OK.call' en7 (by kernel_rfl) (c7 (F := F) p1 p2 A142202 c142203 hc142204 e142205 s hx142585) ?_)
        intro X142588 hX142589
        refine fun _ _ hJ => hJ X142588 ?_
        clear s
        intro I142590 A142591 n142592 c142593 cl142594 A142598 n142599 c142600 cl142601 A142605 n142606 c142607 cl142608 w142586 s k142587 hn142595 rp142596 hn142602 rp142603 hn142609 rp142610
        refine hX142589 _ _ ?_
        replace e142205 := e142205.st k142587
        replace kk := kk.trans k142587
        rw [hn142595] at s
        try rw [hn142595]
        obtain ⟨I142612, s', k142613, hc142614, e142615⟩ := St.give s (i := 0) rfl rfl rp142596
        replace s := s'; clear s'
        replace e142205 := e142205.st k142613
        replace rp142603 := rp142603.st k142613
        replace rp142610 := rp142610.st k142613
        replace kk := kk.trans k142613
        rw [hn142602] at s
        try rw [hn142602]
        obtain ⟨I142616, s', k142617, hc142618, e142619⟩ := St.give s (i := 0) rfl rfl rp142603
        replace s := s'; clear s'
        replace e142205 := e142205.st k142617
        replace e142615 := e142615.st k142617
        replace rp142610 := rp142610.st k142617
        replace kk := kk.trans k142617
        rw [hn142609] at s
        try rw [hn142609]
        obtain ⟨I142620, s', k142621, hc142622, e142623⟩ := St.give s (i := 0) rfl rfl rp142610
        replace s := s'; clear s'
        replace e142205 := e142205.st k142621
        replace e142615 := e142615.st k142621
        replace e142619 := e142619.st k142621
        replace kk := kk.trans k142621
        refine RW.seg hT 3 [] [] [.tuple #[.agg #[.bool x142584.1.Leaf, .slice A142591 x142584.1.Pairs.length c142593, .slice A142598 x142584.1.Keys.length c142600, .slice A142605 x142584.1.Kids.length c142607], .int .i64 x142584.2], .agg #[.bool x142584.1.Leaf, .slice A142591 x142584.1.Pairs.length c142593, .slice A142598 x142584.1.Keys.length c142600, .slice A142605 x142584.1.Kids.length c142607], .int .i64 x142584.2] [] (by kernel_rfl) (trivial) ?_
        refine RW.op (by kernel_rfl) (OK.new hT (f := fun b => .pointer (some ⟨b, 0, none⟩)) (cs := [.bool false, .slice none 0 0, .slice none 0 0, .slice none 0 0]) (e := 26) (c := .tt) s (by kernel_rfl) trivial ?_)
        clear s
        rintro w142624 b142625 s k142626 -
        replace e142205 := e142205.st k142626
        replace e142615 := e142615.st k142626
        replace e142619 := e142619.st k142626
        replace e142623 := e142623.st k142626
        replace kk := kk.trans k142626
        refine RW.op (by kernel_rfl) (OK.store hT (i := 0) (b := b142625) (off := 0) (n := 4) (vs := [.bool x142584.1.Leaf, .slice A142591 x142584.1.Pairs.length c142593, .slice A142598 x142584.1.Keys.length c142600, .slice A142605 x142584.1.Kids.length c142607]) (cs := [.bool false, .slice none 0 0, .slice none 0 0, .slice none 0 0]) (e := 26) s (by kernel_rfl) rfl rfl (flat_ok rfl) (Nat.le_of_ble_eq_true rfl) ?_)
        clear s
        rintro w142627 s k142628 -
        replace e142205 := e142205.st k142628
        replace e142615 := e142615.st k142628
        replace e142619 := e142619.st k142628
        replace e142623 := e142623.st k142628
        replace kk := kk.trans k142628
        refine RW.seg hT 1 [] [] [.int .i64 x142584.2] [] (by kernel_rfl) (trivial) ?_
        refine RW.nil ?_
        refine WPK.seq ?_
        refine WPK.seq ?_
        refine WPK.region ?_
        refine RW.seg hT 2 [] [(72, .bool (decide (x142584.2 ≠ 0)))] [.int .i64 x142584.2, .bool (decide (x142584.2 ≠ 0))] [.veq (.bool (x142584.2 != 0)) (.bool (decide (x142584.2 ≠ 0)))] (by kernel_rfl) (ne_v) ?_
        refine RW.nil ?_
        by_cases h142637 : x142584.2 ≠ 0
        · have hf := iteT h142637 hf
          refine WPK.condT (Eq.trans (b := .bool (decide (x142584.2 ≠ 0))) (by kernel_rfl) (bo_t h142637)) ?_
          refine WPK.seq ?_
          refine WPK.region ?_
          refine RW.seg hT 2 [.agg #[.bool x142584.1.Leaf, .slice A142591 x142584.1.Pairs.length c142593, .slice A142598 x142584.1.Keys.length c142600, .slice A142605 x142584.1.Kids.length c142607]] [] [.agg #[.bool x142584.1.Leaf, .slice A142591 x142584.1.Pairs.length c142593, .slice A142598 x142584.1.Keys.length c142600, .slice A142605 x142584.1.Kids.length c142607], .agg #[.bool false, .slice none 0 0, .slice none 0 0, .slice none 0 0]] [.cells ⟨b142625, 0, none⟩ [.bool x142584.1.Leaf, .slice A142591 x142584.1.Pairs.length c142593, .slice A142598 x142584.1.Keys.length c142600, .slice A142605 x142584.1.Kids.length c142607] 4] (by kernel_rfl) (s.cells (i := 0) rfl rfl rfl) ?_
          obtain ⟨x142638, hx142639, hf⟩ := bindS hf
          refine RW.op (by kernel_rfl) (OK.call' en8 (by kernel_rfl) (c8 (F := (.blk b142625 (.cells #[.bool x142584.1.Leaf, .slice A142591 x142584.1.Pairs.length c142593, .slice A142598 x142584.1.Keys.length c142600, .slice A142605 x142584.1.Kids.length c142607] 26 (0, 0))) :: F) x142584.1 (T_api_Node.mk false [] [] []) A142591 c142593 A142598 c142600 A142605 c142607 none 0 none 0 none 0 hc142614 e142615 hc142618 e142619 hc142622 e142623 nil_hc Elems.nil nil_hc Elems.nil nil_hc Elems.nil s hx142639) ?_)
          intro X142642 hX142643
          refine fun _ _ hJ => hJ X142642 ?_
          clear s
          intro I142644 w142640 s k142641
          refine hX142643 _ _ ?_
          replace e142205 := e142205.st k142641
          replace e142615 := e142615.st k142641
          replace e142619 := e142619.st k142641
          replace e142623 := e142623.st k142641
          replace kk := kk.trans k142641
          refine RW.seg hT 1 [] [] [.bool x142638] [] (by kernel_rfl) (trivial) ?_
          refine RW.nil ?_
          refine WPK.ret (?_)
          obtain rfl := someS hf
          refine Fin.of (rs := [.tmp 6]) hT [] (.bool x142638) [] rfl (by kernel_rfl) (trivial) ?_
          replace s := s.pick [] 1 rfl
          exact fun X h => vc rfl (h I142644 _ s kk)
        · have hf := iteF h142637 hf
          refine WPK.condF (Eq.trans (b := .bool (decide (x142584.2 ≠ 0))) (by kernel_rfl) (bo_f h142637)) ?_
          refine WPK.skip ?_
          refine WPK.seq ?_
          refine WPK.region ?_
          refine RW.seg hT 1 [.agg #[.bool x142584.1.Leaf, .slice A142591 x142584.1.Pairs.length c142593, .slice A142598 x142584.1.Keys.length c142600, .slice A142605 x142584.1.Kids.length c142607]] [] [.agg #[.bool x142584.1.Leaf, .slice A142591 x142584.1.Pairs.length c142593, .slice A142598 x142584.1.Keys.length c142600, .slice A142605 x142584.1.Kids.length c142607]] [.cells ⟨b142625, 0, none⟩ [.bool x142584.1.Leaf, .slice A142591 x142584.1.Pairs.length c142593, .slice A142598 x142584.1.Keys.length c142600, .slice A142605 x142584.1.Kids.length c142607] 4] (by kernel_rfl) (s.cells (i := 0) rfl rfl rfl) ?_
          obtain ⟨x142645, hx142646, hf⟩ := bindS hf
          refine RW.op (by kernel_rfl) (OK.call' en6 (by kernel_rfl) (c6 (F := (.blk b142625 (.cells #[.bool x142584.1.Leaf, .slice A142591 x142584.1.Pairs.length c142593, .slice A142598 x142584.1.Keys.length c142600, .slice A142605 x142584.1.Kids.length c142607] 26 (0, 0))) :: F) x142584.1 A142591 c142593 A142598 c142600 A142605 c142607 hc142614 e142615 hc142618 e142619 hc142622 e142623 s hx142646) ?_)
          intro X142649 hX142650
          refine fun _ _ hJ => hJ X142649 ?_
          clear s
          intro I142651 A142652 n142653 c142654 cl142655 w142647 s k142648 hn142656 rp142657
          refine hX142650 _ _ ?_
          replace e142205 := e142205.st k142648
          replace e142615 := e142615.st k142648
          replace e142619 := e142619.st k142648
          replace e142623 := e142623.st k142648
          replace kk := kk.trans k142648
          rw [hn142656] at s
          try rw [hn142656]
          obtain ⟨I142659, s', k142660, hc142661, e142662⟩ := St.give s (i := 0) rfl rfl rp142657
          replace s := s'; clear s'
          replace e142205 := e142205.st k142660
          replace e142615 := e142615.st k142660
          replace e142619 := e142619.st k142660
          replace e142623 := e142623.st k142660
          replace kk := kk.trans k142660
          refine RW.seg hT 7 [] [] [.tuple #[.int .i64 x142645.1, .slice A142652 x142645.2.1.length c142654, .int .i64 x142645.2.2], .int .i64 x142645.1, .slice A142652 x142645.2.1.length c142654, .int .i64 x142645.2.2, .int .i64 x142645.1, .slice A142652 x142645.2.1.length c142654, .int .i64 x142645.2.2] [] (by kernel_rfl) (trivial) ?_
          refine RW.nil ?_
          refine WPK.seq ?_
          refine WPK.region ?_
          refine RW.seg hT 2 [] [(83, .bool (decide (x142645.2.2 = 0)))] [.int .i64 x142645.2.2, .bool (decide (x142645.2.2 = 0))] [.veq (.bool (x142645.2.2 == 0)) (.bool (decide (x142645.2.2 = 0)))] (by kernel_rfl) (eq_v) ?_
          by_cases h142672 : x142645.2.2 = 0
          · have hf := iteT h142672 hf
            refine RW.seg hT 5 [] [(84, .bool true), (87, .bool (decide (x142645.1 = p1)))] [.bool true, .int .i64 x142645.1, .int .i64 p1, .bool (decide (x142645.1 = p1)), .bool (decide (x142645.1 = p1))] [.veq (.bool (decide (x142645.2.2 = 0))) (.bool true), .veq (.bool (x142645.1 == p1)) (.bool (decide (x142645.1 = p1)))] (by kernel_rfl) (⟨bo_t h142672, eq_v⟩) ?_
            by_cases h142673 : x142645.1 = p1
            · have hf := iteT h142673 hf
              refine RW.seg hT 3 [] [(89, .bool true)] [.bool true, .slice A142652 x142645.2.1.length c142654, .slice A142202 p2.length c142203] [.veq (.bool (decide (x142645.1 = p1))) (.bool true)] (by kernel_rfl) (bo_t h142673) ?_
              obtain ⟨x142674, hx142675, hf⟩ := bindS hf
              refine RW.op (by kernel_rfl) (OK.call' en11 (by kernel_rfl) (c11 (F := (.blk b142625 (.cells #[.bool x142584.1.Leaf, .slice A142591 x142584.1.Pairs.length c142593, .slice A142598 x142584.1.Keys.length c142600, .slice A142605 x142584.1.Kids.length c142607] 26 (0, 0))) :: F) x142645.2.1 p2 A142652 c142654 A142202 c142203 hc142661 e142662 hc142204 e142205 s hx142675) ?_)
              intro X142678 hX142679
              refine fun _ _ hJ => hJ X142678 ?_
              clear s
              intro I142680 w142676 s k142677
              refine hX142679 _ _ ?_
              replace e142205 := e142205.st k142677
              replace e142662 := e142662.st k142677
              replace e142615 := e142615.st k142677
              replace e142619 := e142619.st k142677
              replace e142623 := e142623.st k142677
              replace kk := kk.trans k142677
              refine RW.seg hT 2 [] [] [.bool x142674, .bool x142674] [] (by kernel_rfl) (trivial) ?_
              refine RW.nil ?_
              refine WPK.ret (?_)
              obtain rfl := someS hf
              refine Fin.of (rs := [.tmp 6]) hT [] (.bool x142674) [] rfl (by kernel_rfl) (trivial) ?_
              replace s := s.pick [] 1 rfl
              exact fun X h => vc rfl (h I142680 _ s kk)
            · have hf := iteF h142673 hf
              refine RW.seg hT 6 [] [(89, .bool false)] [.bool false, undef, undef, undef, .bool false, .bool false] [.veq (.bool (decide (x142645.1 = p1))) (.bool false)] (by kernel_rfl) (bo_f h142673) ?_
              refine RW.nil ?_
              refine WPK.ret (?_)
              obtain rfl := someS hf
              refine Fin.of (rs := [.tmp 6]) hT [] (.bool false) [] rfl (by kernel_rfl) (trivial) ?_
              replace s := s.pick [] 1 rfl
              exact fun X h => vc rfl (h I142659 _ s kk)
          · have hf := iteF h142672 hf
            refine RW.seg hT 11 [] [(84, .bool false)] [.bool false, undef, undef, undef, .bool false, .bool false, undef, undef, undef, .bool false, .bool false] [.veq (.bool (decide (x142645.2.2 = 0))) (.bool false)] (by kernel_rfl) (bo_f h142672) ?_
            refine RW.nil ?_
            refine WPK.ret (?_)
            obtain rfl := someS hf
            refine Fin.of (rs := [.tmp 6]) hT [] (.bool false) [] rfl (by kernel_rfl) (trivial) ?_
            replace s := s.pick [] 1 rfl
            exact fun X h => vc rfl (h I142659 _ s kk)
      · refine WPK.seq ?_
        refine WPK.region ?_
        refine RW.seg hT 1 [.agg #[.bool p0.Leaf, .slice A142190 p0.Pairs.length c142191, .slice A142194 p0.Keys.length c142195, .slice A142198 p0.Kids.length c142199]] [] [.agg #[.bool p0.Leaf, .slice A142190 p0.Pairs.length c142191, .slice A142194 p0.Keys.length c142195, .slice A142198 p0.Kids.length c142199]] [.cells ⟨b142207, 0, none⟩ [.bool p0.Leaf, .slice A142190 p0.Pairs.length c142191, .slice A142194 p0.Keys.length c142195, .slice A142198 p0.Kids.length c142199] 4] (by kernel_rfl) (s.cells (i := 0) rfl rfl rfl) ?_
        obtain ⟨x142683, hx142684, hf⟩ := bindS hf
        refine RW.op (by kernel_rfl) (OK.call' en6 (by kernel_rfl) (c6 (F := (.blk b142207 (.cells #[.bool p0.Leaf, .slice A142190 p0.Pairs.length c142191, .slice A142194 p0.Keys.length c142195, .slice A142198 p0.Kids.length c142199] 26 (0, 0))) :: F) p0 A142190 c142191 A142194 c142195 A142198 c142199 hc142192 e142193 hc142196 e142197 hc142200 e142201 s hx142684) ?_)
        intro X142687 hX142688
        refine fun _ _ hJ => hJ X142687 ?_
        clear s
        intro I142689 A142690 n142691 c142692 cl142693 w142685 s k142686 hn142694 rp142695
        refine hX142688 _ _ ?_
        replace e142205 := e142205.st k142686
        replace e142193 := e142193.st k142686
        replace e142197 := e142197.st k142686
        replace e142201 := e142201.st k142686
        replace kk := kk.trans k142686
        rw [hn142694] at s
        try rw [hn142694]
        obtain ⟨I142697, s', k142698, hc142699, e142700⟩ := St.give s (i := 0) rfl rfl rp142695
        replace s := s'; clear s'
        replace e142205 := e142205.st k142698
        replace e142193 := e142193.st k142698
        replace e142197 := e142197.st k142698
        replace e142201 := e142201.st k142698
        replace kk := kk.trans k142698
        refine RW.seg hT 7 [] [] [.tuple #[.int .i64 x142683.1, .slice A142690 x142683.2.1.length c142692, .int .i64 x142683.2.2], .int .i64 x142683.1, .slice A142690 x142683.2.1.length c142692, .int .i64 x142683.2.2, .int .i64 x142683.1, .slice A142690 x142683.2.1.length c142692, .int .i64 x142683.2.2] [] (by kernel_rfl) (trivial) ?_
        refine RW.nil ?_
        refine WPK.seq ?_
        refine WPK.region ?_
        refine RW.seg hT 2 [] [(37, .bool (decide (x142683.2.2 = 0)))] [.int .i64 x142683.2.2, .bool (decide (x142683.2.2 = 0))] [.veq (.bool (x142683.2.2 == 0)) (.bool (decide (x142683.2.2 = 0)))] (by kernel_rfl) (eq_v) ?_
        refine RW.nil ?_
        by_cases h142701 : x142683.2.2 = 0
        · have hf := iteT h142701 hf
          refine WPK.condT (Eq.trans (b := .bool (decide (x142683.2.2 = 0))) (by kernel_rfl) (bo_t h142701)) ?_
          refine WPK.seq ?_
          refine WPK.region ?_
          refine RW.seg hT 2 [] [] [.int .i64 x142683.1, .slice A142690 x142683.2.1.length c142692] [] (by kernel_rfl) (trivial) ?_
          obtain ⟨x142702, hx142703, hf⟩ := bindS hf
          refine RW.op (by kernel_rfl) (OK.call' en7 (by kernel_rfl) (c7 (F := (.blk b142207 (.cells #[.bool p0.Leaf, .slice A142190 p0.Pairs.length c142191, .slice A142194 p0.Keys.length c142195, .slice A142198 p0.Kids.length c142199] 26 (0, 0))) :: F) x142683.1 x142683.2.1 A142690 c142692 hc142699 e142700 s hx142703) ?_)
          intro X142706 hX142707
          refine fun _ _ hJ => hJ X142706 ?_
          clear s
          intro I142708 A142709 n142710 c142711 cl142712 A142716 n142717 c142718 cl142719 A142723 n142724 c142725 cl142726 w142704 s k142705 hn142713 rp142714 hn142720 rp142721 hn142727 rp142728
          refine hX142707 _ _ ?_
          replace e142205 := e142205.st k142705
          replace e142700 := e142700.st k142705
          replace e142193 := e142193.st k142705
          replace e142197 := e142197.st k142705
          replace e142201 := e142201.st k142705
          replace kk := kk.trans k142705
          rw [hn142713] at s
          try rw [hn142713]
          obtain ⟨I142730, s', k142731, hc142732, e142733⟩ := St.give s (i := 0) rfl rfl rp142714
          replace s := s'; clear s'
          replace e142205 := e142205.st k142731
          replace e142700 := e142700.st k142731
          replace e142193 := e142193.st k142731
          replace e142197 := e142197.st k142731
          replace e142201 := e142201.st k142731
          replace rp142721 := rp142721.st k142731
          replace rp142728 := rp142728.st k142731
          replace kk := kk.trans k142731
          rw [hn142720] at s
          try rw [hn142720]
          obtain ⟨I142734, s', k142735, hc142736, e142737⟩ := St.give s (i := 0) rfl rfl rp142721
          replace s := s'; clear s'
          replace e142205 := e142205.st k142735
          replace e142700 := e142700.st k142735
          replace e142193 := e142193.st k142735
          replace e142197 := e142197.st k142735
          replace e142201 := e142201.st k142735
          replace e142733 := e142733.st k142735
          replace rp142728 := rp142728.st k142735
          replace kk := kk.trans k142735
          rw [hn142727] at s
          try rw [hn142727]
          obtain ⟨I142738, s', k142739, hc142740, e142741⟩ := St.give s (i := 0) rfl rfl rp142728
          replace s := s'; clear s'
          replace e142205 := e142205.st k142739
          replace e142700 := e142700.st k142739
          replace e142193 := e142193.st k142739
          replace e142197 := e142197.st k142739
          replace e142201 := e142201.st k142739
          replace e142733 := e142733.st k142739
          replace e142737 := e142737.st k142739
          replace kk := kk.trans k142739
          refine RW.seg hT 3 [] [] [.tuple #[.agg #[.bool x142702.1.Leaf, .slice A142709 x142702.1.Pairs.length c142711, .slice A142716 x142702.1.Keys.length c142718, .slice A142723 x142702.1.Kids.length c142725], .int .i64 x142702.2], .agg #[.bool x142702.1.Leaf, .slice A142709 x142702.1.Pairs.length c142711, .slice A142716 x142702.1.Keys.length c142718, .slice A142723 x142702.1.Kids.length c142725], .int .i64 x142702.2] [] (by kernel_rfl) (trivial) ?_
          refine RW.op (by kernel_rfl) (OK.new hT (f := fun b => .pointer (some ⟨b, 0, none⟩)) (cs := [.bool false, .slice none 0 0, .slice none 0 0, .slice none 0 0]) (e := 26) (c := .tt) s (by kernel_rfl) trivial ?_)
          clear s
          rintro w142742 b142743 s k142744 -
          replace e142205 := e142205.st k142744
          replace e142700 := e142700.st k142744
          replace e142193 := e142193.st k142744
          replace e142197 := e142197.st k142744
          replace e142201 := e142201.st k142744
          replace e142733 := e142733.st k142744
          replace e142737 := e142737.st k142744
          replace e142741 := e142741.st k142744
          replace kk := kk.trans k142744
          refine RW.op (by kernel_rfl) (OK.store hT (i := 0) (b := b142743) (off := 0) (n := 4) (vs := [.bool x142702.1.Leaf, .slice A142709 x142702.1.Pairs.length c142711, .slice A142716 x142702.1.Keys.length c142718, .slice A142723 x142702.1.Kids.length c142725]) (cs := [.bool false, .slice none 0 0, .slice none 0 0, .slice none 0 0]) (e := 26) s (by kernel_rfl) rfl rfl (flat_ok rfl) (Nat.le_of_ble_eq_true rfl) ?_)
          clear s
          rintro w142745 s k142746 -
          replace e142205 := e142205.st k142746
          replace e142700 := e142700.st k142746
          replace e142193 := e142193.st k142746
          replace e142197 := e142197.st k142746
          replace e142201 := e142201.st k142746
          replace e142733 := e142733.st k142746
          replace e142737 := e142737.st k142746
          replace e142741 := e142741.st k142746
          replace kk := kk.trans k142746
          refine RW.seg hT 1 [] [] [.int .i64 x142702.2] [] (by kernel_rfl) (trivial) ?_
          refine RW.nil ?_
          refine WPK.seq ?_
          refine WPK.cut' (Kn fun E ds wz => ∀ X : Kont, (∀ (I142843 : Nat → Prop) (x142841 : Bool) (D142840 : List Value) (w' : World), g3_j3 p1 p2 x142841 = some r → St w0 M I142843 (F) w' → Kp I w I142843 w' → Elems (Rp.int .u8) I142843 w' A142202 p2 → X [(D142840.getD 0 undef), .int .i64 p1, .slice A142202 p2.length c142203, (D142840.getD 1 undef), (D142840.getD 2 undef), (D142840.getD 3 undef), .bool false, (D142840.getD 4 undef), (D142840.getD 5 undef), (D142840.getD 6 undef), (D142840.getD 7 undef), (D142840.getD 8 undef), undef, undef, undef, undef, (D142840.getD 9 undef), (D142840.getD 10 undef), (D142840.getD 11 undef), (D142840.getD 12 undef), (D142840.getD 13 undef), (D142840.getD 14 undef), (D142840.getD 15 undef), (D142840.getD 16 undef), (D142840.getD 17 undef), (D142840.getD 18 undef), (D142840.getD 19 undef), (D142840.getD 20 undef), (D142840.getD 21 undef), (D142840.getD 22 undef), (D142840.getD 23 undef), (D142840.getD 24 undef), (D142840.getD 25 undef), (D142840.getD 26 undef), (D142840.getD 27 undef), (D142840.getD 28 undef), (D142840.getD 29 undef), (D142840.getD 30 undef), (D142840.getD 31 undef), (D142840.getD 32 undef), (D142840.getD 33 undef), (D142840.getD 34 undef), (D142840.getD 35 undef), (D142840.getD 36 undef), (D142840.getD 37 undef), (D142840.getD 38 undef), (D142840.getD 39 undef), (D142840.getD 40 undef), (D142840.getD 41 undef), (D142840.getD 42 undef), (D142840.getD 43 undef), (D142840.getD 44 undef), (D142840.getD 45 undef), (D142840.getD 46 undef), (D142840.getD 47 undef), (D142840.getD 48 undef), (D142840.getD 49 undef), (D142840.getD 50 undef), (D142840.getD 51 undef), (D142840.getD 52 undef), (D142840.getD 53 undef), (D142840.getD 54 undef), (D142840.getD 55 undef), (D142840.getD 56 undef), .bool x142841, undef, undef, undef, undef, undef, undef, undef, undef, undef, undef, undef, undef, undef, undef, undef, undef, undef, undef, undef, undef, undef, undef, undef, undef, undef, undef, undef, undef, undef] [] w') → X E ds wz) ?_ ?_
          · intro X142845 hX142846
            refine fun _ _ _ hJ => hJ X142845 ?_
            clear s
            intro I142843 x142841 D142840 w142842 hf s kk e142205
            refine hX142846 _ _ _ ?_
            unfold g3_j3 at hf
            by_cases h142844 : x142841 = true
            · have hf := iteT h142844 hf
              refine WPK.condT (Eq.trans (b := .bool x142841) (by kernel_rfl) (b_t h142844)) ?_
              refine WPK.seq ?_
              refine WPK.region ?_
              refine RW.seg hT 1 [] [] [.bool false] [] (by kernel_rfl) (trivial) ?_
              refine RW.nil ?_
              refine WPK.ret (?_)
              obtain rfl := someS hf
              refine Fin.of (rs := [.tmp 6]) hT [] (.bool false) [] rfl (by kernel_rfl) (trivial) ?_
              exact fun X h => vc rfl (h I142843 _ s kk)
            · have hf := iteF h142844 hf
              refine WPK.condF (Eq.trans (b := .bool x142841) (by kernel_rfl) (b_f h142844)) ?_
              refine WPK.skip ?_
              exact fun X h => kc (by kernel_rfl) rfl (h I142843 [(D142840.getD 0 undef), (D142840.getD 1 undef), (D142840.getD 2 undef), (D142840.getD 3 undef), (D142840.getD 4 undef), (D142840.getD 5 undef), (D142840.getD 6 undef), (D142840.getD 7 undef), (D142840.getD 8 undef), (D142840.getD 9 undef), (D142840.getD 10 undef), (D142840.getD 11 undef), (D142840.getD 12 undef), (D142840.getD 13 undef), (D142840.getD 14 undef), (D142840.getD 15 undef), (D142840.getD 16 undef), (D142840.getD 17 undef), (D142840.getD 18 undef), (D142840.getD 19 undef), (D142840.getD 20 undef), (D142840.getD 21 undef), (D142840.getD 22 undef), (D142840.getD 23 undef), (D142840.getD 24 undef), (D142840.getD 25 undef), (D142840.getD 26 undef), (D142840.getD 27 undef), (D142840.getD 28 undef), (D142840.getD 29 undef), (D142840.getD 30 undef), (D142840.getD 31 undef), (D142840.getD 32 undef), (D142840.getD 33 undef), (D142840.getD 34 undef), (D142840.getD 35 undef), (D142840.getD 36 undef), (D142840.getD 37 undef), (D142840.getD 38 undef), (D142840.getD 39 undef), (D142840.getD 40 undef), (D142840.getD 41 undef), (D142840.getD 42 undef), (D142840.getD 43 undef), (D142840.getD 44 undef), (D142840.getD 45 undef), (D142840.getD 46 undef), (D142840.getD 47 undef), (D142840.getD 48 undef), (D142840.getD 49 undef), (D142840.getD 50 undef), (D142840.getD 51 undef), (D142840.getD 52 undef), (D142840.getD 53 undef), (D142840.getD 54 undef), (D142840.getD 55 undef), (D142840.getD 56 undef), .bool x142841] _ hf s kk e142205)
          · have e142205S142847 := e142205
            have e142700S142847 := e142700
            have e142193S142847 := e142193
            have e142197S142847 := e142197
            have e142201S142847 := e142201
            have e142733S142847 := e142733
            have e142737S142847 := e142737
            have e142741S142847 := e142741
            have kS142851 : Kp I142738 w142745 I142738 w142745 := Kp.refl
            refine WPK.draw (fun w' => ∃ I' : Nat → Prop, St w0 M I' ((.blk b142743 (.cells #[.bool x142702.1.Leaf, .slice A142709 x142702.1.Pairs.length c142711, .slice A142716 x142702.1.Keys.length c142718, .slice A142723 x142702.1.Kids.length c142725] 26 (0, 0))) :: (.blk b142207 (.cells #[.bool p0.Leaf, .slice A142190 p0.Pairs.length c142191, .slice A142194 p0.Keys.length c142195, .slice A142198 p0.Kids.length c142199] 26 (0, 0))) :: F) w' ∧ Kp I142738 w142745 I' w') 21 (by kernel_rfl) ?_
            intro w142848 hd142849
            have k142850 := Kp.dr s hd142849
            replace s := s.dr hd142849
            replace e142205 := e142205.st k142850
            replace e142700 := e142700.st k142850
            replace e142193 := e142193.st k142850
            replace e142197 := e142197.st k142850
            replace e142201 := e142201.st k142850
            replace e142733 := e142733.st k142850
            replace e142737 := e142737.st k142850
            replace e142741 := e142741.st k142850
            replace kk := kk.trans k142850
            replace kS142851 := kS142851.trans k142850
            refine RD.seg hT (by kernel_rfl) [0, 1] [] [(45, .bool (decide (x142702.2 ≠ 0)))] [.int .i64 x142702.2, .bool (decide (x142702.2 ≠ 0))] [.veq (.bool (x142702.2 != 0)) (.bool (decide (x142702.2 ≠ 0)))] (by kernel_rfl) (by rintro w' ⟨I', s, k⟩; have e142205 := e142205S142847.st k; have e142700 := e142700S142847.st k; have e142193 := e142193S142847.st k; have e142197 := e142197S142847.st k; have e142201 := e142201S142847.st k; have e142733 := e142733S142847.st k; have e142737 := e142737S142847.st k; have e142741 := e142741S142847.st k; exact ne_v) ⟨_, s.pick [0, 1] 2 rfl, kS142851⟩ ?_
            by_cases h142852 : x142702.2 ≠ 0
            · have hf := iteT h142852 hf
              refine RD.seg hT (by kernel_rfl) [2, 3, 4] [] [(46, .bool true)] [.bool true, undef, undef] [.veq (.bool (decide (x142702.2 ≠ 0))) (.bool true)] (by kernel_rfl) (by rintro w' ⟨I', s, k⟩; have e142205 := e142205S142847.st k; have e142700 := e142700S142847.st k; have e142193 := e142193S142847.st k; have e142197 := e142197S142847.st k; have e142201 := e142201S142847.st k; have e142733 := e142733S142847.st k; have e142737 := e142737S142847.st k; have e142741 := e142741S142847.st k; exact bo_t h142852) ⟨_, s.pick [0, 1] 2 rfl, kS142851⟩ ?_
              refine RD.skip (i := 5) rfl (by kernel_rfl) (by kernel_rfl) ?_
              refine ⟨fun _ => ⟨_, s.pick [0, 1] 2 rfl, kS142851⟩, ?_⟩
              refine RD.seg hT (by kernel_rfl) [6, 7, 8, 9, 10, 11, 12, 13, 14, 17] [] [] [undef, .bool true, .bool true, undef, undef, undef, .bool true, .bool true, undef, undef] [] (by kernel_rfl) (fun _ _ => trivial) ⟨_, s.pick [0, 1] 2 rfl, kS142851⟩ ?_
              refine RD.skip (i := 15) rfl (by kernel_rfl) (by kernel_rfl) ?_
              refine ⟨fun _ => ⟨_, s.pick [0, 1] 2 rfl, kS142851⟩, ?_⟩
              refine RD.seg hT (by kernel_rfl) [16] [] [] [undef] [] (by kernel_rfl) (fun _ _ => trivial) ⟨_, s.pick [0, 1] 2 rfl, kS142851⟩ ?_
              refine RD.skip (i := 18) rfl (by kernel_rfl) (by kernel_rfl) ?_
              refine ⟨fun _ => ⟨_, s.pick [0, 1] 2 rfl, kS142851⟩, ?_⟩
              refine RD.seg hT (by kernel_rfl) [19, 20] [] [] [undef, .bool true] [] (by kernel_rfl) (fun _ _ => trivial) ⟨_, s.pick [0, 1] 2 rfl, kS142851⟩ ?_
              refine RD.done (by kernel_rfl) ?_
              replace s := s.pick [] 2 rfl
              exact fun X h => kc (by kernel_rfl) rfl (h I142738 true [(D142312.getD 0 undef), .pointer (some ⟨b142207, 0, none⟩), (D142312.getD 1 undef), (D142312.getD 2 undef), .int .i64 x142683.1, .slice A142690 x142683.2.1.length c142692, .int .i64 x142683.2.2, .pointer (some ⟨b142743, 0, none⟩), .int .i64 x142702.2, (D142312.getD 3 undef), (D142312.getD 4 undef), (D142312.getD 5 undef), (D142312.getD 6 undef), (D142312.getD 7 undef), (D142312.getD 8 undef), (D142312.getD 9 undef), (D142312.getD 10 undef), (D142312.getD 11 undef), (D142312.getD 12 undef), (D142312.getD 13 undef), (D142312.getD 14 undef), .bool x142313, undef, .tuple #[.int .i64 x142683.1, .slice A142690 x142683.2.1.length c142692, .int .i64 x142683.2.2], .agg #[.bool p0.Leaf, .slice A142190 p0.Pairs.length c142191, .slice A142194 p0.Keys.length c142195, .slice A142198 p0.Kids.length c142199], .tuple #[.int .i64 x142683.1, .slice A142690 x142683.2.1.length c142692, .int .i64 x142683.2.2], .int .i64 x142683.1, .slice A142690 x142683.2.1.length c142692, .int .i64 x142683.2.2, .int .i64 x142683.2.2, .bool (decide (x142683.2.2 = 0)), .tuple #[.agg #[.bool x142702.1.Leaf, .slice A142709 x142702.1.Pairs.length c142711, .slice A142716 x142702.1.Keys.length c142718, .slice A142723 x142702.1.Kids.length c142725], .int .i64 x142702.2], .int .i64 x142683.1, .slice A142690 x142683.2.1.length c142692, .tuple #[.agg #[.bool x142702.1.Leaf, .slice A142709 x142702.1.Pairs.length c142711, .slice A142716 x142702.1.Keys.length c142718, .slice A142723 x142702.1.Kids.length c142725], .int .i64 x142702.2], .agg #[.bool x142702.1.Leaf, .slice A142709 x142702.1.Pairs.length c142711, .slice A142716 x142702.1.Keys.length c142718, .slice A142723 x142702.1.Kids.length c142725], .int .i64 x142702.2, .int .i64 x142702.2, .bool (decide (x142702.2 ≠ 0)), .bool true, undef, undef, undef, undef, .bool true, .bool true, undef, undef, undef, .bool true, .bool true, undef, undef, undef, undef, undef, undef] _ hf s kk e142205)
            · have hf := iteF h142852 hf
              refine RD.seg hT (by kernel_rfl) [2, 3, 4] [.agg #[.bool x142702.1.Leaf, .slice A142709 x142702.1.Pairs.length c142711, .slice A142716 x142702.1.Keys.length c142718, .slice A142723 x142702.1.Kids.length c142725], .agg #[.bool p0.Leaf, .slice A142190 p0.Pairs.length c142191, .slice A142194 p0.Keys.length c142195, .slice A142198 p0.Kids.length c142199]] [(46, .bool false)] [.bool false, .agg #[.bool x142702.1.Leaf, .slice A142709 x142702.1.Pairs.length c142711, .slice A142716 x142702.1.Keys.length c142718, .slice A142723 x142702.1.Kids.length c142725], .agg #[.bool p0.Leaf, .slice A142190 p0.Pairs.length c142191, .slice A142194 p0.Keys.length c142195, .slice A142198 p0.Kids.length c142199]] [.veq (.bool (decide (x142702.2 ≠ 0))) (.bool false), .cells ⟨b142743, 0, none⟩ [.bool x142702.1.Leaf, .slice A142709 x142702.1.Pairs.length c142711, .slice A142716 x142702.1.Keys.length c142718, .slice A142723 x142702.1.Kids.length c142725] 4, .cells ⟨b142207, 0, none⟩ [.bool p0.Leaf, .slice A142190 p0.Pairs.length c142191, .slice A142194 p0.Keys.length c142195, .slice A142198 p0.Kids.length c142199] 4] (by kernel_rfl) (by rintro w' ⟨I', s, k⟩; have e142205 := e142205S142847.st k; have e142700 := e142700S142847.st k; have e142193 := e142193S142847.st k; have e142197 := e142197S142847.st k; have e142201 := e142201S142847.st k; have e142733 := e142733S142847.st k; have e142737 := e142737S142847.st k; have e142741 := e142741S142847.st k; exact ⟨bo_f h142852, s.cells (i := 0) rfl rfl rfl, s.cells (i := 1) rfl rfl rfl⟩) ⟨_, s.pick [0, 1] 2 rfl, kS142851⟩ ?_
              obtain ⟨x142853, hx142854, hf⟩ := bindS hf
              refine RD.op (i := 5) rfl (by kernel_rfl) (by kernel_rfl) (OK.call' en8 (by kernel_rfl) (c8 (F := (.blk b142743 (.cells #[.bool x142702.1.Leaf, .slice A142709 x142702.1.Pairs.length c142711, .slice A142716 x142702.1.Keys.length c142718, .slice A142723 x142702.1.Kids.length c142725] 26 (0, 0))) :: (.blk b142207 (.cells #[.bool p0.Leaf, .slice A142190 p0.Pairs.length c142191, .slice A142194 p0.Keys.length c142195, .slice A142198 p0.Kids.length c142199] 26 (0, 0))) :: F) x142702.1 p0 A142709 c142711 A142716 c142718 A142723 c142725 A142190 c142191 A142194 c142195 A142198 c142199 hc142732 e142733 hc142736 e142737 hc142740 e142741 hc142192 e142193 hc142196 e142197 hc142200 e142201 s hx142854) ?_)
              intro X142857 hX142858
              refine fun _ _ hJ => hJ X142857 ?_
              clear s
              intro I142859 w142855 s k142856
              refine hX142858 _ _ ?_
              replace e142205 := e142205.st k142856
              replace e142700 := e142700.st k142856
              replace e142193 := e142193.st k142856
              replace e142197 := e142197.st k142856
              replace e142201 := e142201.st k142856
              replace e142733 := e142733.st k142856
              replace e142737 := e142737.st k142856
              replace e142741 := e142741.st k142856
              replace kk := kk.trans k142856
              replace kS142851 := kS142851.trans k142856
              refine ⟨fun _ => ⟨_, s.pick [0, 1] 2 rfl, kS142851⟩, RD.fold ?_⟩
              refine RD.seg hT (by kernel_rfl) [6, 7] [] [(50, .bool (decide (¬ (x142853 = true))))] [.bool (decide (¬ (x142853 = true))), .bool (decide (¬ (x142853 = true)))] [.veq (.bool (!x142853)) (.bool (decide (¬ (x142853 = true))))] (by kernel_rfl) (by rintro w' ⟨I', s, k⟩; have e142205 := e142205S142847.st k; have e142700 := e142700S142847.st k; have e142193 := e142193S142847.st k; have e142197 := e142197S142847.st k; have e142201 := e142201S142847.st k; have e142733 := e142733S142847.st k; have e142737 := e142737S142847.st k; have e142741 := e142741S142847.st k; exact not_b) ⟨_, s.pick [0, 1] 2 rfl, kS142851⟩ ?_
              by_cases h142860 : ¬ (x142853 = true)
              · have hf := iteT h142860 hf
                refine RD.seg hT (by kernel_rfl) [8, 9, 10, 11, 12, 13, 14, 17] [] [(52, .bool true)] [.bool true, undef, undef, undef, .bool true, .bool true, undef, undef] [.veq (.bool (decide (¬ (x142853 = true)))) (.bool true)] (by kernel_rfl) (by rintro w' ⟨I', s, k⟩; have e142205 := e142205S142847.st k; have e142700 := e142700S142847.st k; have e142193 := e142193S142847.st k; have e142197 := e142197S142847.st k; have e142201 := e142201S142847.st k; have e142733 := e142733S142847.st k; have e142737 := e142737S142847.st k; have e142741 := e142741S142847.st k; exact bo_t h142860) ⟨_, s.pick [0, 1] 2 rfl, kS142851⟩ ?_
                refine RD.skip (i := 15) rfl (by kernel_rfl) (by kernel_rfl) ?_
                refine ⟨fun _ => ⟨_, s.pick [0, 1] 2 rfl, kS142851⟩, ?_⟩
                refine RD.seg hT (by kernel_rfl) [16] [] [] [undef] [] (by kernel_rfl) (fun _ _ => trivial) ⟨_, s.pick [0, 1] 2 rfl, kS142851⟩ ?_
                refine RD.skip (i := 18) rfl (by kernel_rfl) (by kernel_rfl) ?_
                refine ⟨fun _ => ⟨_, s.pick [0, 1] 2 rfl, kS142851⟩, ?_⟩
                refine RD.seg hT (by kernel_rfl) [19, 20] [] [] [undef, .bool true] [] (by kernel_rfl) (fun _ _ => trivial) ⟨_, s.pick [0, 1] 2 rfl, kS142851⟩ ?_
                refine RD.done (by kernel_rfl) ?_
                replace s := s.pick [] 2 rfl
                exact fun X h => kc (by kernel_rfl) rfl (h I142859 true [(D142312.getD 0 undef), .pointer (some ⟨b142207, 0, none⟩), (D142312.getD 1 undef), (D142312.getD 2 undef), .int .i64 x142683.1, .slice A142690 x142683.2.1.length c142692, .int .i64 x142683.2.2, .pointer (some ⟨b142743, 0, none⟩), .int .i64 x142702.2, (D142312.getD 3 undef), (D142312.getD 4 undef), (D142312.getD 5 undef), (D142312.getD 6 undef), (D142312.getD 7 undef), (D142312.getD 8 undef), (D142312.getD 9 undef), (D142312.getD 10 undef), (D142312.getD 11 undef), (D142312.getD 12 undef), (D142312.getD 13 undef), (D142312.getD 14 undef), .bool x142313, undef, .tuple #[.int .i64 x142683.1, .slice A142690 x142683.2.1.length c142692, .int .i64 x142683.2.2], .agg #[.bool p0.Leaf, .slice A142190 p0.Pairs.length c142191, .slice A142194 p0.Keys.length c142195, .slice A142198 p0.Kids.length c142199], .tuple #[.int .i64 x142683.1, .slice A142690 x142683.2.1.length c142692, .int .i64 x142683.2.2], .int .i64 x142683.1, .slice A142690 x142683.2.1.length c142692, .int .i64 x142683.2.2, .int .i64 x142683.2.2, .bool (decide (x142683.2.2 = 0)), .tuple #[.agg #[.bool x142702.1.Leaf, .slice A142709 x142702.1.Pairs.length c142711, .slice A142716 x142702.1.Keys.length c142718, .slice A142723 x142702.1.Kids.length c142725], .int .i64 x142702.2], .int .i64 x142683.1, .slice A142690 x142683.2.1.length c142692, .tuple #[.agg #[.bool x142702.1.Leaf, .slice A142709 x142702.1.Pairs.length c142711, .slice A142716 x142702.1.Keys.length c142718, .slice A142723 x142702.1.Kids.length c142725], .int .i64 x142702.2], .agg #[.bool x142702.1.Leaf, .slice A142709 x142702.1.Pairs.length c142711, .slice A142716 x142702.1.Keys.length c142718, .slice A142723 x142702.1.Kids.length c142725], .int .i64 x142702.2, .int .i64 x142702.2, .bool (decide (x142702.2 ≠ 0)), .bool false, .agg #[.bool x142702.1.Leaf, .slice A142709 x142702.1.Pairs.length c142711, .slice A142716 x142702.1.Keys.length c142718, .slice A142723 x142702.1.Kids.length c142725], .agg #[.bool p0.Leaf, .slice A142190 p0.Pairs.length c142191, .slice A142194 p0.Keys.length c142195, .slice A142198 p0.Kids.length c142199], .bool x142853, .bool (decide (¬ (x142853 = true))), .bool (decide (¬ (x142853 = true))), .bool true, undef, undef, undef, .bool true, .bool true, undef, undef, undef, undef, undef, undef] _ hf s kk e142205)
              · have hf := iteF h142860 hf
                refine RD.seg hT (by kernel_rfl) [8, 9, 10, 11, 12] [] [(52, .bool false), (55, .bool (decide ((x142683.2.1.length : Int) ≠ 240)))] [.bool false, .slice A142690 x142683.2.1.length c142692, .int .i64 (x142683.2.1.length : Int), .bool (decide ((x142683.2.1.length : Int) ≠ 240)), .bool (decide ((x142683.2.1.length : Int) ≠ 240))] [.veq (.bool (decide (¬ (x142853 = true)))) (.bool false), .veq (.bool ((x142683.2.1.length : Int) != 240)) (.bool (decide ((x142683.2.1.length : Int) ≠ 240)))] (by kernel_rfl) (by rintro w' ⟨I', s, k⟩; have e142205 := e142205S142847.st k; have e142700 := e142700S142847.st k; have e142193 := e142193S142847.st k; have e142197 := e142197S142847.st k; have e142201 := e142201S142847.st k; have e142733 := e142733S142847.st k; have e142737 := e142737S142847.st k; have e142741 := e142741S142847.st k; exact ⟨bo_f h142860, ne_v⟩) ⟨_, s.pick [0, 1] 2 rfl, kS142851⟩ ?_
                by_cases h142861 : (x142683.2.1.length : Int) ≠ 240
                · have hf := iteT h142861 hf
                  refine RD.seg hT (by kernel_rfl) [13, 14, 17] [] [(57, .bool true)] [.bool true, undef, undef] [.veq (.bool (decide ((x142683.2.1.length : Int) ≠ 240))) (.bool true)] (by kernel_rfl) (by rintro w' ⟨I', s, k⟩; have e142205 := e142205S142847.st k; have e142700 := e142700S142847.st k; have e142193 := e142193S142847.st k; have e142197 := e142197S142847.st k; have e142201 := e142201S142847.st k; have e142733 := e142733S142847.st k; have e142737 := e142737S142847.st k; have e142741 := e142741S142847.st k; exact bo_t h142861) ⟨_, s.pick [0, 1] 2 rfl, kS142851⟩ ?_
                  refine RD.skip (i := 15) rfl (by kernel_rfl) (by kernel_rfl) ?_
                  refine ⟨fun _ => ⟨_, s.pick [0, 1] 2 rfl, kS142851⟩, ?_⟩
                  refine RD.seg hT (by kernel_rfl) [16] [] [] [undef] [] (by kernel_rfl) (fun _ _ => trivial) ⟨_, s.pick [0, 1] 2 rfl, kS142851⟩ ?_
                  refine RD.skip (i := 18) rfl (by kernel_rfl) (by kernel_rfl) ?_
                  refine ⟨fun _ => ⟨_, s.pick [0, 1] 2 rfl, kS142851⟩, ?_⟩
                  refine RD.seg hT (by kernel_rfl) [19, 20] [] [] [undef, .bool true] [] (by kernel_rfl) (fun _ _ => trivial) ⟨_, s.pick [0, 1] 2 rfl, kS142851⟩ ?_
                  refine RD.done (by kernel_rfl) ?_
                  replace s := s.pick [] 2 rfl
                  exact fun X h => kc (by kernel_rfl) rfl (h I142859 true [(D142312.getD 0 undef), .pointer (some ⟨b142207, 0, none⟩), (D142312.getD 1 undef), (D142312.getD 2 undef), .int .i64 x142683.1, .slice A142690 x142683.2.1.length c142692, .int .i64 x142683.2.2, .pointer (some ⟨b142743, 0, none⟩), .int .i64 x142702.2, (D142312.getD 3 undef), (D142312.getD 4 undef), (D142312.getD 5 undef), (D142312.getD 6 undef), (D142312.getD 7 undef), (D142312.getD 8 undef), (D142312.getD 9 undef), (D142312.getD 10 undef), (D142312.getD 11 undef), (D142312.getD 12 undef), (D142312.getD 13 undef), (D142312.getD 14 undef), .bool x142313, undef, .tuple #[.int .i64 x142683.1, .slice A142690 x142683.2.1.length c142692, .int .i64 x142683.2.2], .agg #[.bool p0.Leaf, .slice A142190 p0.Pairs.length c142191, .slice A142194 p0.Keys.length c142195, .slice A142198 p0.Kids.length c142199], .tuple #[.int .i64 x142683.1, .slice A142690 x142683.2.1.length c142692, .int .i64 x142683.2.2], .int .i64 x142683.1, .slice A142690 x142683.2.1.length c142692, .int .i64 x142683.2.2, .int .i64 x142683.2.2, .bool (decide (x142683.2.2 = 0)), .tuple #[.agg #[.bool x142702.1.Leaf, .slice A142709 x142702.1.Pairs.length c142711, .slice A142716 x142702.1.Keys.length c142718, .slice A142723 x142702.1.Kids.length c142725], .int .i64 x142702.2], .int .i64 x142683.1, .slice A142690 x142683.2.1.length c142692, .tuple #[.agg #[.bool x142702.1.Leaf, .slice A142709 x142702.1.Pairs.length c142711, .slice A142716 x142702.1.Keys.length c142718, .slice A142723 x142702.1.Kids.length c142725], .int .i64 x142702.2], .agg #[.bool x142702.1.Leaf, .slice A142709 x142702.1.Pairs.length c142711, .slice A142716 x142702.1.Keys.length c142718, .slice A142723 x142702.1.Kids.length c142725], .int .i64 x142702.2, .int .i64 x142702.2, .bool (decide (x142702.2 ≠ 0)), .bool false, .agg #[.bool x142702.1.Leaf, .slice A142709 x142702.1.Pairs.length c142711, .slice A142716 x142702.1.Keys.length c142718, .slice A142723 x142702.1.Kids.length c142725], .agg #[.bool p0.Leaf, .slice A142190 p0.Pairs.length c142191, .slice A142194 p0.Keys.length c142195, .slice A142198 p0.Kids.length c142199], .bool x142853, .bool (decide (¬ (x142853 = true))), .bool (decide (¬ (x142853 = true))), .bool false, .slice A142690 x142683.2.1.length c142692, .int .i64 (x142683.2.1.length : Int), .bool (decide ((x142683.2.1.length : Int) ≠ 240)), .bool (decide ((x142683.2.1.length : Int) ≠ 240)), .bool true, undef, undef, undef, undef, undef, undef] _ hf s kk e142205)
                · have hf := iteF h142861 hf
                  refine RD.seg hT (by kernel_rfl) [13, 14, 17] [.agg #[.bool p0.Leaf, .slice A142190 p0.Pairs.length c142191, .slice A142194 p0.Keys.length c142195, .slice A142198 p0.Kids.length c142199]] [(57, .bool false)] [.bool false, .slice A142690 x142683.2.1.length c142692, .agg #[.bool p0.Leaf, .slice A142190 p0.Pairs.length c142191, .slice A142194 p0.Keys.length c142195, .slice A142198 p0.Kids.length c142199]] [.veq (.bool (decide ((x142683.2.1.length : Int) ≠ 240))) (.bool false), .cells ⟨b142207, 0, none⟩ [.bool p0.Leaf, .slice A142190 p0.Pairs.length c142191, .slice A142194 p0.Keys.length c142195, .slice A142198 p0.Kids.length c142199] 4] (by kernel_rfl) (by rintro w' ⟨I', s, k⟩; have e142205 := e142205S142847.st k; have e142700 := e142700S142847.st k; have e142193 := e142193S142847.st k; have e142197 := e142197S142847.st k; have e142201 := e142201S142847.st k; have e142733 := e142733S142847.st k; have e142737 := e142737S142847.st k; have e142741 := e142741S142847.st k; exact ⟨bo_f h142861, s.cells (i := 1) rfl rfl rfl⟩) ⟨_, s.pick [0, 1] 2 rfl, kS142851⟩ ?_
                  refine RD.op (i := 15) rfl (by kernel_rfl) (by kernel_rfl) (OK.inl (args := [.slice A142690 x142683.2.1.length c142692, .string (⟨#[0]⟩ : ByteArray)]) en9 (by kernel_rfl) ?_)
                  intro R142862 hR142863
                  refine Ret.of Tryd.func9 rfl ?_
                  refine WPK.seq ?_
                  refine WPK.region ?_
                  refine RW.seg hT 1 [] [] [.slice none 0 0] [] (by kernel_rfl) (trivial) ?_
                  refine RW.nil ?_
                  refine WPK.seq ?_
                  refine WPK.seq ?_
                  refine WPK.cut' (Kn fun E ds wz => ∀ X : Kont, (∀ (x142899 : Bool) (D142898 : List Value), g3_j4 p0 p1 p2 x142683 x142899 = some r → X [.slice A142690 x142683.2.1.length c142692, .string (⟨#[0]⟩ : ByteArray), (D142898.getD 0 undef), (D142898.getD 1 undef), .slice none 0 0, undef, undef, (D142898.getD 2 undef), (D142898.getD 3 undef), (D142898.getD 4 undef), (D142898.getD 5 undef), (D142898.getD 6 undef), (D142898.getD 7 undef), .bool x142899, undef, undef, undef, undef, undef, undef, undef, undef, undef, undef, undef, undef, undef, undef, undef, undef, undef, undef, undef, undef, undef, undef, undef, undef] [] w142855) → X E ds wz) ?_ ?_
                  · intro X142937 hX142938
                    refine fun _ _ _ hJ => hJ X142937 ?_
                    intro x142899 D142898 hf
                    refine hX142938 _ _ _ ?_
                    unfold g3_j4 at hf
                    by_cases h142900 : x142899 = true
                    · have hf := iteT h142900 hf
                      refine WPK.condT (Eq.trans (b := .bool x142899) (by kernel_rfl) (b_t h142900)) ?_
                      refine WPK.seq ?_
                      refine WPK.region ?_
                      refine RW.seg hT 2 [] [] [.slice A142690 x142683.2.1.length c142692, .slice A142690 x142683.2.1.length c142692] [] (by kernel_rfl) (trivial) ?_
                      refine RW.nil ?_
                      refine WPK.ret (?_)
                      refine Fin.of (rs := [.tmp 4]) hT [] (.slice A142690 x142683.2.1.length c142692) [] rfl (by kernel_rfl) (trivial) ?_
                      refine hR142863 _ _ ?_
                      refine ⟨fun _ => ⟨_, s.pick [0, 1] 2 rfl, kS142851⟩, RD.fold ?_⟩
                      refine RD.seg hT (by kernel_rfl) [16] [] [] [.int .i64 (x142683.2.1.length : Int)] [] (by kernel_rfl) (fun _ _ => trivial) ⟨_, s.pick [0, 1] 2 rfl, kS142851⟩ ?_
                      obtain ⟨x142901, hx142902, hf⟩ := bindS hf
                      refine RD.op (i := 18) rfl (by kernel_rfl) (by kernel_rfl) (OK.call' en10 (by kernel_rfl) (c10 (F := (.blk b142743 (.cells #[.bool x142702.1.Leaf, .slice A142709 x142702.1.Pairs.length c142711, .slice A142716 x142702.1.Keys.length c142718, .slice A142723 x142702.1.Kids.length c142725] 26 (0, 0))) :: (.blk b142207 (.cells #[.bool p0.Leaf, .slice A142190 p0.Pairs.length c142191, .slice A142194 p0.Keys.length c142195, .slice A142198 p0.Kids.length c142199] 26 (0, 0))) :: F) p0 A142190 c142191 A142194 c142195 A142198 c142199 hc142192 e142193 hc142196 e142197 hc142200 e142201 s hx142902) ?_)
                      intro X142905 hX142906
                      refine fun _ _ hJ => hJ X142905 ?_
                      clear s
                      intro I142907 w142903 s k142904
                      refine hX142906 _ _ ?_
                      replace e142205 := e142205.st k142904
                      replace e142700 := e142700.st k142904
                      replace e142193 := e142193.st k142904
                      replace e142197 := e142197.st k142904
                      replace e142201 := e142201.st k142904
                      replace e142733 := e142733.st k142904
                      replace e142737 := e142737.st k142904
                      replace e142741 := e142741.st k142904
                      replace kk := kk.trans k142904
                      replace kS142851 := kS142851.trans k142904
                      refine ⟨fun _ => ⟨_, s.pick [0, 1] 2 rfl, kS142851⟩, RD.fold ?_⟩
                      refine RD.seg hT (by kernel_rfl) [19, 20] [] [] [.bool (decide ((x142683.2.1.length : Int) > x142901)), .bool (decide ((x142683.2.1.length : Int) > x142901))] [] (by kernel_rfl) (fun _ _ => trivial) ⟨_, s.pick [0, 1] 2 rfl, kS142851⟩ ?_
                      refine RD.done (by kernel_rfl) ?_
                      replace s := s.pick [] 2 rfl
                      exact fun X h => kc (by kernel_rfl) rfl (h I142907 (decide ((x142683.2.1.length : Int) > x142901)) [(D142312.getD 0 undef), .pointer (some ⟨b142207, 0, none⟩), (D142312.getD 1 undef), (D142312.getD 2 undef), .int .i64 x142683.1, .slice A142690 x142683.2.1.length c142692, .int .i64 x142683.2.2, .pointer (some ⟨b142743, 0, none⟩), .int .i64 x142702.2, (D142312.getD 3 undef), (D142312.getD 4 undef), (D142312.getD 5 undef), (D142312.getD 6 undef), (D142312.getD 7 undef), (D142312.getD 8 undef), (D142312.getD 9 undef), (D142312.getD 10 undef), (D142312.getD 11 undef), (D142312.getD 12 undef), (D142312.getD 13 undef), (D142312.getD 14 undef), .bool x142313, undef, .tuple #[.int .i64 x142683.1, .slice A142690 x142683.2.1.length c142692, .int .i64 x142683.2.2], .agg #[.bool p0.Leaf, .slice A142190 p0.Pairs.length c142191, .slice A142194 p0.Keys.length c142195, .slice A142198 p0.Kids.length c142199], .tuple #[.int .i64 x142683.1, .slice A142690 x142683.2.1.length c142692, .int .i64 x142683.2.2], .int .i64 x142683.1, .slice A142690 x142683.2.1.length c142692, .int .i64 x142683.2.2, .int .i64 x142683.2.2, .bool (decide (x142683.2.2 = 0)), .tuple #[.agg #[.bool x142702.1.Leaf, .slice A142709 x142702.1.Pairs.length c142711, .slice A142716 x142702.1.Keys.length c142718, .slice A142723 x142702.1.Kids.length c142725], .int .i64 x142702.2], .int .i64 x142683.1, .slice A142690 x142683.2.1.length c142692, .tuple #[.agg #[.bool x142702.1.Leaf, .slice A142709 x142702.1.Pairs.length c142711, .slice A142716 x142702.1.Keys.length c142718, .slice A142723 x142702.1.Kids.length c142725], .int .i64 x142702.2], .agg #[.bool x142702.1.Leaf, .slice A142709 x142702.1.Pairs.length c142711, .slice A142716 x142702.1.Keys.length c142718, .slice A142723 x142702.1.Kids.length c142725], .int .i64 x142702.2, .int .i64 x142702.2, .bool (decide (x142702.2 ≠ 0)), .bool false, .agg #[.bool x142702.1.Leaf, .slice A142709 x142702.1.Pairs.length c142711, .slice A142716 x142702.1.Keys.length c142718, .slice A142723 x142702.1.Kids.length c142725], .agg #[.bool p0.Leaf, .slice A142190 p0.Pairs.length c142191, .slice A142194 p0.Keys.length c142195, .slice A142198 p0.Kids.length c142199], .bool x142853, .bool (decide (¬ (x142853 = true))), .bool (decide (¬ (x142853 = true))), .bool false, .slice A142690 x142683.2.1.length c142692, .int .i64 (x142683.2.1.length : Int), .bool (decide ((x142683.2.1.length : Int) ≠ 240)), .bool (decide ((x142683.2.1.length : Int) ≠ 240)), .bool false, .slice A142690 x142683.2.1.length c142692, .slice A142690 x142683.2.1.length c142692, .int .i64 (x142683.2.1.length : Int), .agg #[.bool p0.Leaf, .slice A142190 p0.Pairs.length c142191, .slice A142194 p0.Keys.length c142195, .slice A142198 p0.Kids.length c142199], .int .i64 x142901, .bool (decide ((x142683.2.1.length : Int) > x142901))] _ hf s kk e142205)
                    · have hf := iteF h142900 hf
                      refine WPK.condF (Eq.trans (b := .bool x142899) (by kernel_rfl) (b_f h142900)) ?_
                      refine WPK.skip ?_
                      refine WPK.seq ?_
                      refine WPK.seq ?_
                      refine WPK.region ?_
                      refine RW.seg hT 8 [] [] [.string (⟨#[0]⟩ : ByteArray), .int .i64 1, .bool true, .bool true, .string (⟨#[0]⟩ : ByteArray), .int .u8 0, .bool true, .bool true] [.idx 0 (⟨#[0]⟩ : ByteArray).size] (by kernel_rfl) (⟨by decide, by decide⟩) ?_
                      refine RW.nil ?_
                      refine WPK.condT (by kernel_rfl) ?_
                      refine WPK.seq ?_
                      refine WPK.region ?_
                      refine RW.seg hT 3 [] [] [.slice A142690 x142683.2.1.length c142692, .string (⟨#[0]⟩ : ByteArray), .int .u8 0] [.idx 0 (⟨#[0]⟩ : ByteArray).size] (by kernel_rfl) (⟨by decide, by decide⟩) ?_
                      obtain ⟨x142919, hx142920, hf⟩ := bindS hf
                      refine RW.op (by kernel_rfl) (OK.call' en25 (by kernel_rfl) (c25 (F := (.blk b142743 (.cells #[.bool x142702.1.Leaf, .slice A142709 x142702.1.Pairs.length c142711, .slice A142716 x142702.1.Keys.length c142718, .slice A142723 x142702.1.Kids.length c142725] 26 (0, 0))) :: (.blk b142207 (.cells #[.bool p0.Leaf, .slice A142190 p0.Pairs.length c142191, .slice A142194 p0.Keys.length c142195, .slice A142198 p0.Kids.length c142199] 26 (0, 0))) :: F) x142683.2.1 0 A142690 c142692 hc142699 e142700 s hx142920) ?_)
                      intro X142923 hX142924
                      refine fun _ _ hJ => hJ X142923 ?_
                      clear s
                      intro I142925 A142926 c142927 w142921 s k142922 hc142928 e142929
                      refine hX142924 _ _ ?_
                      replace e142700 := e142700.st k142922
                      replace e142205 := e142205.st k142922
                      replace e142193 := e142193.st k142922
                      replace e142197 := e142197.st k142922
                      replace e142201 := e142201.st k142922
                      replace e142733 := e142733.st k142922
                      replace e142737 := e142737.st k142922
                      replace e142741 := e142741.st k142922
                      replace kk := kk.trans k142922
                      replace kS142851 := kS142851.trans k142922
                      refine RW.seg hT 1 [] [] [.slice A142926 x142919.length c142927] [] (by kernel_rfl) (trivial) ?_
                      refine RW.nil ?_
                      refine WPK.ret (?_)
                      refine Fin.of (rs := [.tmp 4]) hT [] (.slice A142926 x142919.length c142927) [] rfl (by kernel_rfl) (trivial) ?_
                      refine hR142863 _ _ ?_
                      refine ⟨fun _ => ⟨_, s.pick [0, 1] 2 rfl, kS142851⟩, RD.fold ?_⟩
                      refine RD.seg hT (by kernel_rfl) [16] [] [] [.int .i64 (x142919.length : Int)] [] (by kernel_rfl) (fun _ _ => trivial) ⟨_, s.pick [0, 1] 2 rfl, kS142851⟩ ?_
                      obtain ⟨x142930, hx142931, hf⟩ := bindS hf
                      refine RD.op (i := 18) rfl (by kernel_rfl) (by kernel_rfl) (OK.call' en10 (by kernel_rfl) (c10 (F := (.blk b142743 (.cells #[.bool x142702.1.Leaf, .slice A142709 x142702.1.Pairs.length c142711, .slice A142716 x142702.1.Keys.length c142718, .slice A142723 x142702.1.Kids.length c142725] 26 (0, 0))) :: (.blk b142207 (.cells #[.bool p0.Leaf, .slice A142190 p0.Pairs.length c142191, .slice A142194 p0.Keys.length c142195, .slice A142198 p0.Kids.length c142199] 26 (0, 0))) :: F) p0 A142190 c142191 A142194 c142195 A142198 c142199 hc142192 e142193 hc142196 e142197 hc142200 e142201 s hx142931) ?_)
                      intro X142934 hX142935
                      refine fun _ _ hJ => hJ X142934 ?_
                      clear s
                      intro I142936 w142932 s k142933
                      refine hX142935 _ _ ?_
                      replace e142205 := e142205.st k142933
                      replace e142929 := e142929.st k142933
                      replace e142193 := e142193.st k142933
                      replace e142197 := e142197.st k142933
                      replace e142201 := e142201.st k142933
                      replace e142733 := e142733.st k142933
                      replace e142737 := e142737.st k142933
                      replace e142741 := e142741.st k142933
                      replace kk := kk.trans k142933
                      replace kS142851 := kS142851.trans k142933
                      refine ⟨fun _ => ⟨_, s.pick [0, 1] 2 rfl, kS142851⟩, RD.fold ?_⟩
                      refine RD.seg hT (by kernel_rfl) [19, 20] [] [] [.bool (decide ((x142919.length : Int) > x142930)), .bool (decide ((x142919.length : Int) > x142930))] [] (by kernel_rfl) (fun _ _ => trivial) ⟨_, s.pick [0, 1] 2 rfl, kS142851⟩ ?_
                      refine RD.done (by kernel_rfl) ?_
                      replace s := s.pick [] 2 rfl
                      exact fun X h => kc (by kernel_rfl) rfl (h I142936 (decide ((x142919.length : Int) > x142930)) [(D142312.getD 0 undef), .pointer (some ⟨b142207, 0, none⟩), (D142312.getD 1 undef), (D142312.getD 2 undef), .int .i64 x142683.1, .slice A142690 x142683.2.1.length c142692, .int .i64 x142683.2.2, .pointer (some ⟨b142743, 0, none⟩), .int .i64 x142702.2, (D142312.getD 3 undef), (D142312.getD 4 undef), (D142312.getD 5 undef), (D142312.getD 6 undef), (D142312.getD 7 undef), (D142312.getD 8 undef), (D142312.getD 9 undef), (D142312.getD 10 undef), (D142312.getD 11 undef), (D142312.getD 12 undef), (D142312.getD 13 undef), (D142312.getD 14 undef), .bool x142313, undef, .tuple #[.int .i64 x142683.1, .slice A142690 x142683.2.1.length c142692, .int .i64 x142683.2.2], .agg #[.bool p0.Leaf, .slice A142190 p0.Pairs.length c142191, .slice A142194 p0.Keys.length c142195, .slice A142198 p0.Kids.length c142199], .tuple #[.int .i64 x142683.1, .slice A142690 x142683.2.1.length c142692, .int .i64 x142683.2.2], .int .i64 x142683.1, .slice A142690 x142683.2.1.length c142692, .int .i64 x142683.2.2, .int .i64 x142683.2.2, .bool (decide (x142683.2.2 = 0)), .tuple #[.agg #[.bool x142702.1.Leaf, .slice A142709 x142702.1.Pairs.length c142711, .slice A142716 x142702.1.Keys.length c142718, .slice A142723 x142702.1.Kids.length c142725], .int .i64 x142702.2], .int .i64 x142683.1, .slice A142690 x142683.2.1.length c142692, .tuple #[.agg #[.bool x142702.1.Leaf, .slice A142709 x142702.1.Pairs.length c142711, .slice A142716 x142702.1.Keys.length c142718, .slice A142723 x142702.1.Kids.length c142725], .int .i64 x142702.2], .agg #[.bool x142702.1.Leaf, .slice A142709 x142702.1.Pairs.length c142711, .slice A142716 x142702.1.Keys.length c142718, .slice A142723 x142702.1.Kids.length c142725], .int .i64 x142702.2, .int .i64 x142702.2, .bool (decide (x142702.2 ≠ 0)), .bool false, .agg #[.bool x142702.1.Leaf, .slice A142709 x142702.1.Pairs.length c142711, .slice A142716 x142702.1.Keys.length c142718, .slice A142723 x142702.1.Kids.length c142725], .agg #[.bool p0.Leaf, .slice A142190 p0.Pairs.length c142191, .slice A142194 p0.Keys.length c142195, .slice A142198 p0.Kids.length c142199], .bool x142853, .bool (decide (¬ (x142853 = true))), .bool (decide (¬ (x142853 = true))), .bool false, .slice A142690 x142683.2.1.length c142692, .int .i64 (x142683.2.1.length : Int), .bool (decide ((x142683.2.1.length : Int) ≠ 240)), .bool (decide ((x142683.2.1.length : Int) ≠ 240)), .bool false, .slice A142690 x142683.2.1.length c142692, .slice A142926 x142919.length c142927, .int .i64 (x142919.length : Int), .agg #[.bool p0.Leaf, .slice A142190 p0.Pairs.length c142191, .slice A142194 p0.Keys.length c142195, .slice A142198 p0.Kids.length c142199], .int .i64 x142930, .bool (decide ((x142919.length : Int) > x142930))] _ hf s kk e142205)
                  · refine WPK.region ?_
                    refine RW.seg hT 3 [] [(9, .bool (decide ((x142683.2.1.length : Int) = 0)))] [.slice A142690 x142683.2.1.length c142692, .int .i64 (x142683.2.1.length : Int), .bool (decide ((x142683.2.1.length : Int) = 0))] [.veq (.bool ((x142683.2.1.length : Int) == 0)) (.bool (decide ((x142683.2.1.length : Int) = 0)))] (by kernel_rfl) (eq_v) ?_
                    by_cases h142939 : (x142683.2.1.length : Int) = 0
                    · have hf := iteT h142939 hf
                      refine RW.seg hT 4 [] [(10, .bool true)] [.bool true, undef, undef, .bool true] [.veq (.bool (decide ((x142683.2.1.length : Int) = 0))) (.bool true)] (by kernel_rfl) (bo_t h142939) ?_
                      refine RW.nil ?_
                      exact fun X h => kc (by kernel_rfl) rfl (h true [undef, undef, .slice A142690 x142683.2.1.length c142692, .int .i64 (x142683.2.1.length : Int), .bool (decide ((x142683.2.1.length : Int) = 0)), .bool true, undef, undef] hf)
                    · have hf := iteF h142939 hf
                      refine RW.seg hT 4 [] [(10, .bool false)] [.bool false, .string (⟨#[0]⟩ : ByteArray), .bool false, .bool false] [.veq (.bool (decide ((x142683.2.1.length : Int) = 0))) (.bool false)] (by kernel_rfl) (bo_f h142939) ?_
                      refine RW.nil ?_
                      exact fun X h => kc (by kernel_rfl) rfl (h false [undef, undef, .slice A142690 x142683.2.1.length c142692, .int .i64 (x142683.2.1.length : Int), .bool (decide ((x142683.2.1.length : Int) = 0)), .bool false, .string (⟨#[0]⟩ : ByteArray), .bool false] hf)
        · have hf := iteF h142701 hf
          refine WPK.condF (Eq.trans (b := .bool (decide (x142683.2.2 = 0))) (by kernel_rfl) (bo_f h142701)) ?_
          refine WPK.skip ?_
          replace s := s.pick [] 1 rfl
          exact fun X h => kc (by kernel_rfl) rfl (h I142697 [(D142312.getD 0 undef), .pointer (some ⟨b142207, 0, none⟩), (D142312.getD 1 undef), (D142312.getD 2 undef), .int .i64 x142683.1, .slice A142690 x142683.2.1.length c142692, .int .i64 x142683.2.2, undef, undef, (D142312.getD 3 undef), (D142312.getD 4 undef), (D142312.getD 5 undef), (D142312.getD 6 undef), (D142312.getD 7 undef), (D142312.getD 8 undef), (D142312.getD 9 undef), (D142312.getD 10 undef), (D142312.getD 11 undef), (D142312.getD 12 undef), (D142312.getD 13 undef), (D142312.getD 14 undef), .bool x142313, undef, .tuple #[.int .i64 x142683.1, .slice A142690 x142683.2.1.length c142692, .int .i64 x142683.2.2], .agg #[.bool p0.Leaf, .slice A142190 p0.Pairs.length c142191, .slice A142194 p0.Keys.length c142195, .slice A142198 p0.Kids.length c142199], .tuple #[.int .i64 x142683.1, .slice A142690 x142683.2.1.length c142692, .int .i64 x142683.2.2], .int .i64 x142683.1, .slice A142690 x142683.2.1.length c142692, .int .i64 x142683.2.2, .int .i64 x142683.2.2, .bool (decide (x142683.2.2 = 0)), undef, undef, undef, undef, undef, undef, undef, undef, undef, undef, undef, undef, undef, undef, undef, undef, undef, undef, undef, undef, undef, undef, undef, undef, undef, undef, undef] _ hf s kk e142205)
  · refine WPK.region ?_
    obtain ⟨x142942, hx142943, hf⟩ := bindS hf
    refine RW.op (by kernel_rfl) (OK.call' en4 (by kernel_rfl) (c4 (F := (.blk b142207 (.cells #[.bool p0.Leaf, .slice A142190 p0.Pairs.length c142191, .slice A142194 p0.Keys.length c142195, .slice A142198 p0.Kids.length c142199] 26 (0, 0))) :: F) s hx142943) ?_)
    intro X142946 hX142947
    refine fun _ _ hJ => hJ X142946 ?_
    clear s
    intro I142948 w142944 s k142945
    refine hX142947 _ _ ?_
    replace e142193 := e142193.st k142945
    replace e142197 := e142197.st k142945
    replace e142201 := e142201.st k142945
    replace e142205 := e142205.st k142945
    replace kk := kk.trans k142945
    refine RW.seg hT 1 [] [(17, .bool (decide (¬ (x142942 = true))))] [.bool (decide (¬ (x142942 = true)))] [.veq (.bool (!x142942)) (.bool (decide (¬ (x142942 = true))))] (by kernel_rfl) (not_b) ?_
    by_cases h142949 : ¬ (x142942 = true)
    · have hf := iteT h142949 hf
      refine RW.seg hT 11 [] [(18, .bool true)] [.bool true, undef, undef, undef, undef, .bool true, .bool true, undef, undef, undef, .bool true] [.veq (.bool (decide (¬ (x142942 = true)))) (.bool true)] (by kernel_rfl) (bo_t h142949) ?_
      refine RW.nil ?_
      exact fun X h => kc (by kernel_rfl) rfl (h I142948 true [.agg #[.bool p0.Leaf, .slice A142190 p0.Pairs.length c142191, .slice A142194 p0.Keys.length c142195, .slice A142198 p0.Kids.length c142199], undef, undef, .bool x142942, .bool (decide (¬ (x142942 = true))), .bool true, undef, undef, undef, undef, .bool true, .bool true, undef, undef, undef] _ hf s kk e142205 e142193 e142197 e142201)
    · have hf := iteF h142949 hf
      refine RW.seg hT 2 [.agg #[.bool p0.Leaf, .slice A142190 p0.Pairs.length c142191, .slice A142194 p0.Keys.length c142195, .slice A142198 p0.Kids.length c142199]] [(18, .bool false)] [.bool false, .agg #[.bool p0.Leaf, .slice A142190 p0.Pairs.length c142191, .slice A142194 p0.Keys.length c142195, .slice A142198 p0.Kids.length c142199]] [.veq (.bool (decide (¬ (x142942 = true)))) (.bool false), .cells ⟨b142207, 0, none⟩ [.bool p0.Leaf, .slice A142190 p0.Pairs.length c142191, .slice A142194 p0.Keys.length c142195, .slice A142198 p0.Kids.length c142199] 4] (by kernel_rfl) (⟨bo_f h142949, s.cells (i := 0) rfl rfl rfl⟩) ?_
      refine RW.op (by kernel_rfl) (OK.new hT (f := fun b => .slice (some ⟨b, 0, none⟩) 1 1) (cs := [.bool p0.Leaf, .slice A142190 p0.Pairs.length c142191, .slice A142194 p0.Keys.length c142195, .slice A142198 p0.Kids.length c142199]) (e := 26) (c := .tt) s (by kernel_rfl) trivial ?_)
      clear s
      rintro w142950 b142951 s k142952 -
      replace e142193 := e142193.st k142952
      replace e142197 := e142197.st k142952
      replace e142201 := e142201.st k142952
      replace e142205 := e142205.st k142952
      replace kk := kk.trans k142952
      have rp142953 : RepL rp_T_api_Node I142948 w142950 [.bool p0.Leaf, .slice A142190 p0.Pairs.length c142191, .slice A142194 p0.Keys.length c142195, .slice A142198 p0.Kids.length c142199] ([p0] : List T_api_Node) := RepL.cons (c := [.bool p0.Leaf, .slice A142190 p0.Pairs.length c142191, .slice A142194 p0.Keys.length c142195, .slice A142198 p0.Kids.length c142199]) (d := []) (⟨[.bool p0.Leaf], [.slice A142190 p0.Pairs.length c142191, .slice A142194 p0.Keys.length c142195, .slice A142198 p0.Kids.length c142199], rfl, rfl, ⟨[.slice A142190 p0.Pairs.length c142191], [.slice A142194 p0.Keys.length c142195, .slice A142198 p0.Kids.length c142199], rfl, ⟨_, _, rfl, hc142192.1, hc142192.2, e142193⟩, ⟨[.slice A142194 p0.Keys.length c142195], [.slice A142198 p0.Kids.length c142199], rfl, ⟨_, _, rfl, hc142196.1, hc142196.2, e142197⟩, ⟨_, _, rfl, hc142200.1, hc142200.2, e142201⟩⟩⟩⟩) (RepL.nil)
      replace s : St w0 M I142948 ((.sl (.slice (some ⟨b142951, 0, none⟩) 1 1) 26 4 1 [.bool p0.Leaf, .slice A142190 p0.Pairs.length c142191, .slice A142194 p0.Keys.length c142195, .slice A142198 p0.Kids.length c142199]) :: (.blk b142207 (.cells #[.bool p0.Leaf, .slice A142190 p0.Pairs.length c142191, .slice A142194 p0.Keys.length c142195, .slice A142198 p0.Kids.length c142199] 26 (0, 0))) :: F) w142950 := s.blkSl (i := 0) (n := 1) (c := 1) (size := 4) rfl rfl (Nat.le_refl _) (by decide)
      have sa142955 := s
      obtain ⟨hc142956, e142957⟩ := St.lend s (i := 0) rfl rfl rp142953
      have k142958 := Kp.shut (I := I142948) (w := w142950) (p := .sl (.slice (some ⟨b142951, 0, none⟩) 1 1) 26 4 1 [.bool p0.Leaf, .slice A142190 p0.Pairs.length c142191, .slice A142194 p0.Keys.length c142195, .slice A142198 p0.Kids.length c142199])
      replace s := s.shut 0 rfl
      obtain ⟨x142959, hx142960, hf⟩ := bindS hf
      refine RW.op (by kernel_rfl) (OK.call' en5 (by kernel_rfl) (c5 (F := (.blk b142207 (.cells #[.bool p0.Leaf, .slice A142190 p0.Pairs.length c142191, .slice A142194 p0.Keys.length c142195, .slice A142198 p0.Kids.length c142199] 26 (0, 0))) :: F) ([p0] : List T_api_Node) (some ⟨b142951, 0, none⟩) 1 hc142956 e142957 s hx142960) ?_)
      intro X142963 hX142964
      refine fun _ _ hJ => hJ X142963 ?_
      clear s
      intro I142965 w142961 s k142962
      refine hX142964 _ _ ?_
      have s' := St.back sa142955 (i := 0) rfl s k142962
      replace k142962 := Kp.back sa142955 (i := 0) rfl k142962
      replace s := s'; clear s'
      obtain ⟨I142967, s, k142962⟩ : ∃ I : Nat → Prop, St w0 M I ((.sl (.slice (some ⟨b142951, 0, none⟩) 1 1) 26 4 1 [.bool p0.Leaf, .slice A142190 p0.Pairs.length c142191, .slice A142194 p0.Keys.length c142195, .slice A142198 p0.Kids.length c142199]) :: (.blk b142207 (.cells #[.bool p0.Leaf, .slice A142190 p0.Pairs.length c142191, .slice A142194 p0.Keys.length c142195, .slice A142198 p0.Kids.length c142199] 26 (0, 0))) :: F) w142961 ∧ Kp _ _ I _ := ⟨_, s, k142962⟩
      replace e142193 := e142193.st k142962
      replace e142197 := e142197.st k142962
      replace e142201 := e142201.st k142962
      replace e142205 := e142205.st k142962
      replace rp142953 := rp142953.st k142962
      replace kk := kk.trans k142962
      refine RW.seg hT 2 [] [(22, .bool (decide (¬ (x142959 = true))))] [.bool (decide (¬ (x142959 = true))), .bool (decide (¬ (x142959 = true)))] [.veq (.bool (!x142959)) (.bool (decide (¬ (x142959 = true))))] (by kernel_rfl) (not_b) ?_
      by_cases h142968 : ¬ (x142959 = true)
      · have hf := iteT h142968 hf
        refine RW.seg hT 5 [] [(24, .bool true)] [.bool true, undef, undef, undef, .bool true] [.veq (.bool (decide (¬ (x142959 = true)))) (.bool true)] (by kernel_rfl) (bo_t h142968) ?_
        refine RW.nil ?_
        replace s := s.pick [1] 2 rfl
        exact fun X h => kc (by kernel_rfl) rfl (h I142967 true [.agg #[.bool p0.Leaf, .slice A142190 p0.Pairs.length c142191, .slice A142194 p0.Keys.length c142195, .slice A142198 p0.Kids.length c142199], undef, undef, .bool x142942, .bool (decide (¬ (x142942 = true))), .bool false, .agg #[.bool p0.Leaf, .slice A142190 p0.Pairs.length c142191, .slice A142194 p0.Keys.length c142195, .slice A142198 p0.Kids.length c142199], .slice (some ⟨b142951, 0, none⟩) 1 1, .bool x142959, .bool (decide (¬ (x142959 = true))), .bool (decide (¬ (x142959 = true))), .bool true, undef, undef, undef] _ hf s kk e142205 e142193 e142197 e142201)
      · have hf := iteF h142968 hf
        refine RW.seg hT 5 [] [(24, .bool false)] [.bool false, .slice A142202 p2.length c142203, .int .i64 (p2.length : Int), .bool (decide ((p2.length : Int) > 3000)), .bool (decide ((p2.length : Int) > 3000))] [.veq (.bool (decide (¬ (x142959 = true)))) (.bool false)] (by kernel_rfl) (bo_f h142968) ?_
        refine RW.nil ?_
        replace s := s.pick [1] 2 rfl
        exact fun X h => kc (by kernel_rfl) rfl (h I142967 (decide ((p2.length : Int) > 3000)) [.agg #[.bool p0.Leaf, .slice A142190 p0.Pairs.length c142191, .slice A142194 p0.Keys.length c142195, .slice A142198 p0.Kids.length c142199], undef, undef, .bool x142942, .bool (decide (¬ (x142942 = true))), .bool false, .agg #[.bool p0.Leaf, .slice A142190 p0.Pairs.length c142191, .slice A142194 p0.Keys.length c142195, .slice A142198 p0.Kids.length c142199], .slice (some ⟨b142951, 0, none⟩) 1 1, .bool x142959, .bool (decide (¬ (x142959 = true))), .bool (decide (¬ (x142959 = true))), .bool false, .slice A142202 p2.length c142203, .int .i64 (p2.length : Int), .bool (decide ((p2.length : Int) > 3000))] _ hf s kk e142205 e142193 e142197 e142201)
end Go.Proofs.YtefjbhogpgihaaaDoor
