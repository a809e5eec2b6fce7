/- PRINTED BY sy.py: each call computes what the plain function of its number tells. -/
import Derived.Test.YtjkghheeeiacmaaDoorW4
namespace Go.Proofs.YtjkghheeeiacmaaDoor
open Go Go.SX Go.RowKit
set_option maxRecDepth 100000
set_option linter.unusedVariables false
attribute [local irreducible] WPK RW RD Ret SX.Fin SX.Any opK RoundBeg RoundEnd RangeEnd Rounds
theorem c15 {w0 w : World} {M I : Nat → Prop} {F : List It} (p0 : (List Int)) (p1 : Int) (A38128 : Option Addr) (c38129 : Nat) (hc38130 : (p0.length ≤ c38129 ∧ c38129 ≤ 9223372036854775807)) (e38131 : Elems (Rp.int .u8) I w A38128 p0) (s : St w0 M I (F) w) {r : (T_api_Frame × Int)} (hf : g15 p0 p1 = some r) :
    Ret Tryd.prog 15 [.slice A38128 p0.length c38129, .int .i64 p1] w fun v wz => ∀ X : Value → World → Prop, (∀ (I' : Nat → Prop) (B38518 : Option Addr) (m38519 : Nat) (d38520 : Nat) (cl38521 : List Value) (ys38522 : List Int) (A38525 : Option Addr) (n38526 : Nat) (c38527 : Nat) (w' : World), St w0 M I' ((.sl (.slice B38518 m38519 d38520) 5 1 m38519 cl38521) :: F) w' → Kp I w I' w' → m38519 = ys38522.length → RepL (Rp.int .u8) I' w' cl38521 ys38522 → Win (Rp.int .u8) B38518 ys38522 A38525 n38526 c38527 r.1.Data → X (.tuple #[.agg #[.int .i64 r.1.Kind, .int .i64 r.1.Page, .int .u64 r.1.Epoch, .slice A38525 n38526 c38527], .int .i64 r.2]) w') → X v wz := by
  have kk : Kp I w I w := Kp.refl
  unfold g15 at hf
  refine Ret.of Tryd.func15 rfl ?_
  refine WPK.seq ?_
  refine WPK.region ?_
  refine RW.op (by kernel_rfl) (OK.new hT (f := fun b => .pointer (some ⟨b, 0, none⟩)) (cs := [.int .i64 0, .int .i64 0, .int .u64 0, .slice none 0 0]) (e := 25) (c := .tt) s (by kernel_rfl) trivial ?_)
  rintro w38132 b38133 s k38134 -
  replace e38131 := e38131.st k38134
  replace kk := kk.trans k38134
  refine RW.seg hT 1 [] [] [.int .i64 0] [] (by kernel_rfl) (trivial) ?_
  refine RW.nil ?_
  refine WPK.seq ?_
  refine WPK.seq ?_
  refine WPK.region ?_
  refine RW.seg hT 3 [] [(13, .bool (decide ((p0.length : Int) ≠ 256)))] [.slice A38128 p0.length c38129, .int .i64 (p0.length : Int), .bool (decide ((p0.length : Int) ≠ 256))] [.veq (.bool ((p0.length : Int) != 256)) (.bool (decide ((p0.length : Int) ≠ 256)))] (by kernel_rfl) (ne_v) ?_
  refine RW.nil ?_
  by_cases h38139 : (p0.length : Int) ≠ 256
  · have hf := iteT h38139 hf
    refine WPK.condT (Eq.trans (b := .bool (decide ((p0.length : Int) ≠ 256))) (by kernel_rfl) (bo_t h38139)) ?_
    refine WPK.seq ?_
    refine WPK.region ?_
    refine RW.seg hT 1 [] [] [.agg #[.int .i64 0, .int .i64 0, .int .u64 0, .slice none 0 0]] [] (by kernel_rfl) (trivial) ?_
    refine RW.op (by kernel_rfl) (OK.store hT (i := 0) (b := b38133) (off := 0) (n := 4) (vs := [.int .i64 0, .int .i64 0, .int .u64 0, .slice none 0 0]) (cs := [.int .i64 0, .int .i64 0, .int .u64 0, .slice none 0 0]) (e := 25) s (by kernel_rfl) rfl rfl (flat_ok rfl) (Nat.le_of_ble_eq_true rfl) ?_)
    rintro w38140 s k38141 -
    replace e38131 := e38131.st k38141
    replace kk := kk.trans k38141
    refine RW.seg hT 1 [] [] [.int .i64 1] [] (by kernel_rfl) (trivial) ?_
    refine RW.nil ?_
    refine WPK.ret (?_)
    obtain rfl := someS hf
    refine Fin.of (rs := [.cell 4 25, .tmp 5]) hT [.agg #[.int .i64 0, .int .i64 0, .int .u64 0, .slice none 0 0]] (.tuple #[.agg #[.int .i64 0, .int .i64 0, .int .u64 0, .slice none 0 0], .int .i64 1]) [.cells ⟨b38133, 0, none⟩ [.int .i64 0, .int .i64 0, .int .u64 0, .slice none 0 0] 4] rfl (by kernel_rfl) (s.cells (i := 0) rfl rfl rfl) ?_
    replace s := s.pushNil 5 1
    replace s := s.pick [0] 2 rfl
    exact fun X h => vc rfl (h I none 0 0 [] ([] : List Int) none 0 0 _ s kk rfl (RepL.nil (r := (Rp.int .u8))) (Win.whole rfl (s.at (i := 0) rfl)))
  · have hf := iteF h38139 hf
    refine WPK.condF (Eq.trans (b := .bool (decide ((p0.length : Int) ≠ 256))) (by kernel_rfl) (bo_f h38139)) ?_
    refine WPK.skip ?_
    refine WPK.seq ?_
    refine WPK.region ?_
    refine RW.seg hT 1 [] [] [.slice A38128 p0.length c38129] [] (by kernel_rfl) (trivial) ?_
    obtain ⟨x38143, hx38144, hf⟩ := bindS hf
    refine RW.op (by kernel_rfl) (OK.call' en30 (by kernel_rfl) (c30 (F := (.blk b38133 (.cells #[.int .i64 0, .int .i64 0, .int .u64 0, .slice none 0 0] 25 (0, 0))) :: F) p0 A38128 c38129 hc38130 e38131 s hx38144) ?_)
    intro X38147 hX38148
    refine fun _ _ hJ => hJ X38147 ?_
    intro I38149 A38150 n38151 c38152 cl38153 w38145 s k38146 hn38154 rp38155
    refine hX38148 _ _ ?_
    replace e38131 := e38131.st k38146
    replace kk := kk.trans k38146
    refine RW.seg hT 5 [] [] [.tuple #[.slice A38150 n38151 c38152, .bool x38143.2], .slice A38150 n38151 c38152, .bool x38143.2, .slice A38150 n38151 c38152, .bool x38143.2] [] (by kernel_rfl) (trivial) ?_
    refine RW.nil ?_
    refine WPK.seq ?_
    refine WPK.seq ?_
    refine WPK.region ?_
    refine RW.seg hT 2 [] [(21, .bool (decide (¬ (x38143.2 = true))))] [.bool x38143.2, .bool (decide (¬ (x38143.2 = true)))] [.veq (.bool (!x38143.2)) (.bool (decide (¬ (x38143.2 = true))))] (by kernel_rfl) (not_b) ?_
    refine RW.nil ?_
    by_cases h38161 : ¬ (x38143.2 = true)
    · have hf := iteT h38161 hf
      refine WPK.condT (Eq.trans (b := .bool (decide (¬ (x38143.2 = true)))) (by kernel_rfl) (bo_t h38161)) ?_
      refine WPK.seq ?_
      refine WPK.region ?_
      refine RW.seg hT 1 [] [] [.agg #[.int .i64 0, .int .i64 0, .int .u64 0, .slice none 0 0]] [] (by kernel_rfl) (trivial) ?_
      refine RW.op (by kernel_rfl) (OK.store hT (i := 1) (b := b38133) (off := 0) (n := 4) (vs := [.int .i64 0, .int .i64 0, .int .u64 0, .slice none 0 0]) (cs := [.int .i64 0, .int .i64 0, .int .u64 0, .slice none 0 0]) (e := 25) s (by kernel_rfl) rfl rfl (flat_ok rfl) (Nat.le_of_ble_eq_true rfl) ?_)
      rintro w38162 s k38163 -
      replace e38131 := e38131.st k38163
      replace rp38155 := rp38155.st k38163
      replace kk := kk.trans k38163
      refine RW.seg hT 1 [] [] [.int .i64 40] [] (by kernel_rfl) (trivial) ?_
      refine RW.nil ?_
      refine WPK.ret (?_)
      obtain rfl := someS hf
      refine Fin.of (rs := [.cell 4 25, .tmp 5]) hT [.agg #[.int .i64 0, .int .i64 0, .int .u64 0, .slice none 0 0]] (.tuple #[.agg #[.int .i64 0, .int .i64 0, .int .u64 0, .slice none 0 0], .int .i64 40]) [.cells ⟨b38133, 0, none⟩ [.int .i64 0, .int .i64 0, .int .u64 0, .slice none 0 0] 4] rfl (by kernel_rfl) (s.cells (i := 1) rfl rfl rfl) ?_
      replace s := s.pushNil 5 1
      replace s := s.pick [0] 3 rfl
      exact fun X h => vc rfl (h I38149 none 0 0 [] ([] : List Int) none 0 0 _ s kk rfl (RepL.nil (r := (Rp.int .u8))) (Win.whole rfl (s.at (i := 0) rfl)))
    · have hf := iteF h38161 hf
      refine WPK.condF (Eq.trans (b := .bool (decide (¬ (x38143.2 = true)))) (by kernel_rfl) (bo_f h38161)) ?_
      refine WPK.skip ?_
      refine WPK.seq ?_
      refine WPK.seq ?_
      refine WPK.cut' (Kn fun E ds wz => ∀ X : Kont, (∀ (x38254 : Bool) (D38253 : List Value), g15_j1 p1 x38143 x38254 = some r → X [(D38253.getD 0 undef), .int .i64 p1, (D38253.getD 1 undef), (D38253.getD 2 undef), .pointer (some ⟨b38133, 0, none⟩), .int .i64 0, .slice A38150 n38151 c38152, (D38253.getD 3 undef), undef, undef, undef, (D38253.getD 4 undef), (D38253.getD 5 undef), (D38253.getD 6 undef), (D38253.getD 7 undef), (D38253.getD 8 undef), (D38253.getD 9 undef), (D38253.getD 10 undef), (D38253.getD 11 undef), (D38253.getD 12 undef), (D38253.getD 13 undef), (D38253.getD 14 undef), (D38253.getD 15 undef), (D38253.getD 16 undef), (D38253.getD 17 undef), (D38253.getD 18 undef), (D38253.getD 19 undef), (D38253.getD 20 undef), (D38253.getD 21 undef), (D38253.getD 22 undef), (D38253.getD 23 undef), (D38253.getD 24 undef), (D38253.getD 25 undef), (D38253.getD 26 undef), (D38253.getD 27 undef), (D38253.getD 28 undef), (D38253.getD 29 undef), (D38253.getD 30 undef), .bool x38254, undef, undef, undef, undef, undef, undef, undef, undef, undef, undef, undef, undef, undef, undef, undef, undef, undef, undef, undef, undef, undef, undef, undef, undef, undef, undef, undef, undef, undef, undef, undef, undef, undef, undef, undef, undef, undef, undef, undef, undef, undef, undef] [] w38145) → X E ds wz) ?_ ?_
      · intro X38490 hX38491
        refine fun _ _ _ hJ => hJ X38490 ?_
        intro x38254 D38253 hf
        refine hX38491 _ _ _ ?_
        unfold g15_j1 at hf
        by_cases h38255 : x38254 = true
        · have hf := iteT h38255 hf
          refine WPK.condT (Eq.trans (b := .bool x38254) (by kernel_rfl) (b_t h38255)) ?_
          refine WPK.seq ?_
          refine WPK.region ?_
          refine RW.seg hT 1 [] [] [.agg #[.int .i64 0, .int .i64 0, .int .u64 0, .slice none 0 0]] [] (by kernel_rfl) (trivial) ?_
          refine RW.op (by kernel_rfl) (OK.store hT (i := 1) (b := b38133) (off := 0) (n := 4) (vs := [.int .i64 0, .int .i64 0, .int .u64 0, .slice none 0 0]) (cs := [.int .i64 0, .int .i64 0, .int .u64 0, .slice none 0 0]) (e := 25) s (by kernel_rfl) rfl rfl (flat_ok rfl) (Nat.le_of_ble_eq_true rfl) ?_)
          rintro w38256 s k38257 -
          replace rp38155 := rp38155.st k38257
          replace kk := kk.trans k38257
          refine RW.seg hT 1 [] [] [.int .i64 42] [] (by kernel_rfl) (trivial) ?_
          refine RW.nil ?_
          refine WPK.ret (?_)
          obtain rfl := someS hf
          refine Fin.of (rs := [.cell 4 25, .tmp 5]) hT [.agg #[.int .i64 0, .int .i64 0, .int .u64 0, .slice none 0 0]] (.tuple #[.agg #[.int .i64 0, .int .i64 0, .int .u64 0, .slice none 0 0], .int .i64 42]) [.cells ⟨b38133, 0, none⟩ [.int .i64 0, .int .i64 0, .int .u64 0, .slice none 0 0] 4] rfl (by kernel_rfl) (s.cells (i := 1) rfl rfl rfl) ?_
          replace s := s.pushNil 5 1
          replace s := s.pick [0] 3 rfl
          exact fun X h => vc rfl (h I38149 none 0 0 [] ([] : List Int) none 0 0 _ s kk rfl (RepL.nil (r := (Rp.int .u8))) (Win.whole rfl (s.at (i := 0) rfl)))
        · have hf := iteF h38255 hf
          refine WPK.condF (Eq.trans (b := .bool x38254) (by kernel_rfl) (b_f h38255)) ?_
          refine WPK.skip ?_
          refine WPK.seq ?_
          have rp38155S38259 := rp38155
          have kS38263 : Kp I38149 w38145 I38149 w38145 := Kp.refl
          refine WPK.draw (fun w' => ∃ I' : Nat → Prop, St w0 M I' ((.sl (.slice A38150 n38151 c38152) 5 1 n38151 cl38153) :: (.blk b38133 (.cells #[.int .i64 0, .int .i64 0, .int .u64 0, .slice none 0 0] 25 (0, 0))) :: F) w' ∧ Kp I38149 w38145 I' w') 11 (by kernel_rfl) ?_
          intro w38260 hd38261
          have k38262 := Kp.dr s hd38261
          replace s := s.dr hd38261
          replace rp38155 := rp38155.st k38262
          replace kk := kk.trans k38262
          replace kS38263 := kS38263.trans k38262
          obtain ⟨x38264, hx38265, hf⟩ := bindS hf
          obtain ⟨h38266, hx38265⟩ := getS hx38265
          obtain ⟨b38267, rfl⟩ := (St.elem s (i := 0) rfl hn38154 rp38155 hx38265).1
          obtain ⟨x38272, hx38273, hf⟩ := bindS hf
          obtain ⟨h38274, hx38273⟩ := getS hx38273
          obtain ⟨x38280, hx38281, hf⟩ := bindS hf
          refine RD.seg hT (by kernel_rfl) [0, 1, 2, 3, 4, 5, 6, 7, 8, 9, 10] [.int .u8 x38264, undef, .int .u8 x38272, undef] [(49, .int .i64 x38280)] [.slice (some ⟨b38267, 0, none⟩) n38151 c38152, .pointer (some ⟨b38267, 0 + (2 : Int).toNat * 1, none⟩), .int .u8 x38264, .int .i64 (IntKind.i64.wrap x38264), .int .i64 (IntKind.i64.wrap ((IntKind.i64.wrap x38264) * 256)), .slice (some ⟨b38267, 0, none⟩) n38151 c38152, .pointer (some ⟨b38267, 0 + (3 : Int).toNat * 1, none⟩), .int .u8 x38272, .int .i64 (IntKind.i64.wrap x38272), .int .i64 x38280, .int .i64 x38280] [.idx 2 n38151, .cell ⟨b38267, 0 + (2 : Int).toNat * 1, none⟩ (.int .u8 x38264), .idx 3 n38151, .cell ⟨b38267, 0 + (3 : Int).toNat * 1, none⟩ (.int .u8 x38272), .veq (.int .i64 (IntKind.i64.wrap ((IntKind.i64.wrap ((IntKind.i64.wrap x38264) * 256)) + (IntKind.i64.wrap x38272)))) (.int .i64 x38280)] (by kernel_rfl) (by rintro w' ⟨I', s, k⟩; have rp38155 := rp38155S38259.st k; obtain ⟨-, cs38269, hr38270, ha38271⟩ := St.elem s (i := 0) rfl hn38154 rp38155 hx38265; replace ha38271 := ha38271 _ rfl; obtain rfl : cs38269 = [.int .u8 x38264] := hr38270; obtain ⟨-, cs38277, hr38278, ha38279⟩ := St.elem s (i := 0) rfl hn38154 rp38155 hx38273; replace ha38279 := ha38279 _ rfl; obtain rfl : cs38277 = [.int .u8 x38272] := hr38278; exact ⟨(by rw [hn38154]; exact h38266), ha38271 0 _ rfl, (by rw [hn38154]; exact h38274), ha38279 0 _ rfl, int_v (someS hx38281)⟩) ⟨_, s.pick [0, 1] 2 rfl, kS38263⟩ ?_
          refine RD.done (by kernel_rfl) ?_
          refine WPK.seq ?_
          refine WPK.seq ?_
          refine WPK.cut' (Kn fun E ds wz => ∀ X : Kont, (∀ (x38293 : Bool) (D38292 : List Value), g15_j2 x38143 x38280 x38293 = some r → X [(D38292.getD 0 undef), (D38292.getD 1 undef), (D38292.getD 2 undef), (D38292.getD 3 undef), .pointer (some ⟨b38133, 0, none⟩), .int .i64 0, .slice (some ⟨b38267, 0, none⟩) n38151 c38152, (D38292.getD 4 undef), .int .i64 x38280, undef, undef, (D38292.getD 5 undef), (D38292.getD 6 undef), (D38292.getD 7 undef), (D38292.getD 8 undef), (D38292.getD 9 undef), (D38292.getD 10 undef), (D38292.getD 11 undef), (D38292.getD 12 undef), (D38292.getD 13 undef), (D38292.getD 14 undef), (D38292.getD 15 undef), (D38292.getD 16 undef), (D38292.getD 17 undef), (D38292.getD 18 undef), (D38292.getD 19 undef), (D38292.getD 20 undef), (D38292.getD 21 undef), (D38292.getD 22 undef), (D38292.getD 23 undef), (D38292.getD 24 undef), (D38292.getD 25 undef), (D38292.getD 26 undef), (D38292.getD 27 undef), (D38292.getD 28 undef), (D38292.getD 29 undef), (D38292.getD 30 undef), (D38292.getD 31 undef), (D38292.getD 32 undef), (D38292.getD 33 undef), (D38292.getD 34 undef), (D38292.getD 35 undef), (D38292.getD 36 undef), (D38292.getD 37 undef), (D38292.getD 38 undef), (D38292.getD 39 undef), (D38292.getD 40 undef), (D38292.getD 41 undef), (D38292.getD 42 undef), (D38292.getD 43 undef), (D38292.getD 44 undef), (D38292.getD 45 undef), (D38292.getD 46 undef), (D38292.getD 47 undef), (D38292.getD 48 undef), (D38292.getD 49 undef), .bool x38293, undef, undef, undef, undef, undef, undef, undef, undef, undef, undef, undef, undef, undef, undef, undef, undef, undef, undef, undef, undef, undef, undef, undef, undef] [] w38260) → X E ds wz) ?_ ?_
          · intro X38487 hX38488
            refine fun _ _ _ hJ => hJ X38487 ?_
            intro x38293 D38292 hf
            refine hX38488 _ _ _ ?_
            unfold g15_j2 at hf
            by_cases h38294 : x38293 = true
            · have hf := iteT h38294 hf
              refine WPK.condT (Eq.trans (b := .bool x38293) (by kernel_rfl) (b_t h38294)) ?_
              refine WPK.seq ?_
              refine WPK.region ?_
              refine RW.seg hT 1 [] [] [.agg #[.int .i64 0, .int .i64 0, .int .u64 0, .slice none 0 0]] [] (by kernel_rfl) (trivial) ?_
              refine RW.op (by kernel_rfl) (OK.store hT (i := 1) (b := b38133) (off := 0) (n := 4) (vs := [.int .i64 0, .int .i64 0, .int .u64 0, .slice none 0 0]) (cs := [.int .i64 0, .int .i64 0, .int .u64 0, .slice none 0 0]) (e := 25) s (by kernel_rfl) rfl rfl (flat_ok rfl) (Nat.le_of_ble_eq_true rfl) ?_)
              rintro w38295 s k38296 -
              replace rp38155 := rp38155.st k38296
              replace kk := kk.trans k38296
              refine RW.seg hT 1 [] [] [.int .i64 41] [] (by kernel_rfl) (trivial) ?_
              refine RW.nil ?_
              refine WPK.ret (?_)
              obtain rfl := someS hf
              refine Fin.of (rs := [.cell 4 25, .tmp 5]) hT [.agg #[.int .i64 0, .int .i64 0, .int .u64 0, .slice none 0 0]] (.tuple #[.agg #[.int .i64 0, .int .i64 0, .int .u64 0, .slice none 0 0], .int .i64 41]) [.cells ⟨b38133, 0, none⟩ [.int .i64 0, .int .i64 0, .int .u64 0, .slice none 0 0] 4] rfl (by kernel_rfl) (s.cells (i := 1) rfl rfl rfl) ?_
              replace s := s.pushNil 5 1
              replace s := s.pick [0] 3 rfl
              exact fun X h => vc rfl (h I38149 none 0 0 [] ([] : List Int) none 0 0 _ s kk rfl (RepL.nil (r := (Rp.int .u8))) (Win.whole rfl (s.at (i := 0) rfl)))
            · have hf := iteF h38294 hf
              refine WPK.condF (Eq.trans (b := .bool x38293) (by kernel_rfl) (b_f h38294)) ?_
              refine WPK.skip ?_
              refine WPK.seq ?_
              have rp38155S38326 := rp38155
              have kS38330 : Kp I38149 w38260 I38149 w38260 := Kp.refl
              refine WPK.draw (fun w' => ∃ I' : Nat → Prop, St w0 M I' ((.sl (.slice (some ⟨b38267, 0, none⟩) n38151 c38152) 5 1 n38151 cl38153) :: (.blk b38133 (.cells #[.int .i64 0, .int .i64 0, .int .u64 0, .slice none 0 0] 25 (0, 0))) :: F) w' ∧ Kp I38149 w38260 I' w') 9 (by kernel_rfl) ?_
              intro w38327 hd38328
              have k38329 := Kp.dr s hd38328
              replace s := s.dr hd38328
              replace rp38155 := rp38155.st k38329
              replace kk := kk.trans k38329
              replace kS38330 := kS38330.trans k38329
              obtain ⟨x38331, hx38332, hf⟩ := bindS hf
              obtain ⟨h38333, hx38332⟩ := getS hx38332
              obtain ⟨h38348, hf⟩ := iteS hf
              replace h38348 : (0 : Int) ≤ 12 ∧ 12 ≤ (x38143.1.length : Int) ∧ (x38143.1.length : Int) ≤ ((n38151 : Nat) : Int) - 0 := by have hnn := hn38154; omega
              obtain ⟨o38339, n38340, c38341, q38342, q38343, q38344, q38345, q38346, pt38347⟩ := partS (b := b38267) (c := c38152) (Pt.whole (size := 1) (row_hc (s.at (i := 0) rfl)).1) (Nat.le_refl _) h38348
              rw [Int.zero_add, Int.zero_add] at pt38347
              replace q38343 : n38151 - (12 : Int).toNat = n38340 := by rw [← q38343]; have hnn := hn38154; omega
              refine RD.seg hT (by kernel_rfl) [0, 1, 2, 3, 4, 5, 6, 7] [.int .u8 x38331, undef] [(64, .slice (some ⟨b38267, o38339, none⟩) n38340 c38341)] [.slice (some ⟨b38267, 0, none⟩) n38151 c38152, .pointer (some ⟨b38267, 0 + (0 : Int).toNat * 1, none⟩), .int .u8 x38331, .int .i64 (IntKind.i64.wrap x38331), .int .i64 x38280, .slice (some ⟨b38267, 0, none⟩) n38151 c38152, .slice (some ⟨b38267, o38339, none⟩) n38340 c38341, .agg #[.int .i64 (IntKind.i64.wrap x38331), .int .i64 x38280, .int .u64 0, .slice (some ⟨b38267, o38339, none⟩) n38340 c38341]] [.idx 0 n38151, .cell ⟨b38267, 0 + (0 : Int).toNat * 1, none⟩ (.int .u8 x38331), .both (.cut 12 (n38151 : Nat) c38152 c38152) (.veq (.slice (cutA (some ⟨b38267, 0, none⟩) (12 : Int).toNat c38152 1) (n38151 - (12 : Int).toNat) (c38152 - (12 : Int).toNat)) (.slice (some ⟨b38267, o38339, none⟩) n38340 c38341))] (by kernel_rfl) (by rintro w' ⟨I', s, k⟩; have rp38155 := rp38155S38326.st k; obtain ⟨-, cs38336, hr38337, ha38338⟩ := St.elem s (i := 0) rfl hn38154 rp38155 hx38332; replace ha38338 := ha38338 _ rfl; obtain rfl : cs38336 = [.int .u8 x38331] := hr38337; exact ⟨(by rw [hn38154]; exact h38333), ha38338 0 _ rfl, ⟨⟨(q38346).1, by have h1 := (q38346).2.1; have h2 := (q38346).2.2.1; omega, by have := (q38346).2.2.2; omega, by omega⟩, sl_eq q38342 q38343 q38344⟩⟩) ⟨_, s.pick [0, 1] 2 rfl, kS38330⟩ ?_
              refine RD.op (i := 8) rfl (by kernel_rfl) (by kernel_rfl) (OK.new hT (f := fun b => .pointer (some ⟨b, 0, none⟩)) (cs := [.int .i64 0, .int .i64 0, .int .u64 0, .slice none 0 0]) (e := 25) (c := .tt) s (by kernel_rfl) trivial ?_)
              rintro w38349 b38350 s k38351 -
              replace rp38155 := rp38155.st k38351
              replace kk := kk.trans k38351
              replace kS38330 := kS38330.trans k38351
              refine ⟨fun _ => ⟨_, s.pick [1, 2] 3 rfl, kS38330⟩, RD.fold ?_⟩
              refine RD.op (i := 9) rfl (by kernel_rfl) (by kernel_rfl) (OK.store hT (i := 0) (b := b38350) (off := 0) (n := 4) (vs := [.int .i64 (IntKind.i64.wrap x38331), .int .i64 x38280, .int .u64 0, .slice (some ⟨b38267, o38339, none⟩) n38340 c38341]) (cs := [.int .i64 0, .int .i64 0, .int .u64 0, .slice none 0 0]) (e := 25) s (by kernel_rfl) rfl rfl (flat_ok rfl) (Nat.le_of_ble_eq_true rfl) ?_)
              rintro w38352 s k38353 -
              replace rp38155 := rp38155.st k38353
              replace kk := kk.trans k38353
              replace kS38330 := kS38330.trans k38353
              refine ⟨fun h => absurd h (by decide), RD.fold ?_⟩
              refine RD.done (by kernel_rfl) ?_
              refine WPK.seq ?_
              refine WPK.seq ?_
              refine WPK.region ?_
              refine RW.seg hT 1 [] [] [.int .i64 4] [] (by kernel_rfl) (trivial) ?_
              refine RW.nil ?_
              refine WPK.block ?_
              refine WPK.loop' (J := fun n38459 E ds wz => ∀ X : Kont, (∀ (I38438 : Nat → Prop) (x38435 : Int) (x38436 : Int) (D38434 : List Value) (w' : World), g15_l3 x38143 x38280 x38331 n38459 x38435 x38436 = some r → St w0 M I38438 ((.blk b38350 (.cells #[.int .i64 (IntKind.i64.wrap x38331), .int .i64 x38280, .int .u64 x38436, .slice (some ⟨b38267, o38339, none⟩) n38340 c38341] 25 (0, 0))) :: (.sl (.slice (some ⟨b38267, 0, none⟩) n38151 c38152) 5 1 n38151 cl38153) :: (.blk b38133 (.cells #[.int .i64 0, .int .i64 0, .int .u64 0, .slice none 0 0] 25 (0, 0))) :: F) w' → Kp I w I38438 w' → RepL (Rp.int .u8) I38438 w' cl38153 x38143.1 → X [(D38434.getD 0 undef), (D38434.getD 1 undef), (D38434.getD 2 undef), (D38434.getD 3 undef), .pointer (some ⟨b38133, 0, none⟩), .int .i64 0, .slice (some ⟨b38267, 0, none⟩) n38151 c38152, (D38434.getD 4 undef), (D38434.getD 5 undef), .pointer (some ⟨b38350, 0, none⟩), .int .i64 x38435, (D38434.getD 6 undef), (D38434.getD 7 undef), (D38434.getD 8 undef), (D38434.getD 9 undef), (D38434.getD 10 undef), (D38434.getD 11 undef), (D38434.getD 12 undef), (D38434.getD 13 undef), (D38434.getD 14 undef), (D38434.getD 15 undef), (D38434.getD 16 undef), (D38434.getD 17 undef), (D38434.getD 18 undef), (D38434.getD 19 undef), (D38434.getD 20 undef), (D38434.getD 21 undef), (D38434.getD 22 undef), (D38434.getD 23 undef), (D38434.getD 24 undef), (D38434.getD 25 undef), (D38434.getD 26 undef), (D38434.getD 27 undef), (D38434.getD 28 undef), (D38434.getD 29 undef), (D38434.getD 30 undef), (D38434.getD 31 undef), (D38434.getD 32 undef), (D38434.getD 33 undef), (D38434.getD 34 undef), (D38434.getD 35 undef), (D38434.getD 36 undef), (D38434.getD 37 undef), (D38434.getD 38 undef), (D38434.getD 39 undef), (D38434.getD 40 undef), (D38434.getD 41 undef), (D38434.getD 42 undef), (D38434.getD 43 undef), (D38434.getD 44 undef), (D38434.getD 45 undef), (D38434.getD 46 undef), (D38434.getD 47 undef), (D38434.getD 48 undef), (D38434.getD 49 undef), (D38434.getD 50 undef), (D38434.getD 51 undef), (D38434.getD 52 undef), (D38434.getD 53 undef), (D38434.getD 54 undef), (D38434.getD 55 undef), (D38434.getD 56 undef), (D38434.getD 57 undef), (D38434.getD 58 undef), (D38434.getD 59 undef), (D38434.getD 60 undef), (D38434.getD 61 undef), (D38434.getD 62 undef), (D38434.getD 63 undef), (D38434.getD 64 undef), (D38434.getD 65 undef), (D38434.getD 66 undef), (D38434.getD 67 undef), (D38434.getD 68 undef), (D38434.getD 69 undef), (D38434.getD 70 undef), (D38434.getD 71 undef), (D38434.getD 72 undef), (D38434.getD 73 undef), (D38434.getD 74 undef), undef] [] w') → X E ds wz) FUEL (fun X h => kc (by kernel_rfl) rfl (h I38149 4 0 [(D38292.getD 0 undef), (D38292.getD 1 undef), (D38292.getD 2 undef), (D38292.getD 3 undef), (D38292.getD 4 undef), .int .i64 x38280, (D38292.getD 5 undef), (D38292.getD 6 undef), (D38292.getD 7 undef), (D38292.getD 8 undef), (D38292.getD 9 undef), (D38292.getD 10 undef), (D38292.getD 11 undef), (D38292.getD 12 undef), (D38292.getD 13 undef), (D38292.getD 14 undef), (D38292.getD 15 undef), (D38292.getD 16 undef), (D38292.getD 17 undef), (D38292.getD 18 undef), (D38292.getD 19 undef), (D38292.getD 20 undef), (D38292.getD 21 undef), (D38292.getD 22 undef), (D38292.getD 23 undef), (D38292.getD 24 undef), (D38292.getD 25 undef), (D38292.getD 26 undef), (D38292.getD 27 undef), (D38292.getD 28 undef), (D38292.getD 29 undef), (D38292.getD 30 undef), (D38292.getD 31 undef), (D38292.getD 32 undef), (D38292.getD 33 undef), (D38292.getD 34 undef), (D38292.getD 35 undef), (D38292.getD 36 undef), (D38292.getD 37 undef), (D38292.getD 38 undef), (D38292.getD 39 undef), (D38292.getD 40 undef), (D38292.getD 41 undef), (D38292.getD 42 undef), (D38292.getD 43 undef), (D38292.getD 44 undef), (D38292.getD 45 undef), (D38292.getD 46 undef), (D38292.getD 47 undef), (D38292.getD 48 undef), (D38292.getD 49 undef), .bool x38293, undef, .slice (some ⟨b38267, 0, none⟩) n38151 c38152, .pointer (some ⟨b38267, 0 + (0 : Int).toNat * 1, none⟩), .int .u8 x38331, .int .i64 (IntKind.i64.wrap x38331), .int .i64 x38280, .slice (some ⟨b38267, 0, none⟩) n38151 c38152, .slice (some ⟨b38267, o38339, none⟩) n38340 c38341, .agg #[.int .i64 (IntKind.i64.wrap x38331), .int .i64 x38280, .int .u64 0, .slice (some ⟨b38267, o38339, none⟩) n38340 c38341], undef, undef, undef, undef, undef, undef, undef, undef, undef, undef, undef, undef, undef, undef] _ hf s kk rp38155)) (fun _ _ _ hJ => hJ (fun _ _ _ => False) (by intro I38438 x38435 x38436 D38434 w38437 hf s kk rp38155; exact noneS hf)) ?_
              intro X38485 hX38486
              refine fun n38459 _ _ _ hJ => hJ (X38485 n38459) ?_
              intro I38438 x38435 x38436 D38434 w38437 hf s kk rp38155
              refine hX38486 _ _ _ _ ?_
              replace hf : g15_l3B x38143 x38280 x38331 (g15_l3 x38143 x38280 x38331 n38459) x38435 x38436 = some r := hf
              generalize hrec38460 : g15_l3 x38143 x38280 x38331 n38459 = rec38458 at hf
              unfold g15_l3B at hf
              refine WPK.seq ?_
              refine WPK.seq ?_
              refine WPK.region ?_
              refine RW.seg hT 2 [] [] [.int .i64 x38435, .bool (decide (x38435 < 12))] [] (by kernel_rfl) (trivial) ?_
              refine RW.nil ?_
              by_cases h38462 : x38435 < 12
              · have hf := iteT h38462 hf
                refine WPK.condT (Eq.trans (b := .bool (decide (x38435 < 12))) (by kernel_rfl) (bo_t h38462)) ?_
                refine WPK.skip ?_
                refine WPK.seq ?_
                refine WPK.block ?_
                have rp38155S38463 := rp38155
                have kS38467 : Kp I38438 w38437 I38438 w38437 := Kp.refl
                refine WPK.draw (fun w' => ∃ I' : Nat → Prop, St w0 M I' ((.blk b38350 (.cells #[.int .i64 (IntKind.i64.wrap x38331), .int .i64 x38280, .int .u64 x38436, .slice (some ⟨b38267, o38339, none⟩) n38340 c38341] 25 (0, 0))) :: (.sl (.slice (some ⟨b38267, 0, none⟩) n38151 c38152) 5 1 n38151 cl38153) :: (.blk b38133 (.cells #[.int .i64 0, .int .i64 0, .int .u64 0, .slice none 0 0] 25 (0, 0))) :: F) w' ∧ Kp I38438 w38437 I' w') 10 (by kernel_rfl) ?_
                intro w38464 hd38465
                have k38466 := Kp.dr s hd38465
                replace s := s.dr hd38465
                replace rp38155 := rp38155.st k38466
                replace kk := kk.trans k38466
                replace kS38467 := kS38467.trans k38466
                obtain ⟨x38468, hx38469, hf⟩ := bindS hf
                obtain ⟨h38470, hx38469⟩ := getS hx38469
                obtain ⟨x38476, hx38477, hf⟩ := bindS hf
                refine RD.seg hT (by kernel_rfl) [0, 1, 2, 3, 4, 5, 6, 7, 8, 9] [.int .u64 x38436, .int .u8 x38468, undef] [(78, .int .u64 x38476)] [.pointer (some ⟨b38350, 2, none⟩), .int .u64 x38436, .int .u64 (IntKind.u64.wrap (x38436 * 256)), .slice (some ⟨b38267, 0, none⟩) n38151 c38152, .int .i64 x38435, .pointer (some ⟨b38267, 0 + x38435.toNat * 1, none⟩), .int .u8 x38468, .int .u64 (IntKind.u64.wrap x38468), .int .u64 x38476, .pointer (some ⟨b38350, 2, none⟩)] [.cell ⟨b38350, 2, none⟩ (.int .u64 x38436), .idx x38435 n38151, .cell ⟨b38267, 0 + x38435.toNat * 1, none⟩ (.int .u8 x38468), .veq (.int .u64 (IntKind.u64.wrap ((IntKind.u64.wrap (x38436 * 256)) + (IntKind.u64.wrap x38468)))) (.int .u64 x38476)] (by kernel_rfl) (by rintro w' ⟨I', s, k⟩; have rp38155 := rp38155S38463.st k; obtain ⟨-, cs38473, hr38474, ha38475⟩ := St.elem s (i := 1) rfl hn38154 rp38155 hx38469; replace ha38475 := ha38475 _ rfl; obtain rfl : cs38473 = [.int .u8 x38468] := hr38474; exact ⟨s.cell (i := 0) (off := 2) rfl rfl, (by rw [hn38154]; exact h38470), ha38475 0 _ rfl, int_v (someS hx38477)⟩) ⟨_, s.pick [0, 1, 2] 3 rfl, kS38467⟩ ?_
                refine RD.op (i := 10) rfl (by kernel_rfl) (by kernel_rfl) (OK.store hT (i := 0) (b := b38350) (off := 2) (n := 1) (vs := [.int .u64 x38476]) (cs := [.int .i64 (IntKind.i64.wrap x38331), .int .i64 x38280, .int .u64 x38436, .slice (some ⟨b38267, o38339, none⟩) n38340 c38341]) (e := 25) s (by kernel_rfl) rfl rfl (flat_ok rfl) (Nat.le_of_ble_eq_true rfl) ?_)
                rintro w38478 s k38479 -
                replace rp38155 := rp38155.st k38479
                replace kk := kk.trans k38479
                replace kS38467 := kS38467.trans k38479
                refine ⟨fun h => absurd h (by decide), RD.fold ?_⟩
                refine RD.done (by kernel_rfl) ?_
                refine WPK.region ?_
                refine RW.seg hT 3 [] [] [.int .i64 x38435, .int .i64 (IntKind.i64.wrap (x38435 + 1)), .int .i64 (IntKind.i64.wrap (x38435 + 1))] [] (by kernel_rfl) (trivial) ?_
                refine RW.nil ?_
                subst hrec38460
                exact ⟨n38459, Nat.le_refl _, fun X h => kc (by kernel_rfl) rfl (h I38438 (IntKind.i64.wrap (x38435 + 1)) x38476 [(D38434.getD 0 undef), (D38434.getD 1 undef), (D38434.getD 2 undef), (D38434.getD 3 undef), (D38434.getD 4 undef), (D38434.getD 5 undef), (D38434.getD 6 undef), (D38434.getD 7 undef), (D38434.getD 8 undef), (D38434.getD 9 undef), (D38434.getD 10 undef), (D38434.getD 11 undef), (D38434.getD 12 undef), (D38434.getD 13 undef), (D38434.getD 14 undef), (D38434.getD 15 undef), (D38434.getD 16 undef), (D38434.getD 17 undef), (D38434.getD 18 undef), (D38434.getD 19 undef), (D38434.getD 20 undef), (D38434.getD 21 undef), (D38434.getD 22 undef), (D38434.getD 23 undef), (D38434.getD 24 undef), (D38434.getD 25 undef), (D38434.getD 26 undef), (D38434.getD 27 undef), (D38434.getD 28 undef), (D38434.getD 29 undef), (D38434.getD 30 undef), (D38434.getD 31 undef), (D38434.getD 32 undef), (D38434.getD 33 undef), (D38434.getD 34 undef), (D38434.getD 35 undef), (D38434.getD 36 undef), (D38434.getD 37 undef), (D38434.getD 38 undef), (D38434.getD 39 undef), (D38434.getD 40 undef), (D38434.getD 41 undef), (D38434.getD 42 undef), (D38434.getD 43 undef), (D38434.getD 44 undef), (D38434.getD 45 undef), (D38434.getD 46 undef), (D38434.getD 47 undef), (D38434.getD 48 undef), (D38434.getD 49 undef), (D38434.getD 50 undef), (D38434.getD 51 undef), (D38434.getD 52 undef), (D38434.getD 53 undef), (D38434.getD 54 undef), (D38434.getD 55 undef), (D38434.getD 56 undef), (D38434.getD 57 undef), (D38434.getD 58 undef), (D38434.getD 59 undef), (D38434.getD 60 undef), .int .i64 x38435, .bool (decide (x38435 < 12)), .int .i64 x38435, .int .i64 (IntKind.i64.wrap (x38435 + 1)), .pointer (some ⟨b38350, 2, none⟩), .int .u64 x38436, .int .u64 (IntKind.u64.wrap (x38436 * 256)), .slice (some ⟨b38267, 0, none⟩) n38151 c38152, .int .i64 x38435, .pointer (some ⟨b38267, 0 + x38435.toNat * 1, none⟩), .int .u8 x38468, .int .u64 (IntKind.u64.wrap x38468), .int .u64 x38476, .pointer (some ⟨b38350, 2, none⟩)] _ hf s kk rp38155)⟩
              · have hf := iteF h38462 hf
                refine WPK.condF (Eq.trans (b := .bool (decide (x38435 < 12))) (by kernel_rfl) (bo_f h38462)) ?_
                refine WPK.exit (blockQ.same ?_)
                refine WPK.seq ?_
                refine WPK.region ?_
                refine RW.seg hT 1 [.agg #[.int .i64 (IntKind.i64.wrap x38331), .int .i64 x38280, .int .u64 x38436, .slice (some ⟨b38267, o38339, none⟩) n38340 c38341]] [] [.agg #[.int .i64 (IntKind.i64.wrap x38331), .int .i64 x38280, .int .u64 x38436, .slice (some ⟨b38267, o38339, none⟩) n38340 c38341]] [.cells ⟨b38350, 0, none⟩ [.int .i64 (IntKind.i64.wrap x38331), .int .i64 x38280, .int .u64 x38436, .slice (some ⟨b38267, o38339, none⟩) n38340 c38341] 4] (by kernel_rfl) (s.cells (i := 0) rfl rfl rfl) ?_
                refine RW.op (by kernel_rfl) (OK.store hT (i := 2) (b := b38133) (off := 0) (n := 4) (vs := [.int .i64 (IntKind.i64.wrap x38331), .int .i64 x38280, .int .u64 x38436, .slice (some ⟨b38267, o38339, none⟩) n38340 c38341]) (cs := [.int .i64 0, .int .i64 0, .int .u64 0, .slice none 0 0]) (e := 25) s (by kernel_rfl) rfl rfl (flat_ok rfl) (Nat.le_of_ble_eq_true rfl) ?_)
                rintro w38480 s k38481 -
                replace rp38155 := rp38155.st k38481
                replace kk := kk.trans k38481
                refine RW.seg hT 1 [] [] [.int .i64 0] [] (by kernel_rfl) (trivial) ?_
                refine RW.nil ?_
                refine WPK.ret (?_)
                refine Fin.of (rs := [.cell 4 25, .tmp 5]) hT [.agg #[.int .i64 (IntKind.i64.wrap x38331), .int .i64 x38280, .int .u64 x38436, .slice (some ⟨b38267, o38339, none⟩) n38340 c38341]] (.tuple #[.agg #[.int .i64 (IntKind.i64.wrap x38331), .int .i64 x38280, .int .u64 x38436, .slice (some ⟨b38267, o38339, none⟩) n38340 c38341], .int .i64 0]) [.cells ⟨b38133, 0, none⟩ [.int .i64 (IntKind.i64.wrap x38331), .int .i64 x38280, .int .u64 x38436, .slice (some ⟨b38267, o38339, none⟩) n38340 c38341] 4] rfl (by kernel_rfl) (s.cells (i := 2) rfl rfl rfl) ?_
                obtain ⟨y38482, hy38483, hf⟩ := bindS hf
                have hw38484 := Win.part (r := (Rp.int .u8)) (b := b38267) (c := c38152) rfl (by have h1 := row_hc (s.at (i := 1) rfl); have h2 := hn38154; omega) pt38347 q38345 hy38483
                obtain rfl := someS hf
                replace s := s.pick [1] 3 rfl
                exact fun X h => vc rfl (h I38438 (some ⟨b38267, 0, none⟩) n38151 c38152 cl38153 x38143.1 (some ⟨b38267, o38339, none⟩) n38340 c38341 _ s kk hn38154 rp38155 hw38484)
          · refine WPK.region ?_
            refine RW.seg hT 3 [] [(52, .bool (decide (x38280 ≠ p1)))] [.int .i64 x38280, .int .i64 p1, .bool (decide (x38280 ≠ p1))] [.veq (.bool (x38280 != p1)) (.bool (decide (x38280 ≠ p1)))] (by kernel_rfl) (ne_v) ?_
            by_cases h38489 : x38280 ≠ p1
            · have hf := iteT h38489 hf
              refine RW.seg hT 4 [] [(53, .bool true)] [.bool true, undef, undef, .bool true] [.veq (.bool (decide (x38280 ≠ p1))) (.bool true)] (by kernel_rfl) (bo_t h38489) ?_
              refine RW.nil ?_
              exact fun X h => kc (by kernel_rfl) rfl (h true [(D38253.getD 0 undef), .int .i64 p1, (D38253.getD 1 undef), (D38253.getD 2 undef), (D38253.getD 3 undef), (D38253.getD 4 undef), (D38253.getD 5 undef), (D38253.getD 6 undef), (D38253.getD 7 undef), (D38253.getD 8 undef), (D38253.getD 9 undef), (D38253.getD 10 undef), (D38253.getD 11 undef), (D38253.getD 12 undef), (D38253.getD 13 undef), (D38253.getD 14 undef), (D38253.getD 15 undef), (D38253.getD 16 undef), (D38253.getD 17 undef), (D38253.getD 18 undef), (D38253.getD 19 undef), (D38253.getD 20 undef), (D38253.getD 21 undef), (D38253.getD 22 undef), (D38253.getD 23 undef), (D38253.getD 24 undef), (D38253.getD 25 undef), (D38253.getD 26 undef), (D38253.getD 27 undef), (D38253.getD 28 undef), (D38253.getD 29 undef), (D38253.getD 30 undef), .bool x38254, undef, .slice (some ⟨b38267, 0, none⟩) n38151 c38152, .pointer (some ⟨b38267, 0 + (2 : Int).toNat * 1, none⟩), .int .u8 x38264, .int .i64 (IntKind.i64.wrap x38264), .int .i64 (IntKind.i64.wrap ((IntKind.i64.wrap x38264) * 256)), .slice (some ⟨b38267, 0, none⟩) n38151 c38152, .pointer (some ⟨b38267, 0 + (3 : Int).toNat * 1, none⟩), .int .u8 x38272, .int .i64 (IntKind.i64.wrap x38272), .int .i64 x38280, .int .i64 x38280, .int .i64 p1, .bool (decide (x38280 ≠ p1)), .bool true, undef, undef] hf)
            · have hf := iteF h38489 hf
              refine RW.seg hT 4 [] [(53, .bool false)] [.bool false, .int .i64 x38280, .bool (decide (x38280 ≥ 2048)), .bool (decide (x38280 ≥ 2048))] [.veq (.bool (decide (x38280 ≠ p1))) (.bool false)] (by kernel_rfl) (bo_f h38489) ?_
              refine RW.nil ?_
              exact fun X h => kc (by kernel_rfl) rfl (h (decide (x38280 ≥ 2048)) [(D38253.getD 0 undef), .int .i64 p1, (D38253.getD 1 undef), (D38253.getD 2 undef), (D38253.getD 3 undef), (D38253.getD 4 undef), (D38253.getD 5 undef), (D38253.getD 6 undef), (D38253.getD 7 undef), (D38253.getD 8 undef), (D38253.getD 9 undef), (D38253.getD 10 undef), (D38253.getD 11 undef), (D38253.getD 12 undef), (D38253.getD 13 undef), (D38253.getD 14 undef), (D38253.getD 15 undef), (D38253.getD 16 undef), (D38253.getD 17 undef), (D38253.getD 18 undef), (D38253.getD 19 undef), (D38253.getD 20 undef), (D38253.getD 21 undef), (D38253.getD 22 undef), (D38253.getD 23 undef), (D38253.getD 24 undef), (D38253.getD 25 undef), (D38253.getD 26 undef), (D38253.getD 27 undef), (D38253.getD 28 undef), (D38253.getD 29 undef), (D38253.getD 30 undef), .bool x38254, undef, .slice (some ⟨b38267, 0, none⟩) n38151 c38152, .pointer (some ⟨b38267, 0 + (2 : Int).toNat * 1, none⟩), .int .u8 x38264, .int .i64 (IntKind.i64.wrap x38264), .int .i64 (IntKind.i64.wrap ((IntKind.i64.wrap x38264) * 256)), .slice (some ⟨b38267, 0, none⟩) n38151 c38152, .pointer (some ⟨b38267, 0 + (3 : Int).toNat * 1, none⟩), .int .u8 x38272, .int .i64 (IntKind.i64.wrap x38272), .int .i64 x38280, .int .i64 x38280, .int .i64 p1, .bool (decide (x38280 ≠ p1)), .bool false, .int .i64 x38280, .bool (decide (x38280 ≥ 2048))] hf)
      · refine WPK.region ?_
        obtain ⟨x38492, hx38493, hf⟩ := bindS hf
        obtain ⟨h38494, hx38493⟩ := getS hx38493
        obtain ⟨b38495, rfl⟩ := (St.elem s (i := 0) rfl hn38154 rp38155 hx38493).1
        obtain ⟨-, cs38497, hr38498, ha38499⟩ := St.elem s (i := 0) rfl hn38154 rp38155 hx38493
        replace ha38499 := ha38499 _ rfl
        obtain rfl : cs38497 = [.int .u8 x38492] := hr38498
        refine RW.seg hT 4 [.int .u8 x38492] [] [.slice (some ⟨b38495, 0, none⟩) n38151 c38152, .pointer (some ⟨b38495, 0 + (0 : Int).toNat * 1, none⟩), .int .u8 x38492, .bool (decide (x38492 < 1))] [.idx 0 n38151, .cell ⟨b38495, 0 + (0 : Int).toNat * 1, none⟩ (.int .u8 x38492)] (by kernel_rfl) (⟨(by rw [hn38154]; exact h38494), ha38499 0 _ rfl⟩) ?_
        by_cases h38500 : x38492 < 1
        · have hf := iteT h38500 hf
          refine RW.seg hT 12 [] [(27, .bool true)] [.bool true, undef, undef, undef, undef, .bool true, .bool true, undef, undef, undef, undef, .bool true] [.veq (.bool (decide (x38492 < 1))) (.bool true)] (by kernel_rfl) (bo_t h38500) ?_
          refine RW.nil ?_
          exact fun X h => kc (by kernel_rfl) rfl (h true [.slice A38128 p0.length c38129, undef, undef, .bool x38143.2, .slice A38128 p0.length c38129, .int .i64 (p0.length : Int), .bool (decide ((p0.length : Int) ≠ 256)), undef, .tuple #[.slice (some ⟨b38495, 0, none⟩) n38151 c38152, .bool x38143.2], .slice A38128 p0.length c38129, .tuple #[.slice (some ⟨b38495, 0, none⟩) n38151 c38152, .bool x38143.2], .slice (some ⟨b38495, 0, none⟩) n38151 c38152, .bool x38143.2, .bool x38143.2, .bool (decide (¬ (x38143.2 = true))), undef, .slice (some ⟨b38495, 0, none⟩) n38151 c38152, .pointer (some ⟨b38495, 0 + (0 : Int).toNat * 1, none⟩), .int .u8 x38492, .bool (decide (x38492 < 1)), .bool true, undef, undef, undef, undef, .bool true, .bool true, undef, undef, undef, undef] hf)
        · have hf := iteF h38500 hf
          obtain ⟨x38501, hx38502, hf⟩ := bindS hf
          obtain ⟨h38503, hx38502⟩ := getS hx38502
          obtain ⟨-, cs38506, hr38507, ha38508⟩ := St.elem s (i := 0) rfl hn38154 rp38155 hx38502
          replace ha38508 := ha38508 _ rfl
          obtain rfl : cs38506 = [.int .u8 x38501] := hr38507
          refine RW.seg hT 6 [.int .u8 x38501] [(27, .bool false)] [.bool false, .slice (some ⟨b38495, 0, none⟩) n38151 c38152, .pointer (some ⟨b38495, 0 + (0 : Int).toNat * 1, none⟩), .int .u8 x38501, .bool (decide (x38501 > 4)), .bool (decide (x38501 > 4))] [.veq (.bool (decide (x38492 < 1))) (.bool false), .idx 0 n38151, .cell ⟨b38495, 0 + (0 : Int).toNat * 1, none⟩ (.int .u8 x38501)] (by kernel_rfl) (⟨bo_f h38500, (by rw [hn38154]; exact h38503), ha38508 0 _ rfl⟩) ?_
          by_cases h38509 : x38501 > 4
          · have hf := iteT h38509 hf
            refine RW.seg hT 6 [] [(33, .bool true)] [.bool true, undef, undef, undef, undef, .bool true] [.veq (.bool (decide (x38501 > 4))) (.bool true)] (by kernel_rfl) (bo_t h38509) ?_
            refine RW.nil ?_
            exact fun X h => kc (by kernel_rfl) rfl (h true [.slice A38128 p0.length c38129, undef, undef, .bool x38143.2, .slice A38128 p0.length c38129, .int .i64 (p0.length : Int), .bool (decide ((p0.length : Int) ≠ 256)), undef, .tuple #[.slice (some ⟨b38495, 0, none⟩) n38151 c38152, .bool x38143.2], .slice A38128 p0.length c38129, .tuple #[.slice (some ⟨b38495, 0, none⟩) n38151 c38152, .bool x38143.2], .slice (some ⟨b38495, 0, none⟩) n38151 c38152, .bool x38143.2, .bool x38143.2, .bool (decide (¬ (x38143.2 = true))), undef, .slice (some ⟨b38495, 0, none⟩) n38151 c38152, .pointer (some ⟨b38495, 0 + (0 : Int).toNat * 1, none⟩), .int .u8 x38492, .bool (decide (x38492 < 1)), .bool false, .slice (some ⟨b38495, 0, none⟩) n38151 c38152, .pointer (some ⟨b38495, 0 + (0 : Int).toNat * 1, none⟩), .int .u8 x38501, .bool (decide (x38501 > 4)), .bool (decide (x38501 > 4)), .bool true, undef, undef, undef, undef] hf)
          · have hf := iteF h38509 hf
            obtain ⟨x38510, hx38511, hf⟩ := bindS hf
            obtain ⟨h38512, hx38511⟩ := getS hx38511
            obtain ⟨-, cs38515, hr38516, ha38517⟩ := St.elem s (i := 0) rfl hn38154 rp38155 hx38511
            replace ha38517 := ha38517 _ rfl
            obtain rfl : cs38515 = [.int .u8 x38510] := hr38516
            refine RW.seg hT 6 [.int .u8 x38510] [(33, .bool false), (37, .bool (decide (x38510 ≠ 0)))] [.bool false, .slice (some ⟨b38495, 0, none⟩) n38151 c38152, .pointer (some ⟨b38495, 0 + (1 : Int).toNat * 1, none⟩), .int .u8 x38510, .bool (decide (x38510 ≠ 0)), .bool (decide (x38510 ≠ 0))] [.veq (.bool (decide (x38501 > 4))) (.bool false), .idx 1 n38151, .cell ⟨b38495, 0 + (1 : Int).toNat * 1, none⟩ (.int .u8 x38510), .veq (.bool (x38510 != 0)) (.bool (decide (x38510 ≠ 0)))] (by kernel_rfl) (⟨bo_f h38509, (by rw [hn38154]; exact h38512), ha38517 0 _ rfl, ne_v⟩) ?_
            refine RW.nil ?_
            exact fun X h => kc (by kernel_rfl) rfl (h (decide (x38510 ≠ 0)) [.slice A38128 p0.length c38129, undef, undef, .bool x38143.2, .slice A38128 p0.length c38129, .int .i64 (p0.length : Int), .bool (decide ((p0.length : Int) ≠ 256)), undef, .tuple #[.slice (some ⟨b38495, 0, none⟩) n38151 c38152, .bool x38143.2], .slice A38128 p0.length c38129, .tuple #[.slice (some ⟨b38495, 0, none⟩) n38151 c38152, .bool x38143.2], .slice (some ⟨b38495, 0, none⟩) n38151 c38152, .bool x38143.2, .bool x38143.2, .bool (decide (¬ (x38143.2 = true))), undef, .slice (some ⟨b38495, 0, none⟩) n38151 c38152, .pointer (some ⟨b38495, 0 + (0 : Int).toNat * 1, none⟩), .int .u8 x38492, .bool (decide (x38492 < 1)), .bool false, .slice (some ⟨b38495, 0, none⟩) n38151 c38152, .pointer (some ⟨b38495, 0 + (0 : Int).toNat * 1, none⟩), .int .u8 x38501, .bool (decide (x38501 > 4)), .bool (decide (x38501 > 4)), .bool false, .slice (some ⟨b38495, 0, none⟩) n38151 c38152, .pointer (some ⟨b38495, 0 + (1 : Int).toNat * 1, none⟩), .int .u8 x38510, .bool (decide (x38510 ≠ 0))] hf)
theorem c16 {w0 w : World} {M I : Nat → Prop} {F : List It} (p0 : (List Int)) (p1 : Int) (p2 : (List Int)) (A38847 : Option Addr) (c38848 : Nat) (A38851 : Option Addr) (c38852 : Nat) (hc38849 : (p0.length ≤ c38848 ∧ c38848 ≤ 9223372036854775807)) (e38850 : Elems (Rp.int .u8) I w A38847 p0) (hc38853 : (p2.length ≤ c38852 ∧ c38852 ≤ 9223372036854775807)) (e38854 : Elems (Rp.int .i64) I w A38851 p2) (s : St w0 M I (F) w) {r : (T_api_Frame × Int)} (hf : g16 p0 p1 p2 = some r) :
    Ret Tryd.prog 16 [.slice A38847 p0.length c38848, .int .i64 p1, .slice A38851 p2.length c38852] w fun v wz => ∀ X : Value → World → Prop, (∀ (I' : Nat → Prop) (A39133 : Option Addr) (c39134 : Nat) (w' : World), St w0 M I' (F) w' → Kp I w I' w' → (r.1.Data.length ≤ c39134 ∧ c39134 ≤ 9223372036854775807) → Elems (Rp.int .u8) I' w' A39133 r.1.Data → X (.tuple #[.agg #[.int .i64 r.1.Kind, .int .i64 r.1.Page, .int .u64 r.1.Epoch, .slice A39133 r.1.Data.length c39134], .int .i64 r.2]) w') → X v wz := by
  have kk : Kp I w I w := Kp.refl
  unfold g16 at hf
  refine Ret.of Tryd.func16 rfl ?_
  refine WPK.seq ?_
  refine WPK.region ?_
  refine RW.op (by kernel_rfl) (OK.new hT (f := fun b => .pointer (some ⟨b, 0, none⟩)) (cs := [.int .i64 0, .int .i64 0, .int .u64 0, .slice none 0 0]) (e := 25) (c := .tt) s (by kernel_rfl) trivial ?_)
  rintro w38855 b38856 s k38857 -
  replace e38850 := e38850.st k38857
  replace e38854 := e38854.st k38857
  replace kk := kk.trans k38857
  refine RW.seg hT 1 [] [] [.int .i64 0] [] (by kernel_rfl) (trivial) ?_
  refine RW.nil ?_
  refine WPK.seq ?_
  refine WPK.region ?_
  refine RW.seg hT 2 [] [] [.slice A38847 p0.length c38848, .int .i64 p1] [] (by kernel_rfl) (trivial) ?_
  obtain ⟨x38858, hx38859, hf⟩ := bindS hf
  refine RW.op (by kernel_rfl) (OK.call' en15 (by kernel_rfl) (c15 (F := (.blk b38856 (.cells #[.int .i64 0, .int .i64 0, .int .u64 0, .slice none 0 0] 25 (0, 0))) :: F) p0 p1 A38847 c38848 hc38849 e38850 s hx38859) ?_)
  intro X38862 hX38863
  refine fun _ _ hJ => hJ X38862 ?_
  intro I38864 B38865 m38866 d38867 cl38868 ys38869 A38872 n38873 c38874 w38860 s k38861 hn38870 rp38871 hw38875
  refine hX38863 _ _ ?_
  replace e38850 := e38850.st k38861
  replace e38854 := e38854.st k38861
  replace kk := kk.trans k38861
  rw [hn38870] at s
  try rw [hn38870]
  obtain ⟨I38877, s', k38878, hc38879, e38880⟩ := St.give s (i := 0) rfl rfl rp38871
  replace s := s'; clear s'
  replace e38850 := e38850.st k38878
  replace e38854 := e38854.st k38878
  replace kk := kk.trans k38878
  obtain ⟨hm38881, hc38882, e38883⟩ := Win.real hw38875 e38880
  subst hm38881
  refine RW.seg hT 3 [] [] [.tuple #[.agg #[.int .i64 x38858.1.Kind, .int .i64 x38858.1.Page, .int .u64 x38858.1.Epoch, .slice A38872 x38858.1.Data.length c38874], .int .i64 x38858.2], .agg #[.int .i64 x38858.1.Kind, .int .i64 x38858.1.Page, .int .u64 x38858.1.Epoch, .slice A38872 x38858.1.Data.length c38874], .int .i64 x38858.2] [] (by kernel_rfl) (trivial) ?_
  refine RW.op (by kernel_rfl) (OK.new hT (f := fun b => .pointer (some ⟨b, 0, none⟩)) (cs := [.int .i64 0, .int .i64 0, .int .u64 0, .slice none 0 0]) (e := 25) (c := .tt) s (by kernel_rfl) trivial ?_)
  rintro w38884 b38885 s k38886 -
  replace e38850 := e38850.st k38886
  replace e38854 := e38854.st k38886
  replace e38883 := e38883.st k38886
  replace kk := kk.trans k38886
  refine RW.op (by kernel_rfl) (OK.store hT (i := 0) (b := b38885) (off := 0) (n := 4) (vs := [.int .i64 x38858.1.Kind, .int .i64 x38858.1.Page, .int .u64 x38858.1.Epoch, .slice A38872 x38858.1.Data.length c38874]) (cs := [.int .i64 0, .int .i64 0, .int .u64 0, .slice none 0 0]) (e := 25) s (by kernel_rfl) rfl rfl (flat_ok rfl) (Nat.le_of_ble_eq_true rfl) ?_)
  rintro w38887 s k38888 -
  replace e38850 := e38850.st k38888
  replace e38854 := e38854.st k38888
  replace e38883 := e38883.st k38888
  replace kk := kk.trans k38888
  refine RW.seg hT 1 [] [] [.int .i64 x38858.2] [] (by kernel_rfl) (trivial) ?_
  refine RW.nil ?_
  refine WPK.seq ?_
  refine WPK.seq ?_
  refine WPK.region ?_
  refine RW.seg hT 2 [] [(18, .bool (decide (x38858.2 ≠ 0)))] [.int .i64 x38858.2, .bool (decide (x38858.2 ≠ 0))] [.veq (.bool (x38858.2 != 0)) (.bool (decide (x38858.2 ≠ 0)))] (by kernel_rfl) (ne_v) ?_
  refine RW.nil ?_
  by_cases h38892 : x38858.2 ≠ 0
  · have hf := iteT h38892 hf
    refine WPK.condT (Eq.trans (b := .bool (decide (x38858.2 ≠ 0))) (by kernel_rfl) (bo_t h38892)) ?_
    refine WPK.seq ?_
    refine WPK.region ?_
    refine RW.seg hT 2 [] [] [.agg #[.int .i64 0, .int .i64 0, .int .u64 0, .slice none 0 0], .int .i64 x38858.2] [] (by kernel_rfl) (trivial) ?_
    refine RW.op (by kernel_rfl) (OK.store hT (i := 1) (b := b38856) (off := 0) (n := 4) (vs := [.int .i64 0, .int .i64 0, .int .u64 0, .slice none 0 0]) (cs := [.int .i64 0, .int .i64 0, .int .u64 0, .slice none 0 0]) (e := 25) s (by kernel_rfl) rfl rfl (flat_ok rfl) (Nat.le_of_ble_eq_true rfl) ?_)
    rintro w38893 s k38894 -
    replace e38850 := e38850.st k38894
    replace e38854 := e38854.st k38894
    replace e38883 := e38883.st k38894
    replace kk := kk.trans k38894
    refine RW.seg hT 1 [] [] [.int .i64 x38858.2] [] (by kernel_rfl) (trivial) ?_
    refine RW.nil ?_
    refine WPK.ret (?_)
    obtain rfl := someS hf
    refine Fin.of (rs := [.cell 6 25, .tmp 7]) hT [.agg #[.int .i64 0, .int .i64 0, .int .u64 0, .slice none 0 0]] (.tuple #[.agg #[.int .i64 0, .int .i64 0, .int .u64 0, .slice none 0 0], .int .i64 x38858.2]) [.cells ⟨b38856, 0, none⟩ [.int .i64 0, .int .i64 0, .int .u64 0, .slice none 0 0] 4] rfl (by kernel_rfl) (s.cells (i := 1) rfl rfl rfl) ?_
    replace s := s.pick [] 2 rfl
    exact fun X h => vc rfl (h I38877 none 0 _ s kk nil_hc Elems.nil)
  · have hf := iteF h38892 hf
    refine WPK.condF (Eq.trans (b := .bool (decide (x38858.2 ≠ 0))) (by kernel_rfl) (bo_f h38892)) ?_
    refine WPK.skip ?_
    refine WPK.seq ?_
    refine WPK.seq ?_
    refine WPK.region ?_
    refine RW.seg hT 1 [] [] [.int .i64 0] [] (by kernel_rfl) (trivial) ?_
    refine RW.nil ?_
    refine WPK.block ?_
    refine WPK.loop' (J := fun n39091 E ds wz => ∀ X : Kont, (∀ (I39053 : Nat → Prop) (x39051 : Int) (D39050 : List Value) (w' : World), g16_l1 p2 x38858 n39091 x39051 = some r → St w0 M I39053 ((.blk b38885 (.cells #[.int .i64 x38858.1.Kind, .int .i64 x38858.1.Page, .int .u64 x38858.1.Epoch, .slice A38872 x38858.1.Data.length c38874] 25 (0, 0))) :: (.blk b38856 (.cells #[.int .i64 0, .int .i64 0, .int .u64 0, .slice none 0 0] 25 (0, 0))) :: F) w' → Kp I w I39053 w' → Elems (Rp.int .i64) I39053 w' A38851 p2 → Elems (Rp.int .u8) I39053 w' A38872 x38858.1.Data → X [(D39050.getD 0 undef), (D39050.getD 1 undef), .slice A38851 p2.length c38852, (D39050.getD 2 undef), (D39050.getD 3 undef), (D39050.getD 4 undef), .pointer (some ⟨b38856, 0, none⟩), .int .i64 0, .pointer (some ⟨b38885, 0, none⟩), (D39050.getD 5 undef), .int .i64 x39051, (D39050.getD 6 undef), (D39050.getD 7 undef), (D39050.getD 8 undef), (D39050.getD 9 undef), (D39050.getD 10 undef), (D39050.getD 11 undef), (D39050.getD 12 undef), (D39050.getD 13 undef), (D39050.getD 14 undef), (D39050.getD 15 undef), (D39050.getD 16 undef), (D39050.getD 17 undef), (D39050.getD 18 undef), (D39050.getD 19 undef), (D39050.getD 20 undef), (D39050.getD 21 undef), (D39050.getD 22 undef), (D39050.getD 23 undef), (D39050.getD 24 undef), (D39050.getD 25 undef), (D39050.getD 26 undef), (D39050.getD 27 undef), (D39050.getD 28 undef), undef, undef] [] w') → X E ds wz) FUEL (fun X h => kc (by kernel_rfl) rfl (h I38877 0 [.slice A38847 p0.length c38848, .int .i64 p1, undef, undef, undef, .int .i64 x38858.2, .tuple #[.agg #[.int .i64 x38858.1.Kind, .int .i64 x38858.1.Page, .int .u64 x38858.1.Epoch, .slice A38872 x38858.1.Data.length c38874], .int .i64 x38858.2], .slice A38847 p0.length c38848, .int .i64 p1, .tuple #[.agg #[.int .i64 x38858.1.Kind, .int .i64 x38858.1.Page, .int .u64 x38858.1.Epoch, .slice A38872 x38858.1.Data.length c38874], .int .i64 x38858.2], .agg #[.int .i64 x38858.1.Kind, .int .i64 x38858.1.Page, .int .u64 x38858.1.Epoch, .slice A38872 x38858.1.Data.length c38874], .int .i64 x38858.2, .int .i64 x38858.2, .bool (decide (x38858.2 ≠ 0)), undef, undef, undef, undef, undef, undef, undef, undef, undef, undef, undef, undef, undef, undef, undef] _ hf s kk e38854 e38883)) (fun _ _ _ hJ => hJ (fun _ _ _ => False) (by intro I39053 x39051 D39050 w39052 hf s kk e38854 e38883; exact noneS hf)) ?_
    intro X39131 hX39132
    refine fun n39091 _ _ _ hJ => hJ (X39131 n39091) ?_
    intro I39053 x39051 D39050 w39052 hf s kk e38854 e38883
    refine hX39132 _ _ _ _ ?_
    replace hf : g16_l1B p2 x38858 (g16_l1 p2 x38858 n39091) x39051 = some r := hf
    generalize hrec39092 : g16_l1 p2 x38858 n39091 = rec39090 at hf
    unfold g16_l1B at hf
    refine WPK.seq ?_
    refine WPK.seq ?_
    refine WPK.region ?_
    refine RW.seg hT 4 [] [] [.int .i64 x39051, .slice A38851 p2.length c38852, .int .i64 (p2.length : Int), .bool (decide (x39051 < (p2.length : Int)))] [] (by kernel_rfl) (trivial) ?_
    refine RW.nil ?_
    by_cases h39094 : x39051 < (p2.length : Int)
    · have hf := iteT h39094 hf
      refine WPK.condT (Eq.trans (b := .bool (decide (x39051 < (p2.length : Int)))) (by kernel_rfl) (bo_t h39094)) ?_
      refine WPK.skip ?_
      refine WPK.seq ?_
      refine WPK.block ?_
      refine WPK.seq ?_
      have e38854S39112 := e38854
      have e38883S39112 := e38883
      have kS39116 : Kp I39053 w39052 I39053 w39052 := Kp.refl
      refine WPK.draw (fun w' => ∃ I' : Nat → Prop, St w0 M I' ((.blk b38885 (.cells #[.int .i64 x38858.1.Kind, .int .i64 x38858.1.Page, .int .u64 x38858.1.Epoch, .slice A38872 x38858.1.Data.length c38874] 25 (0, 0))) :: (.blk b38856 (.cells #[.int .i64 0, .int .i64 0, .int .u64 0, .slice none 0 0] 25 (0, 0))) :: F) w' ∧ Kp I39053 w39052 I' w') 7 (by kernel_rfl) ?_
      intro w39113 hd39114
      have k39115 := Kp.dr s hd39114
      replace s := s.dr hd39114
      replace e38854 := e38854.st k39115
      replace e38883 := e38883.st k39115
      replace kk := kk.trans k39115
      replace kS39116 := kS39116.trans k39115
      obtain ⟨x39117, hx39118, hf⟩ := bindS hf
      obtain ⟨h39119, hx39118⟩ := getS hx39118
      obtain ⟨b39120, o39121, rfl⟩ := Elems.opn e38854 hx39118
      obtain ⟨cs39122, hr39123, ha39124, hb39125⟩ := Elems.getI e38854S39112 hx39118
      obtain rfl : cs39122 = [.int .i64 x39117] := hr39123
      refine RD.seg hT (by kernel_rfl) [0, 1, 2, 3, 4, 5, 6] [.int .i64 x39117, .int .i64 x38858.1.Kind] [(33, .bool (decide (x39117 = x38858.1.Kind)))] [.slice (some ⟨b39120, o39121, none⟩) p2.length c38852, .int .i64 x39051, .pointer (some ⟨b39120, o39121 + x39051.toNat * 1, none⟩), .int .i64 x39117, .pointer (some ⟨b38885, 0, none⟩), .int .i64 x38858.1.Kind, .bool (decide (x39117 = x38858.1.Kind))] [.idx x39051 p2.length, .cell ⟨b39120, o39121 + x39051.toNat * 1, none⟩ (.int .i64 x39117), .cell ⟨b38885, 0, none⟩ (.int .i64 x38858.1.Kind), .veq (.bool (x39117 == x38858.1.Kind)) (.bool (decide (x39117 = x38858.1.Kind)))] (by kernel_rfl) (by rintro w' ⟨I', s, k⟩; have e38854 := e38854S39112.st k; have e38883 := e38883S39112.st k; have ha39124 := ha39124.st k hb39125; exact ⟨h39119, ha39124 0 _ rfl, s.cell (i := 0) (off := 0) rfl rfl, eq_v⟩) ⟨_, s.pick [0, 1] 2 rfl, kS39116⟩ ?_
      refine RD.done (by kernel_rfl) ?_
      by_cases h39126 : x39117 = x38858.1.Kind
      · have hf := iteT h39126 hf
        refine WPK.condT (Eq.trans (b := .bool (decide (x39117 = x38858.1.Kind))) (by kernel_rfl) (bo_t h39126)) ?_
        refine WPK.seq ?_
        refine WPK.region ?_
        refine RW.seg hT 1 [.agg #[.int .i64 x38858.1.Kind, .int .i64 x38858.1.Page, .int .u64 x38858.1.Epoch, .slice A38872 x38858.1.Data.length c38874]] [] [.agg #[.int .i64 x38858.1.Kind, .int .i64 x38858.1.Page, .int .u64 x38858.1.Epoch, .slice A38872 x38858.1.Data.length c38874]] [.cells ⟨b38885, 0, none⟩ [.int .i64 x38858.1.Kind, .int .i64 x38858.1.Page, .int .u64 x38858.1.Epoch, .slice A38872 x38858.1.Data.length c38874] 4] (by kernel_rfl) (s.cells (i := 0) rfl rfl rfl) ?_
        refine RW.op (by kernel_rfl) (OK.store hT (i := 1) (b := b38856) (off := 0) (n := 4) (vs := [.int .i64 x38858.1.Kind, .int .i64 x38858.1.Page, .int .u64 x38858.1.Epoch, .slice A38872 x38858.1.Data.length c38874]) (cs := [.int .i64 0, .int .i64 0, .int .u64 0, .slice none 0 0]) (e := 25) s (by kernel_rfl) rfl rfl (flat_ok rfl) (Nat.le_of_ble_eq_true rfl) ?_)
        rintro w39127 s k39128 -
        replace e38854 := e38854.st k39128
        replace e38883 := e38883.st k39128
        replace kk := kk.trans k39128
        refine RW.seg hT 1 [] [] [.int .i64 0] [] (by kernel_rfl) (trivial) ?_
        refine RW.nil ?_
        refine WPK.ret (blockQ.ret (blockQ.ret (?_)))
        obtain rfl := someS hf
        refine Fin.of (rs := [.cell 6 25, .tmp 7]) hT [.agg #[.int .i64 x38858.1.Kind, .int .i64 x38858.1.Page, .int .u64 x38858.1.Epoch, .slice A38872 x38858.1.Data.length c38874]] (.tuple #[.agg #[.int .i64 x38858.1.Kind, .int .i64 x38858.1.Page, .int .u64 x38858.1.Epoch, .slice A38872 x38858.1.Data.length c38874], .int .i64 0]) [.cells ⟨b38856, 0, none⟩ [.int .i64 x38858.1.Kind, .int .i64 x38858.1.Page, .int .u64 x38858.1.Epoch, .slice A38872 x38858.1.Data.length c38874] 4] rfl (by kernel_rfl) (s.cells (i := 1) rfl rfl rfl) ?_
        replace s := s.pick [] 2 rfl
        exact fun X h => vc rfl (h I39053 A38872 c38874 _ s kk hc38882 e38883)
      · have hf := iteF h39126 hf
        refine WPK.condF (Eq.trans (b := .bool (decide (x39117 = x38858.1.Kind))) (by kernel_rfl) (bo_f h39126)) ?_
        refine WPK.skip ?_
        refine WPK.region ?_
        refine RW.seg hT 3 [] [] [.int .i64 x39051, .int .i64 (IntKind.i64.wrap (x39051 + 1)), .int .i64 (IntKind.i64.wrap (x39051 + 1))] [] (by kernel_rfl) (trivial) ?_
        refine RW.nil ?_
        subst hrec39092
        exact ⟨n39091, Nat.le_refl _, fun X h => kc (by kernel_rfl) rfl (h I39053 (IntKind.i64.wrap (x39051 + 1)) [(D39050.getD 0 undef), (D39050.getD 1 undef), (D39050.getD 2 undef), (D39050.getD 3 undef), (D39050.getD 4 undef), (D39050.getD 5 undef), (D39050.getD 6 undef), (D39050.getD 7 undef), (D39050.getD 8 undef), (D39050.getD 9 undef), (D39050.getD 10 undef), (D39050.getD 11 undef), (D39050.getD 12 undef), (D39050.getD 13 undef), (D39050.getD 14 undef), (D39050.getD 15 undef), .int .i64 x39051, .slice (some ⟨b39120, o39121, none⟩) p2.length c38852, .int .i64 (p2.length : Int), .bool (decide (x39051 < (p2.length : Int))), .int .i64 x39051, .int .i64 (IntKind.i64.wrap (x39051 + 1)), .slice (some ⟨b39120, o39121, none⟩) p2.length c38852, .int .i64 x39051, .pointer (some ⟨b39120, o39121 + x39051.toNat * 1, none⟩), .int .i64 x39117, .pointer (some ⟨b38885, 0, none⟩), .int .i64 x38858.1.Kind, .bool (decide (x39117 = x38858.1.Kind))] _ hf s kk e38854 e38883)⟩
    · have hf := iteF h39094 hf
      refine WPK.condF (Eq.trans (b := .bool (decide (x39051 < (p2.length : Int)))) (by kernel_rfl) (bo_f h39094)) ?_
      refine WPK.exit (blockQ.same ?_)
      refine WPK.seq ?_
      refine WPK.region ?_
      refine RW.seg hT 1 [] [] [.agg #[.int .i64 0, .int .i64 0, .int .u64 0, .slice none 0 0]] [] (by kernel_rfl) (trivial) ?_
      refine RW.op (by kernel_rfl) (OK.store hT (i := 1) (b := b38856) (off := 0) (n := 4) (vs := [.int .i64 0, .int .i64 0, .int .u64 0, .slice none 0 0]) (cs := [.int .i64 0, .int .i64 0, .int .u64 0, .slice none 0 0]) (e := 25) s (by kernel_rfl) rfl rfl (flat_ok rfl) (Nat.le_of_ble_eq_true rfl) ?_)
      rintro w39129 s k39130 -
      replace e38854 := e38854.st k39130
      replace e38883 := e38883.st k39130
      replace kk := kk.trans k39130
      refine RW.seg hT 1 [] [] [.int .i64 42] [] (by kernel_rfl) (trivial) ?_
      refine RW.nil ?_
      refine WPK.ret (?_)
      obtain rfl := someS hf
      refine Fin.of (rs := [.cell 6 25, .tmp 7]) hT [.agg #[.int .i64 0, .int .i64 0, .int .u64 0, .slice none 0 0]] (.tuple #[.agg #[.int .i64 0, .int .i64 0, .int .u64 0, .slice none 0 0], .int .i64 42]) [.cells ⟨b38856, 0, none⟩ [.int .i64 0, .int .i64 0, .int .u64 0, .slice none 0 0] 4] rfl (by kernel_rfl) (s.cells (i := 1) rfl rfl rfl) ?_
      replace s := s.pick [] 2 rfl
      exact fun X h => vc rfl (h I39053 none 0 _ s kk nil_hc Elems.nil)
theorem c17 {w0 w : World} {M I : Nat → Prop} {F : List It} (p0 : Int) (s : St w0 M I (F) w) {r : ByteArray} (hf : g17 p0 = some r) :
    Ret Tryd.prog 17 [.int .i64 p0] w fun v wz => ∀ X : Value → World → Prop, (∀ (I' : Nat → Prop) (w' : World), St w0 M I' (F) w' → Kp I w I' w' → X (.string r) w') → X v wz := by
  have kk : Kp I w I w := Kp.refl
  unfold g17 at hf
  refine Ret.of Tryd.func17 rfl ?_
  refine WPK.seq ?_
  refine WPK.region ?_
  refine RW.seg hT 1 [] [] [.string (⟨#[]⟩ : ByteArray)] [] (by kernel_rfl) (trivial) ?_
  refine RW.nil ?_
  refine WPK.seq ?_
  refine WPK.seq ?_
  refine WPK.region ?_
  refine RW.seg hT 1 [] [] [.int .i64 p0] [] (by kernel_rfl) (trivial) ?_
  refine RW.nil ?_
  refine WPK.block ?_
  refine WPK.seq ?_
  refine WPK.region ?_
  refine RW.seg hT 2 [] [(5, .bool (decide (p0 = 1)))] [.bool (decide (p0 = 1)), .bool (decide (p0 = 1))] [.veq (.bool (p0 == 1)) (.bool (decide (p0 = 1)))] (by kernel_rfl) (eq_v) ?_
  refine RW.nil ?_
  by_cases h39183 : p0 = 1
  · have hf := iteT h39183 hf
    refine WPK.condT (Eq.trans (b := .bool (decide (p0 = 1))) (by kernel_rfl) (bo_t h39183)) ?_
    refine WPK.seq ?_
    refine WPK.region ?_
    refine RW.seg hT 1 [] [] [.string (⟨#[104, 101, 97, 100]⟩ : ByteArray)] [] (by kernel_rfl) (trivial) ?_
    refine RW.nil ?_
    refine WPK.ret (blockQ.ret (?_))
    obtain rfl := someS hf
    refine Fin.of (rs := [.tmp 2]) hT [] (.string (⟨#[104, 101, 97, 100]⟩ : ByteArray)) [] rfl (by kernel_rfl) (trivial) ?_
    exact fun X h => vc rfl (h I _ s kk)
  · have hf := iteF h39183 hf
    refine WPK.condF (Eq.trans (b := .bool (decide (p0 = 1))) (by kernel_rfl) (bo_f h39183)) ?_
    refine WPK.seq ?_
    refine WPK.region ?_
    refine RW.seg hT 2 [] [(7, .bool (decide (p0 = 2)))] [.bool (decide (p0 = 2)), .bool (decide (p0 = 2))] [.veq (.bool (p0 == 2)) (.bool (decide (p0 = 2)))] (by kernel_rfl) (eq_v) ?_
    refine RW.nil ?_
    by_cases h39184 : p0 = 2
    · have hf := iteT h39184 hf
      refine WPK.condT (Eq.trans (b := .bool (decide (p0 = 2))) (by kernel_rfl) (bo_t h39184)) ?_
      refine WPK.seq ?_
      refine WPK.region ?_
      refine RW.seg hT 1 [] [] [.string (⟨#[109, 97, 112]⟩ : ByteArray)] [] (by kernel_rfl) (trivial) ?_
      refine RW.nil ?_
      refine WPK.ret (blockQ.ret (?_))
      obtain rfl := someS hf
      refine Fin.of (rs := [.tmp 2]) hT [] (.string (⟨#[109, 97, 112]⟩ : ByteArray)) [] rfl (by kernel_rfl) (trivial) ?_
      exact fun X h => vc rfl (h I _ s kk)
    · have hf := iteF h39184 hf
      refine WPK.condF (Eq.trans (b := .bool (decide (p0 = 2))) (by kernel_rfl) (bo_f h39184)) ?_
      refine WPK.seq ?_
      refine WPK.region ?_
      refine RW.seg hT 2 [] [(9, .bool (decide (p0 = 3)))] [.bool (decide (p0 = 3)), .bool (decide (p0 = 3))] [.veq (.bool (p0 == 3)) (.bool (decide (p0 = 3)))] (by kernel_rfl) (eq_v) ?_
      refine RW.nil ?_
      by_cases h39185 : p0 = 3
      · have hf := iteT h39185 hf
        refine WPK.condT (Eq.trans (b := .bool (decide (p0 = 3))) (by kernel_rfl) (bo_t h39185)) ?_
        refine WPK.seq ?_
        refine WPK.region ?_
        refine RW.seg hT 1 [] [] [.string (⟨#[108, 101, 97, 102]⟩ : ByteArray)] [] (by kernel_rfl) (trivial) ?_
        refine RW.nil ?_
        refine WPK.ret (blockQ.ret (?_))
        obtain rfl := someS hf
        refine Fin.of (rs := [.tmp 2]) hT [] (.string (⟨#[108, 101, 97, 102]⟩ : ByteArray)) [] rfl (by kernel_rfl) (trivial) ?_
        exact fun X h => vc rfl (h I _ s kk)
      · have hf := iteF h39185 hf
        refine WPK.condF (Eq.trans (b := .bool (decide (p0 = 3))) (by kernel_rfl) (bo_f h39185)) ?_
        refine WPK.seq ?_
        refine WPK.region ?_
        refine RW.seg hT 2 [] [(11, .bool (decide (p0 = 4)))] [.bool (decide (p0 = 4)), .bool (decide (p0 = 4))] [.veq (.bool (p0 == 4)) (.bool (decide (p0 = 4)))] (by kernel_rfl) (eq_v) ?_
        refine RW.nil ?_
        by_cases h39186 : p0 = 4
        · have hf := iteT h39186 hf
          refine WPK.condT (Eq.trans (b := .bool (decide (p0 = 4))) (by kernel_rfl) (bo_t h39186)) ?_
          refine WPK.seq ?_
          refine WPK.region ?_
          refine RW.seg hT 1 [] [] [.string (⟨#[105, 110, 110, 101, 114]⟩ : ByteArray)] [] (by kernel_rfl) (trivial) ?_
          refine RW.nil ?_
          refine WPK.ret (blockQ.ret (?_))
          obtain rfl := someS hf
          refine Fin.of (rs := [.tmp 2]) hT [] (.string (⟨#[105, 110, 110, 101, 114]⟩ : ByteArray)) [] rfl (by kernel_rfl) (trivial) ?_
          exact fun X h => vc rfl (h I _ s kk)
        · have hf := iteF h39186 hf
          refine WPK.condF (Eq.trans (b := .bool (decide (p0 = 4))) (by kernel_rfl) (bo_f h39186)) ?_
          refine WPK.skip ?_
          refine WPK.seq ?_
          refine WPK.region ?_
          refine RW.seg hT 1 [] [] [.string (⟨#[]⟩ : ByteArray)] [] (by kernel_rfl) (trivial) ?_
          refine RW.nil ?_
          refine WPK.ret (?_)
          obtain rfl := someS hf
          refine Fin.of (rs := [.tmp 2]) hT [] (.string (⟨#[]⟩ : ByteArray)) [] rfl (by kernel_rfl) (trivial) ?_
          exact fun X h => vc rfl (h I _ s kk)
theorem c18 {w0 w : World} {M I : Nat → Prop} {F : List It} (p0 : Int) (s : St w0 M I (F) w) {r : ByteArray} (hf : g18 p0 = some r) :
    Ret Tryd.prog 18 [.int .i64 p0] w fun v wz => ∀ X : Value → World → Prop, (∀ (I' : Nat → Prop) (w' : World), St w0 M I' (F) w' → Kp I w I' w' → X (.string r) w') → X v wz := by
  have kk : Kp I w I w := Kp.refl
  unfold g18 at hf
  refine Ret.of Tryd.func18 rfl ?_
  refine WPK.seq ?_
  refine WPK.region ?_
  refine RW.seg hT 1 [] [] [.string (⟨#[]⟩ : ByteArray)] [] (by kernel_rfl) (trivial) ?_
  refine RW.nil ?_
  refine WPK.seq ?_
  refine WPK.region ?_
  refine RW.seg hT 1 [] [] [.int .i64 p0] [] (by kernel_rfl) (trivial) ?_
  refine RW.nil ?_
  refine WPK.block ?_
  refine WPK.seq ?_
  refine WPK.region ?_
  refine RW.seg hT 2 [] [(5, .bool (decide (p0 = 1)))] [.bool (decide (p0 = 1)), .bool (decide (p0 = 1))] [.veq (.bool (p0 == 1)) (.bool (decide (p0 = 1)))] (by kernel_rfl) (eq_v) ?_
  refine RW.nil ?_
  by_cases h39198 : p0 = 1
  · have hf := iteT h39198 hf
    refine WPK.condT (Eq.trans (b := .bool (decide (p0 = 1))) (by kernel_rfl) (bo_t h39198)) ?_
    refine WPK.seq ?_
    refine WPK.region ?_
    refine RW.seg hT 1 [] [] [.string (⟨#[104, 101, 97, 100]⟩ : ByteArray)] [] (by kernel_rfl) (trivial) ?_
    refine RW.nil ?_
    refine WPK.ret (blockQ.ret (?_))
    obtain rfl := someS hf
    refine Fin.of (rs := [.tmp 2]) hT [] (.string (⟨#[104, 101, 97, 100]⟩ : ByteArray)) [] rfl (by kernel_rfl) (trivial) ?_
    exact fun X h => vc rfl (h I _ s kk)
  · have hf := iteF h39198 hf
    refine WPK.condF (Eq.trans (b := .bool (decide (p0 = 1))) (by kernel_rfl) (bo_f h39198)) ?_
    refine WPK.seq ?_
    refine WPK.region ?_
    refine RW.seg hT 2 [] [(7, .bool (decide (p0 = 2)))] [.bool (decide (p0 = 2)), .bool (decide (p0 = 2))] [.veq (.bool (p0 == 2)) (.bool (decide (p0 = 2)))] (by kernel_rfl) (eq_v) ?_
    refine RW.nil ?_
    by_cases h39199 : p0 = 2
    · have hf := iteT h39199 hf
      refine WPK.condT (Eq.trans (b := .bool (decide (p0 = 2))) (by kernel_rfl) (bo_t h39199)) ?_
      refine WPK.seq ?_
      refine WPK.region ?_
      refine RW.seg hT 1 [] [] [.string (⟨#[109, 97, 112]⟩ : ByteArray)] [] (by kernel_rfl) (trivial) ?_
      refine RW.nil ?_
      refine WPK.ret (blockQ.ret (?_))
      obtain rfl := someS hf
      refine Fin.of (rs := [.tmp 2]) hT [] (.string (⟨#[109, 97, 112]⟩ : ByteArray)) [] rfl (by kernel_rfl) (trivial) ?_
      exact fun X h => vc rfl (h I _ s kk)
    · have hf := iteF h39199 hf
      refine WPK.condF (Eq.trans (b := .bool (decide (p0 = 2))) (by kernel_rfl) (bo_f h39199)) ?_
      refine WPK.seq ?_
      refine WPK.region ?_
      refine RW.seg hT 2 [] [(9, .bool (decide (p0 = 3)))] [.bool (decide (p0 = 3)), .bool (decide (p0 = 3))] [.veq (.bool (p0 == 3)) (.bool (decide (p0 = 3)))] (by kernel_rfl) (eq_v) ?_
      refine RW.nil ?_
      by_cases h39200 : p0 = 3
      · have hf := iteT h39200 hf
        refine WPK.condT (Eq.trans (b := .bool (decide (p0 = 3))) (by kernel_rfl) (bo_t h39200)) ?_
        refine WPK.seq ?_
        refine WPK.region ?_
        refine RW.seg hT 1 [] [] [.string (⟨#[108, 101, 97, 102]⟩ : ByteArray)] [] (by kernel_rfl) (trivial) ?_
        refine RW.nil ?_
        refine WPK.ret (blockQ.ret (?_))
        obtain rfl := someS hf
        refine Fin.of (rs := [.tmp 2]) hT [] (.string (⟨#[108, 101, 97, 102]⟩ : ByteArray)) [] rfl (by kernel_rfl) (trivial) ?_
        exact fun X h => vc rfl (h I _ s kk)
      · have hf := iteF h39200 hf
        refine WPK.condF (Eq.trans (b := .bool (decide (p0 = 3))) (by kernel_rfl) (bo_f h39200)) ?_
        refine WPK.seq ?_
        refine WPK.region ?_
        refine RW.seg hT 2 [] [(11, .bool (decide (p0 = 4)))] [.bool (decide (p0 = 4)), .bool (decide (p0 = 4))] [.veq (.bool (p0 == 4)) (.bool (decide (p0 = 4)))] (by kernel_rfl) (eq_v) ?_
        refine RW.nil ?_
        by_cases h39201 : p0 = 4
        · have hf := iteT h39201 hf
          refine WPK.condT (Eq.trans (b := .bool (decide (p0 = 4))) (by kernel_rfl) (bo_t h39201)) ?_
          refine WPK.seq ?_
          refine WPK.region ?_
          refine RW.seg hT 1 [] [] [.string (⟨#[105, 110, 110, 101, 114]⟩ : ByteArray)] [] (by kernel_rfl) (trivial) ?_
          refine RW.nil ?_
          refine WPK.ret (blockQ.ret (?_))
          obtain rfl := someS hf
          refine Fin.of (rs := [.tmp 2]) hT [] (.string (⟨#[105, 110, 110, 101, 114]⟩ : ByteArray)) [] rfl (by kernel_rfl) (trivial) ?_
          exact fun X h => vc rfl (h I _ s kk)
        · have hf := iteF h39201 hf
          refine WPK.condF (Eq.trans (b := .bool (decide (p0 = 4))) (by kernel_rfl) (bo_f h39201)) ?_
          refine WPK.seq ?_
          refine WPK.region ?_
          refine RW.seg hT 1 [] [] [.string (⟨#[]⟩ : ByteArray)] [] (by kernel_rfl) (trivial) ?_
          refine RW.nil ?_
          refine WPK.ret (blockQ.ret (?_))
          obtain rfl := someS hf
          refine Fin.of (rs := [.tmp 2]) hT [] (.string (⟨#[]⟩ : ByteArray)) [] rfl (by kernel_rfl) (trivial) ?_
          exact fun X h => vc rfl (h I _ s kk)
end Go.Proofs.YtjkghheeeiacmaaDoor
