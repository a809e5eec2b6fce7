/- PRINTED BY sy.py: each call computes what the plain function of its number tells. -/
import Derived.Test.YtefjbhogpgihaaaDoorW4
namespace Go.Proofs.YtefjbhogpgihaaaDoor
open Go Go.SX Go.RowKit
set_option maxRecDepth 100000
set_option linter.unusedVariables false
attribute [local irreducible] WPK RW RD Ret SX.Fin SX.Any opK RoundBeg RoundEnd RangeEnd Rounds
theorem c7 {w0 w : World} {M I : Nat → Prop} {F : List It} (p0 : Int) (p1 : (List Int)) (A129113 : Option Addr) (c129114 : Nat) (hc129115 : (p1.length ≤ c129114 ∧ c129114 ≤ 9223372036854775807)) (e129116 : Elems (Rp.int .u8) I w A129113 p1) (s : St w0 M I (F) w) {r : (T_api_Node × Int)} (hf : g7 p0 p1 = some r) :
    Ret Tryd.prog 7 [.int .i64 p0, .slice A129113 p1.length c129114] w fun v wz => ∀ X : Value → World → Prop, (∀ (I' : Nat → Prop) (A129497 : Option Addr) (n129498 : Nat) (c129499 : Nat) (cl129500 : List Value) (A129504 : Option Addr) (n129505 : Nat) (c129506 : Nat) (cl129507 : List Value) (A129511 : Option Addr) (n129512 : Nat) (c129513 : Nat) (cl129514 : List Value) (w' : World), St w0 M I' ((.sl (.slice A129497 n129498 c129499) 41 2 n129498 cl129500) :: (.sl (.slice A129504 n129505 c129506) 27 1 n129505 cl129507) :: (.sl (.slice A129511 n129512 c129513) 3 1 n129512 cl129514) :: F) w' → Kp I w I' w' → n129498 = r.1.Pairs.length → RepL rp_T_api_Pair I' w' cl129500 r.1.Pairs → n129505 = r.1.Keys.length → RepL (Rp.slice (Rp.int .u8)) I' w' cl129507 r.1.Keys → n129512 = r.1.Kids.length → RepL (Rp.int .i64) I' w' cl129514 r.1.Kids → X (.tuple #[.agg #[.bool r.1.Leaf, .slice A129497 n129498 c129499, .slice A129504 n129505 c129506, .slice A129511 n129512 c129513], .int .i64 r.2]) w') → X v wz := by
  have kk : Kp I w I w := Kp.refl
  unfold g7 at hf
  refine Ret.of Tryd.func7 rfl ?_
  refine WPK.seq ?_
  refine WPK.region ?_
  refine RW.op (by kernel_rfl) (OK.new hT (f := fun b => .pointer (some ⟨b, 0, none⟩)) (cs := [.bool false, .slice none 0 0, .slice none 0 0, .slice none 0 0]) (e := 26) (c := .tt) s (by kernel_rfl) trivial ?_)
  clear s
  rintro w129117 b129118 s k129119 -
  replace e129116 := e129116.st k129119
  replace kk := kk.trans k129119
  refine RW.seg hT 1 [] [] [.int .i64 0] [] (by kernel_rfl) (trivial) ?_
  refine RW.nil ?_
  refine WPK.seq ?_
  refine WPK.region ?_
  refine RW.op (by kernel_rfl) (OK.new hT (f := fun b => .pointer (some ⟨b, 0, none⟩)) (cs := [.bool false, .slice none 0 0, .slice none 0 0, .slice none 0 0]) (e := 26) (c := .tt) s (by kernel_rfl) trivial ?_)
  clear s
  rintro w129120 b129121 s k129122 -
  replace e129116 := e129116.st k129122
  replace kk := kk.trans k129122
  refine RW.nil ?_
  refine WPK.seq ?_
  refine WPK.region ?_
  refine RW.seg hT 1 [] [] [.slice A129113 p1.length c129114] [] (by kernel_rfl) (trivial) ?_
  obtain ⟨x129123, hx129124, hf⟩ := bindS hf
  refine RW.op (by kernel_rfl) (OK.call' en17 (by kernel_rfl) (c17 (F := (.blk b129121 (.cells #[.bool false, .slice none 0 0, .slice none 0 0, .slice none 0 0] 26 (0, 0))) :: (.blk b129118 (.cells #[.bool false, .slice none 0 0, .slice none 0 0, .slice none 0 0] 26 (0, 0))) :: F) p1 A129113 c129114 hc129115 e129116 s hx129124) ?_)
  intro X129127 hX129128
  refine fun _ _ hJ => hJ X129127 ?_
  clear s
  intro I129129 b129130 A129131 n129132 c129133 cl129134 w129125 s k129126 hn129135 rp129136
  refine hX129128 _ _ ?_
  replace e129116 := e129116.st k129126
  replace kk := kk.trans k129126
  refine RW.seg hT 1 [] [] [.pointer (some ⟨b129130, 0, none⟩)] [] (by kernel_rfl) (trivial) ?_
  refine RW.nil ?_
  refine WPK.seq ?_
  refine WPK.cut' (Kn fun E ds wz => ∀ X : Kont, (∀ (I129247 : Nat → Prop) (x129214 : (List Int)) (x129219 : Int) (x129220 : Bool) (x129221 : Bool) (x129222 : (List T_api_Pair)) (x129230 : (List (List Int))) (x129238 : (List Int)) (D129213 : List Value) (A129215 : Option Addr) (c129216 : Nat) (A129223 : Option Addr) (n129224 : Nat) (c129225 : Nat) (cl129226 : List Value) (A129231 : Option Addr) (n129232 : Nat) (c129233 : Nat) (cl129234 : List Value) (A129239 : Option Addr) (n129240 : Nat) (c129241 : Nat) (cl129242 : List Value) (w' : World), g7_j1 p1 x129214 x129219 x129220 x129221 x129222 x129230 x129238 = some r → St w0 M I129247 ((.sl (.slice A129223 n129224 c129225) 41 2 n129224 cl129226) :: (.sl (.slice A129231 n129232 c129233) 27 1 n129232 cl129234) :: (.sl (.slice A129239 n129240 c129241) 3 1 n129240 cl129242) :: (.blk b129130 (.cells #[.slice A129215 x129214.length c129216, .int .i64 x129219, .bool x129220] 72 (0, 0))) :: (.blk b129121 (.cells #[.bool x129221, .slice A129223 n129224 c129225, .slice A129231 n129232 c129233, .slice A129239 n129240 c129241] 26 (0, 0))) :: (.blk b129118 (.cells #[.bool false, .slice none 0 0, .slice none 0 0, .slice none 0 0] 26 (0, 0))) :: F) w' → Kp I w I129247 w' → Elems (Rp.int .u8) I129247 w' A129113 p1 → (x129214.length ≤ c129216 ∧ c129216 ≤ 9223372036854775807) → Elems (Rp.int .u8) I129247 w' A129215 x129214 → n129224 = x129222.length → RepL rp_T_api_Pair I129247 w' cl129226 x129222 → n129232 = x129230.length → RepL (Rp.slice (Rp.int .u8)) I129247 w' cl129234 x129230 → n129240 = x129238.length → RepL (Rp.int .i64) I129247 w' cl129242 x129238 → X [(D129213.getD 0 undef), .slice A129113 p1.length c129114, (D129213.getD 1 undef), (D129213.getD 2 undef), .pointer (some ⟨b129118, 0, none⟩), .int .i64 0, .pointer (some ⟨b129121, 0, none⟩), .pointer (some ⟨b129130, 0, none⟩), (D129213.getD 3 undef), undef, undef, (D129213.getD 4 undef), (D129213.getD 5 undef), (D129213.getD 6 undef), (D129213.getD 7 undef), (D129213.getD 8 undef), (D129213.getD 9 undef), (D129213.getD 10 undef), (D129213.getD 11 undef), (D129213.getD 12 undef), (D129213.getD 13 undef), (D129213.getD 14 undef), (D129213.getD 15 undef), undef, undef, undef, undef, undef, undef, undef, undef, undef, undef, undef, undef, undef, undef, undef, undef, undef, undef, undef, undef] [] w') → X E ds wz) ?_ ?_
  · intro X129420 hX129421
    refine fun _ _ _ hJ => hJ X129420 ?_
    clear s
    intro I129247 x129214 x129219 x129220 x129221 x129222 x129230 x129238 D129213 A129215 c129216 A129223 n129224 c129225 cl129226 A129231 n129232 c129233 cl129234 A129239 n129240 c129241 cl129242 w129246 hf s kk e129116 hc129217 e129218 hn129227 rp129228 hn129235 rp129236 hn129243 rp129244
    refine hX129421 _ _ _ ?_
    unfold g7_j1 at hf
    refine WPK.seq ?_
    refine WPK.seq ?_
    refine WPK.region ?_
    refine RW.seg hT 1 [] [] [.pointer (some ⟨b129130, 0, none⟩)] [] (by kernel_rfl) (trivial) ?_
    replace s := s.pick [3, 0, 1, 2, 4, 5] 6 rfl
    obtain ⟨x129261, hx129262, hf⟩ := bindS hf
    refine RW.op (by kernel_rfl) (OK.call' en20 (by kernel_rfl) (c20 (F := (.sl (.slice A129223 n129224 c129225) 41 2 n129224 cl129226) :: (.sl (.slice A129231 n129232 c129233) 27 1 n129232 cl129234) :: (.sl (.slice A129239 n129240 c129241) 3 1 n129240 cl129242) :: (.blk b129121 (.cells #[.bool x129221, .slice A129223 n129224 c129225, .slice A129231 n129232 c129233, .slice A129239 n129240 c129241] 26 (0, 0))) :: (.blk b129118 (.cells #[.bool false, .slice none 0 0, .slice none 0 0, .slice none 0 0] 26 (0, 0))) :: F) (T_pack_Reader.mk x129214 x129219 x129220) b129130 A129215 c129216 hc129217 e129218 s hx129262) ?_)
    intro X129265 hX129266
    refine fun _ _ hJ => hJ X129265 ?_
    clear s
    intro I129267 w129263 s k129264
    refine hX129266 _ _ ?_
    replace e129116 := e129116.st k129264
    replace e129218 := e129218.st k129264
    replace rp129228 := rp129228.st k129264
    replace rp129236 := rp129236.st k129264
    replace rp129244 := rp129244.st k129264
    replace kk := kk.trans k129264
    refine RW.seg hT 1 [] [(25, .bool (decide (x129261 ≠ 0)))] [.bool (decide (x129261 ≠ 0))] [.veq (.bool (x129261 != 0)) (.bool (decide (x129261 ≠ 0)))] (by kernel_rfl) (ne_v) ?_
    refine RW.nil ?_
    by_cases h129268 : x129261 ≠ 0
    · have hf := iteT h129268 hf
      refine WPK.condT (Eq.trans (b := .bool (decide (x129261 ≠ 0))) (by kernel_rfl) (bo_t h129268)) ?_
      refine WPK.seq ?_
      refine WPK.region ?_
      refine RW.seg hT 1 [] [] [.agg #[.bool false, .slice none 0 0, .slice none 0 0, .slice none 0 0]] [] (by kernel_rfl) (trivial) ?_
      refine RW.op (by kernel_rfl) (OK.store hT (i := 5) (b := b129118) (off := 0) (n := 4) (vs := [.bool false, .slice none 0 0, .slice none 0 0, .slice none 0 0]) (cs := [.bool false, .slice none 0 0, .slice none 0 0, .slice none 0 0]) (e := 26) s (by kernel_rfl) rfl rfl (flat_ok rfl) (Nat.le_of_ble_eq_true rfl) ?_)
      clear s
      rintro w129269 s k129270 -
      replace e129116 := e129116.st k129270
      replace e129218 := e129218.st k129270
      replace rp129228 := rp129228.st k129270
      replace rp129236 := rp129236.st k129270
      replace rp129244 := rp129244.st k129270
      replace kk := kk.trans k129270
      refine RW.seg hT 1 [] [] [.int .i64 100] [] (by kernel_rfl) (trivial) ?_
      refine RW.nil ?_
      refine WPK.ret (?_)
      obtain rfl := someS hf
      refine Fin.of (rs := [.cell 4 26, .tmp 5]) hT [.agg #[.bool false, .slice none 0 0, .slice none 0 0, .slice none 0 0]] (.tuple #[.agg #[.bool false, .slice none 0 0, .slice none 0 0, .slice none 0 0], .int .i64 100]) [.cells ⟨b129118, 0, none⟩ [.bool false, .slice none 0 0, .slice none 0 0, .slice none 0 0] 4] rfl (by kernel_rfl) (s.cells (i := 5) rfl rfl rfl) ?_
      replace s := s.pushNil 41 2
      replace s := s.pushNil 27 1
      replace s := s.pushNil 3 1
      replace s := s.pick [2, 1, 0] 9 rfl
      exact fun X h => vc rfl (h I129267 none 0 0 [] none 0 0 [] none 0 0 [] _ s kk rfl (RepL.nil (r := rp_T_api_Pair)) rfl (RepL.nil (r := (Rp.slice (Rp.int .u8)))) rfl (RepL.nil (r := (Rp.int .i64))))
    · have hf := iteF h129268 hf
      refine WPK.condF (Eq.trans (b := .bool (decide (x129261 ≠ 0))) (by kernel_rfl) (bo_f h129268)) ?_
      refine WPK.skip ?_
      refine WPK.seq ?_
      refine WPK.seq ?_
      refine WPK.region ?_
      refine RW.seg hT 1 [.agg #[.bool x129221, .slice A129223 n129224 c129225, .slice A129231 n129232 c129233, .slice A129239 n129240 c129241]] [] [.agg #[.bool x129221, .slice A129223 n129224 c129225, .slice A129231 n129232 c129233, .slice A129239 n129240 c129241]] [.cells ⟨b129121, 0, none⟩ [.bool x129221, .slice A129223 n129224 c129225, .slice A129231 n129232 c129233, .slice A129239 n129240 c129241] 4] (by kernel_rfl) (s.cells (i := 4) rfl rfl rfl) ?_
      have sa129346 := s
      obtain ⟨hc129347, e129348⟩ := St.lend s (i := 1) rfl hn129227 rp129228
      have k129349 := Kp.shut (I := I129267) (w := w129263) (p := .sl (.slice A129223 n129224 c129225) 41 2 n129224 cl129226)
      replace s := s.shut 1 rfl
      have sa129350 := s
      obtain ⟨hc129351, e129352⟩ := St.lend s (i := 1) rfl hn129235 (rp129236.st k129349)
      have k129353 := Kp.shut (I := (fun k => I129267 k ∨ (It.sl (.slice A129223 n129224 c129225) 41 2 n129224 cl129226).foot = some k)) (w := w129263) (p := .sl (.slice A129231 n129232 c129233) 27 1 n129232 cl129234)
      replace s := s.shut 1 rfl
      replace e129348 := e129348.st k129353
      have sa129354 := s
      obtain ⟨hc129355, e129356⟩ := St.lend s (i := 1) rfl hn129243 ((rp129244.st k129349).st k129353)
      have k129357 := Kp.shut (I := (fun k => (fun k => I129267 k ∨ (It.sl (.slice A129223 n129224 c129225) 41 2 n129224 cl129226).foot = some k) k ∨ (It.sl (.slice A129231 n129232 c129233) 27 1 n129232 cl129234).foot = some k)) (w := w129263) (p := .sl (.slice A129239 n129240 c129241) 3 1 n129240 cl129242)
      replace s := s.shut 1 rfl
      replace e129348 := e129348.st k129357
      replace e129352 := e129352.st k129357
      obtain ⟨x129358, hx129359, hf⟩ := bindS hf
      have hc129362 := c6 (F := (.blk b129130 (.cells #[.slice A129215 x129214.length c129216, .int .i64 x129219, .bool x129220] 72 (0, 0))) :: (.blk b129121 (.cells #[.bool x129221, .slice A129223 n129224 c129225, .slice A129231 n129232 c129233, .slice A129239 n129240 c129241] 26 (0, 0))) :: (.blk b129118 (.cells #[.bool false, .slice none 0 0, .slice none 0 0, .slice none 0 0] 26 (0, 0))) :: F) (T_api_Node.mk x129221 x129222 x129230 x129238) A129223 c129225 A129231 c129233 A129239 c129241 hc129347 e129348 hc129351 e129352 hc129355 e129356 s hx129359
      rw [← hn129227, ← hn129235, ← hn129243] at hc129362
      refine RW.op (by kernel_rfl) (OK.call' en6 (by kernel_rfl) (hc129362) ?_)
      intro X129363 hX129364
      refine fun _ _ hJ => hJ X129363 ?_
      clear s
      intro I129365 A129366 n129367 c129368 cl129369 w129360 s k129361 hn129370 rp129371
      refine hX129364 _ _ ?_
      have s' := St.back sa129354 (i := 1) rfl s k129361
      replace k129361 := Kp.back sa129354 (i := 1) rfl k129361
      replace s := s'; clear s'
      have s' := St.back sa129350 (i := 1) rfl s k129361
      replace k129361 := Kp.back sa129350 (i := 1) rfl k129361
      replace s := s'; clear s'
      have s' := St.back sa129346 (i := 1) rfl s k129361
      replace k129361 := Kp.back sa129346 (i := 1) rfl k129361
      replace s := s'; clear s'
      obtain ⟨I129376, s, k129361⟩ : ∃ I : Nat → Prop, St w0 M I ((.sl (.slice A129223 n129224 c129225) 41 2 n129224 cl129226) :: (.sl (.slice A129231 n129232 c129233) 27 1 n129232 cl129234) :: (.sl (.slice A129239 n129240 c129241) 3 1 n129240 cl129242) :: (.sl (.slice A129366 n129367 c129368) 5 1 n129367 cl129369) :: (.blk b129130 (.cells #[.slice A129215 x129214.length c129216, .int .i64 x129219, .bool x129220] 72 (0, 0))) :: (.blk b129121 (.cells #[.bool x129221, .slice A129223 n129224 c129225, .slice A129231 n129232 c129233, .slice A129239 n129240 c129241] 26 (0, 0))) :: (.blk b129118 (.cells #[.bool false, .slice none 0 0, .slice none 0 0, .slice none 0 0] 26 (0, 0))) :: F) w129360 ∧ Kp _ _ I _ := ⟨_, s, k129361⟩
      replace rp129371 := RepL.free (I' := I129376) (w' := w129360) free_int rp129371
      replace e129116 := e129116.st k129361
      replace e129218 := e129218.st k129361
      replace rp129228 := rp129228.st k129361
      replace rp129236 := rp129236.st k129361
      replace rp129244 := rp129244.st k129361
      replace kk := kk.trans k129361
      refine RW.seg hT 7 [] [] [.tuple #[.int .i64 x129358.1, .slice A129366 n129367 c129368, .int .i64 x129358.2.2], .int .i64 x129358.1, .slice A129366 n129367 c129368, .int .i64 x129358.2.2, .int .i64 x129358.1, .slice A129366 n129367 c129368, .int .i64 x129358.2.2] [] (by kernel_rfl) (trivial) ?_
      refine RW.nil ?_
      refine WPK.seq ?_
      refine WPK.region ?_
      refine RW.seg hT 2 [] [(34, .bool (decide (x129358.2.2 ≠ 0)))] [.int .i64 x129358.2.2, .bool (decide (x129358.2.2 ≠ 0))] [.veq (.bool (x129358.2.2 != 0)) (.bool (decide (x129358.2.2 ≠ 0)))] (by kernel_rfl) (ne_v) ?_
      by_cases h129392 : x129358.2.2 ≠ 0
      · have hf := iteT h129392 hf
        refine RW.seg hT 6 [] [(35, .bool true)] [.bool true, undef, undef, undef, undef, .bool true] [.veq (.bool (decide (x129358.2.2 ≠ 0))) (.bool true)] (by kernel_rfl) (bo_t h129392) ?_
        refine RW.nil ?_
        refine WPK.condT (by kernel_rfl) ?_
        refine WPK.seq ?_
        refine WPK.region ?_
        refine RW.seg hT 1 [] [] [.agg #[.bool false, .slice none 0 0, .slice none 0 0, .slice none 0 0]] [] (by kernel_rfl) (trivial) ?_
        refine RW.op (by kernel_rfl) (OK.store hT (i := 6) (b := b129118) (off := 0) (n := 4) (vs := [.bool false, .slice none 0 0, .slice none 0 0, .slice none 0 0]) (cs := [.bool false, .slice none 0 0, .slice none 0 0, .slice none 0 0]) (e := 26) s (by kernel_rfl) rfl rfl (flat_ok rfl) (Nat.le_of_ble_eq_true rfl) ?_)
        clear s
        rintro w129393 s k129394 -
        replace e129116 := e129116.st k129394
        replace e129218 := e129218.st k129394
        replace rp129228 := rp129228.st k129394
        replace rp129236 := rp129236.st k129394
        replace rp129244 := rp129244.st k129394
        replace rp129371 := rp129371.st k129394
        replace kk := kk.trans k129394
        refine RW.seg hT 1 [] [] [.int .i64 100] [] (by kernel_rfl) (trivial) ?_
        refine RW.nil ?_
        refine WPK.ret (?_)
        obtain rfl := someS hf
        refine Fin.of (rs := [.cell 4 26, .tmp 5]) hT [.agg #[.bool false, .slice none 0 0, .slice none 0 0, .slice none 0 0]] (.tuple #[.agg #[.bool false, .slice none 0 0, .slice none 0 0, .slice none 0 0], .int .i64 100]) [.cells ⟨b129118, 0, none⟩ [.bool false, .slice none 0 0, .slice none 0 0, .slice none 0 0] 4] rfl (by kernel_rfl) (s.cells (i := 6) rfl rfl rfl) ?_
        replace s := s.pushNil 41 2
        replace s := s.pushNil 27 1
        replace s := s.pushNil 3 1
        replace s := s.pick [2, 1, 0] 10 rfl
        exact fun X h => vc rfl (h I129376 none 0 0 [] none 0 0 [] none 0 0 [] _ s kk rfl (RepL.nil (r := rp_T_api_Pair)) rfl (RepL.nil (r := (Rp.slice (Rp.int .u8)))) rfl (RepL.nil (r := (Rp.int .i64))))
      · have hf := iteF h129392 hf
        refine RW.seg hT 3 [] [(35, .bool false)] [.bool false, .slice A129113 p1.length c129114, .slice A129366 n129367 c129368] [.veq (.bool (decide (x129358.2.2 ≠ 0))) (.bool false)] (by kernel_rfl) (bo_f h129392) ?_
        have sa129398 := s
        obtain ⟨hc129399, e129400⟩ := St.lend s (i := 3) rfl hn129370 rp129371
        have k129401 := Kp.shut (I := I129376) (w := w129360) (p := .sl (.slice A129366 n129367 c129368) 5 1 n129367 cl129369)
        replace s := s.shut 3 rfl
        obtain ⟨x129402, hx129403, hf⟩ := bindS hf
        have hc129406 := c11 (F := (.sl (.slice A129223 n129224 c129225) 41 2 n129224 cl129226) :: (.sl (.slice A129231 n129232 c129233) 27 1 n129232 cl129234) :: (.sl (.slice A129239 n129240 c129241) 3 1 n129240 cl129242) :: (.blk b129130 (.cells #[.slice A129215 x129214.length c129216, .int .i64 x129219, .bool x129220] 72 (0, 0))) :: (.blk b129121 (.cells #[.bool x129221, .slice A129223 n129224 c129225, .slice A129231 n129232 c129233, .slice A129239 n129240 c129241] 26 (0, 0))) :: (.blk b129118 (.cells #[.bool false, .slice none 0 0, .slice none 0 0, .slice none 0 0] 26 (0, 0))) :: F) p1 x129358.2.1 A129113 c129114 A129366 c129368 hc129115 (e129116.st k129401) hc129399 e129400 s hx129403
        rw [← hn129370] at hc129406
        refine RW.op (by kernel_rfl) (OK.call' en11 (by kernel_rfl) (hc129406) ?_)
        intro X129407 hX129408
        refine fun _ _ hJ => hJ X129407 ?_
        clear s
        intro I129409 w129404 s k129405
        refine hX129408 _ _ ?_
        have s' := St.back sa129398 (i := 3) rfl s k129405
        replace k129405 := Kp.back sa129398 (i := 3) rfl k129405
        replace s := s'; clear s'
        obtain ⟨I129411, s, k129405⟩ : ∃ I : Nat → Prop, St w0 M I ((.sl (.slice A129366 n129367 c129368) 5 1 n129367 cl129369) :: (.sl (.slice A129223 n129224 c129225) 41 2 n129224 cl129226) :: (.sl (.slice A129231 n129232 c129233) 27 1 n129232 cl129234) :: (.sl (.slice A129239 n129240 c129241) 3 1 n129240 cl129242) :: (.blk b129130 (.cells #[.slice A129215 x129214.length c129216, .int .i64 x129219, .bool x129220] 72 (0, 0))) :: (.blk b129121 (.cells #[.bool x129221, .slice A129223 n129224 c129225, .slice A129231 n129232 c129233, .slice A129239 n129240 c129241] 26 (0, 0))) :: (.blk b129118 (.cells #[.bool false, .slice none 0 0, .slice none 0 0, .slice none 0 0] 26 (0, 0))) :: F) w129404 ∧ Kp _ _ I _ := ⟨_, s, k129405⟩
        replace e129116 := e129116.st k129405
        replace e129218 := e129218.st k129405
        replace rp129228 := rp129228.st k129405
        replace rp129236 := rp129236.st k129405
        replace rp129244 := rp129244.st k129405
        replace rp129371 := rp129371.st k129405
        replace kk := kk.trans k129405
        refine RW.seg hT 2 [] [(39, .bool (decide (¬ (x129402 = true))))] [.bool (decide (¬ (x129402 = true))), .bool (decide (¬ (x129402 = true)))] [.veq (.bool (!x129402)) (.bool (decide (¬ (x129402 = true))))] (by kernel_rfl) (not_b) ?_
        refine RW.nil ?_
        by_cases h129412 : ¬ (x129402 = true)
        · have hf := iteT h129412 hf
          refine WPK.condT (Eq.trans (b := .bool (decide (¬ (x129402 = true)))) (by kernel_rfl) (bo_t h129412)) ?_
          refine WPK.seq ?_
          refine WPK.region ?_
          refine RW.seg hT 1 [] [] [.agg #[.bool false, .slice none 0 0, .slice none 0 0, .slice none 0 0]] [] (by kernel_rfl) (trivial) ?_
          refine RW.op (by kernel_rfl) (OK.store hT (i := 6) (b := b129118) (off := 0) (n := 4) (vs := [.bool false, .slice none 0 0, .slice none 0 0, .slice none 0 0]) (cs := [.bool false, .slice none 0 0, .slice none 0 0, .slice none 0 0]) (e := 26) s (by kernel_rfl) rfl rfl (flat_ok rfl) (Nat.le_of_ble_eq_true rfl) ?_)
          clear s
          rintro w129413 s k129414 -
          replace e129116 := e129116.st k129414
          replace e129218 := e129218.st k129414
          replace rp129371 := rp129371.st k129414
          replace rp129228 := rp129228.st k129414
          replace rp129236 := rp129236.st k129414
          replace rp129244 := rp129244.st k129414
          replace kk := kk.trans k129414
          refine RW.seg hT 1 [] [] [.int .i64 100] [] (by kernel_rfl) (trivial) ?_
          refine RW.nil ?_
          refine WPK.ret (?_)
          obtain rfl := someS hf
          refine Fin.of (rs := [.cell 4 26, .tmp 5]) hT [.agg #[.bool false, .slice none 0 0, .slice none 0 0, .slice none 0 0]] (.tuple #[.agg #[.bool false, .slice none 0 0, .slice none 0 0, .slice none 0 0], .int .i64 100]) [.cells ⟨b129118, 0, none⟩ [.bool false, .slice none 0 0, .slice none 0 0, .slice none 0 0] 4] rfl (by kernel_rfl) (s.cells (i := 6) rfl rfl rfl) ?_
          replace s := s.pushNil 41 2
          replace s := s.pushNil 27 1
          replace s := s.pushNil 3 1
          replace s := s.pick [2, 1, 0] 10 rfl
          exact fun X h => vc rfl (h I129411 none 0 0 [] none 0 0 [] none 0 0 [] _ s kk rfl (RepL.nil (r := rp_T_api_Pair)) rfl (RepL.nil (r := (Rp.slice (Rp.int .u8)))) rfl (RepL.nil (r := (Rp.int .i64))))
        · have hf := iteF h129412 hf
          refine WPK.condF (Eq.trans (b := .bool (decide (¬ (x129402 = true)))) (by kernel_rfl) (bo_f h129412)) ?_
          refine WPK.skip ?_
          refine WPK.seq ?_
          refine WPK.region ?_
          refine RW.seg hT 1 [.agg #[.bool x129221, .slice A129223 n129224 c129225, .slice A129231 n129232 c129233, .slice A129239 n129240 c129241]] [] [.agg #[.bool x129221, .slice A129223 n129224 c129225, .slice A129231 n129232 c129233, .slice A129239 n129240 c129241]] [.cells ⟨b129121, 0, none⟩ [.bool x129221, .slice A129223 n129224 c129225, .slice A129231 n129232 c129233, .slice A129239 n129240 c129241] 4] (by kernel_rfl) (s.cells (i := 5) rfl rfl rfl) ?_
          refine RW.op (by kernel_rfl) (OK.store hT (i := 6) (b := b129118) (off := 0) (n := 4) (vs := [.bool x129221, .slice A129223 n129224 c129225, .slice A129231 n129232 c129233, .slice A129239 n129240 c129241]) (cs := [.bool false, .slice none 0 0, .slice none 0 0, .slice none 0 0]) (e := 26) s (by kernel_rfl) rfl rfl (flat_ok rfl) (Nat.le_of_ble_eq_true rfl) ?_)
          clear s
          rintro w129418 s k129419 -
          replace e129116 := e129116.st k129419
          replace e129218 := e129218.st k129419
          replace rp129371 := rp129371.st k129419
          replace rp129228 := rp129228.st k129419
          replace rp129236 := rp129236.st k129419
          replace rp129244 := rp129244.st k129419
          replace kk := kk.trans k129419
          refine RW.seg hT 1 [] [] [.int .i64 0] [] (by kernel_rfl) (trivial) ?_
          refine RW.nil ?_
          refine WPK.ret (?_)
          obtain rfl := someS hf
          refine Fin.of (rs := [.cell 4 26, .tmp 5]) hT [.agg #[.bool x129221, .slice A129223 n129224 c129225, .slice A129231 n129232 c129233, .slice A129239 n129240 c129241]] (.tuple #[.agg #[.bool x129221, .slice A129223 n129224 c129225, .slice A129231 n129232 c129233, .slice A129239 n129240 c129241], .int .i64 0]) [.cells ⟨b129118, 0, none⟩ [.bool x129221, .slice A129223 n129224 c129225, .slice A129231 n129232 c129233, .slice A129239 n129240 c129241] 4] rfl (by kernel_rfl) (s.cells (i := 6) rfl rfl rfl) ?_
          replace s := s.pick [1, 2, 3] 7 rfl
          exact fun X h => vc rfl (h I129411 A129223 n129224 c129225 cl129226 A129231 n129232 c129233 cl129234 A129239 n129240 c129241 cl129242 _ s kk hn129227 rp129228 hn129235 rp129236 hn129243 rp129244)
  · refine WPK.seq ?_
    refine WPK.region ?_
    refine RW.seg hT 1 [] [] [.int .i64 p0] [] (by kernel_rfl) (trivial) ?_
    refine RW.nil ?_
    refine WPK.block ?_
    refine WPK.seq ?_
    refine WPK.region ?_
    refine RW.seg hT 2 [] [(16, .bool (decide (p0 = 3)))] [.bool (decide (p0 = 3)), .bool (decide (p0 = 3))] [.veq (.bool (p0 == 3)) (.bool (decide (p0 = 3)))] (by kernel_rfl) (eq_v) ?_
    refine RW.nil ?_
    by_cases h129422 : p0 = 3
    · have hf := iteT h129422 hf
      refine WPK.condT (Eq.trans (b := .bool (decide (p0 = 3))) (by kernel_rfl) (bo_t h129422)) ?_
      refine WPK.region ?_
      refine RW.seg hT 1 [] [] [.pointer (some ⟨b129130, 0, none⟩)] [] (by kernel_rfl) (trivial) ?_
      obtain ⟨x129423, hx129424, hf⟩ := bindS hf
      refine RW.op (by kernel_rfl) (OK.call' en18 (by kernel_rfl) (c18 (F := (.blk b129121 (.cells #[.bool false, .slice none 0 0, .slice none 0 0, .slice none 0 0] 26 (0, 0))) :: (.blk b129118 (.cells #[.bool false, .slice none 0 0, .slice none 0 0, .slice none 0 0] 26 (0, 0))) :: F) x129123 b129130 A129131 n129132 c129133 cl129134 hn129135 rp129136 s hx129424) ?_)
      intro X129427 hX129428
      refine fun _ _ hJ => hJ X129427 ?_
      clear s
      intro I129429 A129430 n129431 c129432 cl129433 A129437 n129438 c129439 cl129440 A129444 n129445 c129446 cl129447 A129451 c129452 w129425 s k129426 hn129434 rp129435 hn129441 rp129442 hn129448 rp129449 hc129453 e129454
      refine hX129428 _ _ ?_
      replace e129116 := e129116.st k129426
      replace rp129136 := rp129136.st k129426
      replace kk := kk.trans k129426
      refine RW.op (by kernel_rfl) (OK.store hT (i := 4) (b := b129121) (off := 0) (n := 4) (vs := [.bool x129423.1.Leaf, .slice A129430 n129431 c129432, .slice A129437 n129438 c129439, .slice A129444 n129445 c129446]) (cs := [.bool false, .slice none 0 0, .slice none 0 0, .slice none 0 0]) (e := 26) s (by kernel_rfl) rfl rfl (flat_ok rfl) (Nat.le_of_ble_eq_true rfl) ?_)
      clear s
      rintro w129455 s k129456 -
      replace e129116 := e129116.st k129456
      replace e129454 := e129454.st k129456
      replace rp129435 := rp129435.st k129456
      replace rp129442 := rp129442.st k129456
      replace rp129449 := rp129449.st k129456
      replace kk := kk.trans k129456
      refine RW.nil ?_
      exact fun X h => kc (by kernel_rfl) rfl (h I129429 x129423.2.b x129423.2.err x129423.2.made x129423.1.Leaf x129423.1.Pairs x129423.1.Keys x129423.1.Kids [.int .i64 p0, undef, undef, undef, .slice A129113 p1.length c129114, .pointer (some ⟨b129130, 0, none⟩), .int .i64 p0, undef, .bool (decide (p0 = 3)), .bool (decide (p0 = 3)), .pointer (some ⟨b129130, 0, none⟩), .agg #[.bool x129423.1.Leaf, .slice A129430 n129431 c129432, .slice A129437 n129438 c129439, .slice A129444 n129445 c129446], undef, undef, undef, undef] A129451 c129452 A129430 n129431 c129432 cl129433 A129437 n129438 c129439 cl129440 A129444 n129445 c129446 cl129447 _ hf s kk e129116 hc129453 e129454 hn129434 rp129435 hn129441 rp129442 hn129448 rp129449)
    · have hf := iteF h129422 hf
      refine WPK.condF (Eq.trans (b := .bool (decide (p0 = 3))) (by kernel_rfl) (bo_f h129422)) ?_
      refine WPK.seq ?_
      refine WPK.region ?_
      refine RW.seg hT 2 [] [(20, .bool (decide (p0 = 4)))] [.bool (decide (p0 = 4)), .bool (decide (p0 = 4))] [.veq (.bool (p0 == 4)) (.bool (decide (p0 = 4)))] (by kernel_rfl) (eq_v) ?_
      refine RW.nil ?_
      by_cases h129457 : p0 = 4
      · have hf := iteT h129457 hf
        refine WPK.condT (Eq.trans (b := .bool (decide (p0 = 4))) (by kernel_rfl) (bo_t h129457)) ?_
        refine WPK.region ?_
        refine RW.seg hT 1 [] [] [.pointer (some ⟨b129130, 0, none⟩)] [] (by kernel_rfl) (trivial) ?_
        obtain ⟨x129458, hx129459, hf⟩ := bindS hf
        refine RW.op (by kernel_rfl) (OK.call' en19 (by kernel_rfl) (c19 (F := (.blk b129121 (.cells #[.bool false, .slice none 0 0, .slice none 0 0, .slice none 0 0] 26 (0, 0))) :: (.blk b129118 (.cells #[.bool false, .slice none 0 0, .slice none 0 0, .slice none 0 0] 26 (0, 0))) :: F) x129123 b129130 A129131 n129132 c129133 cl129134 hn129135 rp129136 s hx129459) ?_)
        intro X129462 hX129463
        refine fun _ _ hJ => hJ X129462 ?_
        clear s
        intro I129464 A129465 n129466 c129467 cl129468 A129472 n129473 c129474 cl129475 A129479 n129480 c129481 cl129482 A129486 c129487 w129460 s k129461 hn129469 rp129470 hn129476 rp129477 hn129483 rp129484 hc129488 e129489
        refine hX129463 _ _ ?_
        replace e129116 := e129116.st k129461
        replace rp129136 := rp129136.st k129461
        replace kk := kk.trans k129461
        refine RW.op (by kernel_rfl) (OK.store hT (i := 4) (b := b129121) (off := 0) (n := 4) (vs := [.bool x129458.1.Leaf, .slice A129465 n129466 c129467, .slice A129472 n129473 c129474, .slice A129479 n129480 c129481]) (cs := [.bool false, .slice none 0 0, .slice none 0 0, .slice none 0 0]) (e := 26) s (by kernel_rfl) rfl rfl (flat_ok rfl) (Nat.le_of_ble_eq_true rfl) ?_)
        clear s
        rintro w129490 s k129491 -
        replace e129116 := e129116.st k129491
        replace e129489 := e129489.st k129491
        replace rp129470 := rp129470.st k129491
        replace rp129477 := rp129477.st k129491
        replace rp129484 := rp129484.st k129491
        replace kk := kk.trans k129491
        refine RW.nil ?_
        exact fun X h => kc (by kernel_rfl) rfl (h I129464 x129458.2.b x129458.2.err x129458.2.made x129458.1.Leaf x129458.1.Pairs x129458.1.Keys x129458.1.Kids [.int .i64 p0, undef, undef, undef, .slice A129113 p1.length c129114, .pointer (some ⟨b129130, 0, none⟩), .int .i64 p0, undef, .bool (decide (p0 = 3)), .bool (decide (p0 = 3)), undef, undef, .bool (decide (p0 = 4)), .bool (decide (p0 = 4)), .pointer (some ⟨b129130, 0, none⟩), .agg #[.bool x129458.1.Leaf, .slice A129465 n129466 c129467, .slice A129472 n129473 c129474, .slice A129479 n129480 c129481]] A129486 c129487 A129465 n129466 c129467 cl129468 A129472 n129473 c129474 cl129475 A129479 n129480 c129481 cl129482 _ hf s kk e129116 hc129488 e129489 hn129469 rp129470 hn129476 rp129477 hn129483 rp129484)
      · have hf := iteF h129457 hf
        refine WPK.condF (Eq.trans (b := .bool (decide (p0 = 4))) (by kernel_rfl) (bo_f h129457)) ?_
        refine WPK.seq ?_
        refine WPK.region ?_
        refine RW.seg hT 1 [.agg #[.bool false, .slice none 0 0, .slice none 0 0, .slice none 0 0]] [] [.agg #[.bool false, .slice none 0 0, .slice none 0 0, .slice none 0 0]] [.cells ⟨b129121, 0, none⟩ [.bool false, .slice none 0 0, .slice none 0 0, .slice none 0 0] 4] (by kernel_rfl) (s.cells (i := 2) rfl rfl rfl) ?_
        refine RW.op (by kernel_rfl) (OK.store hT (i := 3) (b := b129118) (off := 0) (n := 4) (vs := [.bool false, .slice none 0 0, .slice none 0 0, .slice none 0 0]) (cs := [.bool false, .slice none 0 0, .slice none 0 0, .slice none 0 0]) (e := 26) s (by kernel_rfl) rfl rfl (flat_ok rfl) (Nat.le_of_ble_eq_true rfl) ?_)
        clear s
        rintro w129492 s k129493 -
        replace e129116 := e129116.st k129493
        replace rp129136 := rp129136.st k129493
        replace kk := kk.trans k129493
        refine RW.seg hT 1 [] [] [.int .i64 42] [] (by kernel_rfl) (trivial) ?_
        refine RW.nil ?_
        refine WPK.ret (blockQ.ret (?_))
        obtain rfl := someS hf
        refine Fin.of (rs := [.cell 4 26, .tmp 5]) hT [.agg #[.bool false, .slice none 0 0, .slice none 0 0, .slice none 0 0]] (.tuple #[.agg #[.bool false, .slice none 0 0, .slice none 0 0, .slice none 0 0], .int .i64 42]) [.cells ⟨b129118, 0, none⟩ [.bool false, .slice none 0 0, .slice none 0 0, .slice none 0 0] 4] rfl (by kernel_rfl) (s.cells (i := 3) rfl rfl rfl) ?_
        replace s := s.pushNil 41 2
        replace s := s.pushNil 27 1
        replace s := s.pushNil 3 1
        replace s := s.pick [2, 1, 0] 7 rfl
        exact fun X h => vc rfl (h I129129 none 0 0 [] none 0 0 [] none 0 0 [] _ s kk rfl (RepL.nil (r := rp_T_api_Pair)) rfl (RepL.nil (r := (Rp.slice (Rp.int .u8)))) rfl (RepL.nil (r := (Rp.int .i64))))
theorem c21 {w0 w : World} {M I : Nat → Prop} {F : List It} (p0 : T_api_Pair) (p1 : T_api_Pair) (A129717 : Option Addr) (c129718 : Nat) (A129721 : Option Addr) (c129722 : Nat) (A129725 : Option Addr) (c129726 : Nat) (A129729 : Option Addr) (c129730 : Nat) (hc129719 : (p0.Key.length ≤ c129718 ∧ c129718 ≤ 9223372036854775807)) (e129720 : Elems (Rp.int .u8) I w A129717 p0.Key) (hc129723 : (p0.Val.length ≤ c129722 ∧ c129722 ≤ 9223372036854775807)) (e129724 : Elems (Rp.int .u8) I w A129721 p0.Val) (hc129727 : (p1.Key.length ≤ c129726 ∧ c129726 ≤ 9223372036854775807)) (e129728 : Elems (Rp.int .u8) I w A129725 p1.Key) (hc129731 : (p1.Val.length ≤ c129730 ∧ c129730 ≤ 9223372036854775807)) (e129732 : Elems (Rp.int .u8) I w A129729 p1.Val) (s : St w0 M I (F) w) {r : Bool} (hf : g21 p0 p1 = some r) :
    Ret Tryd.prog 21 [.agg #[.slice A129717 p0.Key.length c129718, .slice A129721 p0.Val.length c129722], .agg #[.slice A129725 p1.Key.length c129726, .slice A129729 p1.Val.length c129730]] w fun v wz => ∀ X : Value → World → Prop, (∀ (I' : Nat → Prop) (w' : World), St w0 M I' (F) w' → Kp I w I' w' → X (.bool r) w') → X v wz := by
  have kk : Kp I w I w := Kp.refl
  unfold g21 at hf
  refine Ret.of Tryd.func21 rfl ?_
  refine WPK.seq ?_
  refine WPK.region ?_
  refine RW.op (by kernel_rfl) (OK.new hT (f := fun b => .pointer (some ⟨b, 0, none⟩)) (cs := [.slice A129717 p0.Key.length c129718, .slice A129721 p0.Val.length c129722]) (e := 41) (c := .tt) s (by kernel_rfl) trivial ?_)
  clear s
  rintro w129733 b129734 s k129735 -
  replace e129720 := e129720.st k129735
  replace e129724 := e129724.st k129735
  replace e129728 := e129728.st k129735
  replace e129732 := e129732.st k129735
  replace kk := kk.trans k129735
  refine RW.op (by kernel_rfl) (OK.new hT (f := fun b => .pointer (some ⟨b, 0, none⟩)) (cs := [.slice A129725 p1.Key.length c129726, .slice A129729 p1.Val.length c129730]) (e := 41) (c := .tt) s (by kernel_rfl) trivial ?_)
  clear s
  rintro w129736 b129737 s k129738 -
  replace e129720 := e129720.st k129738
  replace e129724 := e129724.st k129738
  replace e129728 := e129728.st k129738
  replace e129732 := e129732.st k129738
  replace kk := kk.trans k129738
  refine RW.seg hT 1 [] [] [.bool false] [] (by kernel_rfl) (trivial) ?_
  refine RW.nil ?_
  refine WPK.seq ?_
  refine WPK.region ?_
  refine RW.seg hT 4 [.slice A129717 p0.Key.length c129718, .slice A129725 p1.Key.length c129726] [] [.pointer (some ⟨b129734, 0, none⟩), .slice A129717 p0.Key.length c129718, .pointer (some ⟨b129737, 0, none⟩), .slice A129725 p1.Key.length c129726] [.cell ⟨b129734, 0, none⟩ (.slice A129717 p0.Key.length c129718), .cell ⟨b129737, 0, none⟩ (.slice A129725 p1.Key.length c129726)] (by kernel_rfl) (⟨s.cell (i := 1) (off := 0) rfl rfl, s.cell (i := 0) (off := 0) rfl rfl⟩) ?_
  obtain ⟨x129754, hx129755, hf⟩ := bindS hf
  refine RW.op (by kernel_rfl) (OK.call' en11 (by kernel_rfl) (c11 (F := (.blk b129737 (.cells #[.slice A129725 p1.Key.length c129726, .slice A129729 p1.Val.length c129730] 41 (0, 0))) :: (.blk b129734 (.cells #[.slice A129717 p0.Key.length c129718, .slice A129721 p0.Val.length c129722] 41 (0, 0))) :: F) p0.Key p1.Key A129717 c129718 A129725 c129726 hc129719 e129720 hc129727 e129728 s hx129755) ?_)
  intro X129758 hX129759
  refine fun _ _ hJ => hJ X129758 ?_
  clear s
  intro I129760 w129756 s k129757
  refine hX129759 _ _ ?_
  replace e129720 := e129720.st k129757
  replace e129724 := e129724.st k129757
  replace e129728 := e129728.st k129757
  replace e129732 := e129732.st k129757
  replace kk := kk.trans k129757
  by_cases h129761 : x129754 = true
  · have hf := iteT h129761 hf
    refine RW.seg hT 5 [.slice A129721 p0.Val.length c129722, .slice A129729 p1.Val.length c129730] [(10, .bool true)] [.bool true, .pointer (some ⟨b129734, 1, none⟩), .slice A129721 p0.Val.length c129722, .pointer (some ⟨b129737, 1, none⟩), .slice A129729 p1.Val.length c129730] [.veq (.bool (x129754)) (.bool true), .cell ⟨b129734, 1, none⟩ (.slice A129721 p0.Val.length c129722), .cell ⟨b129737, 1, none⟩ (.slice A129729 p1.Val.length c129730)] (by kernel_rfl) (⟨b_t h129761, s.cell (i := 1) (off := 1) rfl rfl, s.cell (i := 0) (off := 1) rfl rfl⟩) ?_
    obtain ⟨x129762, hx129763, hf⟩ := bindS hf
    refine RW.op (by kernel_rfl) (OK.call' en11 (by kernel_rfl) (c11 (F := (.blk b129737 (.cells #[.slice A129725 p1.Key.length c129726, .slice A129729 p1.Val.length c129730] 41 (0, 0))) :: (.blk b129734 (.cells #[.slice A129717 p0.Key.length c129718, .slice A129721 p0.Val.length c129722] 41 (0, 0))) :: F) p0.Val p1.Val A129721 c129722 A129729 c129730 hc129723 e129724 hc129731 e129732 s hx129763) ?_)
    intro X129766 hX129767
    refine fun _ _ hJ => hJ X129766 ?_
    clear s
    intro I129768 w129764 s k129765
    refine hX129767 _ _ ?_
    replace e129720 := e129720.st k129765
    replace e129724 := e129724.st k129765
    replace e129728 := e129728.st k129765
    replace e129732 := e129732.st k129765
    replace kk := kk.trans k129765
    refine RW.seg hT 2 [] [] [.bool x129762, .bool x129762] [] (by kernel_rfl) (trivial) ?_
    refine RW.nil ?_
    refine WPK.ret (?_)
    obtain rfl := someS hf
    refine Fin.of (rs := [.tmp 4]) hT [] (.bool x129762) [] rfl (by kernel_rfl) (trivial) ?_
    replace s := s.pick [] 2 rfl
    exact fun X h => vc rfl (h I129768 _ s kk)
  · have hf := iteF h129761 hf
    refine RW.seg hT 8 [] [(10, .bool false)] [.bool false, undef, undef, undef, undef, undef, .bool false, .bool false] [.veq (.bool (x129754)) (.bool false)] (by kernel_rfl) (b_f h129761) ?_
    refine RW.nil ?_
    refine WPK.ret (?_)
    obtain rfl := someS hf
    refine Fin.of (rs := [.tmp 4]) hT [] (.bool false) [] rfl (by kernel_rfl) (trivial) ?_
    replace s := s.pick [] 2 rfl
    exact fun X h => vc rfl (h I129760 _ s kk)
theorem c24 {w0 w : World} {M I : Nat → Prop} {F : List It} (p0 : (List Int)) (p1 : (List Int)) (A131340 : Option Addr) (c131341 : Nat) (A131344 : Option Addr) (c131345 : Nat) (hc131342 : (p0.length ≤ c131341 ∧ c131341 ≤ 9223372036854775807)) (e131343 : Elems (Rp.int .i64) I w A131340 p0) (hc131346 : (p1.length ≤ c131345 ∧ c131345 ≤ 9223372036854775807)) (e131347 : Elems (Rp.int .i64) I w A131344 p1) (s : St w0 M I (F) w) {r : Bool} (hf : g24 p0 p1 = some r) :
    Ret Tryd.prog 24 [.slice A131340 p0.length c131341, .slice A131344 p1.length c131345] w fun v wz => ∀ X : Value → World → Prop, (∀ (I' : Nat → Prop) (w' : World), St w0 M I' (F) w' → Kp I w I' w' → X (.bool r) w') → X v wz := by
  have kk : Kp I w I w := Kp.refl
  unfold g24 at hf
  refine Ret.of Tryd.func24 rfl ?_
  refine WPK.seq ?_
  refine WPK.region ?_
  refine RW.seg hT 1 [] [] [.bool false] [] (by kernel_rfl) (trivial) ?_
  refine RW.nil ?_
  refine WPK.seq ?_
  refine WPK.seq ?_
  refine WPK.region ?_
  refine RW.seg hT 5 [] [(10, .bool (decide ((p0.length : Int) ≠ (p1.length : Int))))] [.slice A131340 p0.length c131341, .int .i64 (p0.length : Int), .slice A131344 p1.length c131345, .int .i64 (p1.length : Int), .bool (decide ((p0.length : Int) ≠ (p1.length : Int)))] [.veq (.bool ((p0.length : Int) != (p1.length : Int))) (.bool (decide ((p0.length : Int) ≠ (p1.length : Int))))] (by kernel_rfl) (ne_v) ?_
  refine RW.nil ?_
  by_cases h131349 : (p0.length : Int) ≠ (p1.length : Int)
  · have hf := iteT h131349 hf
    refine WPK.condT (Eq.trans (b := .bool (decide ((p0.length : Int) ≠ (p1.length : Int)))) (by kernel_rfl) (bo_t h131349)) ?_
    refine WPK.seq ?_
    refine WPK.region ?_
    refine RW.seg hT 1 [] [] [.bool false] [] (by kernel_rfl) (trivial) ?_
    refine RW.nil ?_
    refine WPK.ret (?_)
    obtain rfl := someS hf
    refine Fin.of (rs := [.tmp 4]) hT [] (.bool false) [] rfl (by kernel_rfl) (trivial) ?_
    exact fun X h => vc rfl (h I _ s kk)
  · have hf := iteF h131349 hf
    refine WPK.condF (Eq.trans (b := .bool (decide ((p0.length : Int) ≠ (p1.length : Int)))) (by kernel_rfl) (bo_f h131349)) ?_
    refine WPK.skip ?_
    refine WPK.seq ?_
    refine WPK.seq ?_
    refine WPK.region ?_
    refine RW.seg hT 3 [] [] [.slice A131340 p0.length c131341, .int .i64 (p0.length : Int), .int .i64 0] [] (by kernel_rfl) (trivial) ?_
    refine RW.nil ?_
    refine WPK.block ?_
    refine WPK.loop' (J := fun n131616 E ds wz => ∀ X : Kont, (∀ (I131564 : Nat → Prop) (x131562 : Int) (D131561 : List Value) (w' : World), g24_l1 p0 p1 n131616 x131562 = some r → St w0 M I131564 (F) w' → Kp I w I131564 w' → Elems (Rp.int .i64) I131564 w' A131340 p0 → Elems (Rp.int .i64) I131564 w' A131344 p1 → X [.slice A131340 p0.length c131341, .slice A131344 p1.length c131345, (D131561.getD 0 undef), (D131561.getD 1 undef), .bool false, (D131561.getD 2 undef), (D131561.getD 3 undef), (D131561.getD 4 undef), (D131561.getD 5 undef), (D131561.getD 6 undef), (D131561.getD 7 undef), (D131561.getD 8 undef), .int .i64 (p0.length : Int), .int .i64 x131562, (D131561.getD 9 undef), (D131561.getD 10 undef), (D131561.getD 11 undef), (D131561.getD 12 undef), (D131561.getD 13 undef), (D131561.getD 14 undef), (D131561.getD 15 undef), (D131561.getD 16 undef), (D131561.getD 17 undef), (D131561.getD 18 undef), (D131561.getD 19 undef), (D131561.getD 20 undef)] [] w') → X E ds wz) FUEL (fun X h => kc (by kernel_rfl) rfl (h I 0 [undef, undef, undef, .slice A131340 p0.length c131341, .int .i64 (p0.length : Int), .slice A131344 p1.length c131345, .int .i64 (p1.length : Int), .bool (decide ((p0.length : Int) ≠ (p1.length : Int))), .slice A131340 p0.length c131341, undef, undef, undef, undef, undef, undef, undef, undef, undef, undef, undef, undef] _ hf s kk e131343 e131347)) (fun _ _ _ hJ => hJ (fun _ _ _ => False) (by intro I131564 x131562 D131561 w131563 hf s kk e131343 e131347; exact noneS hf)) ?_
    intro X131668 hX131669
    refine fun n131616 _ _ _ hJ => hJ (X131668 n131616) ?_
    clear s
    intro I131564 x131562 D131561 w131563 hf s kk e131343 e131347
    refine hX131669 _ _ _ _ ?_
    replace hf : g24_l1B p0 p1 (g24_l1 p0 p1 n131616) x131562 = some r := hf
    generalize hrec131617 : g24_l1 p0 p1 n131616 = rec131615 at hf
    unfold g24_l1B at hf
    refine WPK.seq ?_
    refine WPK.region ?_
    refine RW.seg hT 1 [] [] [.bool (decide (x131562 < (p0.length : Int)))] [] (by kernel_rfl) (trivial) ?_
    refine RW.nil ?_
    refine WPK.seq ?_
    by_cases h131619 : x131562 < (p0.length : Int)
    · have hf := iteT h131619 hf
      refine WPK.condT (Eq.trans (b := .bool (decide (x131562 < (p0.length : Int)))) (by kernel_rfl) (bo_t h131619)) ?_
      refine WPK.skip ?_
      refine WPK.seq ?_
      refine WPK.block ?_
      refine WPK.seq ?_
      refine WPK.region ?_
      refine RW.seg hT 2 [] [] [.int .i64 x131562, .int .i64 x131562] [] (by kernel_rfl) (trivial) ?_
      refine RW.nil ?_
      refine WPK.seq ?_
      have e131343S131644 := e131343
      have e131347S131644 := e131347
      have kS131648 : Kp I131564 w131563 I131564 w131563 := Kp.refl
      refine WPK.draw (fun w' => ∃ I' : Nat → Prop, St w0 M I' (F) w' ∧ Kp I131564 w131563 I' w') 9 (by kernel_rfl) ?_
      intro w131645 hd131646
      have k131647 := Kp.dr s hd131646
      replace s := s.dr hd131646
      replace e131343 := e131343.st k131647
      replace e131347 := e131347.st k131647
      replace kk := kk.trans k131647
      replace kS131648 := kS131648.trans k131647
      obtain ⟨x131649, hx131650, hf⟩ := bindS hf
      obtain ⟨h131651, hx131650⟩ := getS hx131650
      obtain ⟨b131652, o131653, rfl⟩ := Elems.opn e131343 hx131650
      obtain ⟨cs131654, hr131655, ha131656, hb131657⟩ := Elems.getI e131343S131644 hx131650
      obtain rfl : cs131654 = [.int .i64 x131649] := hr131655
      obtain ⟨x131658, hx131659, hf⟩ := bindS hf
      obtain ⟨h131660, hx131659⟩ := getS hx131659
      obtain ⟨b131661, o131662, rfl⟩ := Elems.opn e131347 hx131659
      obtain ⟨cs131663, hr131664, ha131665, hb131666⟩ := Elems.getI e131347S131644 hx131659
      obtain rfl : cs131663 = [.int .i64 x131658] := hr131664
      refine RD.seg hT (by kernel_rfl) [0, 1, 2, 3, 4, 5, 6, 7, 8] [.int .i64 x131649, .int .i64 x131658] [(24, .bool (decide (x131649 ≠ x131658)))] [.slice (some ⟨b131652, o131653, none⟩) p0.length c131341, .int .i64 x131562, .pointer (some ⟨b131652, o131653 + x131562.toNat * 1, none⟩), .int .i64 x131649, .slice (some ⟨b131661, o131662, none⟩) p1.length c131345, .int .i64 x131562, .pointer (some ⟨b131661, o131662 + x131562.toNat * 1, none⟩), .int .i64 x131658, .bool (decide (x131649 ≠ x131658))] [.idx x131562 p0.length, .cell ⟨b131652, o131653 + x131562.toNat * 1, none⟩ (.int .i64 x131649), .idx x131562 p1.length, .cell ⟨b131661, o131662 + x131562.toNat * 1, none⟩ (.int .i64 x131658), .veq (.bool (x131649 != x131658)) (.bool (decide (x131649 ≠ x131658)))] (by kernel_rfl) (by rintro w' ⟨I', s, k⟩; have e131343 := e131343S131644.st k; have e131347 := e131347S131644.st k; have ha131656 := ha131656.st k hb131657; have ha131665 := ha131665.st k hb131666; exact ⟨h131651, ha131656 0 _ rfl, h131660, ha131665 0 _ rfl, ne_v⟩) ⟨_, s.pick [] 0 rfl, kS131648⟩ ?_
      refine RD.done (by kernel_rfl) ?_
      by_cases h131667 : x131649 ≠ x131658
      · have hf := iteT h131667 hf
        refine WPK.condT (Eq.trans (b := .bool (decide (x131649 ≠ x131658))) (by kernel_rfl) (bo_t h131667)) ?_
        refine WPK.seq ?_
        refine WPK.region ?_
        refine RW.seg hT 1 [] [] [.bool false] [] (by kernel_rfl) (trivial) ?_
        refine RW.nil ?_
        refine WPK.ret (blockQ.ret (blockQ.ret (?_)))
        obtain rfl := someS hf
        refine Fin.of (rs := [.tmp 4]) hT [] (.bool false) [] rfl (by kernel_rfl) (trivial) ?_
        exact fun X h => vc rfl (h I131564 _ s kk)
      · have hf := iteF h131667 hf
        refine WPK.condF (Eq.trans (b := .bool (decide (x131649 ≠ x131658))) (by kernel_rfl) (bo_f h131667)) ?_
        refine WPK.skip ?_
        refine WPK.region ?_
        refine RW.seg hT 2 [] [] [.int .i64 (IntKind.i64.wrap (x131562 + 1)), .int .i64 (IntKind.i64.wrap (x131562 + 1))] [] (by kernel_rfl) (trivial) ?_
        refine RW.nil ?_
        subst hrec131617
        exact ⟨n131616, Nat.le_refl _, fun X h => kc (by kernel_rfl) rfl (h I131564 (IntKind.i64.wrap (x131562 + 1)) [(D131561.getD 0 undef), (D131561.getD 1 undef), .int .i64 x131562, (D131561.getD 3 undef), (D131561.getD 4 undef), (D131561.getD 5 undef), (D131561.getD 6 undef), (D131561.getD 7 undef), (D131561.getD 8 undef), .bool (decide (x131562 < (p0.length : Int))), .int .i64 x131562, .slice (some ⟨b131652, o131653, none⟩) p0.length c131341, .int .i64 x131562, .pointer (some ⟨b131652, o131653 + x131562.toNat * 1, none⟩), .int .i64 x131649, .slice (some ⟨b131661, o131662, none⟩) p1.length c131345, .int .i64 x131562, .pointer (some ⟨b131661, o131662 + x131562.toNat * 1, none⟩), .int .i64 x131658, .bool (decide (x131649 ≠ x131658)), .int .i64 (IntKind.i64.wrap (x131562 + 1))] _ hf s kk e131343 e131347)⟩
    · have hf := iteF h131619 hf
      refine WPK.condF (Eq.trans (b := .bool (decide (x131562 < (p0.length : Int)))) (by kernel_rfl) (bo_f h131619)) ?_
      refine WPK.exit (blockQ.same ?_)
      refine WPK.seq ?_
      refine WPK.region ?_
      refine RW.seg hT 1 [] [] [.bool true] [] (by kernel_rfl) (trivial) ?_
      refine RW.nil ?_
      refine WPK.ret (?_)
      obtain rfl := someS hf
      refine Fin.of (rs := [.tmp 4]) hT [] (.bool true) [] rfl (by kernel_rfl) (trivial) ?_
      exact fun X h => vc rfl (h I131564 _ s kk)
theorem c8 {w0 w : World} {M I : Nat → Prop} {F : List It} (p0 : T_api_Node) (p1 : T_api_Node) (A135581 : Option Addr) (c135582 : Nat) (A135585 : Option Addr) (c135586 : Nat) (A135589 : Option Addr) (c135590 : Nat) (A135593 : Option Addr) (c135594 : Nat) (A135597 : Option Addr) (c135598 : Nat) (A135601 : Option Addr) (c135602 : Nat) (hc135583 : (p0.Pairs.length ≤ c135582 ∧ c135582 ≤ 9223372036854775807)) (e135584 : Elems rp_T_api_Pair I w A135581 p0.Pairs) (hc135587 : (p0.Keys.length ≤ c135586 ∧ c135586 ≤ 9223372036854775807)) (e135588 : Elems (Rp.slice (Rp.int .u8)) I w A135585 p0.Keys) (hc135591 : (p0.Kids.length ≤ c135590 ∧ c135590 ≤ 9223372036854775807)) (e135592 : Elems (Rp.int .i64) I w A135589 p0.Kids) (hc135595 : (p1.Pairs.length ≤ c135594 ∧ c135594 ≤ 9223372036854775807)) (e135596 : Elems rp_T_api_Pair I w A135593 p1.Pairs) (hc135599 : (p1.Keys.length ≤ c135598 ∧ c135598 ≤ 9223372036854775807)) (e135600 : Elems (Rp.slice (Rp.int .u8)) I w A135597 p1.Keys) (hc135603 : (p1.Kids.length ≤ c135602 ∧ c135602 ≤ 9223372036854775807)) (e135604 : Elems (Rp.int .i64) I w A135601 p1.Kids) (s : St w0 M I (F) w) {r : Bool} (hf : g8 p0 p1 = some r) :
    Ret Tryd.prog 8 [.agg #[.bool p0.Leaf, .slice A135581 p0.Pairs.length c135582, .slice A135585 p0.Keys.length c135586, .slice A135589 p0.Kids.length c135590], .agg #[.bool p1.Leaf, .slice A135593 p1.Pairs.length c135594, .slice A135597 p1.Keys.length c135598, .slice A135601 p1.Kids.length c135602]] w fun v wz => ∀ X : Value → World → Prop, (∀ (I' : Nat → Prop) (w' : World), St w0 M I' (F) w' → Kp I w I' w' → X (.bool r) w') → X v wz := by
  have kk : Kp I w I w := Kp.refl
  unfold g8 at hf
  refine Ret.of Tryd.func8 rfl ?_
  refine WPK.seq ?_
  refine WPK.region ?_
  refine RW.op (by kernel_rfl) (OK.new hT (f := fun b => .pointer (some ⟨b, 0, none⟩)) (cs := [.bool p0.Leaf, .slice A135581 p0.Pairs.length c135582, .slice A135585 p0.Keys.length c135586, .slice A135589 p0.Kids.length c135590]) (e := 26) (c := .tt) s (by kernel_rfl) trivial ?_)
  clear s
  rintro w135605 b135606 s k135607 -
  replace e135584 := e135584.st k135607
  replace e135588 := e135588.st k135607
  replace e135592 := e135592.st k135607
  replace e135596 := e135596.st k135607
  replace e135600 := e135600.st k135607
  replace e135604 := e135604.st k135607
  replace kk := kk.trans k135607
  refine RW.op (by kernel_rfl) (OK.new hT (f := fun b => .pointer (some ⟨b, 0, none⟩)) (cs := [.bool p1.Leaf, .slice A135593 p1.Pairs.length c135594, .slice A135597 p1.Keys.length c135598, .slice A135601 p1.Kids.length c135602]) (e := 26) (c := .tt) s (by kernel_rfl) trivial ?_)
  clear s
  rintro w135608 b135609 s k135610 -
  replace e135584 := e135584.st k135610
  replace e135588 := e135588.st k135610
  replace e135592 := e135592.st k135610
  replace e135596 := e135596.st k135610
  replace e135600 := e135600.st k135610
  replace e135604 := e135604.st k135610
  replace kk := kk.trans k135610
  refine RW.seg hT 1 [] [] [.bool false] [] (by kernel_rfl) (trivial) ?_
  refine RW.nil ?_
  refine WPK.seq ?_
  refine WPK.region ?_
  refine RW.seg hT 1 [] [] [.func (.func 21) #[] #[]] [] (by kernel_rfl) (trivial) ?_
  refine RW.nil ?_
  refine WPK.seq ?_
  refine WPK.cut' (Kn fun E ds wz => ∀ X : Kont, (∀ (I138220 : Nat → Prop) (x138218 : Bool) (D138217 : List Value) (w' : World), g8_j1 x138218 = some r → St w0 M I138220 (F) w' → Kp I w I138220 w' → X [(D138217.getD 0 undef), (D138217.getD 1 undef), (D138217.getD 2 undef), (D138217.getD 3 undef), .bool x138218, (D138217.getD 4 undef), (D138217.getD 5 undef), (D138217.getD 6 undef), (D138217.getD 7 undef), (D138217.getD 8 undef), (D138217.getD 9 undef), (D138217.getD 10 undef), (D138217.getD 11 undef), (D138217.getD 12 undef), (D138217.getD 13 undef), (D138217.getD 14 undef), (D138217.getD 15 undef), (D138217.getD 16 undef), (D138217.getD 17 undef), (D138217.getD 18 undef), (D138217.getD 19 undef), (D138217.getD 20 undef), (D138217.getD 21 undef), (D138217.getD 22 undef), (D138217.getD 23 undef), (D138217.getD 24 undef), (D138217.getD 25 undef), (D138217.getD 26 undef), (D138217.getD 27 undef), (D138217.getD 28 undef), (D138217.getD 29 undef), (D138217.getD 30 undef), (D138217.getD 31 undef)] [] w') → X E ds wz) ?_ ?_
  · intro X138221 hX138222
    refine fun _ _ _ hJ => hJ X138221 ?_
    clear s
    intro I138220 x138218 D138217 w138219 hf s kk
    refine hX138222 _ _ _ ?_
    unfold g8_j1 at hf
    refine WPK.ret (?_)
    obtain rfl := someS hf
    refine Fin.of (rs := [.tmp 4]) hT [] (.bool x138218) [] rfl (by kernel_rfl) (trivial) ?_
    exact fun X h => vc rfl (h I138220 _ s kk)
  · refine WPK.region ?_
    refine RW.seg hT 5 [.bool p0.Leaf, .bool p1.Leaf] [(10, .bool (decide (p0.Leaf = p1.Leaf)))] [.pointer (some ⟨b135606, 0, none⟩), .bool p0.Leaf, .pointer (some ⟨b135609, 0, none⟩), .bool p1.Leaf, .bool (decide (p0.Leaf = p1.Leaf))] [.cell ⟨b135606, 0, none⟩ (.bool p0.Leaf), .cell ⟨b135609, 0, none⟩ (.bool p1.Leaf), .veq (.bool (p0.Leaf == p1.Leaf)) (.bool (decide (p0.Leaf = p1.Leaf)))] (by kernel_rfl) (⟨s.cell (i := 1) (off := 0) rfl rfl, s.cell (i := 0) (off := 0) rfl rfl, beq_v⟩) ?_
    by_cases h138223 : p0.Leaf = p1.Leaf
    · have hf := iteT h138223 hf
      refine RW.seg hT 6 [.slice A135581 p0.Pairs.length c135582, .slice A135593 p1.Pairs.length c135594] [(11, .bool true)] [.bool true, .pointer (some ⟨b135606, 1, none⟩), .slice A135581 p0.Pairs.length c135582, .pointer (some ⟨b135609, 1, none⟩), .slice A135593 p1.Pairs.length c135594, .func (.func 21) #[] #[]] [.veq (.bool (decide (p0.Leaf = p1.Leaf))) (.bool true), .cell ⟨b135606, 1, none⟩ (.slice A135581 p0.Pairs.length c135582), .cell ⟨b135609, 1, none⟩ (.slice A135593 p1.Pairs.length c135594)] (by kernel_rfl) (⟨bo_t h138223, s.cell (i := 1) (off := 1) rfl rfl, s.cell (i := 0) (off := 1) rfl rfl⟩) ?_
      refine RW.op (by kernel_rfl) (OK.inl (args := [.slice A135581 p0.Pairs.length c135582, .slice A135593 p1.Pairs.length c135594, .func (.func 21) #[] #[]]) en22 (by kernel_rfl) ?_)
      intro R138224 hR138225
      refine Ret.cut (fun v wz => ∀ X : Value → World → Prop, (∀ (I139055 : Nat → Prop) (x139053 : Bool) (w' : World), g8_j2 p0 p1 x139053 = some r → St w0 M I139055 ((.blk b135609 (.cells #[.bool p1.Leaf, .slice A135593 p1.Pairs.length c135594, .slice A135597 p1.Keys.length c135598, .slice A135601 p1.Kids.length c135602] 26 (0, 0))) :: (.blk b135606 (.cells #[.bool p0.Leaf, .slice A135581 p0.Pairs.length c135582, .slice A135585 p0.Keys.length c135586, .slice A135589 p0.Kids.length c135590] 26 (0, 0))) :: F) w' → Kp I w I139055 w' → Elems rp_T_api_Pair I139055 w' A135593 p1.Pairs → Elems (Rp.slice (Rp.int .u8)) I139055 w' A135597 p1.Keys → Elems (Rp.int .i64) I139055 w' A135601 p1.Kids → Elems rp_T_api_Pair I139055 w' A135581 p0.Pairs → Elems (Rp.slice (Rp.int .u8)) I139055 w' A135585 p0.Keys → Elems (Rp.int .i64) I139055 w' A135589 p0.Kids → X (.bool x139053) w') → X v wz) ?_ ?_
      · refine fun _ _ hJ => hJ R138224 ?_
        clear s
        intro I139055 x139053 w139054 hf s kk e135596 e135600 e135604 e135584 e135588 e135592
        refine hR138225 _ _ ?_
        unfold g8_j2 at hf
        refine RW.seg hT 1 [] [] [.bool x139053] [] (by kernel_rfl) (trivial) ?_
        by_cases h139056 : x139053 = true
        · have hf := iteT h139056 hf
          refine RW.seg hT 5 [.slice A135585 p0.Keys.length c135586, .slice A135597 p1.Keys.length c135598] [(19, .bool true)] [.bool true, .pointer (some ⟨b135606, 2, none⟩), .slice A135585 p0.Keys.length c135586, .pointer (some ⟨b135609, 2, none⟩), .slice A135597 p1.Keys.length c135598] [.veq (.bool (x139053)) (.bool true), .cell ⟨b135606, 2, none⟩ (.slice A135585 p0.Keys.length c135586), .cell ⟨b135609, 2, none⟩ (.slice A135597 p1.Keys.length c135598)] (by kernel_rfl) (⟨b_t h139056, s.cell (i := 1) (off := 2) rfl rfl, s.cell (i := 0) (off := 2) rfl rfl⟩) ?_
          refine RW.op (by kernel_rfl) (OK.inl (args := [.slice A135585 p0.Keys.length c135586, .slice A135597 p1.Keys.length c135598, .func (.func 11) #[] #[]]) en23 (by kernel_rfl) ?_)
          intro R139057 hR139058
          refine Ret.cut (fun v wz => ∀ X : Value → World → Prop, (∀ (I139528 : Nat → Prop) (x139526 : Bool) (w' : World), g8_j3 p0 p1 x139526 = some r → St w0 M I139528 ((.blk b135609 (.cells #[.bool p1.Leaf, .slice A135593 p1.Pairs.length c135594, .slice A135597 p1.Keys.length c135598, .slice A135601 p1.Kids.length c135602] 26 (0, 0))) :: (.blk b135606 (.cells #[.bool p0.Leaf, .slice A135581 p0.Pairs.length c135582, .slice A135585 p0.Keys.length c135586, .slice A135589 p0.Kids.length c135590] 26 (0, 0))) :: F) w' → Kp I w I139528 w' → Elems rp_T_api_Pair I139528 w' A135593 p1.Pairs → Elems (Rp.slice (Rp.int .u8)) I139528 w' A135597 p1.Keys → Elems (Rp.int .i64) I139528 w' A135601 p1.Kids → Elems rp_T_api_Pair I139528 w' A135581 p0.Pairs → Elems (Rp.slice (Rp.int .u8)) I139528 w' A135585 p0.Keys → Elems (Rp.int .i64) I139528 w' A135589 p0.Kids → X (.bool x139526) w') → X v wz) ?_ ?_
          · refine fun _ _ hJ => hJ R139057 ?_
            clear s
            intro I139528 x139526 w139527 hf s kk e135596 e135600 e135604 e135584 e135588 e135592
            refine hR139058 _ _ ?_
            unfold g8_j3 at hf
            refine RW.seg hT 1 [] [] [.bool x139526] [] (by kernel_rfl) (trivial) ?_
            by_cases h139529 : x139526 = true
            · have hf := iteT h139529 hf
              refine RW.seg hT 5 [.slice A135589 p0.Kids.length c135590, .slice A135601 p1.Kids.length c135602] [(26, .bool true)] [.bool true, .pointer (some ⟨b135606, 3, none⟩), .slice A135589 p0.Kids.length c135590, .pointer (some ⟨b135609, 3, none⟩), .slice A135601 p1.Kids.length c135602] [.veq (.bool (x139526)) (.bool true), .cell ⟨b135606, 3, none⟩ (.slice A135589 p0.Kids.length c135590), .cell ⟨b135609, 3, none⟩ (.slice A135601 p1.Kids.length c135602)] (by kernel_rfl) (⟨b_t h139529, s.cell (i := 1) (off := 3) rfl rfl, s.cell (i := 0) (off := 3) rfl rfl⟩) ?_
              obtain ⟨x139530, hx139531, hf⟩ := bindS hf
              refine RW.op (by kernel_rfl) (OK.call' en24 (by kernel_rfl) (c24 (F := (.blk b135609 (.cells #[.bool p1.Leaf, .slice A135593 p1.Pairs.length c135594, .slice A135597 p1.Keys.length c135598, .slice A135601 p1.Kids.length c135602] 26 (0, 0))) :: (.blk b135606 (.cells #[.bool p0.Leaf, .slice A135581 p0.Pairs.length c135582, .slice A135585 p0.Keys.length c135586, .slice A135589 p0.Kids.length c135590] 26 (0, 0))) :: F) p0.Kids p1.Kids A135589 c135590 A135601 c135602 hc135591 e135592 hc135603 e135604 s hx139531) ?_)
              intro X139534 hX139535
              refine fun _ _ hJ => hJ X139534 ?_
              clear s
              intro I139536 w139532 s k139533
              refine hX139535 _ _ ?_
              replace e135592 := e135592.st k139533
              replace e135604 := e135604.st k139533
              replace e135596 := e135596.st k139533
              replace e135600 := e135600.st k139533
              replace e135584 := e135584.st k139533
              replace e135588 := e135588.st k139533
              replace kk := kk.trans k139533
              refine RW.seg hT 2 [] [] [.bool x139530, .bool x139530] [] (by kernel_rfl) (trivial) ?_
              refine RW.nil ?_
              replace s := s.pick [] 2 rfl
              exact fun X h => kc (by kernel_rfl) rfl (h I139536 x139530 [((.agg #[.bool p0.Leaf, .slice A135581 p0.Pairs.length c135582, .slice A135585 p0.Keys.length c135586, .slice A135589 p0.Kids.length c135590])), ((.agg #[.bool p1.Leaf, .slice A135593 p1.Pairs.length c135594, .slice A135597 p1.Keys.length c135598, .slice A135601 p1.Kids.length c135602])), .pointer (some ⟨b135606, 0, none⟩), .pointer (some ⟨b135609, 0, none⟩), ((.func (.func 21) #[] #[])), ((.pointer (some ⟨b135606, 0, none⟩))), ((.bool p0.Leaf)), ((.pointer (some ⟨b135609, 0, none⟩))), ((.bool p1.Leaf)), ((.bool (decide (p0.Leaf = p1.Leaf)))), (.bool true), ((.pointer (some ⟨b135606, 1, none⟩))), ((.slice A135581 p0.Pairs.length c135582)), ((.pointer (some ⟨b135609, 1, none⟩))), ((.slice A135593 p1.Pairs.length c135594)), ((.func (.func 21) #[] #[])), (.bool x139053), (.bool x139053), .bool true, (.pointer (some ⟨b135606, 2, none⟩)), (.slice A135585 p0.Keys.length c135586), (.pointer (some ⟨b135609, 2, none⟩)), (.slice A135597 p1.Keys.length c135598), .bool x139526, .bool x139526, .bool true, .pointer (some ⟨b135606, 3, none⟩), .slice A135589 p0.Kids.length c135590, .pointer (some ⟨b135609, 3, none⟩), .slice A135601 p1.Kids.length c135602, .bool x139530, .bool x139530] _ hf s kk)
            · have hf := iteF h139529 hf
              refine RW.seg hT 8 [] [(26, .bool false)] [.bool false, undef, undef, undef, undef, undef, .bool false, .bool false] [.veq (.bool (x139526)) (.bool false)] (by kernel_rfl) (b_f h139529) ?_
              refine RW.nil ?_
              replace s := s.pick [] 2 rfl
              exact fun X h => kc (by kernel_rfl) rfl (h I139528 false [((.agg #[.bool p0.Leaf, .slice A135581 p0.Pairs.length c135582, .slice A135585 p0.Keys.length c135586, .slice A135589 p0.Kids.length c135590])), ((.agg #[.bool p1.Leaf, .slice A135593 p1.Pairs.length c135594, .slice A135597 p1.Keys.length c135598, .slice A135601 p1.Kids.length c135602])), .pointer (some ⟨b135606, 0, none⟩), .pointer (some ⟨b135609, 0, none⟩), ((.func (.func 21) #[] #[])), ((.pointer (some ⟨b135606, 0, none⟩))), ((.bool p0.Leaf)), ((.pointer (some ⟨b135609, 0, none⟩))), ((.bool p1.Leaf)), ((.bool (decide (p0.Leaf = p1.Leaf)))), (.bool true), ((.pointer (some ⟨b135606, 1, none⟩))), ((.slice A135581 p0.Pairs.length c135582)), ((.pointer (some ⟨b135609, 1, none⟩))), ((.slice A135593 p1.Pairs.length c135594)), ((.func (.func 21) #[] #[])), (.bool x139053), (.bool x139053), .bool true, (.pointer (some ⟨b135606, 2, none⟩)), (.slice A135585 p0.Keys.length c135586), (.pointer (some ⟨b135609, 2, none⟩)), (.slice A135597 p1.Keys.length c135598), .bool x139526, .bool x139526, .bool false, undef, undef, undef, undef, undef, .bool false] _ hf s kk)
          · refine Ret.of Tryd.func23 rfl ?_
            refine WPK.seq ?_
            refine WPK.region ?_
            refine RW.seg hT 1 [] [] [.bool false] [] (by kernel_rfl) (trivial) ?_
            refine RW.nil ?_
            refine WPK.seq ?_
            refine WPK.seq ?_
            refine WPK.region ?_
            refine RW.seg hT 5 [] [(14, .bool (decide ((p0.Keys.length : Int) ≠ (p1.Keys.length : Int))))] [.slice A135585 p0.Keys.length c135586, .int .i64 (p0.Keys.length : Int), .slice A135597 p1.Keys.length c135598, .int .i64 (p1.Keys.length : Int), .bool (decide ((p0.Keys.length : Int) ≠ (p1.Keys.length : Int)))] [.veq (.bool ((p0.Keys.length : Int) != (p1.Keys.length : Int))) (.bool (decide ((p0.Keys.length : Int) ≠ (p1.Keys.length : Int))))] (by kernel_rfl) (ne_v) ?_
            refine RW.nil ?_
            by_cases h139538 : (p0.Keys.length : Int) ≠ (p1.Keys.length : Int)
            · have hf := iteT h139538 hf
              refine WPK.condT (Eq.trans (b := .bool (decide ((p0.Keys.length : Int) ≠ (p1.Keys.length : Int)))) (by kernel_rfl) (bo_t h139538)) ?_
              refine WPK.seq ?_
              refine WPK.region ?_
              refine RW.seg hT 1 [] [] [.bool false] [] (by kernel_rfl) (trivial) ?_
              refine RW.nil ?_
              refine WPK.ret (?_)
              refine Fin.of (rs := [.tmp 6]) hT [] (.bool false) [] rfl (by kernel_rfl) (trivial) ?_
              exact fun X h => vc rfl (h I139055 false _ hf s kk e135596 e135600 e135604 e135584 e135588 e135592)
            · have hf := iteF h139538 hf
              refine WPK.condF (Eq.trans (b := .bool (decide ((p0.Keys.length : Int) ≠ (p1.Keys.length : Int)))) (by kernel_rfl) (bo_f h139538)) ?_
              refine WPK.skip ?_
              refine WPK.seq ?_
              refine WPK.seq ?_
              refine WPK.region ?_
              refine RW.seg hT 3 [] [] [.slice A135585 p0.Keys.length c135586, .int .i64 (p0.Keys.length : Int), .int .i64 0] [] (by kernel_rfl) (trivial) ?_
              refine RW.nil ?_
              refine WPK.block ?_
              refine WPK.loop' (J := fun n139925 E ds wz => ∀ X : Kont, (∀ (I139849 : Nat → Prop) (x139847 : Int) (D139846 : List Value) (w' : World), g8_l4 p0 p1 n139925 x139847 = some r → St w0 M I139849 ((.blk b135609 (.cells #[.bool p1.Leaf, .slice A135593 p1.Pairs.length c135594, .slice A135597 p1.Keys.length c135598, .slice A135601 p1.Kids.length c135602] 26 (0, 0))) :: (.blk b135606 (.cells #[.bool p0.Leaf, .slice A135581 p0.Pairs.length c135582, .slice A135585 p0.Keys.length c135586, .slice A135589 p0.Kids.length c135590] 26 (0, 0))) :: F) w' → Kp I w I139849 w' → Elems (Rp.slice (Rp.int .u8)) I139849 w' A135597 p1.Keys → Elems (Rp.slice (Rp.int .u8)) I139849 w' A135585 p0.Keys → Elems rp_T_api_Pair I139849 w' A135593 p1.Pairs → Elems (Rp.int .i64) I139849 w' A135601 p1.Kids → Elems rp_T_api_Pair I139849 w' A135581 p0.Pairs → Elems (Rp.int .i64) I139849 w' A135589 p0.Kids → X [(D139846.getD 0 undef), .slice A135597 p1.Keys.length c135598, .func (.func 11) #[] #[], (D139846.getD 1 undef), (D139846.getD 2 undef), (D139846.getD 3 undef), .bool false, (D139846.getD 4 undef), (D139846.getD 5 undef), (D139846.getD 6 undef), (D139846.getD 7 undef), (D139846.getD 8 undef), (D139846.getD 9 undef), (D139846.getD 10 undef), (D139846.getD 11 undef), .slice A135585 p0.Keys.length c135586, .int .i64 (p0.Keys.length : Int), .int .i64 x139847, (D139846.getD 12 undef), (D139846.getD 13 undef), (D139846.getD 14 undef), (D139846.getD 15 undef), (D139846.getD 16 undef), (D139846.getD 17 undef), (D139846.getD 18 undef), (D139846.getD 19 undef), (D139846.getD 20 undef), (D139846.getD 21 undef), (D139846.getD 22 undef), (D139846.getD 23 undef), (D139846.getD 24 undef), (D139846.getD 25 undef)] [] w') → X E ds wz) FUEL (fun X h => kc (by kernel_rfl) rfl (h I139055 0 [.slice A135585 p0.Keys.length c135586, undef, undef, undef, undef, undef, undef, .slice A135585 p0.Keys.length c135586, .int .i64 (p0.Keys.length : Int), .slice A135597 p1.Keys.length c135598, .int .i64 (p1.Keys.length : Int), .bool (decide ((p0.Keys.length : Int) ≠ (p1.Keys.length : Int))), undef, undef, undef, undef, undef, undef, undef, undef, undef, undef, undef, undef, undef, undef] _ hf s kk e135600 e135588 e135596 e135604 e135584 e135592)) (fun _ _ _ hJ => hJ (fun _ _ _ => False) (by intro I139849 x139847 D139846 w139848 hf s kk e135600 e135588 e135596 e135604 e135584 e135592; exact noneS hf)) ?_
              intro X140001 hX140002
              refine fun n139925 _ _ _ hJ => hJ (X140001 n139925) ?_
              clear s
              intro I139849 x139847 D139846 w139848 hf s kk e135600 e135588 e135596 e135604 e135584 e135592
              refine hX140002 _ _ _ _ ?_
              replace hf : g8_l4B p0 p1 (g8_l4 p0 p1 n139925) x139847 = some r := hf
              generalize hrec139926 : g8_l4 p0 p1 n139925 = rec139924 at hf
              unfold g8_l4B at hf
              refine WPK.seq ?_
              refine WPK.region ?_
              refine RW.seg hT 1 [] [] [.bool (decide (x139847 < (p0.Keys.length : Int)))] [] (by kernel_rfl) (trivial) ?_
              refine RW.nil ?_
              refine WPK.seq ?_
              by_cases h139928 : x139847 < (p0.Keys.length : Int)
              · have hf := iteT h139928 hf
                refine WPK.condT (Eq.trans (b := .bool (decide (x139847 < (p0.Keys.length : Int)))) (by kernel_rfl) (bo_t h139928)) ?_
                refine WPK.skip ?_
                refine WPK.seq ?_
                refine WPK.block ?_
                refine WPK.seq ?_
                refine WPK.region ?_
                obtain ⟨x139965, hx139966, hf⟩ := bindS hf
                obtain ⟨h139967, hx139966⟩ := getS hx139966
                obtain ⟨b139968, o139969, rfl⟩ := Elems.opn e135588 hx139966
                obtain ⟨cs139970, hr139971, ha139972⟩ := Elems.get e135588 hx139966
                obtain ⟨A139973, c139974, rfl, q139975, q139976, e139977⟩ := hr139971
                have hc139978 := And.intro q139975 q139976
                refine RW.seg hT 5 [.slice A139973 x139965.length c139974] [] [.int .i64 x139847, .pointer (some ⟨b139968, o139969 + x139847.toNat * 1, none⟩), .slice A139973 x139965.length c139974, .int .i64 x139847, .slice A139973 x139965.length c139974] [.idx x139847 p0.Keys.length, .cell ⟨b139968, o139969 + x139847.toNat * 1, none⟩ (.slice A139973 x139965.length c139974)] (by kernel_rfl) (⟨h139967, ha139972 0 _ rfl⟩) ?_
                refine RW.nil ?_
                refine WPK.seq ?_
                refine WPK.region ?_
                obtain ⟨x139979, hx139980, hf⟩ := bindS hf
                obtain ⟨h139981, hx139980⟩ := getS hx139980
                obtain ⟨b139982, o139983, rfl⟩ := Elems.opn e135600 hx139980
                obtain ⟨cs139984, hr139985, ha139986⟩ := Elems.get e135600 hx139980
                obtain ⟨A139987, c139988, rfl, q139989, q139990, e139991⟩ := hr139985
                have hc139992 := And.intro q139989 q139990
                refine RW.seg hT 5 [.slice A139987 x139979.length c139988] [] [.slice (some ⟨b139982, o139983, none⟩) p1.Keys.length c135598, .int .i64 x139847, .pointer (some ⟨b139982, o139983 + x139847.toNat * 1, none⟩), .slice A139987 x139979.length c139988, .slice A139987 x139979.length c139988] [.idx x139847 p1.Keys.length, .cell ⟨b139982, o139983 + x139847.toNat * 1, none⟩ (.slice A139987 x139979.length c139988)] (by kernel_rfl) (⟨h139981, ha139986 0 _ rfl⟩) ?_
                refine RW.nil ?_
                refine WPK.seq ?_
                refine WPK.region ?_
                refine RW.seg hT 3 [] [] [.func (.func 11) #[] #[], .slice A139973 x139965.length c139974, .slice A139987 x139979.length c139988] [] (by kernel_rfl) (trivial) ?_
                obtain ⟨x139993, hx139994, hf⟩ := bindS hf
                refine RW.op (by kernel_rfl) (OK.call' en11 (by kernel_rfl) (c11 (F := (.blk b135609 (.cells #[.bool p1.Leaf, .slice A135593 p1.Pairs.length c135594, .slice (some ⟨b139982, o139983, none⟩) p1.Keys.length c135598, .slice A135601 p1.Kids.length c135602] 26 (0, 0))) :: (.blk b135606 (.cells #[.bool p0.Leaf, .slice A135581 p0.Pairs.length c135582, .slice (some ⟨b139968, o139969, none⟩) p0.Keys.length c135586, .slice A135589 p0.Kids.length c135590] 26 (0, 0))) :: F) x139965 x139979 A139973 c139974 A139987 c139988 hc139978 e139977 hc139992 e139991 s hx139994) ?_)
                intro X139997 hX139998
                refine fun _ _ hJ => hJ X139997 ?_
                clear s
                intro I139999 w139995 s k139996
                refine hX139998 _ _ ?_
                replace e135600 := e135600.st k139996
                replace e139977 := e139977.st k139996
                replace e139991 := e139991.st k139996
                replace e135588 := e135588.st k139996
                replace e135596 := e135596.st k139996
                replace e135604 := e135604.st k139996
                replace e135584 := e135584.st k139996
                replace e135592 := e135592.st k139996
                replace kk := kk.trans k139996
                refine RW.seg hT 1 [] [(30, .bool (decide (¬ (x139993 = true))))] [.bool (decide (¬ (x139993 = true)))] [.veq (.bool (!x139993)) (.bool (decide (¬ (x139993 = true))))] (by kernel_rfl) (not_b) ?_
                refine RW.nil ?_
                by_cases h140000 : ¬ (x139993 = true)
                · have hf := iteT h140000 hf
                  refine WPK.condT (Eq.trans (b := .bool (decide (¬ (x139993 = true)))) (by kernel_rfl) (bo_t h140000)) ?_
                  refine WPK.seq ?_
                  refine WPK.region ?_
                  refine RW.seg hT 1 [] [] [.bool false] [] (by kernel_rfl) (trivial) ?_
                  refine RW.nil ?_
                  refine WPK.ret (blockQ.ret (blockQ.ret (?_)))
                  refine Fin.of (rs := [.tmp 6]) hT [] (.bool false) [] rfl (by kernel_rfl) (trivial) ?_
                  exact fun X h => vc rfl (h I139999 false _ hf s kk e135596 e135600 e135604 e135584 e135588 e135592)
                · have hf := iteF h140000 hf
                  refine WPK.condF (Eq.trans (b := .bool (decide (¬ (x139993 = true)))) (by kernel_rfl) (bo_f h140000)) ?_
                  refine WPK.skip ?_
                  refine WPK.region ?_
                  refine RW.seg hT 2 [] [] [.int .i64 (IntKind.i64.wrap (x139847 + 1)), .int .i64 (IntKind.i64.wrap (x139847 + 1))] [] (by kernel_rfl) (trivial) ?_
                  refine RW.nil ?_
                  subst hrec139926
                  exact ⟨n139925, Nat.le_refl _, fun X h => kc (by kernel_rfl) rfl (h I139999 (IntKind.i64.wrap (x139847 + 1)) [(D139846.getD 0 undef), (D139846.getD 1 undef), (D139846.getD 2 undef), (D139846.getD 3 undef), .int .i64 x139847, .slice A139973 x139965.length c139974, .slice A139987 x139979.length c139988, (D139846.getD 7 undef), (D139846.getD 8 undef), (D139846.getD 9 undef), (D139846.getD 10 undef), (D139846.getD 11 undef), .bool (decide (x139847 < (p0.Keys.length : Int))), .int .i64 x139847, .pointer (some ⟨b139968, o139969 + x139847.toNat * 1, none⟩), .slice A139973 x139965.length c139974, .slice (some ⟨b139982, o139983, none⟩) p1.Keys.length c135598, .int .i64 x139847, .pointer (some ⟨b139982, o139983 + x139847.toNat * 1, none⟩), .slice A139987 x139979.length c139988, .func (.func 11) #[] #[], .slice A139973 x139965.length c139974, .slice A139987 x139979.length c139988, .bool x139993, .bool (decide (¬ (x139993 = true))), .int .i64 (IntKind.i64.wrap (x139847 + 1))] _ hf s kk e135600 e135588 e135596 e135604 e135584 e135592)⟩
              · have hf := iteF h139928 hf
                refine WPK.condF (Eq.trans (b := .bool (decide (x139847 < (p0.Keys.length : Int)))) (by kernel_rfl) (bo_f h139928)) ?_
                refine WPK.exit (blockQ.same ?_)
                refine WPK.seq ?_
                refine WPK.region ?_
                refine RW.seg hT 1 [] [] [.bool true] [] (by kernel_rfl) (trivial) ?_
                refine RW.nil ?_
                refine WPK.ret (?_)
                refine Fin.of (rs := [.tmp 6]) hT [] (.bool true) [] rfl (by kernel_rfl) (trivial) ?_
                exact fun X h => vc rfl (h I139849 true _ hf s kk e135596 e135600 e135604 e135584 e135588 e135592)
        · have hf := iteF h139056 hf
          refine RW.seg hT 15 [] [(19, .bool false)] [.bool false, undef, undef, undef, undef, undef, .bool false, .bool false, undef, undef, undef, undef, undef, .bool false, .bool false] [.veq (.bool (x139053)) (.bool false)] (by kernel_rfl) (b_f h139056) ?_
          refine RW.nil ?_
          replace s := s.pick [] 2 rfl
          exact fun X h => kc (by kernel_rfl) rfl (h I139055 false [(.agg #[.bool p0.Leaf, .slice A135581 p0.Pairs.length c135582, .slice A135585 p0.Keys.length c135586, .slice A135589 p0.Kids.length c135590]), (.agg #[.bool p1.Leaf, .slice A135593 p1.Pairs.length c135594, .slice A135597 p1.Keys.length c135598, .slice A135601 p1.Kids.length c135602]), .pointer (some ⟨b135606, 0, none⟩), .pointer (some ⟨b135609, 0, none⟩), (.func (.func 21) #[] #[]), (.pointer (some ⟨b135606, 0, none⟩)), (.bool p0.Leaf), (.pointer (some ⟨b135609, 0, none⟩)), (.bool p1.Leaf), (.bool (decide (p0.Leaf = p1.Leaf))), .bool true, (.pointer (some ⟨b135606, 1, none⟩)), (.slice A135581 p0.Pairs.length c135582), (.pointer (some ⟨b135609, 1, none⟩)), (.slice A135593 p1.Pairs.length c135594), (.func (.func 21) #[] #[]), .bool x139053, .bool x139053, .bool false, undef, undef, undef, undef, undef, .bool false, .bool false, undef, undef, undef, undef, undef, .bool false] _ hf s kk)
      · refine Ret.of Tryd.func22 rfl ?_
        refine WPK.seq ?_
        refine WPK.region ?_
        refine RW.seg hT 1 [] [] [.bool false] [] (by kernel_rfl) (trivial) ?_
        refine RW.nil ?_
        refine WPK.seq ?_
        refine WPK.seq ?_
        refine WPK.region ?_
        refine RW.seg hT 5 [] [(14, .bool (decide ((p0.Pairs.length : Int) ≠ (p1.Pairs.length : Int))))] [.slice A135581 p0.Pairs.length c135582, .int .i64 (p0.Pairs.length : Int), .slice A135593 p1.Pairs.length c135594, .int .i64 (p1.Pairs.length : Int), .bool (decide ((p0.Pairs.length : Int) ≠ (p1.Pairs.length : Int)))] [.veq (.bool ((p0.Pairs.length : Int) != (p1.Pairs.length : Int))) (.bool (decide ((p0.Pairs.length : Int) ≠ (p1.Pairs.length : Int))))] (by kernel_rfl) (ne_v) ?_
        refine RW.nil ?_
        by_cases h140004 : (p0.Pairs.length : Int) ≠ (p1.Pairs.length : Int)
        · have hf := iteT h140004 hf
          refine WPK.condT (Eq.trans (b := .bool (decide ((p0.Pairs.length : Int) ≠ (p1.Pairs.length : Int)))) (by kernel_rfl) (bo_t h140004)) ?_
          refine WPK.seq ?_
          refine WPK.region ?_
          refine RW.seg hT 1 [] [] [.bool false] [] (by kernel_rfl) (trivial) ?_
          refine RW.nil ?_
          refine WPK.ret (?_)
          refine Fin.of (rs := [.tmp 6]) hT [] (.bool false) [] rfl (by kernel_rfl) (trivial) ?_
          exact fun X h => vc rfl (h I false _ hf s kk e135596 e135600 e135604 e135584 e135588 e135592)
        · have hf := iteF h140004 hf
          refine WPK.condF (Eq.trans (b := .bool (decide ((p0.Pairs.length : Int) ≠ (p1.Pairs.length : Int)))) (by kernel_rfl) (bo_f h140004)) ?_
          refine WPK.skip ?_
          refine WPK.seq ?_
          refine WPK.seq ?_
          refine WPK.region ?_
          refine RW.seg hT 3 [] [] [.slice A135581 p0.Pairs.length c135582, .int .i64 (p0.Pairs.length : Int), .int .i64 0] [] (by kernel_rfl) (trivial) ?_
          refine RW.nil ?_
          refine WPK.block ?_
          refine WPK.loop' (J := fun n140691 E ds wz => ∀ X : Kont, (∀ (I140555 : Nat → Prop) (x140553 : Int) (D140552 : List Value) (w' : World), g8_l5 p0 p1 n140691 x140553 = some r → St w0 M I140555 ((.blk b135609 (.cells #[.bool p1.Leaf, .slice A135593 p1.Pairs.length c135594, .slice A135597 p1.Keys.length c135598, .slice A135601 p1.Kids.length c135602] 26 (0, 0))) :: (.blk b135606 (.cells #[.bool p0.Leaf, .slice A135581 p0.Pairs.length c135582, .slice A135585 p0.Keys.length c135586, .slice A135589 p0.Kids.length c135590] 26 (0, 0))) :: F) w' → Kp I w I140555 w' → Elems rp_T_api_Pair I140555 w' A135593 p1.Pairs → Elems rp_T_api_Pair I140555 w' A135581 p0.Pairs → Elems (Rp.slice (Rp.int .u8)) I140555 w' A135597 p1.Keys → Elems (Rp.int .i64) I140555 w' A135601 p1.Kids → Elems (Rp.slice (Rp.int .u8)) I140555 w' A135585 p0.Keys → Elems (Rp.int .i64) I140555 w' A135589 p0.Kids → X [(D140552.getD 0 undef), .slice A135593 p1.Pairs.length c135594, .func (.func 21) #[] #[], (D140552.getD 1 undef), (D140552.getD 2 undef), (D140552.getD 3 undef), .bool false, (D140552.getD 4 undef), (D140552.getD 5 undef), (D140552.getD 6 undef), (D140552.getD 7 undef), (D140552.getD 8 undef), (D140552.getD 9 undef), (D140552.getD 10 undef), (D140552.getD 11 undef), .slice A135581 p0.Pairs.length c135582, .int .i64 (p0.Pairs.length : Int), .int .i64 x140553, (D140552.getD 12 undef), (D140552.getD 13 undef), (D140552.getD 14 undef), (D140552.getD 15 undef), (D140552.getD 16 undef), (D140552.getD 17 undef), (D140552.getD 18 undef), (D140552.getD 19 undef), (D140552.getD 20 undef), (D140552.getD 21 undef), (D140552.getD 22 undef), (D140552.getD 23 undef), (D140552.getD 24 undef), (D140552.getD 25 undef)] [] w') → X E ds wz) FUEL (fun X h => kc (by kernel_rfl) rfl (h I 0 [.slice A135581 p0.Pairs.length c135582, undef, undef, undef, undef, undef, undef, .slice A135581 p0.Pairs.length c135582, .int .i64 (p0.Pairs.length : Int), .slice A135593 p1.Pairs.length c135594, .int .i64 (p1.Pairs.length : Int), .bool (decide ((p0.Pairs.length : Int) ≠ (p1.Pairs.length : Int))), undef, undef, undef, undef, undef, undef, undef, undef, undef, undef, undef, undef, undef, undef] _ hf s kk e135596 e135584 e135600 e135604 e135588 e135592)) (fun _ _ _ hJ => hJ (fun _ _ _ => False) (by intro I140555 x140553 D140552 w140554 hf s kk e135596 e135584 e135600 e135604 e135588 e135592; exact noneS hf)) ?_
          intro X140827 hX140828
          refine fun n140691 _ _ _ hJ => hJ (X140827 n140691) ?_
          clear s
          intro I140555 x140553 D140552 w140554 hf s kk e135596 e135584 e135600 e135604 e135588 e135592
          refine hX140828 _ _ _ _ ?_
          replace hf : g8_l5B p0 p1 (g8_l5 p0 p1 n140691) x140553 = some r := hf
          generalize hrec140692 : g8_l5 p0 p1 n140691 = rec140690 at hf
          unfold g8_l5B at hf
          refine WPK.seq ?_
          refine WPK.region ?_
          refine RW.seg hT 1 [] [] [.bool (decide (x140553 < (p0.Pairs.length : Int)))] [] (by kernel_rfl) (trivial) ?_
          refine RW.nil ?_
          refine WPK.seq ?_
          by_cases h140694 : x140553 < (p0.Pairs.length : Int)
          · have hf := iteT h140694 hf
            refine WPK.condT (Eq.trans (b := .bool (decide (x140553 < (p0.Pairs.length : Int)))) (by kernel_rfl) (bo_t h140694)) ?_
            refine WPK.skip ?_
            refine WPK.seq ?_
            refine WPK.block ?_
            refine WPK.seq ?_
            refine WPK.region ?_
            obtain ⟨x140761, hx140762, hf⟩ := bindS hf
            obtain ⟨h140763, hx140762⟩ := getS hx140762
            obtain ⟨b140764, o140765, rfl⟩ := Elems.opn e135584 hx140762
            obtain ⟨cs140766, hr140767, ha140768⟩ := Elems.get e135584 hx140762
            obtain ⟨cs140769, cs140770, rfl, hr140771, hr140772⟩ := hr140767
            obtain ⟨A140773, c140774, rfl, q140775, q140776, e140777⟩ := hr140771
            have hc140778 := And.intro q140775 q140776
            obtain ⟨A140779, c140780, rfl, q140781, q140782, e140783⟩ := hr140772
            have hc140784 := And.intro q140781 q140782
            refine RW.seg hT 3 [.agg #[.slice A140773 x140761.Key.length c140774, .slice A140779 x140761.Val.length c140780]] [] [.int .i64 x140553, .pointer (some ⟨b140764, o140765 + x140553.toNat * 2, none⟩), .agg #[.slice A140773 x140761.Key.length c140774, .slice A140779 x140761.Val.length c140780]] [.idx x140553 p0.Pairs.length, .cells ⟨b140764, o140765 + x140553.toNat * 2, none⟩ [.slice A140773 x140761.Key.length c140774, .slice A140779 x140761.Val.length c140780] 2] (by kernel_rfl) (⟨h140763, at_cells ha140768 (off := 0) rfl rfl⟩) ?_
            refine RW.op (by kernel_rfl) (OK.new hT (f := fun b => .pointer (some ⟨b, 0, none⟩)) (cs := [.slice none 0 0, .slice none 0 0]) (e := 41) (c := .tt) s (by kernel_rfl) trivial ?_)
            clear s
            rintro w140785 b140786 s k140787 -
            replace e135596 := e135596.st k140787
            replace e135584 := e135584.st k140787
            replace e140777 := e140777.st k140787
            replace e140783 := e140783.st k140787
            replace e135600 := e135600.st k140787
            replace e135604 := e135604.st k140787
            replace e135588 := e135588.st k140787
            replace e135592 := e135592.st k140787
            replace kk := kk.trans k140787
            refine RW.seg hT 1 [] [] [.int .i64 x140553] [] (by kernel_rfl) (trivial) ?_
            refine RW.op (by kernel_rfl) (OK.store hT (i := 0) (b := b140786) (off := 0) (n := 2) (vs := [.slice A140773 x140761.Key.length c140774, .slice A140779 x140761.Val.length c140780]) (cs := [.slice none 0 0, .slice none 0 0]) (e := 41) s (by kernel_rfl) rfl rfl (flat_ok rfl) (Nat.le_of_ble_eq_true rfl) ?_)
            clear s
            rintro w140788 s k140789 -
            replace e135596 := e135596.st k140789
            replace e135584 := e135584.st k140789
            replace e140777 := e140777.st k140789
            replace e140783 := e140783.st k140789
            replace e135600 := e135600.st k140789
            replace e135604 := e135604.st k140789
            replace e135588 := e135588.st k140789
            replace e135592 := e135592.st k140789
            replace kk := kk.trans k140789
            refine RW.nil ?_
            refine WPK.seq ?_
            refine WPK.region ?_
            obtain ⟨x140790, hx140791, hf⟩ := bindS hf
            obtain ⟨h140792, hx140791⟩ := getS hx140791
            obtain ⟨b140793, o140794, rfl⟩ := Elems.opn e135596 hx140791
            obtain ⟨cs140795, hr140796, ha140797⟩ := Elems.get e135596 hx140791
            obtain ⟨cs140798, cs140799, rfl, hr140800, hr140801⟩ := hr140796
            obtain ⟨A140802, c140803, rfl, q140804, q140805, e140806⟩ := hr140800
            have hc140807 := And.intro q140804 q140805
            obtain ⟨A140808, c140809, rfl, q140810, q140811, e140812⟩ := hr140801
            have hc140813 := And.intro q140810 q140811
            refine RW.seg hT 4 [.agg #[.slice A140802 x140790.Key.length c140803, .slice A140808 x140790.Val.length c140809]] [] [.slice (some ⟨b140793, o140794, none⟩) p1.Pairs.length c135594, .int .i64 x140553, .pointer (some ⟨b140793, o140794 + x140553.toNat * 2, none⟩), .agg #[.slice A140802 x140790.Key.length c140803, .slice A140808 x140790.Val.length c140809]] [.idx x140553 p1.Pairs.length, .cells ⟨b140793, o140794 + x140553.toNat * 2, none⟩ [.slice A140802 x140790.Key.length c140803, .slice A140808 x140790.Val.length c140809] 2] (by kernel_rfl) (⟨h140792, at_cells ha140797 (off := 0) rfl rfl⟩) ?_
            refine RW.op (by kernel_rfl) (OK.new hT (f := fun b => .pointer (some ⟨b, 0, none⟩)) (cs := [.slice none 0 0, .slice none 0 0]) (e := 41) (c := .tt) s (by kernel_rfl) trivial ?_)
            clear s
            rintro w140814 b140815 s k140816 -
            replace e135596 := e135596.st k140816
            replace e135584 := e135584.st k140816
            replace e140777 := e140777.st k140816
            replace e140783 := e140783.st k140816
            replace e140806 := e140806.st k140816
            replace e140812 := e140812.st k140816
            replace e135600 := e135600.st k140816
            replace e135604 := e135604.st k140816
            replace e135588 := e135588.st k140816
            replace e135592 := e135592.st k140816
            replace kk := kk.trans k140816
            refine RW.op (by kernel_rfl) (OK.store hT (i := 0) (b := b140815) (off := 0) (n := 2) (vs := [.slice A140802 x140790.Key.length c140803, .slice A140808 x140790.Val.length c140809]) (cs := [.slice none 0 0, .slice none 0 0]) (e := 41) s (by kernel_rfl) rfl rfl (flat_ok rfl) (Nat.le_of_ble_eq_true rfl) ?_)
            clear s
            rintro w140817 s k140818 -
            replace e135596 := e135596.st k140818
            replace e135584 := e135584.st k140818
            replace e140777 := e140777.st k140818
            replace e140783 := e140783.st k140818
            replace e140806 := e140806.st k140818
            replace e140812 := e140812.st k140818
            replace e135600 := e135600.st k140818
            replace e135604 := e135604.st k140818
            replace e135588 := e135588.st k140818
            replace e135592 := e135592.st k140818
            replace kk := kk.trans k140818
            refine RW.nil ?_
            refine WPK.seq ?_
            refine WPK.region ?_
            refine RW.seg hT 3 [.agg #[.slice A140773 x140761.Key.length c140774, .slice A140779 x140761.Val.length c140780], .agg #[.slice A140802 x140790.Key.length c140803, .slice A140808 x140790.Val.length c140809]] [] [.func (.func 21) #[] #[], .agg #[.slice A140773 x140761.Key.length c140774, .slice A140779 x140761.Val.length c140780], .agg #[.slice A140802 x140790.Key.length c140803, .slice A140808 x140790.Val.length c140809]] [.cells ⟨b140786, 0, none⟩ [.slice A140773 x140761.Key.length c140774, .slice A140779 x140761.Val.length c140780] 2, .cells ⟨b140815, 0, none⟩ [.slice A140802 x140790.Key.length c140803, .slice A140808 x140790.Val.length c140809] 2] (by kernel_rfl) (⟨s.cells (i := 1) rfl rfl rfl, s.cells (i := 0) rfl rfl rfl⟩) ?_
            obtain ⟨x140819, hx140820, hf⟩ := bindS hf
            refine RW.op (by kernel_rfl) (OK.call' en21 (by kernel_rfl) (c21 (F := (.blk b140815 (.cells #[.slice A140802 x140790.Key.length c140803, .slice A140808 x140790.Val.length c140809] 41 (0, 0))) :: (.blk b140786 (.cells #[.slice A140773 x140761.Key.length c140774, .slice A140779 x140761.Val.length c140780] 41 (0, 0))) :: (.blk b135609 (.cells #[.bool p1.Leaf, .slice (some ⟨b140793, o140794, none⟩) p1.Pairs.length c135594, .slice A135597 p1.Keys.length c135598, .slice A135601 p1.Kids.length c135602] 26 (0, 0))) :: (.blk b135606 (.cells #[.bool p0.Leaf, .slice (some ⟨b140764, o140765, none⟩) p0.Pairs.length c135582, .slice A135585 p0.Keys.length c135586, .slice A135589 p0.Kids.length c135590] 26 (0, 0))) :: F) x140761 x140790 A140773 c140774 A140779 c140780 A140802 c140803 A140808 c140809 hc140778 e140777 hc140784 e140783 hc140807 e140806 hc140813 e140812 s hx140820) ?_)
            intro X140823 hX140824
            refine fun _ _ hJ => hJ X140823 ?_
            clear s
            intro I140825 w140821 s k140822
            refine hX140824 _ _ ?_
            replace e135596 := e135596.st k140822
            replace e135584 := e135584.st k140822
            replace e140777 := e140777.st k140822
            replace e140783 := e140783.st k140822
            replace e140806 := e140806.st k140822
            replace e140812 := e140812.st k140822
            replace e135600 := e135600.st k140822
            replace e135604 := e135604.st k140822
            replace e135588 := e135588.st k140822
            replace e135592 := e135592.st k140822
            replace kk := kk.trans k140822
            refine RW.seg hT 1 [] [(30, .bool (decide (¬ (x140819 = true))))] [.bool (decide (¬ (x140819 = true)))] [.veq (.bool (!x140819)) (.bool (decide (¬ (x140819 = true))))] (by kernel_rfl) (not_b) ?_
            refine RW.nil ?_
            by_cases h140826 : ¬ (x140819 = true)
            · have hf := iteT h140826 hf
              refine WPK.condT (Eq.trans (b := .bool (decide (¬ (x140819 = true)))) (by kernel_rfl) (bo_t h140826)) ?_
              refine WPK.seq ?_
              refine WPK.region ?_
              refine RW.seg hT 1 [] [] [.bool false] [] (by kernel_rfl) (trivial) ?_
              refine RW.nil ?_
              refine WPK.ret (blockQ.ret (blockQ.ret (?_)))
              refine Fin.of (rs := [.tmp 6]) hT [] (.bool false) [] rfl (by kernel_rfl) (trivial) ?_
              replace s := s.pick [2, 3] 4 rfl
              exact fun X h => vc rfl (h I140825 false _ hf s kk e135596 e135600 e135604 e135584 e135588 e135592)
            · have hf := iteF h140826 hf
              refine WPK.condF (Eq.trans (b := .bool (decide (¬ (x140819 = true)))) (by kernel_rfl) (bo_f h140826)) ?_
              refine WPK.skip ?_
              refine WPK.region ?_
              refine RW.seg hT 2 [] [] [.int .i64 (IntKind.i64.wrap (x140553 + 1)), .int .i64 (IntKind.i64.wrap (x140553 + 1))] [] (by kernel_rfl) (trivial) ?_
              refine RW.nil ?_
              subst hrec140692
              replace s := s.pick [2, 3] 4 rfl
              exact ⟨n140691, Nat.le_refl _, fun X h => kc (by kernel_rfl) rfl (h I140825 (IntKind.i64.wrap (x140553 + 1)) [(D140552.getD 0 undef), (D140552.getD 1 undef), (D140552.getD 2 undef), (D140552.getD 3 undef), .int .i64 x140553, .pointer (some ⟨b140786, 0, none⟩), .pointer (some ⟨b140815, 0, none⟩), (D140552.getD 7 undef), (D140552.getD 8 undef), (D140552.getD 9 undef), (D140552.getD 10 undef), (D140552.getD 11 undef), .bool (decide (x140553 < (p0.Pairs.length : Int))), .int .i64 x140553, .pointer (some ⟨b140764, o140765 + x140553.toNat * 2, none⟩), .agg #[.slice A140773 x140761.Key.length c140774, .slice A140779 x140761.Val.length c140780], .slice (some ⟨b140793, o140794, none⟩) p1.Pairs.length c135594, .int .i64 x140553, .pointer (some ⟨b140793, o140794 + x140553.toNat * 2, none⟩), .agg #[.slice A140802 x140790.Key.length c140803, .slice A140808 x140790.Val.length c140809], .func (.func 21) #[] #[], .agg #[.slice A140773 x140761.Key.length c140774, .slice A140779 x140761.Val.length c140780], .agg #[.slice A140802 x140790.Key.length c140803, .slice A140808 x140790.Val.length c140809], .bool x140819, .bool (decide (¬ (x140819 = true))), .int .i64 (IntKind.i64.wrap (x140553 + 1))] _ hf s kk e135596 e135584 e135600 e135604 e135588 e135592)⟩
          · have hf := iteF h140694 hf
            refine WPK.condF (Eq.trans (b := .bool (decide (x140553 < (p0.Pairs.length : Int)))) (by kernel_rfl) (bo_f h140694)) ?_
            refine WPK.exit (blockQ.same ?_)
            refine WPK.seq ?_
            refine WPK.region ?_
            refine RW.seg hT 1 [] [] [.bool true] [] (by kernel_rfl) (trivial) ?_
            refine RW.nil ?_
            refine WPK.ret (?_)
            refine Fin.of (rs := [.tmp 6]) hT [] (.bool true) [] rfl (by kernel_rfl) (trivial) ?_
            exact fun X h => vc rfl (h I140555 true _ hf s kk e135596 e135600 e135604 e135584 e135588 e135592)
    · have hf := iteF h138223 hf
      refine RW.seg hT 23 [] [(11, .bool false)] [.bool false, undef, undef, undef, undef, undef, undef, .bool false, .bool false, undef, undef, undef, undef, undef, .bool false, .bool false, undef, undef, undef, undef, undef, .bool false, .bool false] [.veq (.bool (decide (p0.Leaf = p1.Leaf))) (.bool false)] (by kernel_rfl) (bo_f h138223) ?_
      refine RW.nil ?_
      replace s := s.pick [] 2 rfl
      exact fun X h => kc (by kernel_rfl) rfl (h I false [.agg #[.bool p0.Leaf, .slice A135581 p0.Pairs.length c135582, .slice A135585 p0.Keys.length c135586, .slice A135589 p0.Kids.length c135590], .agg #[.bool p1.Leaf, .slice A135593 p1.Pairs.length c135594, .slice A135597 p1.Keys.length c135598, .slice A135601 p1.Kids.length c135602], .pointer (some ⟨b135606, 0, none⟩), .pointer (some ⟨b135609, 0, none⟩), .func (.func 21) #[] #[], .pointer (some ⟨b135606, 0, none⟩), .bool p0.Leaf, .pointer (some ⟨b135609, 0, none⟩), .bool p1.Leaf, .bool (decide (p0.Leaf = p1.Leaf)), .bool false, undef, undef, undef, undef, undef, undef, .bool false, .bool false, undef, undef, undef, undef, undef, .bool false, .bool false, undef, undef, undef, undef, undef, .bool false] _ hf s kk)
theorem c25 {w0 w : World} {M I : Nat → Prop} {F : List It} (p0 : (List Int)) (p1 : Int) (A141171 : Option Addr) (c141172 : Nat) (hc141173 : (p0.length ≤ c141172 ∧ c141172 ≤ 9223372036854775807)) (e141174 : Elems (Rp.int .u8) I w A141171 p0) (s : St w0 M I (F) w) {r : (List Int)} (hf : g25 p0 p1 = some r) :
    Ret Tryd.prog 25 [.slice A141171 p0.length c141172, .int .u8 p1] w fun v wz => ∀ X : Value → World → Prop, (∀ (I' : Nat → Prop) (A141487 : Option Addr) (c141488 : Nat) (w' : World), St w0 M I' (F) w' → Kp I w I' w' → (r.length ≤ c141488 ∧ c141488 ≤ 9223372036854775807) → Elems (Rp.int .u8) I' w' A141487 r → X (.slice A141487 r.length c141488) w') → X v wz := by
  have kk : Kp I w I w := Kp.refl
  unfold g25 at hf
  refine Ret.of Tryd.func25 rfl ?_
  refine WPK.seq ?_
  refine WPK.region ?_
  refine RW.seg hT 1 [] [] [.slice none 0 0] [] (by kernel_rfl) (trivial) ?_
  refine RW.nil ?_
  refine WPK.seq ?_
  refine WPK.block ?_
  refine WPK.loop' (J := fun n141435 E ds wz => ∀ X : Kont, (∀ (x141381 : (List Int)) (D141380 : List Value) (A141382 : Option Addr) (c141383 : Nat), g25_l1 p1 n141435 x141381 = some r → (x141381.length ≤ c141383 ∧ c141383 ≤ 9223372036854775807) → Elems (Rp.int .u8) I w A141382 x141381 → X [.slice A141382 x141381.length c141383, .int .u8 p1, (D141380.getD 0 undef), (D141380.getD 1 undef), .slice none 0 0, (D141380.getD 2 undef), (D141380.getD 3 undef), (D141380.getD 4 undef), (D141380.getD 5 undef), (D141380.getD 6 undef), (D141380.getD 7 undef), (D141380.getD 8 undef), (D141380.getD 9 undef), (D141380.getD 10 undef), (D141380.getD 11 undef), (D141380.getD 12 undef), (D141380.getD 13 undef), (D141380.getD 14 undef), (D141380.getD 15 undef), (D141380.getD 16 undef), (D141380.getD 17 undef), (D141380.getD 18 undef), (D141380.getD 19 undef), undef] [] w) → X E ds wz) FUEL (fun X h => kc (by kernel_rfl) rfl (h p0 [undef, undef, undef, undef, undef, undef, undef, undef, undef, undef, undef, undef, undef, undef, undef, undef, undef, undef, undef, undef] A141171 c141172 hf hc141173 e141174)) (fun _ _ _ hJ => hJ (fun _ _ _ => False) (by intro x141381 D141380 A141382 c141383 hf hc141384 e141385; exact noneS hf)) ?_
  intro X141485 hX141486
  refine fun n141435 _ _ _ hJ => hJ (X141485 n141435) ?_
  intro x141381 D141380 A141382 c141383 hf hc141384 e141385
  refine hX141486 _ _ _ _ ?_
  replace hf : g25_l1B p1 (g25_l1 p1 n141435) x141381 = some r := hf
  generalize hrec141436 : g25_l1 p1 n141435 = rec141434 at hf
  unfold g25_l1B at hf
  refine WPK.seq ?_
  refine WPK.seq ?_
  refine WPK.region ?_
  refine RW.seg hT 3 [] [] [.slice A141382 x141381.length c141383, .int .i64 (x141381.length : Int), .bool (decide ((x141381.length : Int) > 0))] [] (by kernel_rfl) (trivial) ?_
  by_cases h141465 : (x141381.length : Int) > 0
  · have hf := iteT h141465 hf
    obtain ⟨x141466, hx141467, hf⟩ := bindS hf
    obtain ⟨h141468, hx141467⟩ := getS hx141467
    obtain ⟨b141469, o141470, rfl⟩ := Elems.opn e141385 hx141467
    obtain ⟨cs141471, hr141472, ha141473⟩ := Elems.get e141385 hx141467
    obtain rfl : cs141471 = [.int .u8 x141466] := hr141472
    refine RW.seg hT 10 [.int .u8 x141466] [(8, .bool true), (16, .bool (decide (x141466 = p1)))] [.bool true, .slice (some ⟨b141469, o141470, none⟩) x141381.length c141383, .slice (some ⟨b141469, o141470, none⟩) x141381.length c141383, .int .i64 (x141381.length : Int), .int .i64 (IntKind.i64.wrap ((x141381.length : Int) - 1)), .pointer (some ⟨b141469, o141470 + (IntKind.i64.wrap ((x141381.length : Int) - 1)).toNat * 1, none⟩), .int .u8 x141466, .int .u8 p1, .bool (decide (x141466 = p1)), .bool (decide (x141466 = p1))] [.veq (.bool (decide ((x141381.length : Int) > 0))) (.bool true), .idx (IntKind.i64.wrap ((x141381.length : Int) - 1)) x141381.length, .cell ⟨b141469, o141470 + (IntKind.i64.wrap ((x141381.length : Int) - 1)).toNat * 1, none⟩ (.int .u8 x141466), .veq (.bool (x141466 == p1)) (.bool (decide (x141466 = p1)))] (by kernel_rfl) (⟨bo_t h141465, h141468, ha141473 0 _ rfl, eq_v⟩) ?_
    refine RW.nil ?_
    by_cases h141474 : x141466 = p1
    · have hf := iteT h141474 hf
      refine WPK.condT (Eq.trans (b := .bool (decide (x141466 = p1))) (by kernel_rfl) (bo_t h141474)) ?_
      refine WPK.skip ?_
      refine WPK.block ?_
      refine WPK.region ?_
      obtain ⟨y141475, hy141476, hf⟩ := bindS hf
      obtain ⟨h141479, hc141480, e141481, q141482⟩ := slS0 hc141384 e141385 hy141476
      refine RW.seg hT 6 [] [(22, .slice (some ⟨b141469, o141470, none⟩) y141475.length c141383)] [.slice (some ⟨b141469, o141470, none⟩) x141381.length c141383, .slice (some ⟨b141469, o141470, none⟩) x141381.length c141383, .int .i64 (x141381.length : Int), .int .i64 (IntKind.i64.wrap ((x141381.length : Int) - 1)), .slice (some ⟨b141469, o141470, none⟩) y141475.length c141383, .slice (some ⟨b141469, o141470, none⟩) y141475.length c141383] [.both (.cut 0 (IntKind.i64.wrap ((x141381.length : Int) - 1)) c141383 c141383) (.veq (.slice (some ⟨b141469, o141470, none⟩) (IntKind.i64.wrap ((x141381.length : Int) - 1)).toNat c141383) (.slice (some ⟨b141469, o141470, none⟩) y141475.length c141383))] (by kernel_rfl) (⟨⟨by omega, by omega, by omega, by omega⟩, sl_eq rfl q141482 rfl⟩) ?_
      refine RW.nil ?_
      subst hrec141436
      exact ⟨n141435, Nat.le_refl _, fun X h => kc (by kernel_rfl) rfl (h y141475 [(D141380.getD 0 undef), (D141380.getD 1 undef), .slice (some ⟨b141469, o141470, none⟩) x141381.length c141383, .int .i64 (x141381.length : Int), .bool (decide ((x141381.length : Int) > 0)), .bool true, .slice (some ⟨b141469, o141470, none⟩) x141381.length c141383, .slice (some ⟨b141469, o141470, none⟩) x141381.length c141383, .int .i64 (x141381.length : Int), .int .i64 (IntKind.i64.wrap ((x141381.length : Int) - 1)), .pointer (some ⟨b141469, o141470 + (IntKind.i64.wrap ((x141381.length : Int) - 1)).toNat * 1, none⟩), .int .u8 x141466, .int .u8 p1, .bool (decide (x141466 = p1)), .bool (decide (x141466 = p1)), .slice (some ⟨b141469, o141470, none⟩) x141381.length c141383, .slice (some ⟨b141469, o141470, none⟩) x141381.length c141383, .int .i64 (x141381.length : Int), .int .i64 (IntKind.i64.wrap ((x141381.length : Int) - 1)), .slice (some ⟨b141469, o141470, none⟩) y141475.length c141383] (some ⟨b141469, o141470, none⟩) c141383 hf hc141480 e141481)⟩
    · have hf := iteF h141474 hf
      refine WPK.condF (Eq.trans (b := .bool (decide (x141466 = p1))) (by kernel_rfl) (bo_f h141474)) ?_
      refine WPK.exit (blockQ.same ?_)
      refine WPK.seq ?_
      refine WPK.region ?_
      refine RW.seg hT 2 [] [] [.slice (some ⟨b141469, o141470, none⟩) x141381.length c141383, .slice (some ⟨b141469, o141470, none⟩) x141381.length c141383] [] (by kernel_rfl) (trivial) ?_
      refine RW.nil ?_
      refine WPK.ret (?_)
      obtain rfl := someS hf
      refine Fin.of (rs := [.tmp 4]) hT [] (.slice (some ⟨b141469, o141470, none⟩) x141381.length c141383) [] rfl (by kernel_rfl) (trivial) ?_
      exact fun X h => vc rfl (h I (some ⟨b141469, o141470, none⟩) c141383 _ s kk hc141384 e141385)
  · have hf := iteF h141465 hf
    refine RW.seg hT 10 [] [(8, .bool false)] [.bool false, undef, undef, undef, undef, undef, undef, undef, undef, .bool false] [.veq (.bool (decide ((x141381.length : Int) > 0))) (.bool false)] (by kernel_rfl) (bo_f h141465) ?_
    refine RW.nil ?_
    refine WPK.condF (by kernel_rfl) ?_
    refine WPK.exit (blockQ.same ?_)
    refine WPK.seq ?_
    refine WPK.region ?_
    refine RW.seg hT 2 [] [] [.slice A141382 x141381.length c141383, .slice A141382 x141381.length c141383] [] (by kernel_rfl) (trivial) ?_
    refine RW.nil ?_
    refine WPK.ret (?_)
    obtain rfl := someS hf
    refine Fin.of (rs := [.tmp 4]) hT [] (.slice A141382 x141381.length c141383) [] rfl (by kernel_rfl) (trivial) ?_
    exact fun X h => vc rfl (h I A141382 c141383 _ s kk hc141384 e141385)
theorem c10 {w0 w : World} {M I : Nat → Prop} {F : List It} (p0 : T_api_Node) (A141625 : Option Addr) (c141626 : Nat) (A141629 : Option Addr) (c141630 : Nat) (A141633 : Option Addr) (c141634 : Nat) (hc141627 : (p0.Pairs.length ≤ c141626 ∧ c141626 ≤ 9223372036854775807)) (e141628 : Elems rp_T_api_Pair I w A141625 p0.Pairs) (hc141631 : (p0.Keys.length ≤ c141630 ∧ c141630 ≤ 9223372036854775807)) (e141632 : Elems (Rp.slice (Rp.int .u8)) I w A141629 p0.Keys) (hc141635 : (p0.Kids.length ≤ c141634 ∧ c141634 ≤ 9223372036854775807)) (e141636 : Elems (Rp.int .i64) I w A141633 p0.Kids) (s : St w0 M I (F) w) {r : Int} (hf : g10 p0 = some r) :
    Ret Tryd.prog 10 [.agg #[.bool p0.Leaf, .slice A141625 p0.Pairs.length c141626, .slice A141629 p0.Keys.length c141630, .slice A141633 p0.Kids.length c141634]] w fun v wz => ∀ X : Value → World → Prop, (∀ (I' : Nat → Prop) (w' : World), St w0 M I' (F) w' → Kp I w I' w' → X (.int .i64 r) w') → X v wz := by
  have kk : Kp I w I w := Kp.refl
  unfold g10 at hf
  refine Ret.of Tryd.func10 rfl ?_
  refine WPK.seq ?_
  refine WPK.region ?_
  refine RW.op (by kernel_rfl) (OK.new hT (f := fun b => .pointer (some ⟨b, 0, none⟩)) (cs := [.bool p0.Leaf, .slice A141625 p0.Pairs.length c141626, .slice A141629 p0.Keys.length c141630, .slice A141633 p0.Kids.length c141634]) (e := 26) (c := .tt) s (by kernel_rfl) trivial ?_)
  clear s
  rintro w141637 b141638 s k141639 -
  replace e141628 := e141628.st k141639
  replace e141632 := e141632.st k141639
  replace e141636 := e141636.st k141639
  replace kk := kk.trans k141639
  refine RW.seg hT 1 [] [] [.int .i64 0] [] (by kernel_rfl) (trivial) ?_
  refine RW.nil ?_
  refine WPK.seq ?_
  refine WPK.seq ?_
  refine WPK.region ?_
  refine RW.seg hT 1 [.agg #[.bool p0.Leaf, .slice A141625 p0.Pairs.length c141626, .slice A141629 p0.Keys.length c141630, .slice A141633 p0.Kids.length c141634]] [] [.agg #[.bool p0.Leaf, .slice A141625 p0.Pairs.length c141626, .slice A141629 p0.Keys.length c141630, .slice A141633 p0.Kids.length c141634]] [.cells ⟨b141638, 0, none⟩ [.bool p0.Leaf, .slice A141625 p0.Pairs.length c141626, .slice A141629 p0.Keys.length c141630, .slice A141633 p0.Kids.length c141634] 4] (by kernel_rfl) (s.cells (i := 0) rfl rfl rfl) ?_
  obtain ⟨x141648, hx141649, hf⟩ := bindS hf
  refine RW.op (by kernel_rfl) (OK.call' en29 (by kernel_rfl) (c29 (F := (.blk b141638 (.cells #[.bool p0.Leaf, .slice A141625 p0.Pairs.length c141626, .slice A141629 p0.Keys.length c141630, .slice A141633 p0.Kids.length c141634] 26 (0, 0))) :: F) p0 A141625 c141626 A141629 c141630 A141633 c141634 hc141627 e141628 hc141631 e141632 hc141635 e141636 s hx141649) ?_)
  intro X141652 hX141653
  refine fun _ _ hJ => hJ X141652 ?_
  clear s
  intro I141654 w141650 s k141651
  refine hX141653 _ _ ?_
  replace e141628 := e141628.st k141651
  replace e141632 := e141632.st k141651
  replace e141636 := e141636.st k141651
  replace kk := kk.trans k141651
  refine RW.seg hT 1 [] [(5, .bool (decide (¬ (x141648 = true))))] [.bool (decide (¬ (x141648 = true)))] [.veq (.bool (!x141648)) (.bool (decide (¬ (x141648 = true))))] (by kernel_rfl) (not_b) ?_
  refine RW.nil ?_
  by_cases h141655 : ¬ (x141648 = true)
  · have hf := iteT h141655 hf
    refine WPK.condT (Eq.trans (b := .bool (decide (¬ (x141648 = true)))) (by kernel_rfl) (bo_t h141655)) ?_
    refine WPK.seq ?_
    refine WPK.region ?_
    refine RW.seg hT 1 [] [] [.int .i64 0] [] (by kernel_rfl) (trivial) ?_
    refine RW.nil ?_
    refine WPK.ret (?_)
    obtain rfl := someS hf
    refine Fin.of (rs := [.tmp 2]) hT [] (.int .i64 0) [] rfl (by kernel_rfl) (trivial) ?_
    replace s := s.pick [] 1 rfl
    exact fun X h => vc rfl (h I141654 _ s kk)
  · have hf := iteF h141655 hf
    refine WPK.condF (Eq.trans (b := .bool (decide (¬ (x141648 = true)))) (by kernel_rfl) (bo_f h141655)) ?_
    refine WPK.skip ?_
    refine WPK.seq ?_
    refine WPK.region ?_
    refine RW.seg hT 1 [.agg #[.bool p0.Leaf, .slice A141625 p0.Pairs.length c141626, .slice A141629 p0.Keys.length c141630, .slice A141633 p0.Kids.length c141634]] [] [.agg #[.bool p0.Leaf, .slice A141625 p0.Pairs.length c141626, .slice A141629 p0.Keys.length c141630, .slice A141633 p0.Kids.length c141634]] [.cells ⟨b141638, 0, none⟩ [.bool p0.Leaf, .slice A141625 p0.Pairs.length c141626, .slice A141629 p0.Keys.length c141630, .slice A141633 p0.Kids.length c141634] 4] (by kernel_rfl) (s.cells (i := 0) rfl rfl rfl) ?_
    obtain ⟨x141656, hx141657, hf⟩ := bindS hf
    refine RW.op (by kernel_rfl) (OK.call' en30 (by kernel_rfl) (c30 (F := (.blk b141638 (.cells #[.bool p0.Leaf, .slice A141625 p0.Pairs.length c141626, .slice A141629 p0.Keys.length c141630, .slice A141633 p0.Kids.length c141634] 26 (0, 0))) :: F) p0 A141625 c141626 A141629 c141630 A141633 c141634 hc141627 e141628 hc141631 e141632 hc141635 e141636 s hx141657) ?_)
    intro X141660 hX141661
    refine fun _ _ hJ => hJ X141660 ?_
    clear s
    intro I141662 w141658 s k141659
    refine hX141661 _ _ ?_
    replace e141628 := e141628.st k141659
    replace e141632 := e141632.st k141659
    replace e141636 := e141636.st k141659
    replace kk := kk.trans k141659
    refine RW.seg hT 1 [] [] [.int .i64 x141656] [] (by kernel_rfl) (trivial) ?_
    refine RW.nil ?_
    refine WPK.ret (?_)
    obtain rfl := someS hf
    refine Fin.of (rs := [.tmp 2]) hT [] (.int .i64 x141656) [] rfl (by kernel_rfl) (trivial) ?_
    replace s := s.pick [] 1 rfl
    exact fun X h => vc rfl (h I141662 _ s kk)
end Go.Proofs.YtefjbhogpgihaaaDoor
