/- PRINTED BY sy.py: each call computes what the plain function of its number tells. -/
import Derived.Test.YtjkghheeeiacmaaDoorTab
import Derived.Test.YtjkghheeeiacmaaDoorSXw
import Derived.Test.YtjkghheeeiacmaaDoorG
namespace Go.Proofs.YtjkghheeeiacmaaDoor
open Go Go.SX Go.RowKit
set_option maxRecDepth 100000
set_option linter.unusedVariables false
def rp_T_api_Frame : Rp T_api_Frame := Rp.iso (fun x => (x.Kind, x.Page, x.Epoch, x.Data)) (Rp.pair (Rp.int .i64) (Rp.pair (Rp.int .i64) (Rp.pair (Rp.int .u64) (Rp.slice (Rp.int .u8)))))
def rp_T_pack_Reader : Rp T_pack_Reader := Rp.iso (fun x => (x.b, x.err, x.made)) (Rp.pair (Rp.slice (Rp.int .u8)) (Rp.pair (Rp.int .i64) Rp.bool))
attribute [local irreducible] WPK RW RD Ret SX.Fin SX.Any opK RoundBeg RoundEnd RangeEnd Rounds
theorem en47 : Proofs.Enters Tryd.prog 47 := Proofs.enters_of Tryd.func47 (by kernel_rfl) rfl
theorem en34 : Proofs.Enters Tryd.prog 34 := Proofs.enters_of Tryd.func34 (by kernel_rfl) rfl
theorem en49 : Proofs.Enters Tryd.prog 49 := Proofs.enters_of Tryd.func49 (by kernel_rfl) rfl
theorem en50 : Proofs.Enters Tryd.prog 50 := Proofs.enters_of Tryd.func50 (by kernel_rfl) rfl
theorem en51 : Proofs.Enters Tryd.prog 51 := Proofs.enters_of Tryd.func51 (by kernel_rfl) rfl
theorem en48 : Proofs.Enters Tryd.prog 48 := Proofs.enters_of Tryd.func48 (by kernel_rfl) rfl
theorem en35 : Proofs.Enters Tryd.prog 35 := Proofs.enters_of Tryd.func35 (by kernel_rfl) rfl
theorem en36 : Proofs.Enters Tryd.prog 36 := Proofs.enters_of Tryd.func36 (by kernel_rfl) rfl
theorem en37 : Proofs.Enters Tryd.prog 37 := Proofs.enters_of Tryd.func37 (by kernel_rfl) rfl
theorem en38 : Proofs.Enters Tryd.prog 38 := Proofs.enters_of Tryd.func38 (by kernel_rfl) rfl
theorem en39 : Proofs.Enters Tryd.prog 39 := Proofs.enters_of Tryd.func39 (by kernel_rfl) rfl
theorem en25 : Proofs.Enters Tryd.prog 25 := Proofs.enters_of Tryd.func25 (by kernel_rfl) rfl
theorem en26 : Proofs.Enters Tryd.prog 26 := Proofs.enters_of Tryd.func26 (by kernel_rfl) rfl
theorem en40 : Proofs.Enters Tryd.prog 40 := Proofs.enters_of Tryd.func40 (by kernel_rfl) rfl
theorem en52 : Proofs.Enters Tryd.prog 52 := Proofs.enters_of Tryd.func52 (by kernel_rfl) rfl
theorem en59 : Proofs.Enters Tryd.prog 59 := Proofs.enters_of Tryd.func59 (by kernel_rfl) rfl
theorem en66 : Proofs.Enters Tryd.prog 66 := Proofs.enters_of Tryd.func66 (by kernel_rfl) rfl
theorem en60 : Proofs.Enters Tryd.prog 60 := Proofs.enters_of Tryd.func60 (by kernel_rfl) rfl
theorem en61 : Proofs.Enters Tryd.prog 61 := Proofs.enters_of Tryd.func61 (by kernel_rfl) rfl
theorem en27 : Proofs.Enters Tryd.prog 27 := Proofs.enters_of Tryd.func27 (by kernel_rfl) rfl
theorem en8 : Proofs.Enters Tryd.prog 8 := Proofs.enters_of Tryd.func8 (by kernel_rfl) rfl
theorem en22 : Proofs.Enters Tryd.prog 22 := Proofs.enters_of Tryd.func22 (by kernel_rfl) rfl
theorem en53 : Proofs.Enters Tryd.prog 53 := Proofs.enters_of Tryd.func53 (by kernel_rfl) rfl
theorem en42 : Proofs.Enters Tryd.prog 42 := Proofs.enters_of Tryd.func42 (by kernel_rfl) rfl
theorem en41 : Proofs.Enters Tryd.prog 41 := Proofs.enters_of Tryd.func41 (by kernel_rfl) rfl
theorem en43 : Proofs.Enters Tryd.prog 43 := Proofs.enters_of Tryd.func43 (by kernel_rfl) rfl
theorem en28 : Proofs.Enters Tryd.prog 28 := Proofs.enters_of Tryd.func28 (by kernel_rfl) rfl
theorem en11 : Proofs.Enters Tryd.prog 11 := Proofs.enters_of Tryd.func11 (by kernel_rfl) rfl
theorem en20 : Proofs.Enters Tryd.prog 20 := Proofs.enters_of Tryd.func20 (by kernel_rfl) rfl
theorem en9 : Proofs.Enters Tryd.prog 9 := Proofs.enters_of Tryd.func9 (by kernel_rfl) rfl
theorem en10 : Proofs.Enters Tryd.prog 10 := Proofs.enters_of Tryd.func10 (by kernel_rfl) rfl
theorem en3 : Proofs.Enters Tryd.prog 3 := Proofs.enters_of Tryd.func3 (by kernel_rfl) rfl
theorem en12 : Proofs.Enters Tryd.prog 12 := Proofs.enters_of Tryd.func12 (by kernel_rfl) rfl
theorem en4 : Proofs.Enters Tryd.prog 4 := Proofs.enters_of Tryd.func4 (by kernel_rfl) rfl
theorem en13 : Proofs.Enters Tryd.prog 13 := Proofs.enters_of Tryd.func13 (by kernel_rfl) rfl
theorem en44 : Proofs.Enters Tryd.prog 44 := Proofs.enters_of Tryd.func44 (by kernel_rfl) rfl
theorem en29 : Proofs.Enters Tryd.prog 29 := Proofs.enters_of Tryd.func29 (by kernel_rfl) rfl
theorem en14 : Proofs.Enters Tryd.prog 14 := Proofs.enters_of Tryd.func14 (by kernel_rfl) rfl
theorem en65 : Proofs.Enters Tryd.prog 65 := Proofs.enters_of Tryd.func65 (by kernel_rfl) rfl
theorem en58 : Proofs.Enters Tryd.prog 58 := Proofs.enters_of Tryd.func58 (by kernel_rfl) rfl
theorem en46 : Proofs.Enters Tryd.prog 46 := Proofs.enters_of Tryd.func46 (by kernel_rfl) rfl
theorem en32 : Proofs.Enters Tryd.prog 32 := Proofs.enters_of Tryd.func32 (by kernel_rfl) rfl
theorem en30 : Proofs.Enters Tryd.prog 30 := Proofs.enters_of Tryd.func30 (by kernel_rfl) rfl
theorem en15 : Proofs.Enters Tryd.prog 15 := Proofs.enters_of Tryd.func15 (by kernel_rfl) rfl
theorem en16 : Proofs.Enters Tryd.prog 16 := Proofs.enters_of Tryd.func16 (by kernel_rfl) rfl
theorem en17 : Proofs.Enters Tryd.prog 17 := Proofs.enters_of Tryd.func17 (by kernel_rfl) rfl
theorem en18 : Proofs.Enters Tryd.prog 18 := Proofs.enters_of Tryd.func18 (by kernel_rfl) rfl
theorem en5 : Proofs.Enters Tryd.prog 5 := Proofs.enters_of Tryd.func5 (by kernel_rfl) rfl
theorem en54 : Proofs.Enters Tryd.prog 54 := Proofs.enters_of Tryd.func54 (by kernel_rfl) rfl
theorem en55 : Proofs.Enters Tryd.prog 55 := Proofs.enters_of Tryd.func55 (by kernel_rfl) rfl
theorem en45 : Proofs.Enters Tryd.prog 45 := Proofs.enters_of Tryd.func45 (by kernel_rfl) rfl
theorem en31 : Proofs.Enters Tryd.prog 31 := Proofs.enters_of Tryd.func31 (by kernel_rfl) rfl
theorem en19 : Proofs.Enters Tryd.prog 19 := Proofs.enters_of Tryd.func19 (by kernel_rfl) rfl
theorem en6 : Proofs.Enters Tryd.prog 6 := Proofs.enters_of Tryd.func6 (by kernel_rfl) rfl
theorem en23 : Proofs.Enters Tryd.prog 23 := Proofs.enters_of Tryd.func23 (by kernel_rfl) rfl
theorem en21 : Proofs.Enters Tryd.prog 21 := Proofs.enters_of Tryd.func21 (by kernel_rfl) rfl
theorem en33 : Proofs.Enters Tryd.prog 33 := Proofs.enters_of Tryd.func33 (by kernel_rfl) rfl
theorem en24 : Proofs.Enters Tryd.prog 24 := Proofs.enters_of Tryd.func24 (by kernel_rfl) rfl
theorem en7 : Proofs.Enters Tryd.prog 7 := Proofs.enters_of Tryd.func7 (by kernel_rfl) rfl
theorem c34 {w0 w : World} {M I : Nat → Prop} {F : List It} (p0 : (List Int)) (A227 : Option Addr) (c228 : Nat) (hc229 : (p0.length ≤ c228 ∧ c228 ≤ 9223372036854775807)) (e230 : Elems (Rp.int .u8) I w A227 p0) (s : St w0 M I (F) w) {r : T_pack_Reader} (hf : g34 p0 = some r) :
    Ret Tryd.prog 34 [.slice A227 p0.length c228] w fun v wz => ∀ X : Value → World → Prop, (∀ (I' : Nat → Prop) (b304 : Nat) (A305 : Option Addr) (n306 : Nat) (c307 : Nat) (cl308 : List Value) (w' : World), St w0 M I' ((.blk b304 (.cells #[.slice A305 n306 c307, .int .i64 r.err, .bool r.made] 76 (0, 0))) :: (.sl (.slice A305 n306 c307) 5 1 n306 cl308) :: F) w' → Kp I w I' w' → n306 = r.b.length → RepL (Rp.int .u8) I' w' cl308 r.b → X (.pointer (some ⟨b304, 0, none⟩)) w') → X v wz := by
  have kk : Kp I w I w := Kp.refl
  unfold g34 at hf
  refine Ret.of Tryd.func34 rfl ?_
  refine WPK.seq ?_
  refine WPK.region ?_
  refine RW.seg hT 1 [] [] [.pointer none] [] (by kernel_rfl) (trivial) ?_
  refine RW.nil ?_
  refine WPK.seq ?_
  refine WPK.region ?_
  refine RW.seg hT 1 [] [] [.slice A227 p0.length c228] [] (by kernel_rfl) (trivial) ?_
  refine RW.op (by kernel_rfl) (OK.inl (args := [.slice A227 p0.length c228, .int .i64 0]) en47 (by kernel_rfl) ?_)
  intro R231 hR232
  refine Ret.of Tryd.func47 rfl ?_
  refine WPK.seq ?_
  refine WPK.region ?_
  refine RW.seg hT 2 [] [] [.slice none 0 0, .slice none 0 0] [] (by kernel_rfl) (trivial) ?_
  refine RW.nil ?_
  refine WPK.seq ?_
  refine WPK.region ?_
  refine RW.seg hT 4 [] [] [.slice A227 p0.length c228, .int .i64 (p0.length : Int), .int .i64 0, .int .i64 (IntKind.i64.wrap ((p0.length : Int) + 0))] [] (by kernel_rfl) (trivial) ?_
  obtain ⟨x267, hx268, hf⟩ := bindS hf
  refine RW.op (by kernel_rfl) (OK.make hT (r := (Rp.int .u8)) (n := IntKind.i64.wrap ((p0.length : Int) + 0)) (z := .int .u8 0) (x := 0) (e := 5) (bytes := 1) s (by kernel_rfl) hx268 (fun _ _ => rfl) ?_)
  rintro w269 b270 cl271 s k272 rp273
  replace e230 := e230.st k272
  replace kk := kk.trans k272
  refine RW.seg hT 1 [] [] [.slice (some ⟨b270, 0, none⟩) x267.length x267.length] [] (by kernel_rfl) (trivial) ?_
  refine RW.nil ?_
  refine WPK.seq ?_
  refine WPK.region ?_
  refine RW.seg hT 2 [] [] [.slice (some ⟨b270, 0, none⟩) x267.length x267.length, .slice A227 p0.length c228] [] (by kernel_rfl) (trivial) ?_
  have pt275 : Pt 0 x267.length x267.length 1 0 (x267.length : Int) x267.length := by have h0 := Pt.whole (size := 1) (row_hc (s.at (i := 0) rfl)).1; exact h0
  obtain ⟨nw276, hs277, rq278⟩ := Elems.src e230
  obtain ⟨x284, hx285, hf⟩ := bindS hf
  replace hx285 := someS hx285
  refine RW.op (by kernel_rfl) (OK.copy hT (r := (Rp.int .u8)) (xs := x267) (ys := p0) (i := 0) (c := x267.length) (e := 5) (size := 1) (t := 23) (t' := 23) (et := 5) (l := 0) (h := (x267.length : Int)) s (by kernel_rfl) rfl rfl rfl rfl rfl flat_int rfl rfl rfl rp273 pt275 rfl hs277 rq278 ?_)
  rintro w279 cl280 s k281 rp282 hn283
  replace e230 := e230.st k281
  replace rp273 := rp273.st k281
  replace kk := kk.trans k281
  rw [hx285] at rp282 hn283
  refine RW.nil ?_
  refine WPK.seq ?_
  have e230S286 := e230
  have rp282S286 := rp282
  have kS290 : Kp I w279 I w279 := Kp.refl
  refine WPK.draw (fun w' => ∃ I' : Nat → Prop, St w0 M I' ((.sl (.slice (some ⟨b270, 0, none⟩) x267.length x267.length) 5 1 x267.length cl280) :: F) w' ∧ Kp I w279 I' w') 7 (by kernel_rfl) ?_
  intro w287 hd288
  have k289 := Kp.dr s hd288
  replace s := s.dr hd288
  replace e230 := e230.st k289
  replace rp282 := rp282.st k289
  replace kk := kk.trans k289
  replace kS290 := kS290.trans k289
  obtain ⟨h300, hf⟩ := iteS hf
  replace h300 : (0 : Int) ≤ (p0.length : Int) ∧ (p0.length : Int) ≤ (x284.length : Int) ∧ (x284.length : Int) ≤ ((x267.length : Nat) : Int) - 0 := by have hnn := hn283; omega
  obtain ⟨o291, n292, c293, q294, q295, q296, q297, q298, pt299⟩ := partS (b := b270) (c := x267.length) (Pt.whole (size := 1) (row_hc (s.at (i := 0) rfl)).1) (Nat.le_refl _) h300
  rw [Int.zero_add, Int.zero_add] at pt299
  replace q295 : x267.length - (p0.length : Int).toNat = n292 := by rw [← q295]; have hnn := hn283; omega
  refine RD.seg hT (by kernel_rfl) [0, 1, 2, 3, 4, 5, 6] [] [(19, .slice (some ⟨b270, o291, none⟩) n292 c293)] [.slice (some ⟨b270, 0, none⟩) x267.length x267.length, .slice (some ⟨b270, 0, none⟩) x267.length x267.length, .slice A227 p0.length c228, .int .i64 (p0.length : Int), .slice (some ⟨b270, o291, none⟩) n292 c293, .slice (some ⟨b270, 0, none⟩) x267.length x267.length, .slice (some ⟨b270, o291, none⟩) n292 c293] [.both (.cut (p0.length : Int) (x267.length : Nat) x267.length x267.length) (.veq (.slice (cutA (some ⟨b270, 0, none⟩) (p0.length : Int).toNat x267.length 1) (x267.length - (p0.length : Int).toNat) (x267.length - (p0.length : Int).toNat)) (.slice (some ⟨b270, o291, none⟩) n292 c293))] (by kernel_rfl) (by rintro w' ⟨I', s, k⟩; have e230 := e230S286.st k; have rp282 := rp282S286.st k; exact ⟨⟨(q298).1, by have h1 := (q298).2.1; have h2 := (q298).2.2.1; omega, by have := (q298).2.2.2; omega, by omega⟩, sl_eq q294 q295 q296⟩) ⟨_, s.pick [0] 1 rfl, kS290⟩ ?_
  refine RD.done (by kernel_rfl) ?_
  refine WPK.ret (?_)
  refine Fin.of (rs := [.tmp 4, .tmp 5]) hT [] (.tuple #[.slice (some ⟨b270, 0, none⟩) x267.length x267.length, .slice (some ⟨b270, o291, none⟩) n292 c293]) [] rfl (by kernel_rfl) (trivial) ?_
  refine hR232 _ _ ?_
  refine RW.seg hT 5 [] [] [.tuple #[.slice (some ⟨b270, 0, none⟩) x267.length x267.length, .slice (some ⟨b270, o291, none⟩) n292 c293], .slice (some ⟨b270, 0, none⟩) x267.length x267.length, .slice (some ⟨b270, o291, none⟩) n292 c293, .slice (some ⟨b270, 0, none⟩) x267.length x267.length, .slice (some ⟨b270, o291, none⟩) n292 c293] [] (by kernel_rfl) (trivial) ?_
  refine RW.nil ?_
  refine WPK.seq ?_
  refine WPK.region ?_
  refine RW.seg hT 2 [] [] [.slice (some ⟨b270, 0, none⟩) x267.length x267.length, .agg #[.slice (some ⟨b270, 0, none⟩) x267.length x267.length, .int .i64 0, .bool true]] [] (by kernel_rfl) (trivial) ?_
  refine RW.op (by kernel_rfl) (OK.new hT (f := fun b => .pointer (some ⟨b, 0, none⟩)) (cs := [.slice (some ⟨b270, 0, none⟩) x267.length x267.length, .int .i64 0, .bool true]) (e := 76) (c := .tt) s (by kernel_rfl) trivial ?_)
  rintro w301 b302 s k303 -
  replace e230 := e230.st k303
  replace rp282 := rp282.st k303
  replace kk := kk.trans k303
  refine RW.seg hT 1 [] [] [.pointer (some ⟨b302, 0, none⟩)] [] (by kernel_rfl) (trivial) ?_
  refine RW.nil ?_
  refine WPK.ret (?_)
  obtain rfl := someS hf
  refine Fin.of (rs := [.tmp 2]) hT [] (.pointer (some ⟨b302, 0, none⟩)) [] rfl (by kernel_rfl) (trivial) ?_
  exact fun X h => vc rfl (h I b302 (some ⟨b270, 0, none⟩) x267.length x267.length cl280 _ s kk hn283 rp282)
theorem c49 {w0 w : World} {M I : Nat → Prop} {F : List It} (p0 : T_pack_Reader) (b368 : Nat) (A369 : Option Addr) (n370 : Nat) (c371 : Nat) (cl372 : List Value) (hn373 : n370 = p0.b.length) (rp374 : RepL (Rp.int .u8) I w cl372 p0.b) (s : St w0 M I ((.blk b368 (.cells #[.slice A369 n370 c371, .int .i64 p0.err, .bool p0.made] 76 (0, 0))) :: (.sl (.slice A369 n370 c371) 5 1 n370 cl372) :: F) w) {r : Bool} (hf : g49 p0 = some r) :
    Ret Tryd.prog 49 [.pointer (some ⟨b368, 0, none⟩)] w fun v wz => ∀ X : Value → World → Prop, (∀ (I' : Nat → Prop) (w' : World), St w0 M I' ((.blk b368 (.cells #[.slice A369 n370 c371, .int .i64 p0.err, .bool p0.made] 76 (0, 0))) :: (.sl (.slice A369 n370 c371) 5 1 n370 cl372) :: F) w' → Kp I w I' w' → X (.bool r) w') → X v wz := by
  have kk : Kp I w I w := Kp.refl
  unfold g49 at hf
  refine Ret.of Tryd.func49 rfl ?_
  refine WPK.seq ?_
  refine WPK.region ?_
  refine RW.seg hT 1 [] [] [.bool false] [] (by kernel_rfl) (trivial) ?_
  refine RW.nil ?_
  refine WPK.seq ?_
  refine WPK.region ?_
  refine RW.seg hT 9 [.bool p0.made] [(10, .bool (decide (¬ (p0.made = true))))] [.pointer (some ⟨b368, 0, none⟩), .bool false, .bool false, .pointer (some ⟨b368, 0, none⟩), .pointer (some ⟨b368, 0, none⟩), .pointer (some ⟨b368, 2, none⟩), .bool p0.made, .bool (decide (¬ (p0.made = true))), .bool (decide (¬ (p0.made = true)))] [.cell ⟨b368, 2, none⟩ (.bool p0.made), .veq (.bool (!p0.made)) (.bool (decide (¬ (p0.made = true))))] (by kernel_rfl) (⟨s.cell (i := 0) (off := 2) rfl rfl, not_b⟩) ?_
  by_cases h377 : ¬ (p0.made = true)
  · have hf := iteT h377 hf
    refine RW.seg hT 8 [] [(12, .bool true)] [.bool true, undef, undef, undef, undef, undef, .bool true, .bool true] [.veq (.bool (decide (¬ (p0.made = true)))) (.bool true)] (by kernel_rfl) (bo_t h377) ?_
    refine RW.nil ?_
    refine WPK.ret (?_)
    obtain rfl := someS hf
    refine Fin.of (rs := [.tmp 2]) hT [] (.bool true) [] rfl (by kernel_rfl) (trivial) ?_
    exact fun X h => vc rfl (h I _ s kk)
  · have hf := iteF h377 hf
    refine RW.seg hT 8 [.int .i64 p0.err] [(12, .bool false), (17, .bool (decide (p0.err ≠ 0)))] [.bool false, .pointer (some ⟨b368, 0, none⟩), .pointer (some ⟨b368, 0, none⟩), .pointer (some ⟨b368, 1, none⟩), .int .i64 p0.err, .bool (decide (p0.err ≠ 0)), .bool (decide (p0.err ≠ 0)), .bool (decide (p0.err ≠ 0))] [.veq (.bool (decide (¬ (p0.made = true)))) (.bool false), .cell ⟨b368, 1, none⟩ (.int .i64 p0.err), .veq (.bool (p0.err != 0)) (.bool (decide (p0.err ≠ 0)))] (by kernel_rfl) (⟨bo_f h377, s.cell (i := 0) (off := 1) rfl rfl, ne_v⟩) ?_
    refine RW.nil ?_
    refine WPK.ret (?_)
    obtain rfl := someS hf
    refine Fin.of (rs := [.tmp 2]) hT [] (.bool (decide (p0.err ≠ 0))) [] rfl (by kernel_rfl) (trivial) ?_
    exact fun X h => vc rfl (h I _ s kk)
theorem c50 {w0 w : World} {M I : Nat → Prop} {F : List It} (p0 : T_pack_Reader) (p1 : Int) (b405 : Nat) (A406 : Option Addr) (n407 : Nat) (c408 : Nat) (cl409 : List Value) (hn410 : n407 = p0.b.length) (rp411 : RepL (Rp.int .u8) I w cl409 p0.b) (s : St w0 M I ((.blk b405 (.cells #[.slice A406 n407 c408, .int .i64 p0.err, .bool p0.made] 76 (0, 0))) :: (.sl (.slice A406 n407 c408) 5 1 n407 cl409) :: F) w) {r : T_pack_Reader} (hf : g50 p0 p1 = some r) :
    Ret Tryd.prog 50 [.pointer (some ⟨b405, 0, none⟩), .int .i64 p1] w fun v wz => ∀ X : Value → World → Prop, (∀ (I' : Nat → Prop) (A415 : Option Addr) (n416 : Nat) (c417 : Nat) (cl418 : List Value) (w' : World), St w0 M I' ((.blk b405 (.cells #[.slice A415 n416 c417, .int .i64 r.err, .bool r.made] 76 (0, 0))) :: (.sl (.slice A415 n416 c417) 5 1 n416 cl418) :: F) w' → Kp I w I' w' → n416 = r.b.length → RepL (Rp.int .u8) I' w' cl418 r.b → X (.tuple #[]) w') → X v wz := by
  have kk : Kp I w I w := Kp.refl
  unfold g50 at hf
  refine Ret.of Tryd.func50 rfl ?_
  refine WPK.region ?_
  refine RW.seg hT 4 [] [] [.pointer (some ⟨b405, 0, none⟩), .int .i64 p1, .pointer (some ⟨b405, 0, none⟩), .pointer (some ⟨b405, 1, none⟩)] [] (by kernel_rfl) (trivial) ?_
  refine RW.op (by kernel_rfl) (OK.store hT (i := 0) (b := b405) (off := 1) (n := 1) (vs := [.int .i64 p1]) (cs := [.slice A406 n407 c408, .int .i64 p0.err, .bool p0.made]) (e := 76) s (by kernel_rfl) rfl rfl (flat_ok rfl) (Nat.le_of_ble_eq_true rfl) ?_)
  rintro w413 s k414 -
  replace rp411 := rp411.st k414
  replace kk := kk.trans k414
  refine RW.nil ?_
  obtain rfl := someS hf
  refine Fin.of (rs := []) hT [] (.tuple #[]) [] rfl (by kernel_rfl) (trivial) ?_
  exact fun X h => vc rfl (h I A406 n407 c408 cl409 _ s kk hn410 rp411)
theorem c51 {w0 w : World} {M I : Nat → Prop} {F : List It} (p0 : T_pack_Reader) (p1 : Int) (b478 : Nat) (A479 : Option Addr) (n480 : Nat) (c481 : Nat) (cl482 : List Value) (hn483 : n480 = p0.b.length) (rp484 : RepL (Rp.int .u8) I w cl482 p0.b) (s : St w0 M I ((.blk b478 (.cells #[.slice A479 n480 c481, .int .i64 p0.err, .bool p0.made] 76 (0, 0))) :: (.sl (.slice A479 n480 c481) 5 1 n480 cl482) :: F) w) {r : ((List Int) × T_pack_Reader)} (hf : g51 p0 p1 = some r) :
    Ret Tryd.prog 51 [.pointer (some ⟨b478, 0, none⟩), .int .i64 p1] w fun v wz => ∀ X : Value → World → Prop, (∀ (I' : Nat → Prop) (A575 : Option Addr) (c576 : Nat) (A579 : Option Addr) (c580 : Nat) (w' : World), St w0 M I' ((.blk b478 (.cells #[.slice A579 r.2.b.length c580, .int .i64 r.2.err, .bool r.2.made] 76 (0, 0))) :: F) w' → Kp I w I' w' → (r.1.length ≤ c576 ∧ c576 ≤ 9223372036854775807) → Elems (Rp.int .u8) I' w' A575 r.1 → (r.2.b.length ≤ c580 ∧ c580 ≤ 9223372036854775807) → Elems (Rp.int .u8) I' w' A579 r.2.b → X (.slice A575 r.1.length c576) w') → X v wz := by
  have kk : Kp I w I w := Kp.refl
  unfold g51 at hf
  refine Ret.of Tryd.func51 rfl ?_
  refine WPK.seq ?_
  refine WPK.region ?_
  refine RW.seg hT 1 [] [] [.slice none 0 0] [] (by kernel_rfl) (trivial) ?_
  refine RW.nil ?_
  refine WPK.seq ?_
  refine WPK.seq ?_
  refine WPK.region ?_
  refine RW.seg hT 1 [] [] [.pointer (some ⟨b478, 0, none⟩)] [] (by kernel_rfl) (trivial) ?_
  obtain ⟨x498, hx499, hf⟩ := bindS hf
  refine RW.op (by kernel_rfl) (OK.call' en49 (by kernel_rfl) (c49 (F := F) p0 b478 A479 n480 c481 cl482 hn483 rp484 s hx499) ?_)
  intro X502 hX503
  refine fun _ _ hJ => hJ X502 ?_
  intro I504 w500 s k501
  refine hX503 _ _ ?_
  replace rp484 := rp484.st k501
  replace kk := kk.trans k501
  refine RW.nil ?_
  by_cases h505 : x498 = true
  · have hf := iteT h505 hf
    refine WPK.condT (Eq.trans (b := .bool x498) (by kernel_rfl) (b_t h505)) ?_
    refine WPK.seq ?_
    refine WPK.region ?_
    refine RW.seg hT 1 [] [] [.slice none 0 0] [] (by kernel_rfl) (trivial) ?_
    refine RW.nil ?_
    refine WPK.ret (?_)
    obtain rfl := someS hf
    refine Fin.of (rs := [.tmp 4]) hT [] (.slice none 0 0) [] rfl (by kernel_rfl) (trivial) ?_
    rw [hn483] at s
    try rw [hn483]
    obtain ⟨I506, s', k507, hc508, e509⟩ := St.give s (i := 1) rfl rfl rp484
    replace s := s'; clear s'
    replace kk := kk.trans k507
    exact fun X h => vc rfl (h I506 none 0 A479 c481 _ s kk nil_hc Elems.nil hc508 e509)
  · have hf := iteF h505 hf
    refine WPK.condF (Eq.trans (b := .bool x498) (by kernel_rfl) (b_f h505)) ?_
    refine WPK.skip ?_
    refine WPK.seq ?_
    refine WPK.seq ?_
    refine WPK.region ?_
    refine RW.seg hT 7 [.slice A479 n480 c481] [(13, .int .i64 (p0.b.length : Int))] [.int .i64 p1, .pointer (some ⟨b478, 0, none⟩), .pointer (some ⟨b478, 0, none⟩), .pointer (some ⟨b478, 0, none⟩), .slice A479 n480 c481, .int .i64 (p0.b.length : Int), .bool (decide (p1 > (p0.b.length : Int)))] [.cell ⟨b478, 0, none⟩ (.slice A479 n480 c481), .veq (.int .i64 (n480 : Nat)) (.int .i64 (p0.b.length : Int))] (by kernel_rfl) (⟨s.cell (i := 0) (off := 0) rfl rfl, len_v hn483⟩) ?_
    refine RW.nil ?_
    by_cases h529 : p1 > (p0.b.length : Int)
    · have hf := iteT h529 hf
      refine WPK.condT (Eq.trans (b := .bool (decide (p1 > (p0.b.length : Int)))) (by kernel_rfl) (bo_t h529)) ?_
      refine WPK.seq ?_
      refine WPK.region ?_
      refine RW.seg hT 1 [] [] [.pointer (some ⟨b478, 0, none⟩)] [] (by kernel_rfl) (trivial) ?_
      obtain ⟨x530, hx531, hf⟩ := bindS hf
      refine RW.op (by kernel_rfl) (OK.call' en50 (by kernel_rfl) (c50 (F := F) p0 10 b478 A479 n480 c481 cl482 hn483 rp484 s hx531) ?_)
      intro X534 hX535
      refine fun _ _ hJ => hJ X534 ?_
      intro I536 A537 n538 c539 cl540 w532 s k533 hn541 rp542
      refine hX535 _ _ ?_
      replace rp484 := rp484.st k533
      replace kk := kk.trans k533
      refine RW.nil ?_
      refine WPK.seq ?_
      refine WPK.region ?_
      refine RW.seg hT 1 [] [] [.slice none 0 0] [] (by kernel_rfl) (trivial) ?_
      refine RW.nil ?_
      refine WPK.ret (?_)
      obtain rfl := someS hf
      refine Fin.of (rs := [.tmp 4]) hT [] (.slice none 0 0) [] rfl (by kernel_rfl) (trivial) ?_
      rw [hn541] at s
      try rw [hn541]
      obtain ⟨I544, s', k545, hc546, e547⟩ := St.give s (i := 1) rfl rfl rp542
      replace s := s'; clear s'
      replace kk := kk.trans k545
      exact fun X h => vc rfl (h I544 none 0 A537 c539 _ s kk nil_hc Elems.nil hc546 e547)
    · have hf := iteF h529 hf
      refine WPK.condF (Eq.trans (b := .bool (decide (p1 > (p0.b.length : Int)))) (by kernel_rfl) (bo_f h529)) ?_
      refine WPK.skip ?_
      refine WPK.seq ?_
      refine WPK.region ?_
      refine RW.seg hT 6 [.slice A479 n480 c481] [] [.pointer (some ⟨b478, 0, none⟩), .pointer (some ⟨b478, 0, none⟩), .pointer (some ⟨b478, 0, none⟩), .slice A479 n480 c481, .int .i64 p1, .int .i64 p1] [.cell ⟨b478, 0, none⟩ (.slice A479 n480 c481)] (by kernel_rfl) (s.cell (i := 0) (off := 0) rfl rfl) ?_
      rw [hn483] at s
      try rw [hn483]
      obtain ⟨I548, s', k549, hc550, e551⟩ := St.give s (i := 1) rfl rfl rp484
      replace s := s'; clear s'
      replace kk := kk.trans k549
      obtain ⟨h554, hf⟩ := iteS hf
      obtain ⟨y552, hy553, hf⟩ := bindS hf
      obtain ⟨c556, h557, hc558, e559, q560, q561⟩ := slS0m hc550 e551 hy553 h554
      refine RW.seg hT 2 [] [(23, .slice A479 y552.length c556)] [.slice A479 y552.length c556, .slice A479 y552.length c556] [.both (.cut 0 p1 p1 c481) (.veq (.slice A479 p1.toNat p1.toNat) (.slice A479 y552.length c556))] (by kernel_rfl) (⟨⟨Int.le_refl _, h557⟩, sl_eq rfl q560 q561⟩) ?_
      refine RW.nil ?_
      refine WPK.seq ?_
      refine WPK.region ?_
      obtain ⟨y563, hy564, hf⟩ := bindS hf
      obtain ⟨A565, c566, h567, hc568, e569, q570, q571, q572⟩ := slS (size := 1) rfl hc550 e551 hy564
      refine RW.seg hT 9 [.slice A479 p0.b.length c481] [(30, .slice A565 y563.length c566)] [.pointer (some ⟨b478, 0, none⟩), .pointer (some ⟨b478, 0, none⟩), .pointer (some ⟨b478, 0, none⟩), .pointer (some ⟨b478, 0, none⟩), .slice A479 p0.b.length c481, .int .i64 p1, .slice A565 y563.length c566, .pointer (some ⟨b478, 0, none⟩), .pointer (some ⟨b478, 0, none⟩)] [.cell ⟨b478, 0, none⟩ (.slice A479 p0.b.length c481), .both (.cut p1 (p0.b.length : Int) c481 c481) (.veq (.slice (cutA A479 p1.toNat c481 1) (p0.b.length - p1.toNat) (c481 - p1.toNat)) (.slice A565 y563.length c566))] (by kernel_rfl) (⟨s.cell (i := 0) (off := 0) rfl rfl, ⟨⟨by omega, by omega, by omega, by omega⟩, sl_eq q570 q571 q572⟩⟩) ?_
      refine RW.op (by kernel_rfl) (OK.store hT (i := 0) (b := b478) (off := 0) (n := 1) (vs := [.slice A565 y563.length c566]) (cs := [.slice A479 p0.b.length c481, .int .i64 p0.err, .bool p0.made]) (e := 76) s (by kernel_rfl) rfl rfl (flat_ok rfl) (Nat.le_of_ble_eq_true rfl) ?_)
      rintro w573 s k574 -
      replace e559 := e559.st k574
      replace e551 := e551.st k574
      replace e569 := e569.st k574
      replace kk := kk.trans k574
      refine RW.nil ?_
      refine WPK.seq ?_
      refine WPK.region ?_
      refine RW.seg hT 2 [] [] [.slice A479 y552.length c556, .slice A479 y552.length c556] [] (by kernel_rfl) (trivial) ?_
      refine RW.nil ?_
      refine WPK.ret (?_)
      obtain rfl := someS hf
      refine Fin.of (rs := [.tmp 4]) hT [] (.slice A479 y552.length c556) [] rfl (by kernel_rfl) (trivial) ?_
      exact fun X h => vc rfl (h I548 A479 c556 A565 c566 _ s kk hc558 e559 hc568 e569)
theorem c48 {w0 w : World} {M I : Nat → Prop} {F : List It} (p0 : T_pack_Reader) (p1 : Int) (b691 : Nat) (A692 : Option Addr) (n693 : Nat) (c694 : Nat) (cl695 : List Value) (hn696 : n693 = p0.b.length) (rp697 : RepL (Rp.int .u8) I w cl695 p0.b) (s : St w0 M I ((.blk b691 (.cells #[.slice A692 n693 c694, .int .i64 p0.err, .bool p0.made] 76 (0, 0))) :: (.sl (.slice A692 n693 c694) 5 1 n693 cl695) :: F) w) {r : (Int × T_pack_Reader)} (hf : g48 p0 p1 = some r) :
    Ret Tryd.prog 48 [.pointer (some ⟨b691, 0, none⟩), .int .i64 p1] w fun v wz => ∀ X : Value → World → Prop, (∀ (I' : Nat → Prop) (A807 : Option Addr) (c808 : Nat) (w' : World), St w0 M I' ((.blk b691 (.cells #[.slice A807 r.2.b.length c808, .int .i64 r.2.err, .bool r.2.made] 76 (0, 0))) :: F) w' → Kp I w I' w' → (r.2.b.length ≤ c808 ∧ c808 ≤ 9223372036854775807) → Elems (Rp.int .u8) I' w' A807 r.2.b → X (.int .u64 r.1) w') → X v wz := by
  have kk : Kp I w I w := Kp.refl
  unfold g48 at hf
  refine Ret.of Tryd.func48 rfl ?_
  refine WPK.seq ?_
  refine WPK.region ?_
  refine RW.seg hT 1 [] [] [.int .u64 0] [] (by kernel_rfl) (trivial) ?_
  refine RW.nil ?_
  refine WPK.seq ?_
  refine WPK.region ?_
  refine RW.seg hT 1 [] [] [.int .u64 0] [] (by kernel_rfl) (trivial) ?_
  refine RW.nil ?_
  refine WPK.seq ?_
  refine WPK.seq ?_
  refine WPK.region ?_
  refine RW.seg hT 2 [] [] [.pointer (some ⟨b691, 0, none⟩), .int .i64 p1] [] (by kernel_rfl) (trivial) ?_
  obtain ⟨x753, hx754, hf⟩ := bindS hf
  refine RW.op (by kernel_rfl) (OK.call' en51 (by kernel_rfl) (c51 (F := F) p0 p1 b691 A692 n693 c694 cl695 hn696 rp697 s hx754) ?_)
  intro X757 hX758
  refine fun _ _ hJ => hJ X757 ?_
  intro I759 A760 c761 A764 c765 w755 s k756 hc762 e763 hc766 e767
  refine hX758 _ _ ?_
  replace rp697 := rp697.st k756
  replace kk := kk.trans k756
  refine RW.seg hT 2 [] [] [.int .i64 (x753.1.length : Int), .int .i64 0] [] (by kernel_rfl) (trivial) ?_
  refine RW.nil ?_
  refine WPK.block ?_
  refine WPK.loop' (J := fun n793 E ds wz => ∀ X : Kont, (∀ (x780 : Int) (x781 : Int) (D779 : List Value), g48_l1 x753 n793 x780 x781 = some r → X [(D779.getD 0 undef), (D779.getD 1 undef), (D779.getD 2 undef), (D779.getD 3 undef), .int .u64 0, .int .u64 x780, (D779.getD 4 undef), (D779.getD 5 undef), (D779.getD 6 undef), (D779.getD 7 undef), .slice A760 x753.1.length c761, .int .i64 (x753.1.length : Int), .int .i64 x781, (D779.getD 8 undef), (D779.getD 9 undef), (D779.getD 10 undef), (D779.getD 11 undef), (D779.getD 12 undef), (D779.getD 13 undef), (D779.getD 14 undef), (D779.getD 15 undef), (D779.getD 16 undef), undef] [] w755) → X E ds wz) FUEL (fun X h => kc (by kernel_rfl) rfl (h 0 0 [.pointer (some ⟨b691, 0, none⟩), .int .i64 p1, undef, undef, undef, undef, .pointer (some ⟨b691, 0, none⟩), .int .i64 p1, undef, undef, undef, undef, undef, undef, undef, undef, undef] hf)) (fun _ _ _ hJ => hJ (fun _ _ _ => False) (by intro x780 x781 D779 hf; exact noneS hf)) ?_
  intro X805 hX806
  refine fun n793 _ _ _ hJ => hJ (X805 n793) ?_
  intro x780 x781 D779 hf
  refine hX806 _ _ _ _ ?_
  replace hf : g48_l1B x753 (g48_l1 x753 n793) x780 x781 = some r := hf
  generalize hrec794 : g48_l1 x753 n793 = rec792 at hf
  unfold g48_l1B at hf
  refine WPK.seq ?_
  refine WPK.region ?_
  refine RW.seg hT 1 [] [] [.bool (decide (x781 < (x753.1.length : Int)))] [] (by kernel_rfl) (trivial) ?_
  refine RW.nil ?_
  refine WPK.seq ?_
  by_cases h796 : x781 < (x753.1.length : Int)
  · have hf := iteT h796 hf
    refine WPK.condT (Eq.trans (b := .bool (decide (x781 < (x753.1.length : Int)))) (by kernel_rfl) (bo_t h796)) ?_
    refine WPK.skip ?_
    refine WPK.seq ?_
    refine WPK.block ?_
    refine WPK.seq ?_
    refine WPK.region ?_
    obtain ⟨x797, hx798, hf⟩ := bindS hf
    obtain ⟨h799, hx798⟩ := getS hx798
    obtain ⟨b800, o801, rfl⟩ := Elems.opn e763 hx798
    obtain ⟨cs802, hr803, ha804⟩ := Elems.get e763 hx798
    obtain rfl : cs802 = [.int .u8 x797] := hr803
    refine RW.seg hT 3 [.int .u8 x797] [] [.pointer (some ⟨b800, o801 + x781.toNat * 1, none⟩), .int .u8 x797, .int .u8 x797] [.idx x781 x753.1.length, .cell ⟨b800, o801 + x781.toNat * 1, none⟩ (.int .u8 x797)] (by kernel_rfl) (⟨h799, ha804 0 _ rfl⟩) ?_
    refine RW.nil ?_
    refine WPK.region ?_
    refine RW.seg hT 6 [undef] [] [.int .u64 x780, .int .u64 (shlI .u64 x780 8), .int .u8 x797, .int .u64 (IntKind.u64.wrap x797), .int .u64 (orI .u64 (shlI .u64 x780 8) (IntKind.u64.wrap x797)), .int .u64 (orI .u64 (shlI .u64 x780 8) (IntKind.u64.wrap x797))] [.nn 8] (by kernel_rfl) ((show (0 : Int) ≤ 8 by decide)) ?_
    refine RW.nil ?_
    refine WPK.region ?_
    refine RW.seg hT 2 [] [] [.int .i64 (IntKind.i64.wrap (x781 + 1)), .int .i64 (IntKind.i64.wrap (x781 + 1))] [] (by kernel_rfl) (trivial) ?_
    refine RW.nil ?_
    subst hrec794
    exact ⟨n793, Nat.le_refl _, fun X h => kc (by kernel_rfl) rfl (h (orI .u64 (shlI .u64 x780 8) (IntKind.u64.wrap x797)) (IntKind.i64.wrap (x781 + 1)) [(D779.getD 0 undef), (D779.getD 1 undef), (D779.getD 2 undef), (D779.getD 3 undef), (D779.getD 4 undef), .int .u8 x797, (D779.getD 6 undef), (D779.getD 7 undef), .bool (decide (x781 < (x753.1.length : Int))), .pointer (some ⟨b800, o801 + x781.toNat * 1, none⟩), .int .u8 x797, .int .u64 x780, .int .u64 (shlI .u64 x780 8), .int .u8 x797, .int .u64 (IntKind.u64.wrap x797), .int .u64 (orI .u64 (shlI .u64 x780 8) (IntKind.u64.wrap x797)), .int .i64 (IntKind.i64.wrap (x781 + 1))] hf)⟩
  · have hf := iteF h796 hf
    refine WPK.condF (Eq.trans (b := .bool (decide (x781 < (x753.1.length : Int)))) (by kernel_rfl) (bo_f h796)) ?_
    refine WPK.exit (blockQ.same ?_)
    refine WPK.seq ?_
    refine WPK.region ?_
    refine RW.seg hT 2 [] [] [.int .u64 x780, .int .u64 x780] [] (by kernel_rfl) (trivial) ?_
    refine RW.nil ?_
    refine WPK.ret (?_)
    obtain rfl := someS hf
    refine Fin.of (rs := [.tmp 4]) hT [] (.int .u64 x780) [] rfl (by kernel_rfl) (trivial) ?_
    exact fun X h => vc rfl (h I759 A764 c765 _ s kk hc766 e767)
theorem c35 {w0 w : World} {M I : Nat → Prop} {F : List It} (p0 : T_pack_Reader) (b822 : Nat) (A823 : Option Addr) (n824 : Nat) (c825 : Nat) (cl826 : List Value) (hn827 : n824 = p0.b.length) (rp828 : RepL (Rp.int .u8) I w cl826 p0.b) (s : St w0 M I ((.blk b822 (.cells #[.slice A823 n824 c825, .int .i64 p0.err, .bool p0.made] 76 (0, 0))) :: (.sl (.slice A823 n824 c825) 5 1 n824 cl826) :: F) w) {r : (Int × T_pack_Reader)} (hf : g35 p0 = some r) :
    Ret Tryd.prog 35 [.pointer (some ⟨b822, 0, none⟩)] w fun v wz => ∀ X : Value → World → Prop, (∀ (I' : Nat → Prop) (A841 : Option Addr) (c842 : Nat) (w' : World), St w0 M I' ((.blk b822 (.cells #[.slice A841 r.2.b.length c842, .int .i64 r.2.err, .bool r.2.made] 76 (0, 0))) :: F) w' → Kp I w I' w' → (r.2.b.length ≤ c842 ∧ c842 ≤ 9223372036854775807) → Elems (Rp.int .u8) I' w' A841 r.2.b → X (.int .u32 r.1) w') → X v wz := by
  have kk : Kp I w I w := Kp.refl
  unfold g35 at hf
  refine Ret.of Tryd.func35 rfl ?_
  refine WPK.seq ?_
  refine WPK.region ?_
  refine RW.seg hT 1 [] [] [.int .u32 0] [] (by kernel_rfl) (trivial) ?_
  refine RW.nil ?_
  refine WPK.seq ?_
  refine WPK.region ?_
  refine RW.seg hT 1 [] [] [.pointer (some ⟨b822, 0, none⟩)] [] (by kernel_rfl) (trivial) ?_
  obtain ⟨x830, hx831, hf⟩ := bindS hf
  refine RW.op (by kernel_rfl) (OK.call' en48 (by kernel_rfl) (c48 (F := F) p0 4 b822 A823 n824 c825 cl826 hn827 rp828 s hx831) ?_)
  intro X834 hX835
  refine fun _ _ hJ => hJ X834 ?_
  intro I836 A837 c838 w832 s k833 hc839 e840
  refine hX835 _ _ ?_
  replace rp828 := rp828.st k833
  replace kk := kk.trans k833
  refine RW.seg hT 2 [undef] [] [.int .u32 (IntKind.u32.wrap x830.1), .int .u32 (IntKind.u32.wrap x830.1)] [] (by kernel_rfl) (trivial) ?_
  refine RW.nil ?_
  refine WPK.ret (?_)
  obtain rfl := someS hf
  refine Fin.of (rs := [.tmp 2]) hT [] (.int .u32 (IntKind.u32.wrap x830.1)) [] rfl (by kernel_rfl) (trivial) ?_
  exact fun X h => vc rfl (h I836 A837 c838 _ s kk hc839 e840)
theorem c49_1 {w0 w : World} {M I : Nat → Prop} {F : List It} (p0 : T_pack_Reader) (b878 : Nat) (A879 : Option Addr) (c880 : Nat) (hc881 : (p0.b.length ≤ c880 ∧ c880 ≤ 9223372036854775807)) (e882 : Elems (Rp.int .u8) I w A879 p0.b) (s : St w0 M I ((.blk b878 (.cells #[.slice A879 p0.b.length c880, .int .i64 p0.err, .bool p0.made] 76 (0, 0))) :: F) w) {r : Bool} (hf : g49_1 p0 = some r) :
    Ret Tryd.prog 49 [.pointer (some ⟨b878, 0, none⟩)] w fun v wz => ∀ X : Value → World → Prop, (∀ (I' : Nat → Prop) (w' : World), St w0 M I' ((.blk b878 (.cells #[.slice A879 p0.b.length c880, .int .i64 p0.err, .bool p0.made] 76 (0, 0))) :: F) w' → Kp I w I' w' → X (.bool r) w') → X v wz := by
  have kk : Kp I w I w := Kp.refl
  unfold g49_1 at hf
  refine Ret.of Tryd.func49 rfl ?_
  refine WPK.seq ?_
  refine WPK.region ?_
  refine RW.seg hT 1 [] [] [.bool false] [] (by kernel_rfl) (trivial) ?_
  refine RW.nil ?_
  refine WPK.seq ?_
  refine WPK.region ?_
  refine RW.seg hT 9 [.bool p0.made] [(10, .bool (decide (¬ (p0.made = true))))] [.pointer (some ⟨b878, 0, none⟩), .bool false, .bool false, .pointer (some ⟨b878, 0, none⟩), .pointer (some ⟨b878, 0, none⟩), .pointer (some ⟨b878, 2, none⟩), .bool p0.made, .bool (decide (¬ (p0.made = true))), .bool (decide (¬ (p0.made = true)))] [.cell ⟨b878, 2, none⟩ (.bool p0.made), .veq (.bool (!p0.made)) (.bool (decide (¬ (p0.made = true))))] (by kernel_rfl) (⟨s.cell (i := 0) (off := 2) rfl rfl, not_b⟩) ?_
  by_cases h884 : ¬ (p0.made = true)
  · have hf := iteT h884 hf
    refine RW.seg hT 8 [] [(12, .bool true)] [.bool true, undef, undef, undef, undef, undef, .bool true, .bool true] [.veq (.bool (decide (¬ (p0.made = true)))) (.bool true)] (by kernel_rfl) (bo_t h884) ?_
    refine RW.nil ?_
    refine WPK.ret (?_)
    obtain rfl := someS hf
    refine Fin.of (rs := [.tmp 2]) hT [] (.bool true) [] rfl (by kernel_rfl) (trivial) ?_
    exact fun X h => vc rfl (h I _ s kk)
  · have hf := iteF h884 hf
    refine RW.seg hT 8 [.int .i64 p0.err] [(12, .bool false), (17, .bool (decide (p0.err ≠ 0)))] [.bool false, .pointer (some ⟨b878, 0, none⟩), .pointer (some ⟨b878, 0, none⟩), .pointer (some ⟨b878, 1, none⟩), .int .i64 p0.err, .bool (decide (p0.err ≠ 0)), .bool (decide (p0.err ≠ 0)), .bool (decide (p0.err ≠ 0))] [.veq (.bool (decide (¬ (p0.made = true)))) (.bool false), .cell ⟨b878, 1, none⟩ (.int .i64 p0.err), .veq (.bool (p0.err != 0)) (.bool (decide (p0.err ≠ 0)))] (by kernel_rfl) (⟨bo_f h884, s.cell (i := 0) (off := 1) rfl rfl, ne_v⟩) ?_
    refine RW.nil ?_
    refine WPK.ret (?_)
    obtain rfl := someS hf
    refine Fin.of (rs := [.tmp 2]) hT [] (.bool (decide (p0.err ≠ 0))) [] rfl (by kernel_rfl) (trivial) ?_
    exact fun X h => vc rfl (h I _ s kk)
theorem c50_1 {w0 w : World} {M I : Nat → Prop} {F : List It} (p0 : T_pack_Reader) (p1 : Int) (b909 : Nat) (A910 : Option Addr) (c911 : Nat) (hc912 : (p0.b.length ≤ c911 ∧ c911 ≤ 9223372036854775807)) (e913 : Elems (Rp.int .u8) I w A910 p0.b) (s : St w0 M I ((.blk b909 (.cells #[.slice A910 p0.b.length c911, .int .i64 p0.err, .bool p0.made] 76 (0, 0))) :: F) w) {r : T_pack_Reader} (hf : g50_1 p0 p1 = some r) :
    Ret Tryd.prog 50 [.pointer (some ⟨b909, 0, none⟩), .int .i64 p1] w fun v wz => ∀ X : Value → World → Prop, (∀ (I' : Nat → Prop) (A916 : Option Addr) (c917 : Nat) (w' : World), St w0 M I' ((.blk b909 (.cells #[.slice A916 r.b.length c917, .int .i64 r.err, .bool r.made] 76 (0, 0))) :: F) w' → Kp I w I' w' → (r.b.length ≤ c917 ∧ c917 ≤ 9223372036854775807) → Elems (Rp.int .u8) I' w' A916 r.b → X (.tuple #[]) w') → X v wz := by
  have kk : Kp I w I w := Kp.refl
  unfold g50_1 at hf
  refine Ret.of Tryd.func50 rfl ?_
  refine WPK.region ?_
  refine RW.seg hT 4 [] [] [.pointer (some ⟨b909, 0, none⟩), .int .i64 p1, .pointer (some ⟨b909, 0, none⟩), .pointer (some ⟨b909, 1, none⟩)] [] (by kernel_rfl) (trivial) ?_
  refine RW.op (by kernel_rfl) (OK.store hT (i := 0) (b := b909) (off := 1) (n := 1) (vs := [.int .i64 p1]) (cs := [.slice A910 p0.b.length c911, .int .i64 p0.err, .bool p0.made]) (e := 76) s (by kernel_rfl) rfl rfl (flat_ok rfl) (Nat.le_of_ble_eq_true rfl) ?_)
  rintro w914 s k915 -
  replace e913 := e913.st k915
  replace kk := kk.trans k915
  refine RW.nil ?_
  obtain rfl := someS hf
  refine Fin.of (rs := []) hT [] (.tuple #[]) [] rfl (by kernel_rfl) (trivial) ?_
  exact fun X h => vc rfl (h I A910 c911 _ s kk hc912 e913)
theorem c51_1 {w0 w : World} {M I : Nat → Prop} {F : List It} (p0 : T_pack_Reader) (p1 : Int) (b966 : Nat) (A967 : Option Addr) (c968 : Nat) (hc969 : (p0.b.length ≤ c968 ∧ c968 ≤ 9223372036854775807)) (e970 : Elems (Rp.int .u8) I w A967 p0.b) (s : St w0 M I ((.blk b966 (.cells #[.slice A967 p0.b.length c968, .int .i64 p0.err, .bool p0.made] 76 (0, 0))) :: F) w) {r : ((List Int) × T_pack_Reader)} (hf : g51_1 p0 p1 = some r) :
    Ret Tryd.prog 51 [.pointer (some ⟨b966, 0, none⟩), .int .i64 p1] w fun v wz => ∀ X : Value → World → Prop, (∀ (I' : Nat → Prop) (A1034 : Option Addr) (c1035 : Nat) (A1038 : Option Addr) (c1039 : Nat) (w' : World), St w0 M I' ((.blk b966 (.cells #[.slice A1038 r.2.b.length c1039, .int .i64 r.2.err, .bool r.2.made] 76 (0, 0))) :: F) w' → Kp I w I' w' → (r.1.length ≤ c1035 ∧ c1035 ≤ 9223372036854775807) → Elems (Rp.int .u8) I' w' A1034 r.1 → (r.2.b.length ≤ c1039 ∧ c1039 ≤ 9223372036854775807) → Elems (Rp.int .u8) I' w' A1038 r.2.b → X (.slice A1034 r.1.length c1035) w') → X v wz := by
  have kk : Kp I w I w := Kp.refl
  unfold g51_1 at hf
  refine Ret.of Tryd.func51 rfl ?_
  refine WPK.seq ?_
  refine WPK.region ?_
  refine RW.seg hT 1 [] [] [.slice none 0 0] [] (by kernel_rfl) (trivial) ?_
  refine RW.nil ?_
  refine WPK.seq ?_
  refine WPK.seq ?_
  refine WPK.region ?_
  refine RW.seg hT 1 [] [] [.pointer (some ⟨b966, 0, none⟩)] [] (by kernel_rfl) (trivial) ?_
  obtain ⟨x979, hx980, hf⟩ := bindS hf
  refine RW.op (by kernel_rfl) (OK.call' en49 (by kernel_rfl) (c49_1 (F := F) p0 b966 A967 c968 hc969 e970 s hx980) ?_)
  intro X983 hX984
  refine fun _ _ hJ => hJ X983 ?_
  intro I985 w981 s k982
  refine hX984 _ _ ?_
  replace e970 := e970.st k982
  replace kk := kk.trans k982
  refine RW.nil ?_
  by_cases h986 : x979 = true
  · have hf := iteT h986 hf
    refine WPK.condT (Eq.trans (b := .bool x979) (by kernel_rfl) (b_t h986)) ?_
    refine WPK.seq ?_
    refine WPK.region ?_
    refine RW.seg hT 1 [] [] [.slice none 0 0] [] (by kernel_rfl) (trivial) ?_
    refine RW.nil ?_
    refine WPK.ret (?_)
    obtain rfl := someS hf
    refine Fin.of (rs := [.tmp 4]) hT [] (.slice none 0 0) [] rfl (by kernel_rfl) (trivial) ?_
    exact fun X h => vc rfl (h I985 none 0 A967 c968 _ s kk nil_hc Elems.nil hc969 e970)
  · have hf := iteF h986 hf
    refine WPK.condF (Eq.trans (b := .bool x979) (by kernel_rfl) (b_f h986)) ?_
    refine WPK.skip ?_
    refine WPK.seq ?_
    refine WPK.seq ?_
    refine WPK.region ?_
    refine RW.seg hT 7 [.slice A967 p0.b.length c968] [] [.int .i64 p1, .pointer (some ⟨b966, 0, none⟩), .pointer (some ⟨b966, 0, none⟩), .pointer (some ⟨b966, 0, none⟩), .slice A967 p0.b.length c968, .int .i64 (p0.b.length : Int), .bool (decide (p1 > (p0.b.length : Int)))] [.cell ⟨b966, 0, none⟩ (.slice A967 p0.b.length c968)] (by kernel_rfl) (s.cell (i := 0) (off := 0) rfl rfl) ?_
    refine RW.nil ?_
    by_cases h999 : p1 > (p0.b.length : Int)
    · have hf := iteT h999 hf
      refine WPK.condT (Eq.trans (b := .bool (decide (p1 > (p0.b.length : Int)))) (by kernel_rfl) (bo_t h999)) ?_
      refine WPK.seq ?_
      refine WPK.region ?_
      refine RW.seg hT 1 [] [] [.pointer (some ⟨b966, 0, none⟩)] [] (by kernel_rfl) (trivial) ?_
      obtain ⟨x1000, hx1001, hf⟩ := bindS hf
      refine RW.op (by kernel_rfl) (OK.call' en50 (by kernel_rfl) (c50_1 (F := F) p0 10 b966 A967 c968 hc969 e970 s hx1001) ?_)
      intro X1004 hX1005
      refine fun _ _ hJ => hJ X1004 ?_
      intro I1006 A1007 c1008 w1002 s k1003 hc1009 e1010
      refine hX1005 _ _ ?_
      replace e970 := e970.st k1003
      replace kk := kk.trans k1003
      refine RW.nil ?_
      refine WPK.seq ?_
      refine WPK.region ?_
      refine RW.seg hT 1 [] [] [.slice none 0 0] [] (by kernel_rfl) (trivial) ?_
      refine RW.nil ?_
      refine WPK.ret (?_)
      obtain rfl := someS hf
      refine Fin.of (rs := [.tmp 4]) hT [] (.slice none 0 0) [] rfl (by kernel_rfl) (trivial) ?_
      exact fun X h => vc rfl (h I1006 none 0 A1007 c1008 _ s kk nil_hc Elems.nil hc1009 e1010)
    · have hf := iteF h999 hf
      refine WPK.condF (Eq.trans (b := .bool (decide (p1 > (p0.b.length : Int)))) (by kernel_rfl) (bo_f h999)) ?_
      refine WPK.skip ?_
      refine WPK.seq ?_
      refine WPK.region ?_
      obtain ⟨h1013, hf⟩ := iteS hf
      obtain ⟨y1011, hy1012, hf⟩ := bindS hf
      obtain ⟨c1015, h1016, hc1017, e1018, q1019, q1020⟩ := slS0m hc969 e970 hy1012 h1013
      refine RW.seg hT 8 [.slice A967 p0.b.length c968] [(23, .slice A967 y1011.length c1015)] [.pointer (some ⟨b966, 0, none⟩), .pointer (some ⟨b966, 0, none⟩), .pointer (some ⟨b966, 0, none⟩), .slice A967 p0.b.length c968, .int .i64 p1, .int .i64 p1, .slice A967 y1011.length c1015, .slice A967 y1011.length c1015] [.cell ⟨b966, 0, none⟩ (.slice A967 p0.b.length c968), .both (.cut 0 p1 p1 c968) (.veq (.slice A967 p1.toNat p1.toNat) (.slice A967 y1011.length c1015))] (by kernel_rfl) (⟨s.cell (i := 0) (off := 0) rfl rfl, ⟨⟨Int.le_refl _, h1016⟩, sl_eq rfl q1019 q1020⟩⟩) ?_
      refine RW.nil ?_
      refine WPK.seq ?_
      refine WPK.region ?_
      obtain ⟨y1022, hy1023, hf⟩ := bindS hf
      obtain ⟨A1024, c1025, h1026, hc1027, e1028, q1029, q1030, q1031⟩ := slS (size := 1) rfl hc969 e970 hy1023
      refine RW.seg hT 9 [.slice A967 p0.b.length c968] [(30, .slice A1024 y1022.length c1025)] [.pointer (some ⟨b966, 0, none⟩), .pointer (some ⟨b966, 0, none⟩), .pointer (some ⟨b966, 0, none⟩), .pointer (some ⟨b966, 0, none⟩), .slice A967 p0.b.length c968, .int .i64 p1, .slice A1024 y1022.length c1025, .pointer (some ⟨b966, 0, none⟩), .pointer (some ⟨b966, 0, none⟩)] [.cell ⟨b966, 0, none⟩ (.slice A967 p0.b.length c968), .both (.cut p1 (p0.b.length : Int) c968 c968) (.veq (.slice (cutA A967 p1.toNat c968 1) (p0.b.length - p1.toNat) (c968 - p1.toNat)) (.slice A1024 y1022.length c1025))] (by kernel_rfl) (⟨s.cell (i := 0) (off := 0) rfl rfl, ⟨⟨by omega, by omega, by omega, by omega⟩, sl_eq q1029 q1030 q1031⟩⟩) ?_
      refine RW.op (by kernel_rfl) (OK.store hT (i := 0) (b := b966) (off := 0) (n := 1) (vs := [.slice A1024 y1022.length c1025]) (cs := [.slice A967 p0.b.length c968, .int .i64 p0.err, .bool p0.made]) (e := 76) s (by kernel_rfl) rfl rfl (flat_ok rfl) (Nat.le_of_ble_eq_true rfl) ?_)
      rintro w1032 s k1033 -
      replace e1018 := e1018.st k1033
      replace e970 := e970.st k1033
      replace e1028 := e1028.st k1033
      replace kk := kk.trans k1033
      refine RW.nil ?_
      refine WPK.seq ?_
      refine WPK.region ?_
      refine RW.seg hT 2 [] [] [.slice A967 y1011.length c1015, .slice A967 y1011.length c1015] [] (by kernel_rfl) (trivial) ?_
      refine RW.nil ?_
      refine WPK.ret (?_)
      obtain rfl := someS hf
      refine Fin.of (rs := [.tmp 4]) hT [] (.slice A967 y1011.length c1015) [] rfl (by kernel_rfl) (trivial) ?_
      exact fun X h => vc rfl (h I985 A967 c1015 A1024 c1025 _ s kk hc1017 e1018 hc1027 e1028)
theorem c48_1 {w0 w : World} {M I : Nat → Prop} {F : List It} (p0 : T_pack_Reader) (p1 : Int) (b1150 : Nat) (A1151 : Option Addr) (c1152 : Nat) (hc1153 : (p0.b.length ≤ c1152 ∧ c1152 ≤ 9223372036854775807)) (e1154 : Elems (Rp.int .u8) I w A1151 p0.b) (s : St w0 M I ((.blk b1150 (.cells #[.slice A1151 p0.b.length c1152, .int .i64 p0.err, .bool p0.made] 76 (0, 0))) :: F) w) {r : (Int × T_pack_Reader)} (hf : g48_1 p0 p1 = some r) :
    Ret Tryd.prog 48 [.pointer (some ⟨b1150, 0, none⟩), .int .i64 p1] w fun v wz => ∀ X : Value → World → Prop, (∀ (I' : Nat → Prop) (A1263 : Option Addr) (c1264 : Nat) (w' : World), St w0 M I' ((.blk b1150 (.cells #[.slice A1263 r.2.b.length c1264, .int .i64 r.2.err, .bool r.2.made] 76 (0, 0))) :: F) w' → Kp I w I' w' → (r.2.b.length ≤ c1264 ∧ c1264 ≤ 9223372036854775807) → Elems (Rp.int .u8) I' w' A1263 r.2.b → X (.int .u64 r.1) w') → X v wz := by
  have kk : Kp I w I w := Kp.refl
  unfold g48_1 at hf
  refine Ret.of Tryd.func48 rfl ?_
  refine WPK.seq ?_
  refine WPK.region ?_
  refine RW.seg hT 1 [] [] [.int .u64 0] [] (by kernel_rfl) (trivial) ?_
  refine RW.nil ?_
  refine WPK.seq ?_
  refine WPK.region ?_
  refine RW.seg hT 1 [] [] [.int .u64 0] [] (by kernel_rfl) (trivial) ?_
  refine RW.nil ?_
  refine WPK.seq ?_
  refine WPK.seq ?_
  refine WPK.region ?_
  refine RW.seg hT 2 [] [] [.pointer (some ⟨b1150, 0, none⟩), .int .i64 p1] [] (by kernel_rfl) (trivial) ?_
  obtain ⟨x1209, hx1210, hf⟩ := bindS hf
  refine RW.op (by kernel_rfl) (OK.call' en51 (by kernel_rfl) (c51_1 (F := F) p0 p1 b1150 A1151 c1152 hc1153 e1154 s hx1210) ?_)
  intro X1213 hX1214
  refine fun _ _ hJ => hJ X1213 ?_
  intro I1215 A1216 c1217 A1220 c1221 w1211 s k1212 hc1218 e1219 hc1222 e1223
  refine hX1214 _ _ ?_
  replace e1154 := e1154.st k1212
  replace kk := kk.trans k1212
  refine RW.seg hT 2 [] [] [.int .i64 (x1209.1.length : Int), .int .i64 0] [] (by kernel_rfl) (trivial) ?_
  refine RW.nil ?_
  refine WPK.block ?_
  refine WPK.loop' (J := fun n1249 E ds wz => ∀ X : Kont, (∀ (x1236 : Int) (x1237 : Int) (D1235 : List Value), g48_1_l1 x1209 n1249 x1236 x1237 = some r → X [(D1235.getD 0 undef), (D1235.getD 1 undef), (D1235.getD 2 undef), (D1235.getD 3 undef), .int .u64 0, .int .u64 x1236, (D1235.getD 4 undef), (D1235.getD 5 undef), (D1235.getD 6 undef), (D1235.getD 7 undef), .slice A1216 x1209.1.length c1217, .int .i64 (x1209.1.length : Int), .int .i64 x1237, (D1235.getD 8 undef), (D1235.getD 9 undef), (D1235.getD 10 undef), (D1235.getD 11 undef), (D1235.getD 12 undef), (D1235.getD 13 undef), (D1235.getD 14 undef), (D1235.getD 15 undef), (D1235.getD 16 undef), undef] [] w1211) → X E ds wz) FUEL (fun X h => kc (by kernel_rfl) rfl (h 0 0 [.pointer (some ⟨b1150, 0, none⟩), .int .i64 p1, undef, undef, undef, undef, .pointer (some ⟨b1150, 0, none⟩), .int .i64 p1, undef, undef, undef, undef, undef, undef, undef, undef, undef] hf)) (fun _ _ _ hJ => hJ (fun _ _ _ => False) (by intro x1236 x1237 D1235 hf; exact noneS hf)) ?_
  intro X1261 hX1262
  refine fun n1249 _ _ _ hJ => hJ (X1261 n1249) ?_
  intro x1236 x1237 D1235 hf
  refine hX1262 _ _ _ _ ?_
  replace hf : g48_1_l1B x1209 (g48_1_l1 x1209 n1249) x1236 x1237 = some r := hf
  generalize hrec1250 : g48_1_l1 x1209 n1249 = rec1248 at hf
  unfold g48_1_l1B at hf
  refine WPK.seq ?_
  refine WPK.region ?_
  refine RW.seg hT 1 [] [] [.bool (decide (x1237 < (x1209.1.length : Int)))] [] (by kernel_rfl) (trivial) ?_
  refine RW.nil ?_
  refine WPK.seq ?_
  by_cases h1252 : x1237 < (x1209.1.length : Int)
  · have hf := iteT h1252 hf
    refine WPK.condT (Eq.trans (b := .bool (decide (x1237 < (x1209.1.length : Int)))) (by kernel_rfl) (bo_t h1252)) ?_
    refine WPK.skip ?_
    refine WPK.seq ?_
    refine WPK.block ?_
    refine WPK.seq ?_
    refine WPK.region ?_
    obtain ⟨x1253, hx1254, hf⟩ := bindS hf
    obtain ⟨h1255, hx1254⟩ := getS hx1254
    obtain ⟨b1256, o1257, rfl⟩ := Elems.opn e1219 hx1254
    obtain ⟨cs1258, hr1259, ha1260⟩ := Elems.get e1219 hx1254
    obtain rfl : cs1258 = [.int .u8 x1253] := hr1259
    refine RW.seg hT 3 [.int .u8 x1253] [] [.pointer (some ⟨b1256, o1257 + x1237.toNat * 1, none⟩), .int .u8 x1253, .int .u8 x1253] [.idx x1237 x1209.1.length, .cell ⟨b1256, o1257 + x1237.toNat * 1, none⟩ (.int .u8 x1253)] (by kernel_rfl) (⟨h1255, ha1260 0 _ rfl⟩) ?_
    refine RW.nil ?_
    refine WPK.region ?_
    refine RW.seg hT 6 [undef] [] [.int .u64 x1236, .int .u64 (shlI .u64 x1236 8), .int .u8 x1253, .int .u64 (IntKind.u64.wrap x1253), .int .u64 (orI .u64 (shlI .u64 x1236 8) (IntKind.u64.wrap x1253)), .int .u64 (orI .u64 (shlI .u64 x1236 8) (IntKind.u64.wrap x1253))] [.nn 8] (by kernel_rfl) ((show (0 : Int) ≤ 8 by decide)) ?_
    refine RW.nil ?_
    refine WPK.region ?_
    refine RW.seg hT 2 [] [] [.int .i64 (IntKind.i64.wrap (x1237 + 1)), .int .i64 (IntKind.i64.wrap (x1237 + 1))] [] (by kernel_rfl) (trivial) ?_
    refine RW.nil ?_
    subst hrec1250
    exact ⟨n1249, Nat.le_refl _, fun X h => kc (by kernel_rfl) rfl (h (orI .u64 (shlI .u64 x1236 8) (IntKind.u64.wrap x1253)) (IntKind.i64.wrap (x1237 + 1)) [(D1235.getD 0 undef), (D1235.getD 1 undef), (D1235.getD 2 undef), (D1235.getD 3 undef), (D1235.getD 4 undef), .int .u8 x1253, (D1235.getD 6 undef), (D1235.getD 7 undef), .bool (decide (x1237 < (x1209.1.length : Int))), .pointer (some ⟨b1256, o1257 + x1237.toNat * 1, none⟩), .int .u8 x1253, .int .u64 x1236, .int .u64 (shlI .u64 x1236 8), .int .u8 x1253, .int .u64 (IntKind.u64.wrap x1253), .int .u64 (orI .u64 (shlI .u64 x1236 8) (IntKind.u64.wrap x1253)), .int .i64 (IntKind.i64.wrap (x1237 + 1))] hf)⟩
  · have hf := iteF h1252 hf
    refine WPK.condF (Eq.trans (b := .bool (decide (x1237 < (x1209.1.length : Int)))) (by kernel_rfl) (bo_f h1252)) ?_
    refine WPK.exit (blockQ.same ?_)
    refine WPK.seq ?_
    refine WPK.region ?_
    refine RW.seg hT 2 [] [] [.int .u64 x1236, .int .u64 x1236] [] (by kernel_rfl) (trivial) ?_
    refine RW.nil ?_
    refine WPK.ret (?_)
    obtain rfl := someS hf
    refine Fin.of (rs := [.tmp 4]) hT [] (.int .u64 x1236) [] rfl (by kernel_rfl) (trivial) ?_
    exact fun X h => vc rfl (h I1215 A1220 c1221 _ s kk hc1222 e1223)
theorem c36 {w0 w : World} {M I : Nat → Prop} {F : List It} (p0 : T_pack_Reader) (b1278 : Nat) (A1279 : Option Addr) (c1280 : Nat) (hc1281 : (p0.b.length ≤ c1280 ∧ c1280 ≤ 9223372036854775807)) (e1282 : Elems (Rp.int .u8) I w A1279 p0.b) (s : St w0 M I ((.blk b1278 (.cells #[.slice A1279 p0.b.length c1280, .int .i64 p0.err, .bool p0.made] 76 (0, 0))) :: F) w) {r : (Int × T_pack_Reader)} (hf : g36 p0 = some r) :
    Ret Tryd.prog 36 [.pointer (some ⟨b1278, 0, none⟩)] w fun v wz => ∀ X : Value → World → Prop, (∀ (I' : Nat → Prop) (A1294 : Option Addr) (c1295 : Nat) (w' : World), St w0 M I' ((.blk b1278 (.cells #[.slice A1294 r.2.b.length c1295, .int .i64 r.2.err, .bool r.2.made] 76 (0, 0))) :: F) w' → Kp I w I' w' → (r.2.b.length ≤ c1295 ∧ c1295 ≤ 9223372036854775807) → Elems (Rp.int .u8) I' w' A1294 r.2.b → X (.int .u8 r.1) w') → X v wz := by
  have kk : Kp I w I w := Kp.refl
  unfold g36 at hf
  refine Ret.of Tryd.func36 rfl ?_
  refine WPK.seq ?_
  refine WPK.region ?_
  refine RW.seg hT 1 [] [] [.int .u8 0] [] (by kernel_rfl) (trivial) ?_
  refine RW.nil ?_
  refine WPK.seq ?_
  refine WPK.region ?_
  refine RW.seg hT 1 [] [] [.pointer (some ⟨b1278, 0, none⟩)] [] (by kernel_rfl) (trivial) ?_
  obtain ⟨x1283, hx1284, hf⟩ := bindS hf
  refine RW.op (by kernel_rfl) (OK.call' en48 (by kernel_rfl) (c48_1 (F := F) p0 1 b1278 A1279 c1280 hc1281 e1282 s hx1284) ?_)
  intro X1287 hX1288
  refine fun _ _ hJ => hJ X1287 ?_
  intro I1289 A1290 c1291 w1285 s k1286 hc1292 e1293
  refine hX1288 _ _ ?_
  replace e1282 := e1282.st k1286
  replace kk := kk.trans k1286
  refine RW.seg hT 2 [undef] [] [.int .u8 (IntKind.u8.wrap x1283.1), .int .u8 (IntKind.u8.wrap x1283.1)] [] (by kernel_rfl) (trivial) ?_
  refine RW.nil ?_
  refine WPK.ret (?_)
  obtain rfl := someS hf
  refine Fin.of (rs := [.tmp 2]) hT [] (.int .u8 (IntKind.u8.wrap x1283.1)) [] rfl (by kernel_rfl) (trivial) ?_
  exact fun X h => vc rfl (h I1289 A1290 c1291 _ s kk hc1292 e1293)
theorem c37 {w0 w : World} {M I : Nat → Prop} {F : List It} (p0 : T_pack_Reader) (b1341 : Nat) (A1342 : Option Addr) (c1343 : Nat) (hc1344 : (p0.b.length ≤ c1343 ∧ c1343 ≤ 9223372036854775807)) (e1345 : Elems (Rp.int .u8) I w A1342 p0.b) (s : St w0 M I ((.blk b1341 (.cells #[.slice A1342 p0.b.length c1343, .int .i64 p0.err, .bool p0.made] 76 (0, 0))) :: F) w) {r : (Int × T_pack_Reader)} (hf : g37 p0 = some r) :
    Ret Tryd.prog 37 [.pointer (some ⟨b1341, 0, none⟩)] w fun v wz => ∀ X : Value → World → Prop, (∀ (I' : Nat → Prop) (A1357 : Option Addr) (c1358 : Nat) (w' : World), St w0 M I' ((.blk b1341 (.cells #[.slice A1357 r.2.b.length c1358, .int .i64 r.2.err, .bool r.2.made] 76 (0, 0))) :: F) w' → Kp I w I' w' → (r.2.b.length ≤ c1358 ∧ c1358 ≤ 9223372036854775807) → Elems (Rp.int .u8) I' w' A1357 r.2.b → X (.int .u16 r.1) w') → X v wz := by
  have kk : Kp I w I w := Kp.refl
  unfold g37 at hf
  refine Ret.of Tryd.func37 rfl ?_
  refine WPK.seq ?_
  refine WPK.region ?_
  refine RW.seg hT 1 [] [] [.int .u16 0] [] (by kernel_rfl) (trivial) ?_
  refine RW.nil ?_
  refine WPK.seq ?_
  refine WPK.region ?_
  refine RW.seg hT 1 [] [] [.pointer (some ⟨b1341, 0, none⟩)] [] (by kernel_rfl) (trivial) ?_
  obtain ⟨x1346, hx1347, hf⟩ := bindS hf
  refine RW.op (by kernel_rfl) (OK.call' en48 (by kernel_rfl) (c48_1 (F := F) p0 2 b1341 A1342 c1343 hc1344 e1345 s hx1347) ?_)
  intro X1350 hX1351
  refine fun _ _ hJ => hJ X1350 ?_
  intro I1352 A1353 c1354 w1348 s k1349 hc1355 e1356
  refine hX1351 _ _ ?_
  replace e1345 := e1345.st k1349
  replace kk := kk.trans k1349
  refine RW.seg hT 2 [undef] [] [.int .u16 (IntKind.u16.wrap x1346.1), .int .u16 (IntKind.u16.wrap x1346.1)] [] (by kernel_rfl) (trivial) ?_
  refine RW.nil ?_
  refine WPK.ret (?_)
  obtain rfl := someS hf
  refine Fin.of (rs := [.tmp 2]) hT [] (.int .u16 (IntKind.u16.wrap x1346.1)) [] rfl (by kernel_rfl) (trivial) ?_
  exact fun X h => vc rfl (h I1352 A1353 c1354 _ s kk hc1355 e1356)
theorem c38 {w0 w : World} {M I : Nat → Prop} {F : List It} (p0 : T_pack_Reader) (b1388 : Nat) (A1389 : Option Addr) (c1390 : Nat) (hc1391 : (p0.b.length ≤ c1390 ∧ c1390 ≤ 9223372036854775807)) (e1392 : Elems (Rp.int .u8) I w A1389 p0.b) (s : St w0 M I ((.blk b1388 (.cells #[.slice A1389 p0.b.length c1390, .int .i64 p0.err, .bool p0.made] 76 (0, 0))) :: F) w) {r : (Int × T_pack_Reader)} (hf : g38 p0 = some r) :
    Ret Tryd.prog 38 [.pointer (some ⟨b1388, 0, none⟩)] w fun v wz => ∀ X : Value → World → Prop, (∀ (I' : Nat → Prop) (A1404 : Option Addr) (c1405 : Nat) (w' : World), St w0 M I' ((.blk b1388 (.cells #[.slice A1404 r.2.b.length c1405, .int .i64 r.2.err, .bool r.2.made] 76 (0, 0))) :: F) w' → Kp I w I' w' → (r.2.b.length ≤ c1405 ∧ c1405 ≤ 9223372036854775807) → Elems (Rp.int .u8) I' w' A1404 r.2.b → X (.int .u64 r.1) w') → X v wz := by
  have kk : Kp I w I w := Kp.refl
  unfold g38 at hf
  refine Ret.of Tryd.func38 rfl ?_
  refine WPK.seq ?_
  refine WPK.region ?_
  refine RW.seg hT 1 [] [] [.int .u64 0] [] (by kernel_rfl) (trivial) ?_
  refine RW.nil ?_
  refine WPK.seq ?_
  refine WPK.region ?_
  refine RW.seg hT 1 [] [] [.pointer (some ⟨b1388, 0, none⟩)] [] (by kernel_rfl) (trivial) ?_
  obtain ⟨x1393, hx1394, hf⟩ := bindS hf
  refine RW.op (by kernel_rfl) (OK.call' en48 (by kernel_rfl) (c48_1 (F := F) p0 8 b1388 A1389 c1390 hc1391 e1392 s hx1394) ?_)
  intro X1397 hX1398
  refine fun _ _ hJ => hJ X1397 ?_
  intro I1399 A1400 c1401 w1395 s k1396 hc1402 e1403
  refine hX1398 _ _ ?_
  replace e1392 := e1392.st k1396
  replace kk := kk.trans k1396
  refine RW.seg hT 1 [] [] [.int .u64 x1393.1] [] (by kernel_rfl) (trivial) ?_
  refine RW.nil ?_
  refine WPK.ret (?_)
  obtain rfl := someS hf
  refine Fin.of (rs := [.tmp 2]) hT [] (.int .u64 x1393.1) [] rfl (by kernel_rfl) (trivial) ?_
  exact fun X h => vc rfl (h I1399 A1400 c1401 _ s kk hc1402 e1403)
theorem c39 {w0 w : World} {M I : Nat → Prop} {F : List It} (p0 : T_pack_Reader) (p1 : Int) (b1483 : Nat) (A1484 : Option Addr) (c1485 : Nat) (hc1486 : (p0.b.length ≤ c1485 ∧ c1485 ≤ 9223372036854775807)) (e1487 : Elems (Rp.int .u8) I w A1484 p0.b) (s : St w0 M I ((.blk b1483 (.cells #[.slice A1484 p0.b.length c1485, .int .i64 p0.err, .bool p0.made] 76 (0, 0))) :: F) w) {r : ((List Int) × T_pack_Reader)} (hf : g39 p0 p1 = some r) :
    Ret Tryd.prog 39 [.pointer (some ⟨b1483, 0, none⟩), .int .i64 p1] w fun v wz => ∀ X : Value → World → Prop, (∀ (I' : Nat → Prop) (A1543 : Option Addr) (c1544 : Nat) (A1547 : Option Addr) (c1548 : Nat) (w' : World), St w0 M I' ((.blk b1483 (.cells #[.slice A1547 r.2.b.length c1548, .int .i64 r.2.err, .bool r.2.made] 76 (0, 0))) :: F) w' → Kp I w I' w' → (r.1.length ≤ c1544 ∧ c1544 ≤ 9223372036854775807) → Elems (Rp.int .u8) I' w' A1543 r.1 → (r.2.b.length ≤ c1548 ∧ c1548 ≤ 9223372036854775807) → Elems (Rp.int .u8) I' w' A1547 r.2.b → X (.slice A1543 r.1.length c1544) w') → X v wz := by
  have kk : Kp I w I w := Kp.refl
  unfold g39 at hf
  refine Ret.of Tryd.func39 rfl ?_
  refine WPK.seq ?_
  refine WPK.region ?_
  refine RW.seg hT 1 [] [] [.slice none 0 0] [] (by kernel_rfl) (trivial) ?_
  refine RW.nil ?_
  refine WPK.seq ?_
  refine WPK.seq ?_
  refine WPK.region ?_
  refine RW.seg hT 1 [] [] [.pointer (some ⟨b1483, 0, none⟩)] [] (by kernel_rfl) (trivial) ?_
  obtain ⟨x1496, hx1497, hf⟩ := bindS hf
  refine RW.op (by kernel_rfl) (OK.call' en49 (by kernel_rfl) (c49_1 (F := F) p0 b1483 A1484 c1485 hc1486 e1487 s hx1497) ?_)
  intro X1500 hX1501
  refine fun _ _ hJ => hJ X1500 ?_
  intro I1502 w1498 s k1499
  refine hX1501 _ _ ?_
  replace e1487 := e1487.st k1499
  replace kk := kk.trans k1499
  refine RW.nil ?_
  by_cases h1503 : x1496 = true
  · have hf := iteT h1503 hf
    refine WPK.condT (Eq.trans (b := .bool x1496) (by kernel_rfl) (b_t h1503)) ?_
    refine WPK.seq ?_
    refine WPK.region ?_
    refine RW.seg hT 1 [] [] [.slice none 0 0] [] (by kernel_rfl) (trivial) ?_
    refine RW.nil ?_
    refine WPK.ret (?_)
    obtain rfl := someS hf
    refine Fin.of (rs := [.tmp 4]) hT [] (.slice none 0 0) [] rfl (by kernel_rfl) (trivial) ?_
    exact fun X h => vc rfl (h I1502 none 0 A1484 c1485 _ s kk nil_hc Elems.nil hc1486 e1487)
  · have hf := iteF h1503 hf
    refine WPK.condF (Eq.trans (b := .bool x1496) (by kernel_rfl) (b_f h1503)) ?_
    refine WPK.skip ?_
    refine WPK.seq ?_
    refine WPK.seq ?_
    refine WPK.region ?_
    refine RW.seg hT 2 [] [] [.int .i64 p1, .bool (decide (p1 < 0))] [] (by kernel_rfl) (trivial) ?_
    refine RW.nil ?_
    by_cases h1516 : p1 < 0
    · have hf := iteT h1516 hf
      refine WPK.condT (Eq.trans (b := .bool (decide (p1 < 0))) (by kernel_rfl) (bo_t h1516)) ?_
      refine WPK.seq ?_
      refine WPK.region ?_
      refine RW.seg hT 1 [] [] [.pointer (some ⟨b1483, 0, none⟩)] [] (by kernel_rfl) (trivial) ?_
      obtain ⟨x1517, hx1518, hf⟩ := bindS hf
      refine RW.op (by kernel_rfl) (OK.call' en50 (by kernel_rfl) (c50_1 (F := F) p0 1 b1483 A1484 c1485 hc1486 e1487 s hx1518) ?_)
      intro X1521 hX1522
      refine fun _ _ hJ => hJ X1521 ?_
      intro I1523 A1524 c1525 w1519 s k1520 hc1526 e1527
      refine hX1522 _ _ ?_
      replace e1487 := e1487.st k1520
      replace kk := kk.trans k1520
      refine RW.nil ?_
      refine WPK.seq ?_
      refine WPK.region ?_
      refine RW.seg hT 1 [] [] [.slice none 0 0] [] (by kernel_rfl) (trivial) ?_
      refine RW.nil ?_
      refine WPK.ret (?_)
      obtain rfl := someS hf
      refine Fin.of (rs := [.tmp 4]) hT [] (.slice none 0 0) [] rfl (by kernel_rfl) (trivial) ?_
      exact fun X h => vc rfl (h I1523 none 0 A1524 c1525 _ s kk nil_hc Elems.nil hc1526 e1527)
    · have hf := iteF h1516 hf
      refine WPK.condF (Eq.trans (b := .bool (decide (p1 < 0))) (by kernel_rfl) (bo_f h1516)) ?_
      refine WPK.skip ?_
      refine WPK.seq ?_
      refine WPK.region ?_
      refine RW.seg hT 2 [] [] [.pointer (some ⟨b1483, 0, none⟩), .int .i64 p1] [] (by kernel_rfl) (trivial) ?_
      obtain ⟨x1528, hx1529, hf⟩ := bindS hf
      refine RW.op (by kernel_rfl) (OK.call' en51 (by kernel_rfl) (c51_1 (F := F) p0 p1 b1483 A1484 c1485 hc1486 e1487 s hx1529) ?_)
      intro X1532 hX1533
      refine fun _ _ hJ => hJ X1532 ?_
      intro I1534 A1535 c1536 A1539 c1540 w1530 s k1531 hc1537 e1538 hc1541 e1542
      refine hX1533 _ _ ?_
      replace e1487 := e1487.st k1531
      replace kk := kk.trans k1531
      refine RW.seg hT 1 [] [] [.slice A1535 x1528.1.length c1536] [] (by kernel_rfl) (trivial) ?_
      refine RW.nil ?_
      refine WPK.ret (?_)
      obtain rfl := someS hf
      refine Fin.of (rs := [.tmp 4]) hT [] (.slice A1535 x1528.1.length c1536) [] rfl (by kernel_rfl) (trivial) ?_
      exact fun X h => vc rfl (h I1534 A1535 c1536 A1539 c1540 _ s kk hc1537 e1538 hc1541 e1542)
theorem c25 {w0 w : World} {M I : Nat → Prop} {F : List It} (p0 : (List Int)) (hl1570 : 256 = p0.length) (s : St w0 M I (F) w) {r : (T_api_Frame × Int)} (hf : g25 p0 = some r) :
    Ret Tryd.prog 25 [.agg (List.map (Value.int .u8) p0).toArray] w fun v wz => ∀ X : Value → World → Prop, (∀ (I' : Nat → Prop) (A1686 : Option Addr) (c1687 : Nat) (w' : World), St w0 M I' (F) w' → Kp I w I' w' → (r.1.Data.length ≤ c1687 ∧ c1687 ≤ 9223372036854775807) → Elems (Rp.int .u8) I' w' A1686 r.1.Data → X (.tuple #[.agg #[.int .i64 r.1.Kind, .int .i64 r.1.Page, .int .u64 r.1.Epoch, .slice A1686 r.1.Data.length c1687], .int .u32 r.2]) w') → X v wz := by
  have kk : Kp I w I w := Kp.refl
  unfold g25 at hf
  refine Ret.of Tryd.func25 rfl ?_
  refine WPK.seq ?_
  refine WPK.region ?_
  refine RW.op (by kernel_rfl) (OK.new hT (f := fun b => .pointer (some ⟨b, 0, none⟩)) (cs := (List.map (Value.int .u8) p0)) (e := 49) (c := .tt) s (by kernel_rfl) trivial ?_)
  rintro w1571 b1572 s k1573 -
  have hn1577 : 256 = (p0).length := hl1570
  obtain ⟨cl1574, hcl1575⟩ : ∃ q, q = (List.map (Value.int .u8) p0) := ⟨_, rfl⟩
  replace s := s.blkSl (i := 0) (n := 256) (c := 256) (size := 1) rfl (by simp [← hn1577]) (Nat.le_refl _) (by decide)
  rw [List.take_of_length_le (by simp [← hn1577]), ← hcl1575] at s
  replace kk := kk.trans k1573
  have rp1576 : RepL (Rp.int .u8) I w1571 cl1574 p0 := by rw [hcl1575]; exact repl_map
  refine RW.op (by kernel_rfl) (OK.new hT (f := fun b => .pointer (some ⟨b, 0, none⟩)) (cs := [.int .i64 0, .int .i64 0, .int .u64 0, .slice none 0 0]) (e := 25) (c := .tt) s (by kernel_rfl) trivial ?_)
  rintro w1578 b1579 s k1580 -
  replace rp1576 := rp1576.st k1580
  replace kk := kk.trans k1580
  refine RW.seg hT 1 [] [] [.int .u32 0] [] (by kernel_rfl) (trivial) ?_
  refine RW.nil ?_
  refine WPK.seq ?_
  refine WPK.region ?_
  refine RW.seg hT 1 [] [] [.slice (some ⟨b1572, 0, none⟩) 256 256] [] (by kernel_rfl) (trivial) ?_
  have sa1581 := s
  obtain ⟨hc1582, e1583⟩ := St.lend s (i := 1) rfl hn1577 rp1576
  have k1584 := Kp.shut (I := I) (w := w1578) (p := .sl (.slice (some ⟨b1572, 0, none⟩) 256 256) 49 1 256 cl1574)
  replace s := s.shut 1 rfl
  obtain ⟨x1585, hx1586, hf⟩ := bindS hf
  have hc1589 := c34 (F := (.blk b1579 (.cells #[.int .i64 0, .int .i64 0, .int .u64 0, .slice none 0 0] 25 (0, 0))) :: F) p0 (some ⟨b1572, 0, none⟩) 256 hc1582 e1583 s hx1586
  rw [← hn1577] at hc1589
  refine RW.op (by kernel_rfl) (OK.call' en34 (by kernel_rfl) (hc1589) ?_)
  intro X1590 hX1591
  refine fun _ _ hJ => hJ X1590 ?_
  intro I1592 b1593 A1594 n1595 c1596 cl1597 w1587 s k1588 hn1598 rp1599
  refine hX1591 _ _ ?_
  have s' := St.back sa1581 (i := 1) rfl s k1588
  replace k1588 := Kp.back sa1581 (i := 1) rfl k1588
  replace s := s'; clear s'
  obtain ⟨I1602, s, k1588⟩ : ∃ I : Nat → Prop, St w0 M I ((.sl (.slice (some ⟨b1572, 0, none⟩) 256 256) 49 1 256 cl1574) :: (.blk b1593 (.cells #[.slice A1594 n1595 c1596, .int .i64 x1585.err, .bool x1585.made] 76 (0, 0))) :: (.sl (.slice A1594 n1595 c1596) 5 1 n1595 cl1597) :: (.blk b1579 (.cells #[.int .i64 0, .int .i64 0, .int .u64 0, .slice none 0 0] 25 (0, 0))) :: F) w1587 ∧ Kp _ _ I _ := ⟨_, s, k1588⟩
  replace rp1599 := RepL.free (I' := I1602) (w' := w1587) free_int rp1599
  replace rp1576 := rp1576.st k1588
  replace kk := kk.trans k1588
  refine RW.seg hT 1 [] [] [.pointer (some ⟨b1593, 0, none⟩)] [] (by kernel_rfl) (trivial) ?_
  refine RW.nil ?_
  refine WPK.seq ?_
  refine WPK.region ?_
  refine RW.seg hT 1 [] [] [.pointer (some ⟨b1593, 0, none⟩)] [] (by kernel_rfl) (trivial) ?_
  replace s := s.pick [1, 2, 0, 3] 4 rfl
  obtain ⟨x1603, hx1604, hf⟩ := bindS hf
  refine RW.op (by kernel_rfl) (OK.call' en35 (by kernel_rfl) (c35 (F := (.sl (.slice (some ⟨b1572, 0, none⟩) 256 256) 49 1 256 cl1574) :: (.blk b1579 (.cells #[.int .i64 0, .int .i64 0, .int .u64 0, .slice none 0 0] 25 (0, 0))) :: F) x1585 b1593 A1594 n1595 c1596 cl1597 hn1598 rp1599 s hx1604) ?_)
  intro X1607 hX1608
  refine fun _ _ hJ => hJ X1607 ?_
  intro I1609 A1610 c1611 w1605 s k1606 hc1612 e1613
  refine hX1608 _ _ ?_
  replace rp1599 := rp1599.st k1606
  replace rp1576 := rp1576.st k1606
  replace kk := kk.trans k1606
  refine RW.seg hT 1 [] [] [.int .u32 x1603.1] [] (by kernel_rfl) (trivial) ?_
  refine RW.nil ?_
  refine WPK.seq ?_
  refine WPK.region ?_
  refine RW.seg hT 1 [] [] [.pointer (some ⟨b1593, 0, none⟩)] [] (by kernel_rfl) (trivial) ?_
  obtain ⟨x1614, hx1615, hf⟩ := bindS hf
  refine RW.op (by kernel_rfl) (OK.call' en36 (by kernel_rfl) (c36 (F := (.sl (.slice (some ⟨b1572, 0, none⟩) 256 256) 49 1 256 cl1574) :: (.blk b1579 (.cells #[.int .i64 0, .int .i64 0, .int .u64 0, .slice none 0 0] 25 (0, 0))) :: F) x1603.2 b1593 A1610 c1611 hc1612 e1613 s hx1615) ?_)
  intro X1618 hX1619
  refine fun _ _ hJ => hJ X1618 ?_
  intro I1620 A1621 c1622 w1616 s k1617 hc1623 e1624
  refine hX1619 _ _ ?_
  replace e1613 := e1613.st k1617
  replace rp1576 := rp1576.st k1617
  replace kk := kk.trans k1617
  refine RW.seg hT 2 [undef] [] [.int .i64 (IntKind.i64.wrap x1614.1), .agg #[.int .i64 (IntKind.i64.wrap x1614.1), .int .i64 0, .int .u64 0, .slice none 0 0]] [] (by kernel_rfl) (trivial) ?_
  refine RW.op (by kernel_rfl) (OK.new hT (f := fun b => .pointer (some ⟨b, 0, none⟩)) (cs := [.int .i64 0, .int .i64 0, .int .u64 0, .slice none 0 0]) (e := 25) (c := .tt) s (by kernel_rfl) trivial ?_)
  rintro w1625 b1626 s k1627 -
  replace e1624 := e1624.st k1627
  replace rp1576 := rp1576.st k1627
  replace kk := kk.trans k1627
  refine RW.op (by kernel_rfl) (OK.store hT (i := 0) (b := b1626) (off := 0) (n := 4) (vs := [.int .i64 (IntKind.i64.wrap x1614.1), .int .i64 0, .int .u64 0, .slice none 0 0]) (cs := [.int .i64 0, .int .i64 0, .int .u64 0, .slice none 0 0]) (e := 25) s (by kernel_rfl) rfl rfl (flat_ok rfl) (Nat.le_of_ble_eq_true rfl) ?_)
  rintro w1628 s k1629 -
  replace e1624 := e1624.st k1629
  replace rp1576 := rp1576.st k1629
  replace kk := kk.trans k1629
  refine RW.nil ?_
  refine WPK.seq ?_
  refine WPK.region ?_
  refine RW.seg hT 1 [] [] [.pointer (some ⟨b1593, 0, none⟩)] [] (by kernel_rfl) (trivial) ?_
  replace s := s.pick [1, 0, 2, 3] 4 rfl
  obtain ⟨x1630, hx1631, hf⟩ := bindS hf
  refine RW.op (by kernel_rfl) (OK.call' en36 (by kernel_rfl) (c36 (F := (.blk b1626 (.cells #[.int .i64 (IntKind.i64.wrap x1614.1), .int .i64 0, .int .u64 0, .slice none 0 0] 25 (0, 0))) :: (.sl (.slice (some ⟨b1572, 0, none⟩) 256 256) 49 1 256 cl1574) :: (.blk b1579 (.cells #[.int .i64 0, .int .i64 0, .int .u64 0, .slice none 0 0] 25 (0, 0))) :: F) x1614.2 b1593 A1621 c1622 hc1623 e1624 s hx1631) ?_)
  intro X1634 hX1635
  refine fun _ _ hJ => hJ X1634 ?_
  intro I1636 A1637 c1638 w1632 s k1633 hc1639 e1640
  refine hX1635 _ _ ?_
  replace e1624 := e1624.st k1633
  replace rp1576 := rp1576.st k1633
  replace kk := kk.trans k1633
  refine RW.nil ?_
  refine WPK.seq ?_
  refine WPK.region ?_
  refine RW.seg hT 1 [] [] [.pointer (some ⟨b1593, 0, none⟩)] [] (by kernel_rfl) (trivial) ?_
  obtain ⟨x1641, hx1642, hf⟩ := bindS hf
  refine RW.op (by kernel_rfl) (OK.call' en37 (by kernel_rfl) (c37 (F := (.blk b1626 (.cells #[.int .i64 (IntKind.i64.wrap x1614.1), .int .i64 0, .int .u64 0, .slice none 0 0] 25 (0, 0))) :: (.sl (.slice (some ⟨b1572, 0, none⟩) 256 256) 49 1 256 cl1574) :: (.blk b1579 (.cells #[.int .i64 0, .int .i64 0, .int .u64 0, .slice none 0 0] 25 (0, 0))) :: F) x1630.2 b1593 A1637 c1638 hc1639 e1640 s hx1642) ?_)
  intro X1645 hX1646
  refine fun _ _ hJ => hJ X1645 ?_
  intro I1647 A1648 c1649 w1643 s k1644 hc1650 e1651
  refine hX1646 _ _ ?_
  replace e1640 := e1640.st k1644
  replace rp1576 := rp1576.st k1644
  replace kk := kk.trans k1644
  refine RW.seg hT 2 [undef] [] [.int .i64 (IntKind.i64.wrap x1641.1), .pointer (some ⟨b1593, 0, none⟩)] [] (by kernel_rfl) (trivial) ?_
  obtain ⟨x1652, hx1653, hf⟩ := bindS hf
  refine RW.op (by kernel_rfl) (OK.call' en38 (by kernel_rfl) (c38 (F := (.blk b1626 (.cells #[.int .i64 (IntKind.i64.wrap x1614.1), .int .i64 0, .int .u64 0, .slice none 0 0] 25 (0, 0))) :: (.sl (.slice (some ⟨b1572, 0, none⟩) 256 256) 49 1 256 cl1574) :: (.blk b1579 (.cells #[.int .i64 0, .int .i64 0, .int .u64 0, .slice none 0 0] 25 (0, 0))) :: F) x1641.2 b1593 A1648 c1649 hc1650 e1651 s hx1653) ?_)
  intro X1656 hX1657
  refine fun _ _ hJ => hJ X1656 ?_
  intro I1658 A1659 c1660 w1654 s k1655 hc1661 e1662
  refine hX1657 _ _ ?_
  replace e1651 := e1651.st k1655
  replace rp1576 := rp1576.st k1655
  replace kk := kk.trans k1655
  refine RW.seg hT 1 [] [] [.pointer (some ⟨b1626, 1, none⟩)] [] (by kernel_rfl) (trivial) ?_
  refine RW.op (by kernel_rfl) (OK.store hT (i := 1) (b := b1626) (off := 1) (n := 1) (vs := [.int .i64 (IntKind.i64.wrap x1641.1)]) (cs := [.int .i64 (IntKind.i64.wrap x1614.1), .int .i64 0, .int .u64 0, .slice none 0 0]) (e := 25) s (by kernel_rfl) rfl rfl (flat_ok rfl) (Nat.le_of_ble_eq_true rfl) ?_)
  rintro w1663 s k1664 -
  replace e1662 := e1662.st k1664
  replace rp1576 := rp1576.st k1664
  replace kk := kk.trans k1664
  refine RW.seg hT 1 [] [] [.pointer (some ⟨b1626, 2, none⟩)] [] (by kernel_rfl) (trivial) ?_
  refine RW.op (by kernel_rfl) (OK.store hT (i := 1) (b := b1626) (off := 2) (n := 1) (vs := [.int .u64 x1652.1]) (cs := [.int .i64 (IntKind.i64.wrap x1614.1), .int .i64 (IntKind.i64.wrap x1641.1), .int .u64 0, .slice none 0 0]) (e := 25) s (by kernel_rfl) rfl rfl (flat_ok rfl) (Nat.le_of_ble_eq_true rfl) ?_)
  rintro w1665 s k1666 -
  replace e1662 := e1662.st k1666
  replace rp1576 := rp1576.st k1666
  replace kk := kk.trans k1666
  refine RW.nil ?_
  refine WPK.seq ?_
  refine WPK.region ?_
  refine RW.seg hT 1 [] [] [.pointer (some ⟨b1593, 0, none⟩)] [] (by kernel_rfl) (trivial) ?_
  obtain ⟨x1667, hx1668, hf⟩ := bindS hf
  refine RW.op (by kernel_rfl) (OK.call' en39 (by kernel_rfl) (c39 (F := (.blk b1626 (.cells #[.int .i64 (IntKind.i64.wrap x1614.1), .int .i64 (IntKind.i64.wrap x1641.1), .int .u64 x1652.1, .slice none 0 0] 25 (0, 0))) :: (.sl (.slice (some ⟨b1572, 0, none⟩) 256 256) 49 1 256 cl1574) :: (.blk b1579 (.cells #[.int .i64 0, .int .i64 0, .int .u64 0, .slice none 0 0] 25 (0, 0))) :: F) x1652.2 240 b1593 A1659 c1660 hc1661 e1662 s hx1668) ?_)
  intro X1671 hX1672
  refine fun _ _ hJ => hJ X1671 ?_
  intro I1673 A1674 c1675 A1678 c1679 w1669 s k1670 hc1676 e1677 hc1680 e1681
  refine hX1672 _ _ ?_
  replace e1662 := e1662.st k1670
  replace rp1576 := rp1576.st k1670
  replace kk := kk.trans k1670
  refine RW.seg hT 1 [] [] [.pointer (some ⟨b1626, 3, none⟩)] [] (by kernel_rfl) (trivial) ?_
  refine RW.op (by kernel_rfl) (OK.store hT (i := 1) (b := b1626) (off := 3) (n := 1) (vs := [.slice A1674 x1667.1.length c1675]) (cs := [.int .i64 (IntKind.i64.wrap x1614.1), .int .i64 (IntKind.i64.wrap x1641.1), .int .u64 x1652.1, .slice none 0 0]) (e := 25) s (by kernel_rfl) rfl rfl (flat_ok rfl) (Nat.le_of_ble_eq_true rfl) ?_)
  rintro w1682 s k1683 -
  replace e1677 := e1677.st k1683
  replace e1681 := e1681.st k1683
  replace rp1576 := rp1576.st k1683
  replace kk := kk.trans k1683
  refine RW.nil ?_
  refine WPK.seq ?_
  refine WPK.region ?_
  refine RW.seg hT 2 [.agg #[.int .i64 (IntKind.i64.wrap x1614.1), .int .i64 (IntKind.i64.wrap x1641.1), .int .u64 x1652.1, .slice A1674 x1667.1.length c1675]] [] [.agg #[.int .i64 (IntKind.i64.wrap x1614.1), .int .i64 (IntKind.i64.wrap x1641.1), .int .u64 x1652.1, .slice A1674 x1667.1.length c1675], .int .u32 x1603.1] [.cells ⟨b1626, 0, none⟩ [.int .i64 (IntKind.i64.wrap x1614.1), .int .i64 (IntKind.i64.wrap x1641.1), .int .u64 x1652.1, .slice A1674 x1667.1.length c1675] 4] (by kernel_rfl) (s.cells (i := 1) rfl rfl rfl) ?_
  refine RW.op (by kernel_rfl) (OK.store hT (i := 3) (b := b1579) (off := 0) (n := 4) (vs := [.int .i64 (IntKind.i64.wrap x1614.1), .int .i64 (IntKind.i64.wrap x1641.1), .int .u64 x1652.1, .slice A1674 x1667.1.length c1675]) (cs := [.int .i64 0, .int .i64 0, .int .u64 0, .slice none 0 0]) (e := 25) s (by kernel_rfl) rfl rfl (flat_ok rfl) (Nat.le_of_ble_eq_true rfl) ?_)
  rintro w1684 s k1685 -
  replace e1677 := e1677.st k1685
  replace e1681 := e1681.st k1685
  replace rp1576 := rp1576.st k1685
  replace kk := kk.trans k1685
  refine RW.seg hT 1 [] [] [.int .u32 x1603.1] [] (by kernel_rfl) (trivial) ?_
  refine RW.nil ?_
  refine WPK.ret (?_)
  obtain rfl := someS hf
  refine Fin.of (rs := [.cell 2 25, .tmp 3]) hT [.agg #[.int .i64 (IntKind.i64.wrap x1614.1), .int .i64 (IntKind.i64.wrap x1641.1), .int .u64 x1652.1, .slice A1674 x1667.1.length c1675]] (.tuple #[.agg #[.int .i64 (IntKind.i64.wrap x1614.1), .int .i64 (IntKind.i64.wrap x1641.1), .int .u64 x1652.1, .slice A1674 x1667.1.length c1675], .int .u32 x1603.1]) [.cells ⟨b1579, 0, none⟩ [.int .i64 (IntKind.i64.wrap x1614.1), .int .i64 (IntKind.i64.wrap x1641.1), .int .u64 x1652.1, .slice A1674 x1667.1.length c1675] 4] rfl (by kernel_rfl) (s.cells (i := 3) rfl rfl rfl) ?_
  replace s := s.pick [] 4 rfl
  exact fun X h => vc rfl (h I1673 A1674 c1675 _ s kk hc1676 e1677)
theorem c59 {w0 w : World} {M I : Nat → Prop} {F : List It} (p0 : Int) (s : St w0 M I (F) w) {r : Int} (hf : g59 p0 = some r) :
    Ret Tryd.prog 59 [.int .u32 p0] w fun v wz => ∀ X : Value → World → Prop, (∀ (I' : Nat → Prop) (w' : World), St w0 M I' (F) w' → Kp I w I' w' → X (.int .u32 r) w') → X v wz := by
  have kk : Kp I w I w := Kp.refl
  unfold g59 at hf
  refine Ret.of Tryd.func59 rfl ?_
  refine WPK.seq ?_
  refine WPK.region ?_
  refine RW.seg hT 1 [] [] [.int .u32 0] [] (by kernel_rfl) (trivial) ?_
  refine RW.nil ?_
  refine WPK.seq ?_
  refine WPK.region ?_
  refine RW.seg hT 3 [] [] [.int .u32 p0, .int .u32 (xorI .u32 p0 4294967295), .int .u32 (xorI .u32 p0 4294967295)] [] (by kernel_rfl) (trivial) ?_
  refine RW.nil ?_
  refine WPK.ret (?_)
  obtain rfl := someS hf
  refine Fin.of (rs := [.tmp 2]) hT [] (.int .u32 (xorI .u32 p0 4294967295)) [] rfl (by kernel_rfl) (trivial) ?_
  exact fun X h => vc rfl (h I _ s kk)
theorem c66 {w0 w : World} {M I : Nat → Prop} {F : List It} (p0 : Int) (eg0 : Elems (Rp.int .u32) I w (some ⟨0, 0, none⟩) TAB0) (s : St w0 M I (F) w) {r : Int} (hf : g66 p0 = some r) :
    Ret Tryd.prog 66 [.int .u32 p0] w fun v wz => ∀ X : Value → World → Prop, (∀ (I' : Nat → Prop) (w' : World), St w0 M I' (F) w' → Kp I w I' w' → X (.int .u32 r) w') → X v wz := by
  have kk : Kp I w I w := Kp.refl
  unfold g66 at hf
  refine Ret.of Tryd.func66 rfl ?_
  refine WPK.seq ?_
  refine WPK.region ?_
  refine RW.seg hT 1 [] [] [.int .u32 0] [] (by kernel_rfl) (trivial) ?_
  refine RW.nil ?_
  refine WPK.seq ?_
  refine WPK.region ?_
  obtain ⟨x1754, hx1755, hf⟩ := bindS hf
  obtain ⟨h1756, hx1755⟩ := getS hx1755
  obtain ⟨cs1757, hr1758, ha1759⟩ := Elems.get eg0 hx1755
  obtain rfl : cs1757 = [.int .u32 x1754] := hr1758
  refine RW.seg hT 8 [.int .u32 x1754] [] [.int .u32 p0, .int .u32 (shrI .u32 p0 4), .int .u32 p0, .int .u32 (andI .u32 p0 15), .pointer (some ⟨0, 0 + (andI .u32 p0 15).toNat * 1, none⟩), .int .u32 x1754, .int .u32 (xorI .u32 (shrI .u32 p0 4) x1754), .int .u32 (xorI .u32 (shrI .u32 p0 4) x1754)] [.nn 4, .idx (andI .u32 p0 15) 16, .cell ⟨0, 0 + (andI .u32 p0 15).toNat * 1, none⟩ (.int .u32 x1754)] (by kernel_rfl) (⟨(show (0 : Int) ≤ 4 by decide), h1756, ha1759 0 _ rfl⟩) ?_
  refine RW.nil ?_
  refine WPK.ret (?_)
  obtain rfl := someS hf
  refine Fin.of (rs := [.tmp 2]) hT [] (.int .u32 (xorI .u32 (shrI .u32 p0 4) x1754)) [] rfl (by kernel_rfl) (trivial) ?_
  exact fun X h => vc rfl (h I _ s kk)
theorem c60 {w0 w : World} {M I : Nat → Prop} {F : List It} (p0 : Int) (p1 : (List Int)) (A1915 : Option Addr) (c1916 : Nat) (hc1917 : (p1.length ≤ c1916 ∧ c1916 ≤ 9223372036854775807)) (e1918 : Elems (Rp.int .u8) I w A1915 p1) (eg0 : Elems (Rp.int .u32) I w (some ⟨0, 0, none⟩) TAB0) (s : St w0 M I (F) w) {r : Int} (hf : g60 p0 p1 = some r) :
    Ret Tryd.prog 60 [.int .u32 p0, .slice A1915 p1.length c1916] w fun v wz => ∀ X : Value → World → Prop, (∀ (I' : Nat → Prop) (w' : World), St w0 M I' (F) w' → Kp I w I' w' → X (.int .u32 r) w') → X v wz := by
  have kk : Kp I w I w := Kp.refl
  unfold g60 at hf
  refine Ret.of Tryd.func60 rfl ?_
  refine WPK.seq ?_
  refine WPK.region ?_
  refine RW.seg hT 1 [] [] [.int .u32 0] [] (by kernel_rfl) (trivial) ?_
  refine RW.nil ?_
  refine WPK.seq ?_
  refine WPK.seq ?_
  refine WPK.region ?_
  refine RW.seg hT 3 [] [] [.slice A1915 p1.length c1916, .int .i64 (p1.length : Int), .int .i64 0] [] (by kernel_rfl) (trivial) ?_
  refine RW.nil ?_
  refine WPK.block ?_
  refine WPK.loop' (J := fun n2057 E ds wz => ∀ X : Kont, (∀ (I2031 : Nat → Prop) (x2028 : Int) (x2029 : Int) (D2027 : List Value) (w' : World), g60_l1 p1 n2057 x2028 x2029 = some r → St w0 M I2031 (F) w' → Kp I w I2031 w' → Elems (Rp.int .u8) I2031 w' A1915 p1 → Elems (Rp.int .u32) I2031 w' (some ⟨0, 0, none⟩) TAB0 → X [.int .u32 x2028, (D2027.getD 0 undef), (D2027.getD 1 undef), (D2027.getD 2 undef), .int .u32 0, (D2027.getD 3 undef), (D2027.getD 4 undef), .slice A1915 p1.length c1916, .int .i64 (p1.length : Int), .int .i64 x2029, (D2027.getD 5 undef), (D2027.getD 6 undef), (D2027.getD 7 undef), (D2027.getD 8 undef), (D2027.getD 9 undef), (D2027.getD 10 undef), (D2027.getD 11 undef), (D2027.getD 12 undef), (D2027.getD 13 undef), (D2027.getD 14 undef), (D2027.getD 15 undef), undef] [] w') → X E ds wz) FUEL (fun X h => kc (by kernel_rfl) rfl (h I p0 0 [.slice A1915 p1.length c1916, undef, undef, undef, undef, undef, undef, undef, undef, undef, undef, undef, undef, undef, undef, undef] _ hf s kk e1918 eg0)) (fun _ _ _ hJ => hJ (fun _ _ _ => False) (by intro I2031 x2028 x2029 D2027 w2030 hf s kk e1918 eg0; exact noneS hf)) ?_
  intro X2083 hX2084
  refine fun n2057 _ _ _ hJ => hJ (X2083 n2057) ?_
  intro I2031 x2028 x2029 D2027 w2030 hf s kk e1918 eg0
  refine hX2084 _ _ _ _ ?_
  replace hf : g60_l1B p1 (g60_l1 p1 n2057) x2028 x2029 = some r := hf
  generalize hrec2058 : g60_l1 p1 n2057 = rec2056 at hf
  unfold g60_l1B at hf
  refine WPK.seq ?_
  refine WPK.region ?_
  refine RW.seg hT 1 [] [] [.bool (decide (x2029 < (p1.length : Int)))] [] (by kernel_rfl) (trivial) ?_
  refine RW.nil ?_
  refine WPK.seq ?_
  by_cases h2060 : x2029 < (p1.length : Int)
  · have hf := iteT h2060 hf
    refine WPK.condT (Eq.trans (b := .bool (decide (x2029 < (p1.length : Int)))) (by kernel_rfl) (bo_t h2060)) ?_
    refine WPK.skip ?_
    refine WPK.seq ?_
    refine WPK.block ?_
    refine WPK.seq ?_
    refine WPK.region ?_
    obtain ⟨x2061, hx2062, hf⟩ := bindS hf
    obtain ⟨h2063, hx2062⟩ := getS hx2062
    obtain ⟨b2064, o2065, rfl⟩ := Elems.opn e1918 hx2062
    obtain ⟨cs2066, hr2067, ha2068⟩ := Elems.get e1918 hx2062
    obtain rfl : cs2066 = [.int .u8 x2061] := hr2067
    refine RW.seg hT 3 [.int .u8 x2061] [] [.pointer (some ⟨b2064, o2065 + x2029.toNat * 1, none⟩), .int .u8 x2061, .int .u8 x2061] [.idx x2029 p1.length, .cell ⟨b2064, o2065 + x2029.toNat * 1, none⟩ (.int .u8 x2061)] (by kernel_rfl) (⟨h2063, ha2068 0 _ rfl⟩) ?_
    refine RW.nil ?_
    refine WPK.seq ?_
    refine WPK.region ?_
    refine RW.seg hT 5 [undef] [] [.int .u32 x2028, .int .u8 x2061, .int .u32 (IntKind.u32.wrap x2061), .int .u32 (xorI .u32 x2028 (IntKind.u32.wrap x2061)), .int .u32 (xorI .u32 x2028 (IntKind.u32.wrap x2061))] [] (by kernel_rfl) (trivial) ?_
    refine RW.nil ?_
    refine WPK.region ?_
    refine RW.seg hT 1 [] [] [.int .u32 (xorI .u32 x2028 (IntKind.u32.wrap x2061))] [] (by kernel_rfl) (trivial) ?_
    obtain ⟨x2069, hx2070, hf⟩ := bindS hf
    refine RW.op (by kernel_rfl) (OK.call' en66 (by kernel_rfl) (c66 (F := F) (xorI .u32 x2028 (IntKind.u32.wrap x2061)) eg0 s hx2070) ?_)
    intro X2073 hX2074
    refine fun _ _ hJ => hJ X2073 ?_
    intro I2075 w2071 s k2072
    refine hX2074 _ _ ?_
    replace e1918 := e1918.st k2072
    replace eg0 := eg0.st k2072
    replace kk := kk.trans k2072
    obtain ⟨x2076, hx2077, hf⟩ := bindS hf
    refine RW.op (by kernel_rfl) (OK.call' en66 (by kernel_rfl) (c66 (F := F) x2069 eg0 s hx2077) ?_)
    intro X2080 hX2081
    refine fun _ _ hJ => hJ X2080 ?_
    intro I2082 w2078 s k2079
    refine hX2081 _ _ ?_
    replace e1918 := e1918.st k2079
    replace eg0 := eg0.st k2079
    replace kk := kk.trans k2079
    refine RW.seg hT 1 [] [] [.int .u32 x2076] [] (by kernel_rfl) (trivial) ?_
    refine RW.nil ?_
    refine WPK.region ?_
    refine RW.seg hT 2 [] [] [.int .i64 (IntKind.i64.wrap (x2029 + 1)), .int .i64 (IntKind.i64.wrap (x2029 + 1))] [] (by kernel_rfl) (trivial) ?_
    refine RW.nil ?_
    subst hrec2058
    exact ⟨n2057, Nat.le_refl _, fun X h => kc (by kernel_rfl) rfl (h I2082 x2076 (IntKind.i64.wrap (x2029 + 1)) [(D2027.getD 0 undef), (D2027.getD 1 undef), (D2027.getD 2 undef), (D2027.getD 3 undef), .int .u8 x2061, .bool (decide (x2029 < (p1.length : Int))), .pointer (some ⟨b2064, o2065 + x2029.toNat * 1, none⟩), .int .u8 x2061, .int .u32 x2028, .int .u8 x2061, .int .u32 (IntKind.u32.wrap x2061), .int .u32 (xorI .u32 x2028 (IntKind.u32.wrap x2061)), .int .u32 (xorI .u32 x2028 (IntKind.u32.wrap x2061)), .int .u32 x2069, .int .u32 x2076, .int .i64 (IntKind.i64.wrap (x2029 + 1))] _ hf s kk e1918 eg0)⟩
  · have hf := iteF h2060 hf
    refine WPK.condF (Eq.trans (b := .bool (decide (x2029 < (p1.length : Int)))) (by kernel_rfl) (bo_f h2060)) ?_
    refine WPK.exit (blockQ.same ?_)
    refine WPK.seq ?_
    refine WPK.region ?_
    refine RW.seg hT 2 [] [] [.int .u32 x2028, .int .u32 x2028] [] (by kernel_rfl) (trivial) ?_
    refine RW.nil ?_
    refine WPK.ret (?_)
    obtain rfl := someS hf
    refine Fin.of (rs := [.tmp 4]) hT [] (.int .u32 x2028) [] rfl (by kernel_rfl) (trivial) ?_
    exact fun X h => vc rfl (h I2031 _ s kk)
theorem c61 {w0 w : World} {M I : Nat → Prop} {F : List It} (p0 : Int) (s : St w0 M I (F) w) {r : Int} (hf : g61 p0 = some r) :
    Ret Tryd.prog 61 [.int .u32 p0] w fun v wz => ∀ X : Value → World → Prop, (∀ (I' : Nat → Prop) (w' : World), St w0 M I' (F) w' → Kp I w I' w' → X (.int .u32 r) w') → X v wz := by
  have kk : Kp I w I w := Kp.refl
  unfold g61 at hf
  refine Ret.of Tryd.func61 rfl ?_
  refine WPK.seq ?_
  refine WPK.region ?_
  refine RW.seg hT 1 [] [] [.int .u32 0] [] (by kernel_rfl) (trivial) ?_
  refine RW.nil ?_
  refine WPK.seq ?_
  refine WPK.region ?_
  refine RW.seg hT 3 [] [] [.int .u32 p0, .int .u32 (xorI .u32 p0 4294967295), .int .u32 (xorI .u32 p0 4294967295)] [] (by kernel_rfl) (trivial) ?_
  refine RW.nil ?_
  refine WPK.ret (?_)
  obtain rfl := someS hf
  refine Fin.of (rs := [.tmp 2]) hT [] (.int .u32 (xorI .u32 p0 4294967295)) [] rfl (by kernel_rfl) (trivial) ?_
  exact fun X h => vc rfl (h I _ s kk)
theorem c27 {w0 w : World} {M I : Nat → Prop} {F : List It} (p0 : Int) (s : St w0 M I (F) w) {r : Bool} (hf : g27 p0 = some r) :
    Ret Tryd.prog 27 [.int .i64 p0] w fun v wz => ∀ X : Value → World → Prop, (∀ (I' : Nat → Prop) (w' : World), St w0 M I' (F) w' → Kp I w I' w' → X (.bool r) w') → X v wz := by
  have kk : Kp I w I w := Kp.refl
  unfold g27 at hf
  refine Ret.of Tryd.func27 rfl ?_
  refine WPK.seq ?_
  refine WPK.region ?_
  refine RW.seg hT 1 [] [] [.bool false] [] (by kernel_rfl) (trivial) ?_
  refine RW.nil ?_
  refine WPK.seq ?_
  refine WPK.region ?_
  refine RW.seg hT 2 [] [] [.int .i64 p0, .bool (decide (p0 ≥ 1))] [] (by kernel_rfl) (trivial) ?_
  by_cases h2493 : p0 ≥ 1
  · have hf := iteT h2493 hf
    refine RW.seg hT 5 [] [(5, .bool true)] [.bool true, .int .i64 p0, .bool (decide (p0 ≤ 4)), .bool (decide (p0 ≤ 4)), .bool (decide (p0 ≤ 4))] [.veq (.bool (decide (p0 ≥ 1))) (.bool true)] (by kernel_rfl) (bo_t h2493) ?_
    refine RW.nil ?_
    refine WPK.ret (?_)
    obtain rfl := someS hf
    refine Fin.of (rs := [.tmp 2]) hT [] (.bool (decide (p0 ≤ 4))) [] rfl (by kernel_rfl) (trivial) ?_
    exact fun X h => vc rfl (h I _ s kk)
  · have hf := iteF h2493 hf
    refine RW.seg hT 5 [] [(5, .bool false)] [.bool false, undef, undef, .bool false, .bool false] [.veq (.bool (decide (p0 ≥ 1))) (.bool false)] (by kernel_rfl) (bo_f h2493) ?_
    refine RW.nil ?_
    refine WPK.ret (?_)
    obtain rfl := someS hf
    refine Fin.of (rs := [.tmp 2]) hT [] (.bool false) [] rfl (by kernel_rfl) (trivial) ?_
    exact fun X h => vc rfl (h I _ s kk)
theorem c8 {w0 w : World} {M I : Nat → Prop} {F : List It} (p0 : (List Int)) (p1 : Int) (A3870 : Option Addr) (c3871 : Nat) (hc3872 : (p0.length ≤ c3871 ∧ c3871 ≤ 9223372036854775807)) (e3873 : Elems (Rp.int .u8) I w A3870 p0) (eg0 : Elems (Rp.int .u32) I w (some ⟨0, 0, none⟩) TAB0) (s : St w0 M I (F) w) {r : (T_api_Frame × Int)} (hf : g8 p0 p1 = some r) :
    Ret Tryd.prog 8 [.slice A3870 p0.length c3871, .int .i64 p1] w fun v wz => ∀ X : Value → World → Prop, (∀ (I' : Nat → Prop) (A5724 : Option Addr) (c5725 : Nat) (w' : World), St w0 M I' (F) w' → Kp I w I' w' → (r.1.Data.length ≤ c5725 ∧ c5725 ≤ 9223372036854775807) → Elems (Rp.int .u8) I' w' A5724 r.1.Data → X (.tuple #[.agg #[.int .i64 r.1.Kind, .int .i64 r.1.Page, .int .u64 r.1.Epoch, .slice A5724 r.1.Data.length c5725], .int .i64 r.2]) w') → X v wz := by
  have kk : Kp I w I w := Kp.refl
  unfold g8 at hf
  refine Ret.of Tryd.func8 rfl ?_
  refine WPK.seq ?_
  refine WPK.region ?_
  refine RW.op (by kernel_rfl) (OK.new hT (f := fun b => .pointer (some ⟨b, 0, none⟩)) (cs := [.int .i64 0, .int .i64 0, .int .u64 0, .slice none 0 0]) (e := 25) (c := .tt) s (by kernel_rfl) trivial ?_)
  rintro w3874 b3875 s k3876 -
  replace e3873 := e3873.st k3876
  replace eg0 := eg0.st k3876
  replace kk := kk.trans k3876
  refine RW.seg hT 1 [] [] [.int .i64 0] [] (by kernel_rfl) (trivial) ?_
  refine RW.nil ?_
  refine WPK.seq ?_
  refine WPK.seq ?_
  refine WPK.region ?_
  refine RW.seg hT 3 [] [(11, .bool (decide ((p0.length : Int) ≠ 256)))] [.slice A3870 p0.length c3871, .int .i64 (p0.length : Int), .bool (decide ((p0.length : Int) ≠ 256))] [.veq (.bool ((p0.length : Int) != 256)) (.bool (decide ((p0.length : Int) ≠ 256)))] (by kernel_rfl) (ne_v) ?_
  refine RW.nil ?_
  by_cases h3880 : (p0.length : Int) ≠ 256
  · have hf := iteT h3880 hf
    refine WPK.condT (Eq.trans (b := .bool (decide ((p0.length : Int) ≠ 256))) (by kernel_rfl) (bo_t h3880)) ?_
    refine WPK.seq ?_
    refine WPK.region ?_
    refine RW.seg hT 1 [] [] [.agg #[.int .i64 0, .int .i64 0, .int .u64 0, .slice none 0 0]] [] (by kernel_rfl) (trivial) ?_
    refine RW.op (by kernel_rfl) (OK.store hT (i := 0) (b := b3875) (off := 0) (n := 4) (vs := [.int .i64 0, .int .i64 0, .int .u64 0, .slice none 0 0]) (cs := [.int .i64 0, .int .i64 0, .int .u64 0, .slice none 0 0]) (e := 25) s (by kernel_rfl) rfl rfl (flat_ok rfl) (Nat.le_of_ble_eq_true rfl) ?_)
    rintro w3881 s k3882 -
    replace e3873 := e3873.st k3882
    replace eg0 := eg0.st k3882
    replace kk := kk.trans k3882
    refine RW.seg hT 1 [] [] [.int .i64 1] [] (by kernel_rfl) (trivial) ?_
    refine RW.nil ?_
    refine WPK.ret (?_)
    obtain rfl := someS hf
    refine Fin.of (rs := [.cell 4 25, .tmp 5]) hT [.agg #[.int .i64 0, .int .i64 0, .int .u64 0, .slice none 0 0]] (.tuple #[.agg #[.int .i64 0, .int .i64 0, .int .u64 0, .slice none 0 0], .int .i64 1]) [.cells ⟨b3875, 0, none⟩ [.int .i64 0, .int .i64 0, .int .u64 0, .slice none 0 0] 4] rfl (by kernel_rfl) (s.cells (i := 0) rfl rfl rfl) ?_
    replace s := s.pick [] 1 rfl
    exact fun X h => vc rfl (h I none 0 _ s kk nil_hc Elems.nil)
  · have hf := iteF h3880 hf
    refine WPK.condF (Eq.trans (b := .bool (decide ((p0.length : Int) ≠ 256))) (by kernel_rfl) (bo_f h3880)) ?_
    refine WPK.skip ?_
    refine WPK.seq ?_
    refine WPK.region ?_
    refine RW.seg hT 1 [] [] [.slice A3870 p0.length c3871] [] (by kernel_rfl) (trivial) ?_
    obtain ⟨h3883, hf⟩ := iteS hf
    obtain ⟨b3884, o3885, rfl⟩ := Elems.some_of e3873 h3883 (by decide)
    refine RW.op (by kernel_rfl) (OK.head hT (t := 49) (N := 256) (e := 5) (A := (some ⟨b3884, o3885, none⟩)) (n := p0.length) (c := c3871) (by kernel_rfl) rfl rfl h3883 ?_)
    have hl3886 : 256 = ((List.take 256 p0)).length := by rw [List.length_take]; omega
    refine RW.seg hT 1 [.agg (List.map (Value.int .u8) (List.take 256 p0)).toArray] [] [.agg (List.map (Value.int .u8) (List.take 256 p0)).toArray] [.cells ⟨b3884, o3885, none⟩ (List.map (Value.int .u8) (List.take 256 p0)) 256] (by kernel_rfl) (Elems.arr e3873 h3883) ?_
    refine RW.op (by kernel_rfl) (OK.new hT (f := fun b => .pointer (some ⟨b, 0, none⟩)) (cs := (List.replicate 256 (Value.int .u8 0))) (e := 49) (c := .tt) s (by kernel_rfl) trivial ?_)
    rintro w3887 b3888 s k3889 -
    have hn3893 : 256 = ((List.replicate 256 (0 : Int))).length := by simp
    obtain ⟨cl3890, hcl3891⟩ : ∃ q, q = (List.replicate 256 (Value.int .u8 0)) := ⟨_, rfl⟩
    replace s := s.blkSl (i := 0) (n := 256) (c := 256) (size := 1) rfl (by simp) (Nat.le_refl _) (by decide)
    rw [List.take_of_length_le (by simp), ← hcl3891] at s
    replace e3873 := e3873.st k3889
    replace eg0 := eg0.st k3889
    replace kk := kk.trans k3889
    have rp3892 : RepL (Rp.int .u8) I w3887 cl3890 (List.replicate 256 (0 : Int)) := by rw [hcl3891]; exact RepL.rep rfl _
    obtain ⟨cl3896, hcl3897⟩ : ∃ q, q = List.map (Value.int .u8) (List.take 256 p0) := ⟨_, rfl⟩
    have rp3898 : RepL (Rp.int .u8) I w3887 cl3896 (List.take 256 p0) := by rw [hcl3897]; exact repl_map
    have hn3899 := hl3886
    refine RW.op (by kernel_rfl) (OK.storeAt hT (i := 0) (b := b3888) (off := 0) (m := 256) (vs := (List.map (Value.int .u8) (List.take 256 p0))) (c := 256) (e := 49) (size := 1) (n := 256) (cl := cl3890) (cl' := cl3896) s (by kernel_rfl) rfl (by rw [List.length_map]; exact (hl3886).symm) (RepL.flat flat_int (repl_map (I := I) (w := w3887))) (by have h1 := RepL.length rp3892; have h2 := (hn3893).symm.trans hl3886; have h3 : (Rp.int .u8).n = 1 := rfl; rw [h3] at h1; simp only [List.length_map]; omega) (by rw [hcl3897]; have h1 := RepL.length rp3892; have h3 : (Rp.int .u8).n = 1 := rfl; rw [h3, Nat.mul_one, ← hn3893] at h1; exact setL_all (by rw [List.length_map, h1]; exact (hl3886).symm)) ?_)
    rintro w3894 s k3895
    replace e3873 := e3873.st k3895
    replace rp3898 := rp3898.st k3895
    replace eg0 := eg0.st k3895
    replace kk := kk.trans k3895
    refine RW.nil ?_
    refine WPK.seq ?_
    refine WPK.region ?_
    refine RW.seg hT 1 [.agg (List.map (Value.int .u8) (List.take 256 p0)).toArray] [] [.agg (List.map (Value.int .u8) (List.take 256 p0)).toArray] [.cells ⟨b3888, 0, none⟩ (List.map (Value.int .u8) (List.take 256 p0)) 256] (by kernel_rfl) (St.arr s (i := 0) rfl rp3898 hn3899) ?_
    obtain ⟨x3900, hx3901, hf⟩ := bindS hf
    refine RW.op (by kernel_rfl) (OK.call' en25 (by kernel_rfl) (c25 (F := (.sl (.slice (some ⟨b3888, 0, none⟩) 256 256) 49 1 256 cl3896) :: (.blk b3875 (.cells #[.int .i64 0, .int .i64 0, .int .u64 0, .slice none 0 0] 25 (0, 0))) :: F) (List.take 256 p0) hn3899 s hx3901) ?_)
    intro X3904 hX3905
    refine fun _ _ hJ => hJ X3904 ?_
    intro I3906 A3907 c3908 w3902 s k3903 hc3909 e3910
    refine hX3905 _ _ ?_
    replace e3873 := e3873.st k3903
    replace rp3898 := rp3898.st k3903
    replace eg0 := eg0.st k3903
    replace kk := kk.trans k3903
    refine RW.seg hT 3 [] [] [.tuple #[.agg #[.int .i64 x3900.1.Kind, .int .i64 x3900.1.Page, .int .u64 x3900.1.Epoch, .slice A3907 x3900.1.Data.length c3908], .int .u32 x3900.2], .agg #[.int .i64 x3900.1.Kind, .int .i64 x3900.1.Page, .int .u64 x3900.1.Epoch, .slice A3907 x3900.1.Data.length c3908], .int .u32 x3900.2] [] (by kernel_rfl) (trivial) ?_
    refine RW.op (by kernel_rfl) (OK.new hT (f := fun b => .pointer (some ⟨b, 0, none⟩)) (cs := [.int .i64 0, .int .i64 0, .int .u64 0, .slice none 0 0]) (e := 25) (c := .tt) s (by kernel_rfl) trivial ?_)
    rintro w3911 b3912 s k3913 -
    replace e3873 := e3873.st k3913
    replace e3910 := e3910.st k3913
    replace rp3898 := rp3898.st k3913
    replace eg0 := eg0.st k3913
    replace kk := kk.trans k3913
    refine RW.op (by kernel_rfl) (OK.store hT (i := 0) (b := b3912) (off := 0) (n := 4) (vs := [.int .i64 x3900.1.Kind, .int .i64 x3900.1.Page, .int .u64 x3900.1.Epoch, .slice A3907 x3900.1.Data.length c3908]) (cs := [.int .i64 0, .int .i64 0, .int .u64 0, .slice none 0 0]) (e := 25) s (by kernel_rfl) rfl rfl (flat_ok rfl) (Nat.le_of_ble_eq_true rfl) ?_)
    rintro w3914 s k3915 -
    replace e3873 := e3873.st k3915
    replace e3910 := e3910.st k3915
    replace rp3898 := rp3898.st k3915
    replace eg0 := eg0.st k3915
    replace kk := kk.trans k3915
    refine RW.seg hT 1 [] [] [.int .u32 x3900.2] [] (by kernel_rfl) (trivial) ?_
    refine RW.nil ?_
    refine WPK.seq ?_
    refine WPK.block ?_
    refine WPK.seq ?_
    refine WPK.cut' (Kn fun E ds wz => ∀ X : Kont, (∀ (I5247 : Nat → Prop) (x5245 : Bool) (D5244 : List Value) (w' : World), g8_j1 p0 p1 x3900 x5245 = some r → St w0 M I5247 ((.blk b3912 (.cells #[.int .i64 x3900.1.Kind, .int .i64 x3900.1.Page, .int .u64 x3900.1.Epoch, .slice A3907 x3900.1.Data.length c3908] 25 (0, 0))) :: (.sl (.slice (some ⟨b3888, 0, none⟩) 256 256) 49 1 256 cl3896) :: (.blk b3875 (.cells #[.int .i64 0, .int .i64 0, .int .u64 0, .slice none 0 0] 25 (0, 0))) :: F) w' → Kp I w I5247 w' → Elems (Rp.int .u8) I5247 w' A3907 x3900.1.Data → RepL (Rp.int .u8) I5247 w' cl3896 (List.take 256 p0) → Elems (Rp.int .u32) I5247 w' (some ⟨0, 0, none⟩) TAB0 → X [(D5244.getD 0 undef), .int .i64 p1, (D5244.getD 1 undef), (D5244.getD 2 undef), .pointer (some ⟨b3875, 0, none⟩), .int .i64 0, .pointer (some ⟨b3888, 0, none⟩), .pointer (some ⟨b3912, 0, none⟩), (D5244.getD 3 undef), (D5244.getD 4 undef), (D5244.getD 5 undef), (D5244.getD 6 undef), (D5244.getD 7 undef), (D5244.getD 8 undef), (D5244.getD 9 undef), (D5244.getD 10 undef), (D5244.getD 11 undef), (D5244.getD 12 undef), (D5244.getD 13 undef), (D5244.getD 14 undef), (D5244.getD 15 undef), .bool x5245, (D5244.getD 16 undef), (D5244.getD 17 undef), (D5244.getD 18 undef), (D5244.getD 19 undef), (D5244.getD 20 undef), (D5244.getD 21 undef), (D5244.getD 22 undef), (D5244.getD 23 undef), undef, undef, undef, (D5244.getD 24 undef), undef, undef, undef, undef, undef, undef, undef, undef, undef, undef, undef, undef, undef, undef, undef, undef, undef, undef, undef, undef] [] w') → X E ds wz) ?_ ?_
    · intro X5297 hX5298
      refine fun _ _ _ hJ => hJ X5297 ?_
      intro I5247 x5245 D5244 w5246 hf s kk e3910 rp3898 eg0
      refine hX5298 _ _ _ ?_
      unfold g8_j1 at hf
      by_cases h5248 : x5245 = true
      · have hf := iteT h5248 hf
        refine WPK.condT (Eq.trans (b := .bool x5245) (by kernel_rfl) (b_t h5248)) ?_
        refine WPK.seq ?_
        refine WPK.region ?_
        refine RW.seg hT 1 [] [] [.agg #[.int .i64 0, .int .i64 0, .int .u64 0, .slice none 0 0]] [] (by kernel_rfl) (trivial) ?_
        refine RW.op (by kernel_rfl) (OK.store hT (i := 2) (b := b3875) (off := 0) (n := 4) (vs := [.int .i64 0, .int .i64 0, .int .u64 0, .slice none 0 0]) (cs := [.int .i64 0, .int .i64 0, .int .u64 0, .slice none 0 0]) (e := 25) s (by kernel_rfl) rfl rfl (flat_ok rfl) (Nat.le_of_ble_eq_true rfl) ?_)
        rintro w5249 s k5250 -
        replace e3910 := e3910.st k5250
        replace rp3898 := rp3898.st k5250
        replace eg0 := eg0.st k5250
        replace kk := kk.trans k5250
        refine RW.seg hT 1 [] [] [.int .i64 40] [] (by kernel_rfl) (trivial) ?_
        refine RW.nil ?_
        refine WPK.ret (blockQ.ret (?_))
        obtain rfl := someS hf
        refine Fin.of (rs := [.cell 4 25, .tmp 5]) hT [.agg #[.int .i64 0, .int .i64 0, .int .u64 0, .slice none 0 0]] (.tuple #[.agg #[.int .i64 0, .int .i64 0, .int .u64 0, .slice none 0 0], .int .i64 40]) [.cells ⟨b3875, 0, none⟩ [.int .i64 0, .int .i64 0, .int .u64 0, .slice none 0 0] 4] rfl (by kernel_rfl) (s.cells (i := 2) rfl rfl rfl) ?_
        replace s := s.pick [] 3 rfl
        exact fun X h => vc rfl (h I5247 none 0 _ s kk nil_hc Elems.nil)
      · have hf := iteF h5248 hf
        refine WPK.condF (Eq.trans (b := .bool x5245) (by kernel_rfl) (b_f h5248)) ?_
        refine WPK.seq ?_
        refine WPK.cut' (Kn fun E ds wz => ∀ X : Kont, (∀ (I5268 : Nat → Prop) (x5266 : Bool) (D5265 : List Value) (w' : World), g8_j2 p1 x3900 x5266 = some r → St w0 M I5268 ((.blk b3912 (.cells #[.int .i64 x3900.1.Kind, .int .i64 x3900.1.Page, .int .u64 x3900.1.Epoch, .slice A3907 x3900.1.Data.length c3908] 25 (0, 0))) :: (.blk b3875 (.cells #[.int .i64 0, .int .i64 0, .int .u64 0, .slice none 0 0] 25 (0, 0))) :: F) w' → Kp I w I5268 w' → Elems (Rp.int .u8) I5268 w' A3907 x3900.1.Data → Elems (Rp.int .u32) I5268 w' (some ⟨0, 0, none⟩) TAB0 → X [(D5265.getD 0 undef), .int .i64 p1, (D5265.getD 1 undef), (D5265.getD 2 undef), .pointer (some ⟨b3875, 0, none⟩), .int .i64 0, (D5265.getD 3 undef), .pointer (some ⟨b3912, 0, none⟩), (D5265.getD 4 undef), (D5265.getD 5 undef), (D5265.getD 6 undef), (D5265.getD 7 undef), (D5265.getD 8 undef), (D5265.getD 9 undef), (D5265.getD 10 undef), (D5265.getD 11 undef), (D5265.getD 12 undef), (D5265.getD 13 undef), (D5265.getD 14 undef), (D5265.getD 15 undef), (D5265.getD 16 undef), (D5265.getD 17 undef), (D5265.getD 18 undef), (D5265.getD 19 undef), (D5265.getD 20 undef), (D5265.getD 21 undef), (D5265.getD 22 undef), (D5265.getD 23 undef), (D5265.getD 24 undef), (D5265.getD 25 undef), (D5265.getD 26 undef), .bool x5266, (D5265.getD 27 undef), (D5265.getD 28 undef), (D5265.getD 29 undef), (D5265.getD 30 undef), (D5265.getD 31 undef), (D5265.getD 32 undef), (D5265.getD 33 undef), (D5265.getD 34 undef), (D5265.getD 35 undef), undef, undef, undef, undef, undef, undef, undef, undef, undef, undef, undef, undef, undef] [] w') → X E ds wz) ?_ ?_
        · intro X5281 hX5282
          refine fun _ _ _ hJ => hJ X5281 ?_
          intro I5268 x5266 D5265 w5267 hf s kk e3910 eg0
          refine hX5282 _ _ _ ?_
          unfold g8_j2 at hf
          by_cases h5269 : x5266 = true
          · have hf := iteT h5269 hf
            refine WPK.condT (Eq.trans (b := .bool x5266) (by kernel_rfl) (b_t h5269)) ?_
            refine WPK.seq ?_
            refine WPK.region ?_
            refine RW.seg hT 1 [] [] [.agg #[.int .i64 0, .int .i64 0, .int .u64 0, .slice none 0 0]] [] (by kernel_rfl) (trivial) ?_
            refine RW.op (by kernel_rfl) (OK.store hT (i := 1) (b := b3875) (off := 0) (n := 4) (vs := [.int .i64 0, .int .i64 0, .int .u64 0, .slice none 0 0]) (cs := [.int .i64 0, .int .i64 0, .int .u64 0, .slice none 0 0]) (e := 25) s (by kernel_rfl) rfl rfl (flat_ok rfl) (Nat.le_of_ble_eq_true rfl) ?_)
            rintro w5270 s k5271 -
            replace e3910 := e3910.st k5271
            replace eg0 := eg0.st k5271
            replace kk := kk.trans k5271
            refine RW.seg hT 1 [] [] [.int .i64 42] [] (by kernel_rfl) (trivial) ?_
            refine RW.nil ?_
            refine WPK.ret (blockQ.ret (?_))
            obtain rfl := someS hf
            refine Fin.of (rs := [.cell 4 25, .tmp 5]) hT [.agg #[.int .i64 0, .int .i64 0, .int .u64 0, .slice none 0 0]] (.tuple #[.agg #[.int .i64 0, .int .i64 0, .int .u64 0, .slice none 0 0], .int .i64 42]) [.cells ⟨b3875, 0, none⟩ [.int .i64 0, .int .i64 0, .int .u64 0, .slice none 0 0] 4] rfl (by kernel_rfl) (s.cells (i := 1) rfl rfl rfl) ?_
            replace s := s.pick [] 2 rfl
            exact fun X h => vc rfl (h I5268 none 0 _ s kk nil_hc Elems.nil)
          · have hf := iteF h5269 hf
            refine WPK.condF (Eq.trans (b := .bool x5266) (by kernel_rfl) (b_f h5269)) ?_
            refine WPK.seq ?_
            refine WPK.region ?_
            refine RW.seg hT 4 [.int .i64 x3900.1.Page] [(46, .bool (decide (x3900.1.Page ≠ p1)))] [.pointer (some ⟨b3912, 1, none⟩), .int .i64 x3900.1.Page, .int .i64 p1, .bool (decide (x3900.1.Page ≠ p1))] [.cell ⟨b3912, 1, none⟩ (.int .i64 x3900.1.Page), .veq (.bool (x3900.1.Page != p1)) (.bool (decide (x3900.1.Page ≠ p1)))] (by kernel_rfl) (⟨s.cell (i := 0) (off := 1) rfl rfl, ne_v⟩) ?_
            by_cases h5273 : x3900.1.Page ≠ p1
            · have hf := iteT h5273 hf
              refine RW.seg hT 6 [] [(47, .bool true)] [.bool true, undef, undef, undef, .bool true, .bool true] [.veq (.bool (decide (x3900.1.Page ≠ p1))) (.bool true)] (by kernel_rfl) (bo_t h5273) ?_
              refine RW.nil ?_
              refine WPK.condT (by kernel_rfl) ?_
              refine WPK.seq ?_
              refine WPK.region ?_
              refine RW.seg hT 1 [] [] [.agg #[.int .i64 0, .int .i64 0, .int .u64 0, .slice none 0 0]] [] (by kernel_rfl) (trivial) ?_
              refine RW.op (by kernel_rfl) (OK.store hT (i := 1) (b := b3875) (off := 0) (n := 4) (vs := [.int .i64 0, .int .i64 0, .int .u64 0, .slice none 0 0]) (cs := [.int .i64 0, .int .i64 0, .int .u64 0, .slice none 0 0]) (e := 25) s (by kernel_rfl) rfl rfl (flat_ok rfl) (Nat.le_of_ble_eq_true rfl) ?_)
              rintro w5274 s k5275 -
              replace e3910 := e3910.st k5275
              replace eg0 := eg0.st k5275
              replace kk := kk.trans k5275
              refine RW.seg hT 1 [] [] [.int .i64 41] [] (by kernel_rfl) (trivial) ?_
              refine RW.nil ?_
              refine WPK.ret (blockQ.ret (?_))
              obtain rfl := someS hf
              refine Fin.of (rs := [.cell 4 25, .tmp 5]) hT [.agg #[.int .i64 0, .int .i64 0, .int .u64 0, .slice none 0 0]] (.tuple #[.agg #[.int .i64 0, .int .i64 0, .int .u64 0, .slice none 0 0], .int .i64 41]) [.cells ⟨b3875, 0, none⟩ [.int .i64 0, .int .i64 0, .int .u64 0, .slice none 0 0] 4] rfl (by kernel_rfl) (s.cells (i := 1) rfl rfl rfl) ?_
              replace s := s.pick [] 2 rfl
              exact fun X h => vc rfl (h I5268 none 0 _ s kk nil_hc Elems.nil)
            · have hf := iteF h5273 hf
              refine RW.seg hT 6 [.int .i64 x3900.1.Page] [(47, .bool false)] [.bool false, .pointer (some ⟨b3912, 1, none⟩), .int .i64 x3900.1.Page, .bool (decide (x3900.1.Page ≥ 2048)), .bool (decide (x3900.1.Page ≥ 2048)), .bool (decide (x3900.1.Page ≥ 2048))] [.veq (.bool (decide (x3900.1.Page ≠ p1))) (.bool false), .cell ⟨b3912, 1, none⟩ (.int .i64 x3900.1.Page)] (by kernel_rfl) (⟨bo_f h5273, s.cell (i := 0) (off := 1) rfl rfl⟩) ?_
              refine RW.nil ?_
              by_cases h5276 : x3900.1.Page ≥ 2048
              · have hf := iteT h5276 hf
                refine WPK.condT (Eq.trans (b := .bool (decide (x3900.1.Page ≥ 2048))) (by kernel_rfl) (bo_t h5276)) ?_
                refine WPK.seq ?_
                refine WPK.region ?_
                refine RW.seg hT 1 [] [] [.agg #[.int .i64 0, .int .i64 0, .int .u64 0, .slice none 0 0]] [] (by kernel_rfl) (trivial) ?_
                refine RW.op (by kernel_rfl) (OK.store hT (i := 1) (b := b3875) (off := 0) (n := 4) (vs := [.int .i64 0, .int .i64 0, .int .u64 0, .slice none 0 0]) (cs := [.int .i64 0, .int .i64 0, .int .u64 0, .slice none 0 0]) (e := 25) s (by kernel_rfl) rfl rfl (flat_ok rfl) (Nat.le_of_ble_eq_true rfl) ?_)
                rintro w5277 s k5278 -
                replace e3910 := e3910.st k5278
                replace eg0 := eg0.st k5278
                replace kk := kk.trans k5278
                refine RW.seg hT 1 [] [] [.int .i64 41] [] (by kernel_rfl) (trivial) ?_
                refine RW.nil ?_
                refine WPK.ret (blockQ.ret (?_))
                obtain rfl := someS hf
                refine Fin.of (rs := [.cell 4 25, .tmp 5]) hT [.agg #[.int .i64 0, .int .i64 0, .int .u64 0, .slice none 0 0]] (.tuple #[.agg #[.int .i64 0, .int .i64 0, .int .u64 0, .slice none 0 0], .int .i64 41]) [.cells ⟨b3875, 0, none⟩ [.int .i64 0, .int .i64 0, .int .u64 0, .slice none 0 0] 4] rfl (by kernel_rfl) (s.cells (i := 1) rfl rfl rfl) ?_
                replace s := s.pick [] 2 rfl
                exact fun X h => vc rfl (h I5268 none 0 _ s kk nil_hc Elems.nil)
              · have hf := iteF h5276 hf
                refine WPK.condF (Eq.trans (b := .bool (decide (x3900.1.Page ≥ 2048))) (by kernel_rfl) (bo_f h5276)) ?_
                refine WPK.skip ?_
                refine WPK.seq ?_
                refine WPK.region ?_
                refine RW.seg hT 1 [.agg #[.int .i64 x3900.1.Kind, .int .i64 x3900.1.Page, .int .u64 x3900.1.Epoch, .slice A3907 x3900.1.Data.length c3908]] [] [.agg #[.int .i64 x3900.1.Kind, .int .i64 x3900.1.Page, .int .u64 x3900.1.Epoch, .slice A3907 x3900.1.Data.length c3908]] [.cells ⟨b3912, 0, none⟩ [.int .i64 x3900.1.Kind, .int .i64 x3900.1.Page, .int .u64 x3900.1.Epoch, .slice A3907 x3900.1.Data.length c3908] 4] (by kernel_rfl) (s.cells (i := 0) rfl rfl rfl) ?_
                refine RW.op (by kernel_rfl) (OK.store hT (i := 1) (b := b3875) (off := 0) (n := 4) (vs := [.int .i64 x3900.1.Kind, .int .i64 x3900.1.Page, .int .u64 x3900.1.Epoch, .slice A3907 x3900.1.Data.length c3908]) (cs := [.int .i64 0, .int .i64 0, .int .u64 0, .slice none 0 0]) (e := 25) s (by kernel_rfl) rfl rfl (flat_ok rfl) (Nat.le_of_ble_eq_true rfl) ?_)
                rintro w5279 s k5280 -
                replace e3910 := e3910.st k5280
                replace eg0 := eg0.st k5280
                replace kk := kk.trans k5280
                refine RW.seg hT 1 [] [] [.int .i64 0] [] (by kernel_rfl) (trivial) ?_
                refine RW.nil ?_
                refine WPK.ret (?_)
                obtain rfl := someS hf
                refine Fin.of (rs := [.cell 4 25, .tmp 5]) hT [.agg #[.int .i64 x3900.1.Kind, .int .i64 x3900.1.Page, .int .u64 x3900.1.Epoch, .slice A3907 x3900.1.Data.length c3908]] (.tuple #[.agg #[.int .i64 x3900.1.Kind, .int .i64 x3900.1.Page, .int .u64 x3900.1.Epoch, .slice A3907 x3900.1.Data.length c3908], .int .i64 0]) [.cells ⟨b3875, 0, none⟩ [.int .i64 x3900.1.Kind, .int .i64 x3900.1.Page, .int .u64 x3900.1.Epoch, .slice A3907 x3900.1.Data.length c3908] 4] rfl (by kernel_rfl) (s.cells (i := 1) rfl rfl rfl) ?_
                replace s := s.pick [] 2 rfl
                exact fun X h => vc rfl (h I5268 A3907 c3908 _ s kk hc3909 e3910)
        · refine WPK.region ?_
          refine RW.seg hT 2 [.int .i64 x3900.1.Kind] [] [.pointer (some ⟨b3912, 0, none⟩), .int .i64 x3900.1.Kind] [.cell ⟨b3912, 0, none⟩ (.int .i64 x3900.1.Kind)] (by kernel_rfl) (s.cell (i := 0) (off := 0) rfl rfl) ?_
          obtain ⟨x5283, hx5284, hf⟩ := bindS hf
          refine RW.op (by kernel_rfl) (OK.call' en27 (by kernel_rfl) (c27 (F := (.blk b3912 (.cells #[.int .i64 x3900.1.Kind, .int .i64 x3900.1.Page, .int .u64 x3900.1.Epoch, .slice A3907 x3900.1.Data.length c3908] 25 (0, 0))) :: (.sl (.slice (some ⟨b3888, 0, none⟩) 256 256) 49 1 256 cl3896) :: (.blk b3875 (.cells #[.int .i64 0, .int .i64 0, .int .u64 0, .slice none 0 0] 25 (0, 0))) :: F) x3900.1.Kind s hx5284) ?_)
          intro X5287 hX5288
          refine fun _ _ hJ => hJ X5287 ?_
          intro I5289 w5285 s k5286
          refine hX5288 _ _ ?_
          replace e3910 := e3910.st k5286
          replace rp3898 := rp3898.st k5286
          replace eg0 := eg0.st k5286
          replace kk := kk.trans k5286
          refine RW.seg hT 1 [] [(35, .bool (decide (¬ (x5283 = true))))] [.bool (decide (¬ (x5283 = true)))] [.veq (.bool (!x5283)) (.bool (decide (¬ (x5283 = true))))] (by kernel_rfl) (not_b) ?_
          by_cases h5290 : ¬ (x5283 = true)
          · have hf := iteT h5290 hf
            refine RW.seg hT 6 [] [(36, .bool true)] [.bool true, undef, undef, undef, .bool true, .bool true] [.veq (.bool (decide (¬ (x5283 = true)))) (.bool true)] (by kernel_rfl) (bo_t h5290) ?_
            refine RW.nil ?_
            replace s := s.pick [0, 2] 3 rfl
            exact fun X h => kc (by kernel_rfl) rfl (h I5289 true [(D5244.getD 0 undef), (D5244.getD 1 undef), (D5244.getD 2 undef), .pointer (some ⟨b3888, 0, none⟩), (D5244.getD 3 undef), (D5244.getD 4 undef), (D5244.getD 5 undef), (D5244.getD 6 undef), (D5244.getD 7 undef), (D5244.getD 8 undef), (D5244.getD 9 undef), (D5244.getD 10 undef), (D5244.getD 11 undef), (D5244.getD 12 undef), (D5244.getD 13 undef), (D5244.getD 14 undef), (D5244.getD 15 undef), .bool x5245, (D5244.getD 16 undef), (D5244.getD 17 undef), (D5244.getD 18 undef), (D5244.getD 19 undef), (D5244.getD 20 undef), (D5244.getD 21 undef), (D5244.getD 22 undef), (D5244.getD 23 undef), undef, .pointer (some ⟨b3912, 0, none⟩), .int .i64 x3900.1.Kind, .bool x5283, .bool (decide (¬ (x5283 = true))), .bool true, undef, undef, undef, .bool true] _ hf s kk e3910 eg0)
          · have hf := iteF h5290 hf
            obtain ⟨x5291, hx5292, hf⟩ := bindS hf
            obtain ⟨h5293, hx5292⟩ := getS hx5292
            rw [← hn3899] at h5293
            obtain ⟨-, cs5294, hr5295, ha5296⟩ := St.elem s (i := 1) rfl hn3899 rp3898 hx5292
            replace ha5296 := ha5296 _ rfl
            obtain rfl : cs5294 = [.int .u8 x5291] := hr5295
            refine RW.seg hT 6 [.int .u8 x5291] [(36, .bool false), (39, .bool (decide (x5291 ≠ 0)))] [.bool false, .pointer (some ⟨b3888, 0 + (5 : Int).toNat * 1, none⟩), .int .u8 x5291, .bool (decide (x5291 ≠ 0)), .bool (decide (x5291 ≠ 0)), .bool (decide (x5291 ≠ 0))] [.veq (.bool (decide (¬ (x5283 = true)))) (.bool false), .idx 5 256, .cell ⟨b3888, 0 + (5 : Int).toNat * 1, none⟩ (.int .u8 x5291), .veq (.bool (x5291 != 0)) (.bool (decide (x5291 ≠ 0)))] (by kernel_rfl) (⟨bo_f h5290, h5293, ha5296 0 _ rfl, ne_v⟩) ?_
            refine RW.nil ?_
            replace s := s.pick [0, 2] 3 rfl
            exact fun X h => kc (by kernel_rfl) rfl (h I5289 (decide (x5291 ≠ 0)) [(D5244.getD 0 undef), (D5244.getD 1 undef), (D5244.getD 2 undef), .pointer (some ⟨b3888, 0, none⟩), (D5244.getD 3 undef), (D5244.getD 4 undef), (D5244.getD 5 undef), (D5244.getD 6 undef), (D5244.getD 7 undef), (D5244.getD 8 undef), (D5244.getD 9 undef), (D5244.getD 10 undef), (D5244.getD 11 undef), (D5244.getD 12 undef), (D5244.getD 13 undef), (D5244.getD 14 undef), (D5244.getD 15 undef), .bool x5245, (D5244.getD 16 undef), (D5244.getD 17 undef), (D5244.getD 18 undef), (D5244.getD 19 undef), (D5244.getD 20 undef), (D5244.getD 21 undef), (D5244.getD 22 undef), (D5244.getD 23 undef), undef, .pointer (some ⟨b3912, 0, none⟩), .int .i64 x3900.1.Kind, .bool x5283, .bool (decide (¬ (x5283 = true))), .bool false, .pointer (some ⟨b3888, 0 + (5 : Int).toNat * 1, none⟩), .int .u8 x5291, .bool (decide (x5291 ≠ 0)), .bool (decide (x5291 ≠ 0))] _ hf s kk e3910 eg0)
    · refine WPK.region ?_
      refine RW.seg hT 2 [.agg (List.map (Value.int .u8) (List.take 256 p0)).toArray] [] [.agg (List.map (Value.int .u8) (List.take 256 p0)).toArray, .agg (List.map (Value.int .u8) (List.replicate 256 (0 : Int))).toArray] [.cells ⟨b3888, 0, none⟩ (List.map (Value.int .u8) (List.take 256 p0)) 256] (by kernel_rfl) (St.arr s (i := 1) rfl rp3898 hn3899) ?_
      refine RW.op (by kernel_rfl) (OK.arrEq hT (t := 49) (N := 256) (e := 5) (k := .u8) (b := true) (xs := (List.take 256 p0)) (ys := (List.replicate 256 (0 : Int))) (by kernel_rfl) (by kernel_rfl) rfl rfl rfl rfl rfl hn3899 (by simp) ?_)
      by_cases h5299 : (List.take 256 p0) = (List.replicate 256 (0 : Int))
      · have hf := iteT h5299 hf
        refine RW.seg hT 6 [] [(25, .bool true)] [.bool true, undef, undef, undef, .bool true, .bool true] [.veq (.bool (decide ((List.take 256 p0) = (List.replicate 256 (0 : Int))))) (.bool true)] (by kernel_rfl) (bo_t h5299) ?_
        refine RW.nil ?_
        exact fun X h => kc (by kernel_rfl) rfl (h I3906 true [.slice (some ⟨b3884, o3885, none⟩) p0.length c3871, undef, undef, .int .u32 x3900.2, .slice (some ⟨b3884, o3885, none⟩) p0.length c3871, .int .i64 (p0.length : Int), .bool (decide ((p0.length : Int) ≠ 256)), undef, .slice (some ⟨b3884, o3885, none⟩) p0.length c3871, .pointer (some ⟨b3884, o3885, none⟩), .agg (List.map (Value.int .u8) (List.take 256 p0)).toArray, .tuple #[.agg #[.int .i64 x3900.1.Kind, .int .i64 x3900.1.Page, .int .u64 x3900.1.Epoch, .slice A3907 x3900.1.Data.length c3908], .int .u32 x3900.2], .agg (List.map (Value.int .u8) (List.take 256 p0)).toArray, .tuple #[.agg #[.int .i64 x3900.1.Kind, .int .i64 x3900.1.Page, .int .u64 x3900.1.Epoch, .slice A3907 x3900.1.Data.length c3908], .int .u32 x3900.2], .agg #[.int .i64 x3900.1.Kind, .int .i64 x3900.1.Page, .int .u64 x3900.1.Epoch, .slice A3907 x3900.1.Data.length c3908], .int .u32 x3900.2, .agg (List.map (Value.int .u8) (List.take 256 p0)).toArray, .agg (List.map (Value.int .u8) (List.replicate 256 (0 : Int))).toArray, .bool (decide ((List.take 256 p0) = (List.replicate 256 (0 : Int)))), .bool true, undef, undef, undef, .bool true, undef] _ hf s kk e3910 rp3898 eg0)
      · have hf := iteF h5299 hf
        refine RW.seg hT 2 [] [(25, .bool false)] [.bool false, .int .u32 x3900.2] [.veq (.bool (decide ((List.take 256 p0) = (List.replicate 256 (0 : Int))))) (.bool false)] (by kernel_rfl) (bo_f h5299) ?_
        refine RW.op (by kernel_rfl) (OK.inl (args := [.pointer (some ⟨b3888, 0, none⟩)]) en26 (by kernel_rfl) ?_)
        intro R5300 hR5301
        refine Ret.of Tryd.func26 rfl ?_
        refine WPK.seq ?_
        refine WPK.region ?_
        refine RW.seg hT 1 [] [] [.int .u32 0] [] (by kernel_rfl) (trivial) ?_
        refine RW.nil ?_
        refine WPK.seq ?_
        refine WPK.region ?_
        obtain ⟨h5522, hf⟩ := iteS hf
        replace h5522 : (0 : Int) ≤ 4 ∧ 4 ≤ ((List.take 256 p0).length : Int) ∧ ((List.take 256 p0).length : Int) ≤ ((256 : Nat) : Int) - 0 := by have hnn := hn3899; omega
        obtain ⟨o5513, n5514, c5515, q5516, q5517, q5518, q5519, q5520, pt5521⟩ := partS (b := b3888) (c := 256) (Pt.whole (size := 1) (row_hc (s.at (i := 1) rfl)).1) (Nat.le_refl _) h5522
        rw [Int.zero_add, Int.zero_add] at pt5521
        replace q5517 : 256 - (4 : Int).toNat = n5514 := by rw [← q5517]; have hnn := hn3899; omega
        refine RW.seg hT 3 [] [(5, .slice (some ⟨b3888, o5513, none⟩) n5514 c5515)] [.pointer (some ⟨b3888, 0, none⟩), .pointer (some ⟨b3888, 0, none⟩), .slice (some ⟨b3888, o5513, none⟩) n5514 c5515] [.both (.cut 4 (256 : Nat) 256 256) (.veq (.slice (cutA (some ⟨b3888, 0, none⟩) (4 : Int).toNat 256 1) (256 - (4 : Int).toNat) (256 - (4 : Int).toNat)) (.slice (some ⟨b3888, o5513, none⟩) n5514 c5515))] (by kernel_rfl) (⟨⟨(q5520).1, by have h1 := (q5520).2.1; have h2 := (q5520).2.2.1; omega, by have := (q5520).2.2.2; omega, by omega⟩, sl_eq q5516 q5517 q5518⟩) ?_
        refine RW.op (by kernel_rfl) (OK.new hT (f := fun b => .slice (some ⟨b, 0, none⟩) 1 1) (cs := [.slice (some ⟨b3888, o5513, none⟩) n5514 c5515]) (e := 23) (c := .tt) s (by kernel_rfl) trivial ?_)
        rintro w5523 b5524 s k5525 -
        replace e3910 := e3910.st k5525
        replace rp3898 := rp3898.st k5525
        replace eg0 := eg0.st k5525
        replace kk := kk.trans k5525
        refine RW.op (by kernel_rfl) (OK.inl (args := [.slice (some ⟨b5524, 0, none⟩) 1 1]) en40 (by kernel_rfl) ?_)
        intro R5526 hR5527
        refine Ret.of Tryd.func40 rfl ?_
        refine WPK.seq ?_
        refine WPK.region ?_
        refine RW.seg hT 1 [] [] [.int .u32 0] [] (by kernel_rfl) (trivial) ?_
        refine RW.nil ?_
        refine WPK.seq ?_
        refine WPK.region ?_
        refine RW.seg hT 1 [] [] [.slice (some ⟨b5524, 0, none⟩) 1 1] [] (by kernel_rfl) (trivial) ?_
        refine RW.op (by kernel_rfl) (OK.inl (args := [.int .u32 0, .slice (some ⟨b5524, 0, none⟩) 1 1]) en52 (by kernel_rfl) ?_)
        intro R5626 hR5627
        refine Ret.of Tryd.func52 rfl ?_
        refine WPK.seq ?_
        refine WPK.region ?_
        refine RW.seg hT 1 [] [] [.int .u32 0] [] (by kernel_rfl) (trivial) ?_
        refine RW.nil ?_
        refine WPK.seq ?_
        refine WPK.region ?_
        refine RW.seg hT 1 [] [] [.int .u32 0] [] (by kernel_rfl) (trivial) ?_
        obtain ⟨x5676, hx5677, hf⟩ := bindS hf
        refine RW.op (by kernel_rfl) (OK.call' en59 (by kernel_rfl) (c59 (F := (.blk b5524 (.cells #[.slice (some ⟨b3888, o5513, none⟩) n5514 c5515] 23 (0, 0))) :: (.blk b3912 (.cells #[.int .i64 x3900.1.Kind, .int .i64 x3900.1.Page, .int .u64 x3900.1.Epoch, .slice A3907 x3900.1.Data.length c3908] 25 (0, 0))) :: (.sl (.slice (some ⟨b3888, 0, none⟩) 256 256) 49 1 256 cl3896) :: (.blk b3875 (.cells #[.int .i64 0, .int .i64 0, .int .u64 0, .slice none 0 0] 25 (0, 0))) :: F) 0 s hx5677) ?_)
        intro X5680 hX5681
        refine fun _ _ hJ => hJ X5680 ?_
        intro I5682 w5678 s k5679
        refine hX5681 _ _ ?_
        replace e3910 := e3910.st k5679
        replace rp3898 := rp3898.st k5679
        replace eg0 := eg0.st k5679
        replace kk := kk.trans k5679
        refine RW.seg hT 1 [] [] [.int .u32 x5676] [] (by kernel_rfl) (trivial) ?_
        refine RW.nil ?_
        refine WPK.seq ?_
        refine WPK.seq ?_
        refine WPK.region ?_
        refine RW.seg hT 3 [] [] [.slice (some ⟨b5524, 0, none⟩) 1 1, .int .i64 1, .int .i64 0] [] (by kernel_rfl) (trivial) ?_
        refine RW.nil ?_
        refine WPK.block ?_
        refine WPK.rounds 12 ?_
        refine Rounds.go ?_
        refine WPK.seq ?_
        refine WPK.region ?_
        refine RW.seg hT 1 [] [] [.bool true] [] (by kernel_rfl) (trivial) ?_
        refine RW.nil ?_
        refine WPK.seq ?_
        refine WPK.condT (by kernel_rfl) ?_
        refine WPK.skip ?_
        refine WPK.seq ?_
        refine WPK.block ?_
        refine WPK.seq ?_
        refine WPK.region ?_
        refine RW.seg hT 3 [.slice (some ⟨b3888, o5513, none⟩) n5514 c5515] [] [.pointer (some ⟨b5524, 0, none⟩), .slice (some ⟨b3888, o5513, none⟩) n5514 c5515, .slice (some ⟨b3888, o5513, none⟩) n5514 c5515] [.idx 0 1, .cell ⟨b5524, 0, none⟩ (.slice (some ⟨b3888, o5513, none⟩) n5514 c5515)] (by kernel_rfl) (⟨⟨by decide, by decide⟩, s.cell (i := 0) (off := 0) rfl rfl⟩) ?_
        refine RW.nil ?_
        refine WPK.region ?_
        refine RW.seg hT 2 [] [] [.int .u32 x5676, .slice (some ⟨b3888, o5513, none⟩) n5514 c5515] [] (by kernel_rfl) (trivial) ?_
        obtain ⟨y5704, hy5705, hf⟩ := bindS hf
        have sa5700 := s
        obtain ⟨hm5706, hc5701, e5702⟩ := St.lendPt s (i := 2) rfl rfl rp3898 pt5521 (q5519) hy5705
        have k5703 := Kp.shut (I := I5682) (w := w5678) (p := .sl (.slice (some ⟨b3888, 0, none⟩) 256 256) 49 1 256 cl3896)
        replace s := s.shut 2 rfl
        obtain ⟨x5707, hx5708, hf⟩ := bindS hf
        have hc5711 := c60 (F := (.blk b5524 (.cells #[.slice (some ⟨b3888, o5513, none⟩) n5514 c5515] 23 (0, 0))) :: (.blk b3912 (.cells #[.int .i64 x3900.1.Kind, .int .i64 x3900.1.Page, .int .u64 x3900.1.Epoch, .slice A3907 x3900.1.Data.length c3908] 25 (0, 0))) :: (.blk b3875 (.cells #[.int .i64 0, .int .i64 0, .int .u64 0, .slice none 0 0] 25 (0, 0))) :: F) x5676 y5704 (some ⟨b3888, o5513, none⟩) c5515 hc5701 e5702 (eg0.st k5703) s hx5708
        rw [← hm5706] at hc5711
        refine RW.op (by kernel_rfl) (OK.call' en60 (by kernel_rfl) (hc5711) ?_)
        intro X5712 hX5713
        refine fun _ _ hJ => hJ X5712 ?_
        intro I5714 w5709 s k5710
        refine hX5713 _ _ ?_
        have s' := St.back sa5700 (i := 2) rfl s k5710
        replace k5710 := Kp.back sa5700 (i := 2) rfl k5710
        replace s := s'; clear s'
        obtain ⟨I5716, s, k5710⟩ : ∃ I : Nat → Prop, St w0 M I ((.sl (.slice (some ⟨b3888, 0, none⟩) 256 256) 49 1 256 cl3896) :: (.blk b5524 (.cells #[.slice (some ⟨b3888, o5513, none⟩) n5514 c5515] 23 (0, 0))) :: (.blk b3912 (.cells #[.int .i64 x3900.1.Kind, .int .i64 x3900.1.Page, .int .u64 x3900.1.Epoch, .slice A3907 x3900.1.Data.length c3908] 25 (0, 0))) :: (.blk b3875 (.cells #[.int .i64 0, .int .i64 0, .int .u64 0, .slice none 0 0] 25 (0, 0))) :: F) w5709 ∧ Kp _ _ I _ := ⟨_, s, k5710⟩
        replace e3910 := e3910.st k5710
        replace eg0 := eg0.st k5710
        replace rp3898 := rp3898.st k5710
        replace kk := kk.trans k5710
        refine RW.seg hT 1 [] [] [.int .u32 x5707] [] (by kernel_rfl) (trivial) ?_
        refine RW.nil ?_
        refine WPK.region ?_
        refine RW.seg hT 2 [] [] [.int .i64 1, .int .i64 1] [] (by kernel_rfl) (trivial) ?_
        refine RW.nil ?_
        refine Rounds.go ?_
        refine WPK.seq ?_
        refine WPK.region ?_
        refine RW.seg hT 1 [] [] [.bool false] [] (by kernel_rfl) (trivial) ?_
        refine RW.nil ?_
        refine WPK.seq ?_
        refine WPK.condF (by kernel_rfl) ?_
        refine WPK.exit (blockQ.same ?_)
        refine WPK.seq ?_
        refine WPK.region ?_
        refine RW.seg hT 1 [] [] [.int .u32 x5707] [] (by kernel_rfl) (trivial) ?_
        obtain ⟨x5717, hx5718, hf⟩ := bindS hf
        refine RW.op (by kernel_rfl) (OK.call' en61 (by kernel_rfl) (c61 (F := (.sl (.slice (some ⟨b3888, 0, none⟩) 256 256) 49 1 256 cl3896) :: (.blk b5524 (.cells #[.slice (some ⟨b3888, o5513, none⟩) n5514 c5515] 23 (0, 0))) :: (.blk b3912 (.cells #[.int .i64 x3900.1.Kind, .int .i64 x3900.1.Page, .int .u64 x3900.1.Epoch, .slice A3907 x3900.1.Data.length c3908] 25 (0, 0))) :: (.blk b3875 (.cells #[.int .i64 0, .int .i64 0, .int .u64 0, .slice none 0 0] 25 (0, 0))) :: F) x5707 s hx5718) ?_)
        intro X5721 hX5722
        refine fun _ _ hJ => hJ X5721 ?_
        intro I5723 w5719 s k5720
        refine hX5722 _ _ ?_
        replace e3910 := e3910.st k5720
        replace rp3898 := rp3898.st k5720
        replace eg0 := eg0.st k5720
        replace kk := kk.trans k5720
        refine RW.seg hT 1 [] [] [.int .u32 x5717] [] (by kernel_rfl) (trivial) ?_
        refine RW.nil ?_
        refine WPK.ret (?_)
        refine Fin.of (rs := [.tmp 4]) hT [] (.int .u32 x5717) [] rfl (by kernel_rfl) (trivial) ?_
        refine hR5627 _ _ ?_
        refine RW.seg hT 1 [] [] [.int .u32 x5717] [] (by kernel_rfl) (trivial) ?_
        refine RW.nil ?_
        refine WPK.ret (?_)
        refine Fin.of (rs := [.tmp 2]) hT [] (.int .u32 x5717) [] rfl (by kernel_rfl) (trivial) ?_
        refine hR5527 _ _ ?_
        refine RW.seg hT 1 [] [] [.int .u32 x5717] [] (by kernel_rfl) (trivial) ?_
        refine RW.nil ?_
        refine WPK.ret (?_)
        refine Fin.of (rs := [.tmp 2]) hT [] (.int .u32 x5717) [] rfl (by kernel_rfl) (trivial) ?_
        refine hR5301 _ _ ?_
        refine RW.seg hT 3 [] [(28, .bool (decide (x3900.2 ≠ x5717)))] [.bool (decide (x3900.2 ≠ x5717)), .bool (decide (x3900.2 ≠ x5717)), .bool (decide (x3900.2 ≠ x5717))] [.veq (.bool (x3900.2 != x5717)) (.bool (decide (x3900.2 ≠ x5717)))] (by kernel_rfl) (ne_v) ?_
        refine RW.nil ?_
        replace s := s.pick [2, 0, 3] 4 rfl
        exact fun X h => kc (by kernel_rfl) rfl (h I5723 (decide (x3900.2 ≠ x5717)) [.slice (some ⟨b3884, o3885, none⟩) p0.length c3871, undef, undef, .int .u32 x3900.2, .slice (some ⟨b3884, o3885, none⟩) p0.length c3871, .int .i64 (p0.length : Int), .bool (decide ((p0.length : Int) ≠ 256)), undef, .slice (some ⟨b3884, o3885, none⟩) p0.length c3871, .pointer (some ⟨b3884, o3885, none⟩), .agg (List.map (Value.int .u8) (List.take 256 p0)).toArray, .tuple #[.agg #[.int .i64 x3900.1.Kind, .int .i64 x3900.1.Page, .int .u64 x3900.1.Epoch, .slice A3907 x3900.1.Data.length c3908], .int .u32 x3900.2], .agg (List.map (Value.int .u8) (List.take 256 p0)).toArray, .tuple #[.agg #[.int .i64 x3900.1.Kind, .int .i64 x3900.1.Page, .int .u64 x3900.1.Epoch, .slice A3907 x3900.1.Data.length c3908], .int .u32 x3900.2], .agg #[.int .i64 x3900.1.Kind, .int .i64 x3900.1.Page, .int .u64 x3900.1.Epoch, .slice A3907 x3900.1.Data.length c3908], .int .u32 x3900.2, .agg (List.map (Value.int .u8) (List.take 256 p0)).toArray, .agg (List.map (Value.int .u8) (List.replicate 256 (0 : Int))).toArray, .bool (decide ((List.take 256 p0) = (List.replicate 256 (0 : Int)))), .bool false, .int .u32 x3900.2, .int .u32 x5717, .bool (decide (x3900.2 ≠ x5717)), .bool (decide (x3900.2 ≠ x5717)), undef] _ hf s kk e3910 rp3898 eg0)
theorem c22 {w0 w : World} {M I : Nat → Prop} {F : List It} (p0 : T_api_Frame) (A5896 : Option Addr) (c5897 : Nat) (hc5898 : (p0.Data.length ≤ c5897 ∧ c5897 ≤ 9223372036854775807)) (e5899 : Elems (Rp.int .u8) I w A5896 p0.Data) (s : St w0 M I (F) w) {r : Int} (hf : g22 p0 = some r) :
    Ret Tryd.prog 22 [.agg #[.int .i64 p0.Kind, .int .i64 p0.Page, .int .u64 p0.Epoch, .slice A5896 p0.Data.length c5897]] w fun v wz => ∀ X : Value → World → Prop, (∀ (I' : Nat → Prop) (w' : World), St w0 M I' (F) w' → Kp I w I' w' → X (.int .i64 r) w') → X v wz := by
  have kk : Kp I w I w := Kp.refl
  unfold g22 at hf
  refine Ret.of Tryd.func22 rfl ?_
  refine WPK.seq ?_
  refine WPK.region ?_
  refine RW.op (by kernel_rfl) (OK.new hT (f := fun b => .pointer (some ⟨b, 0, none⟩)) (cs := [.int .i64 p0.Kind, .int .i64 p0.Page, .int .u64 p0.Epoch, .slice A5896 p0.Data.length c5897]) (e := 25) (c := .tt) s (by kernel_rfl) trivial ?_)
  rintro w5900 b5901 s k5902 -
  replace e5899 := e5899.st k5902
  replace kk := kk.trans k5902
  refine RW.seg hT 1 [] [] [.int .i64 0] [] (by kernel_rfl) (trivial) ?_
  refine RW.nil ?_
  refine WPK.seq ?_
  refine WPK.block ?_
  refine WPK.seq ?_
  refine WPK.region ?_
  refine RW.seg hT 2 [.int .i64 p0.Kind] [] [.pointer (some ⟨b5901, 0, none⟩), .int .i64 p0.Kind] [.cell ⟨b5901, 0, none⟩ (.int .i64 p0.Kind)] (by kernel_rfl) (s.cell (i := 0) (off := 0) rfl rfl) ?_
  obtain ⟨x5919, hx5920, hf⟩ := bindS hf
  refine RW.op (by kernel_rfl) (OK.call' en27 (by kernel_rfl) (c27 (F := (.blk b5901 (.cells #[.int .i64 p0.Kind, .int .i64 p0.Page, .int .u64 p0.Epoch, .slice A5896 p0.Data.length c5897] 25 (0, 0))) :: F) p0.Kind s hx5920) ?_)
  intro X5923 hX5924
  refine fun _ _ hJ => hJ X5923 ?_
  intro I5925 w5921 s k5922
  refine hX5924 _ _ ?_
  replace e5899 := e5899.st k5922
  replace kk := kk.trans k5922
  refine RW.seg hT 2 [] [(7, .bool (decide (¬ (x5919 = true))))] [.bool (decide (¬ (x5919 = true))), .bool (decide (¬ (x5919 = true)))] [.veq (.bool (!x5919)) (.bool (decide (¬ (x5919 = true))))] (by kernel_rfl) (not_b) ?_
  refine RW.nil ?_
  by_cases h5926 : ¬ (x5919 = true)
  · have hf := iteT h5926 hf
    refine WPK.condT (Eq.trans (b := .bool (decide (¬ (x5919 = true)))) (by kernel_rfl) (bo_t h5926)) ?_
    refine WPK.seq ?_
    refine WPK.region ?_
    refine RW.seg hT 1 [] [] [.int .i64 42] [] (by kernel_rfl) (trivial) ?_
    refine RW.nil ?_
    refine WPK.ret (blockQ.ret (?_))
    obtain rfl := someS hf
    refine Fin.of (rs := [.tmp 2]) hT [] (.int .i64 42) [] rfl (by kernel_rfl) (trivial) ?_
    replace s := s.pick [] 1 rfl
    exact fun X h => vc rfl (h I5925 _ s kk)
  · have hf := iteF h5926 hf
    refine WPK.condF (Eq.trans (b := .bool (decide (¬ (x5919 = true)))) (by kernel_rfl) (bo_f h5926)) ?_
    refine WPK.seq ?_
    refine WPK.cut' (Kn fun E ds wz => ∀ X : Kont, (∀ (x5929 : Bool) (D5928 : List Value), g22_j1 p0 x5929 = some r → X [(D5928.getD 0 undef), .pointer (some ⟨b5901, 0, none⟩), .int .i64 0, (D5928.getD 1 undef), (D5928.getD 2 undef), (D5928.getD 3 undef), (D5928.getD 4 undef), (D5928.getD 5 undef), .bool x5929, (D5928.getD 6 undef), (D5928.getD 7 undef), (D5928.getD 8 undef), (D5928.getD 9 undef), (D5928.getD 10 undef), (D5928.getD 11 undef), (D5928.getD 12 undef), (D5928.getD 13 undef), undef, undef, (D5928.getD 14 undef), undef, undef] [] w5921) → X E ds wz) ?_ ?_
    · intro X5932 hX5933
      refine fun _ _ _ hJ => hJ X5932 ?_
      intro x5929 D5928 hf
      refine hX5933 _ _ _ ?_
      unfold g22_j1 at hf
      by_cases h5930 : x5929 = true
      · have hf := iteT h5930 hf
        refine WPK.condT (Eq.trans (b := .bool x5929) (by kernel_rfl) (b_t h5930)) ?_
        refine WPK.seq ?_
        refine WPK.region ?_
        refine RW.seg hT 1 [] [] [.int .i64 41] [] (by kernel_rfl) (trivial) ?_
        refine RW.nil ?_
        refine WPK.ret (blockQ.ret (?_))
        obtain rfl := someS hf
        refine Fin.of (rs := [.tmp 2]) hT [] (.int .i64 41) [] rfl (by kernel_rfl) (trivial) ?_
        replace s := s.pick [] 1 rfl
        exact fun X h => vc rfl (h I5925 _ s kk)
      · have hf := iteF h5930 hf
        refine WPK.condF (Eq.trans (b := .bool x5929) (by kernel_rfl) (b_f h5930)) ?_
        refine WPK.seq ?_
        refine WPK.region ?_
        refine RW.seg hT 5 [.slice A5896 p0.Data.length c5897] [] [.pointer (some ⟨b5901, 3, none⟩), .slice A5896 p0.Data.length c5897, .int .i64 (p0.Data.length : Int), .bool (decide ((p0.Data.length : Int) > 240)), .bool (decide ((p0.Data.length : Int) > 240))] [.cell ⟨b5901, 3, none⟩ (.slice A5896 p0.Data.length c5897)] (by kernel_rfl) (s.cell (i := 0) (off := 3) rfl rfl) ?_
        refine RW.nil ?_
        by_cases h5931 : (p0.Data.length : Int) > 240
        · have hf := iteT h5931 hf
          refine WPK.condT (Eq.trans (b := .bool (decide ((p0.Data.length : Int) > 240))) (by kernel_rfl) (bo_t h5931)) ?_
          refine WPK.seq ?_
          refine WPK.region ?_
          refine RW.seg hT 1 [] [] [.int .i64 3] [] (by kernel_rfl) (trivial) ?_
          refine RW.nil ?_
          refine WPK.ret (blockQ.ret (?_))
          obtain rfl := someS hf
          refine Fin.of (rs := [.tmp 2]) hT [] (.int .i64 3) [] rfl (by kernel_rfl) (trivial) ?_
          replace s := s.pick [] 1 rfl
          exact fun X h => vc rfl (h I5925 _ s kk)
        · have hf := iteF h5931 hf
          refine WPK.condF (Eq.trans (b := .bool (decide ((p0.Data.length : Int) > 240))) (by kernel_rfl) (bo_f h5931)) ?_
          refine WPK.skip ?_
          refine WPK.seq ?_
          refine WPK.region ?_
          refine RW.seg hT 1 [] [] [.int .i64 0] [] (by kernel_rfl) (trivial) ?_
          refine RW.nil ?_
          refine WPK.ret (?_)
          obtain rfl := someS hf
          refine Fin.of (rs := [.tmp 2]) hT [] (.int .i64 0) [] rfl (by kernel_rfl) (trivial) ?_
          replace s := s.pick [] 1 rfl
          exact fun X h => vc rfl (h I5925 _ s kk)
    · refine WPK.region ?_
      refine RW.seg hT 3 [.int .i64 p0.Page] [] [.pointer (some ⟨b5901, 1, none⟩), .int .i64 p0.Page, .bool (decide (p0.Page < 0))] [.cell ⟨b5901, 1, none⟩ (.int .i64 p0.Page)] (by kernel_rfl) (s.cell (i := 0) (off := 1) rfl rfl) ?_
      by_cases h5934 : p0.Page < 0
      · have hf := iteT h5934 hf
        refine RW.seg hT 6 [] [(12, .bool true)] [.bool true, undef, undef, undef, .bool true, .bool true] [.veq (.bool (decide (p0.Page < 0))) (.bool true)] (by kernel_rfl) (bo_t h5934) ?_
        refine RW.nil ?_
        exact fun X h => kc (by kernel_rfl) rfl (h true [.agg #[.int .i64 p0.Kind, .int .i64 p0.Page, .int .u64 p0.Epoch, .slice A5896 p0.Data.length c5897], .bool (decide (¬ (x5919 = true))), .pointer (some ⟨b5901, 0, none⟩), .int .i64 p0.Kind, .bool x5919, .bool (decide (¬ (x5919 = true))), .pointer (some ⟨b5901, 1, none⟩), .int .i64 p0.Page, .bool (decide (p0.Page < 0)), .bool true, undef, undef, undef, .bool true, undef] hf)
      · have hf := iteF h5934 hf
        refine RW.seg hT 6 [.int .i64 p0.Page] [(12, .bool false)] [.bool false, .pointer (some ⟨b5901, 1, none⟩), .int .i64 p0.Page, .bool (decide (p0.Page ≥ 2048)), .bool (decide (p0.Page ≥ 2048)), .bool (decide (p0.Page ≥ 2048))] [.veq (.bool (decide (p0.Page < 0))) (.bool false), .cell ⟨b5901, 1, none⟩ (.int .i64 p0.Page)] (by kernel_rfl) (⟨bo_f h5934, s.cell (i := 0) (off := 1) rfl rfl⟩) ?_
        refine RW.nil ?_
        exact fun X h => kc (by kernel_rfl) rfl (h (decide (p0.Page ≥ 2048)) [.agg #[.int .i64 p0.Kind, .int .i64 p0.Page, .int .u64 p0.Epoch, .slice A5896 p0.Data.length c5897], .bool (decide (¬ (x5919 = true))), .pointer (some ⟨b5901, 0, none⟩), .int .i64 p0.Kind, .bool x5919, .bool (decide (¬ (x5919 = true))), .pointer (some ⟨b5901, 1, none⟩), .int .i64 p0.Page, .bool (decide (p0.Page < 0)), .bool false, .pointer (some ⟨b5901, 1, none⟩), .int .i64 p0.Page, .bool (decide (p0.Page ≥ 2048)), .bool (decide (p0.Page ≥ 2048)), undef] hf)
theorem c53 {w0 w : World} {M I : Nat → Prop} {F : List It} (p0 : (List Int)) (p1 : Int) (p2 : Int) (A6198 : Option Addr) (c6199 : Nat) (hc6200 : (p0.length ≤ c6199 ∧ c6199 ≤ 9223372036854775807)) (e6201 : Elems (Rp.int .u8) I w A6198 p0) (s : St w0 M I (F) w) {r : (List Int)} (hf : g53 p0 p1 p2 = some r) :
    Ret Tryd.prog 53 [.slice A6198 p0.length c6199, .int .u64 p1, .int .i64 p2] w fun v wz => ∀ X : Value → World → Prop, (∀ (I' : Nat → Prop) (A6402 : Option Addr) (n6403 : Nat) (c6404 : Nat) (cl6405 : List Value) (w' : World), St w0 M I' ((.sl (.slice A6402 n6403 c6404) 5 1 n6403 cl6405) :: F) w' → Kp I w I' w' → n6403 = r.length → RepL (Rp.int .u8) I' w' cl6405 r → X (.slice A6402 n6403 c6404) w') → X v wz := by
  have kk : Kp I w I w := Kp.refl
  unfold g53 at hf
  refine Ret.of Tryd.func53 rfl ?_
  refine WPK.seq ?_
  refine WPK.region ?_
  refine RW.seg hT 1 [] [] [.slice none 0 0] [] (by kernel_rfl) (trivial) ?_
  refine RW.nil ?_
  refine WPK.seq ?_
  refine WPK.region ?_
  refine RW.seg hT 2 [] [] [.slice A6198 p0.length c6199, .int .i64 p2] [] (by kernel_rfl) (trivial) ?_
  refine RW.op (by kernel_rfl) (OK.inl (args := [.slice A6198 p0.length c6199, .int .i64 p2]) en47 (by kernel_rfl) ?_)
  intro R6202 hR6203
  refine Ret.of Tryd.func47 rfl ?_
  refine WPK.seq ?_
  refine WPK.region ?_
  refine RW.seg hT 2 [] [] [.slice none 0 0, .slice none 0 0] [] (by kernel_rfl) (trivial) ?_
  refine RW.nil ?_
  refine WPK.seq ?_
  refine WPK.region ?_
  refine RW.seg hT 4 [] [] [.slice A6198 p0.length c6199, .int .i64 (p0.length : Int), .int .i64 p2, .int .i64 (IntKind.i64.wrap ((p0.length : Int) + p2))] [] (by kernel_rfl) (trivial) ?_
  obtain ⟨x6238, hx6239, hf⟩ := bindS hf
  refine RW.op (by kernel_rfl) (OK.make hT (r := (Rp.int .u8)) (n := IntKind.i64.wrap ((p0.length : Int) + p2)) (z := .int .u8 0) (x := 0) (e := 5) (bytes := 1) s (by kernel_rfl) hx6239 (fun _ _ => rfl) ?_)
  rintro w6240 b6241 cl6242 s k6243 rp6244
  replace e6201 := e6201.st k6243
  replace kk := kk.trans k6243
  refine RW.seg hT 1 [] [] [.slice (some ⟨b6241, 0, none⟩) x6238.length x6238.length] [] (by kernel_rfl) (trivial) ?_
  refine RW.nil ?_
  refine WPK.seq ?_
  refine WPK.region ?_
  refine RW.seg hT 2 [] [] [.slice (some ⟨b6241, 0, none⟩) x6238.length x6238.length, .slice A6198 p0.length c6199] [] (by kernel_rfl) (trivial) ?_
  have pt6246 : Pt 0 x6238.length x6238.length 1 0 (x6238.length : Int) x6238.length := by have h0 := Pt.whole (size := 1) (row_hc (s.at (i := 0) rfl)).1; exact h0
  obtain ⟨nw6247, hs6248, rq6249⟩ := Elems.src e6201
  obtain ⟨x6255, hx6256, hf⟩ := bindS hf
  replace hx6256 := someS hx6256
  refine RW.op (by kernel_rfl) (OK.copy hT (r := (Rp.int .u8)) (xs := x6238) (ys := p0) (i := 0) (c := x6238.length) (e := 5) (size := 1) (t := 23) (t' := 23) (et := 5) (l := 0) (h := (x6238.length : Int)) s (by kernel_rfl) rfl rfl rfl rfl rfl flat_int rfl rfl rfl rp6244 pt6246 rfl hs6248 rq6249 ?_)
  rintro w6250 cl6251 s k6252 rp6253 hn6254
  replace e6201 := e6201.st k6252
  replace rp6244 := rp6244.st k6252
  replace kk := kk.trans k6252
  rw [hx6256] at rp6253 hn6254
  refine RW.nil ?_
  refine WPK.seq ?_
  have e6201S6257 := e6201
  have rp6253S6257 := rp6253
  have kS6261 : Kp I w6250 I w6250 := Kp.refl
  refine WPK.draw (fun w' => ∃ I' : Nat → Prop, St w0 M I' ((.sl (.slice (some ⟨b6241, 0, none⟩) x6238.length x6238.length) 5 1 x6238.length cl6251) :: F) w' ∧ Kp I w6250 I' w') 7 (by kernel_rfl) ?_
  intro w6258 hd6259
  have k6260 := Kp.dr s hd6259
  replace s := s.dr hd6259
  replace e6201 := e6201.st k6260
  replace rp6253 := rp6253.st k6260
  replace kk := kk.trans k6260
  replace kS6261 := kS6261.trans k6260
  obtain ⟨h6271, hf⟩ := iteS hf
  replace h6271 : (0 : Int) ≤ (p0.length : Int) ∧ (p0.length : Int) ≤ (x6255.length : Int) ∧ (x6255.length : Int) ≤ ((x6238.length : Nat) : Int) - 0 := by have hnn := hn6254; omega
  obtain ⟨o6262, n6263, c6264, q6265, q6266, q6267, q6268, q6269, pt6270⟩ := partS (b := b6241) (c := x6238.length) (Pt.whole (size := 1) (row_hc (s.at (i := 0) rfl)).1) (Nat.le_refl _) h6271
  rw [Int.zero_add, Int.zero_add] at pt6270
  replace q6266 : x6238.length - (p0.length : Int).toNat = n6263 := by rw [← q6266]; have hnn := hn6254; omega
  refine RD.seg hT (by kernel_rfl) [0, 1, 2, 3, 4, 5, 6] [] [(19, .slice (some ⟨b6241, o6262, none⟩) n6263 c6264)] [.slice (some ⟨b6241, 0, none⟩) x6238.length x6238.length, .slice (some ⟨b6241, 0, none⟩) x6238.length x6238.length, .slice A6198 p0.length c6199, .int .i64 (p0.length : Int), .slice (some ⟨b6241, o6262, none⟩) n6263 c6264, .slice (some ⟨b6241, 0, none⟩) x6238.length x6238.length, .slice (some ⟨b6241, o6262, none⟩) n6263 c6264] [.both (.cut (p0.length : Int) (x6238.length : Nat) x6238.length x6238.length) (.veq (.slice (cutA (some ⟨b6241, 0, none⟩) (p0.length : Int).toNat x6238.length 1) (x6238.length - (p0.length : Int).toNat) (x6238.length - (p0.length : Int).toNat)) (.slice (some ⟨b6241, o6262, none⟩) n6263 c6264))] (by kernel_rfl) (by rintro w' ⟨I', s, k⟩; have e6201 := e6201S6257.st k; have rp6253 := rp6253S6257.st k; exact ⟨⟨(q6269).1, by have h1 := (q6269).2.1; have h2 := (q6269).2.2.1; omega, by have := (q6269).2.2.2; omega, by omega⟩, sl_eq q6265 q6266 q6267⟩) ⟨_, s.pick [0] 1 rfl, kS6261⟩ ?_
  refine RD.done (by kernel_rfl) ?_
  refine WPK.ret (?_)
  refine Fin.of (rs := [.tmp 4, .tmp 5]) hT [] (.tuple #[.slice (some ⟨b6241, 0, none⟩) x6238.length x6238.length, .slice (some ⟨b6241, o6262, none⟩) n6263 c6264]) [] rfl (by kernel_rfl) (trivial) ?_
  refine hR6203 _ _ ?_
  refine RW.seg hT 5 [] [] [.tuple #[.slice (some ⟨b6241, 0, none⟩) x6238.length x6238.length, .slice (some ⟨b6241, o6262, none⟩) n6263 c6264], .slice (some ⟨b6241, 0, none⟩) x6238.length x6238.length, .slice (some ⟨b6241, o6262, none⟩) n6263 c6264, .slice (some ⟨b6241, 0, none⟩) x6238.length x6238.length, .slice (some ⟨b6241, o6262, none⟩) n6263 c6264] [] (by kernel_rfl) (trivial) ?_
  refine RW.nil ?_
  refine WPK.seq ?_
  refine WPK.seq ?_
  refine WPK.region ?_
  refine RW.seg hT 2 [] [] [.int .i64 p2, .int .i64 0] [] (by kernel_rfl) (trivial) ?_
  refine RW.nil ?_
  refine WPK.block ?_
  refine WPK.loop' (J := fun n6380 E ds wz => ∀ X : Kont, (∀ (I6360 : Nat → Prop) (x6354 : Int) (x6355 : (List Int)) (D6353 : List Value) (cl6356 : List Value) (w' : World), g53_l1 p0 p1 p2 x6255 n6380 x6354 x6355 = some r → St w0 M I6360 ((.sl (.slice (some ⟨b6241, 0, none⟩) x6238.length x6238.length) 5 1 x6238.length cl6356) :: F) w' → Kp I w I6360 w' → x6238.length = x6355.length → RepL (Rp.int .u8) I6360 w' cl6356 x6355 → X [(D6353.getD 0 undef), .int .u64 p1, .int .i64 p2, (D6353.getD 1 undef), (D6353.getD 2 undef), (D6353.getD 3 undef), .slice none 0 0, .slice (some ⟨b6241, 0, none⟩) x6238.length x6238.length, .slice (some ⟨b6241, o6262, none⟩) n6263 c6264, (D6353.getD 4 undef), (D6353.getD 5 undef), (D6353.getD 6 undef), (D6353.getD 7 undef), (D6353.getD 8 undef), (D6353.getD 9 undef), (D6353.getD 10 undef), .int .i64 p2, .int .i64 x6354, (D6353.getD 11 undef), (D6353.getD 12 undef), (D6353.getD 13 undef), (D6353.getD 14 undef), (D6353.getD 15 undef), (D6353.getD 16 undef), (D6353.getD 17 undef), (D6353.getD 18 undef), (D6353.getD 19 undef), (D6353.getD 20 undef), (D6353.getD 21 undef), (D6353.getD 22 undef), (D6353.getD 23 undef), (D6353.getD 24 undef), (D6353.getD 25 undef), undef] [] w') → X E ds wz) FUEL (fun X h => kc (by kernel_rfl) rfl (h I 0 x6255 [.slice A6198 p0.length c6199, undef, undef, undef, undef, .tuple #[.slice (some ⟨b6241, 0, none⟩) x6238.length x6238.length, .slice (some ⟨b6241, o6262, none⟩) n6263 c6264], .slice A6198 p0.length c6199, .int .i64 p2, .tuple #[.slice (some ⟨b6241, 0, none⟩) x6238.length x6238.length, .slice (some ⟨b6241, o6262, none⟩) n6263 c6264], .slice (some ⟨b6241, 0, none⟩) x6238.length x6238.length, .slice (some ⟨b6241, o6262, none⟩) n6263 c6264, undef, undef, undef, undef, undef, undef, undef, undef, undef, undef, undef, undef, undef, undef, undef] cl6251 _ hf s kk hn6254 rp6253)) (fun _ _ _ hJ => hJ (fun _ _ _ => False) (by intro I6360 x6354 x6355 D6353 cl6356 w6359 hf s kk hn6357 rp6358; exact noneS hf)) ?_
  intro X6400 hX6401
  refine fun n6380 _ _ _ hJ => hJ (X6400 n6380) ?_
  intro I6360 x6354 x6355 D6353 cl6356 w6359 hf s kk hn6357 rp6358
  refine hX6401 _ _ _ _ ?_
  replace hf : g53_l1B p0 p1 p2 x6255 (g53_l1 p0 p1 p2 x6255 n6380) x6354 x6355 = some r := hf
  generalize hrec6381 : g53_l1 p0 p1 p2 x6255 n6380 = rec6379 at hf
  unfold g53_l1B at hf
  refine WPK.seq ?_
  refine WPK.region ?_
  refine RW.seg hT 1 [] [] [.bool (decide (x6354 < p2))] [] (by kernel_rfl) (trivial) ?_
  refine RW.nil ?_
  refine WPK.seq ?_
  by_cases h6383 : x6354 < p2
  · have hf := iteT h6383 hf
    refine WPK.condT (Eq.trans (b := .bool (decide (x6354 < p2))) (by kernel_rfl) (bo_t h6383)) ?_
    refine WPK.skip ?_
    refine WPK.seq ?_
    refine WPK.block ?_
    refine WPK.seq ?_
    refine WPK.region ?_
    refine RW.seg hT 2 [] [] [.int .i64 x6354, .int .i64 x6354] [] (by kernel_rfl) (trivial) ?_
    refine RW.nil ?_
    refine WPK.region ?_
    obtain ⟨h6384, hf⟩ := iteS hf
    obtain ⟨x6385, hx6386, hf⟩ := bindS hf
    obtain ⟨h6389, hf⟩ := iteS hf
    obtain ⟨x6387, hx6388, hf⟩ := bindS hf
    obtain ⟨-, hx6388⟩ := getS hx6388
    refine RW.seg hT 12 [undef, undef] [(29, .int .u64 x6385), (31, .pointer (some ⟨b6241, 0 + ((p0.length : Int) + (IntKind.i64.wrap ((IntKind.i64.wrap (p2 - 1)) - x6354))).toNat * 1, none⟩))] [.slice (some ⟨b6241, o6262, none⟩) n6263 c6264, .int .i64 p2, .int .i64 (IntKind.i64.wrap (p2 - 1)), .int .i64 x6354, .int .i64 (IntKind.i64.wrap ((IntKind.i64.wrap (p2 - 1)) - x6354)), .int .u64 p1, .int .i64 x6354, .int .i64 (IntKind.i64.wrap (8 * x6354)), .int .u64 (IntKind.u64.wrap (IntKind.i64.wrap (8 * x6354))), .int .u64 x6385, .int .u8 (IntKind.u8.wrap x6385), .pointer (some ⟨b6241, 0 + ((p0.length : Int) + (IntKind.i64.wrap ((IntKind.i64.wrap (p2 - 1)) - x6354))).toNat * 1, none⟩)] [.both (.nn (IntKind.u64.wrap (IntKind.i64.wrap (8 * x6354)))) (.veq (.int .u64 (shrI .u64 p1 (IntKind.u64.wrap (IntKind.i64.wrap (8 * x6354))))) (.int .u64 x6385)), .both (.idx (IntKind.i64.wrap ((IntKind.i64.wrap (p2 - 1)) - x6354)) n6263) (.veq (.pointer (some ⟨b6241, o6262 + (IntKind.i64.wrap ((IntKind.i64.wrap (p2 - 1)) - x6354)).toNat * 1, none⟩)) (.pointer (some ⟨b6241, 0 + ((p0.length : Int) + (IntKind.i64.wrap ((IntKind.i64.wrap (p2 - 1)) - x6354))).toNat * 1, none⟩)))] (by kernel_rfl) (⟨⟨h6384, int_v (someS hx6386)⟩, ⟨(Pt.idx (b := b6241) pt6270 h6389).1, (Pt.idx (b := b6241) pt6270 h6389).2⟩⟩) ?_
    obtain ⟨y6392, hy6393, hf⟩ := bindS hf
    obtain ⟨h6394, hq6395⟩ := setS hy6393
    obtain ⟨cl6396, hcl6397⟩ : ∃ q, setL cl6356 (0 + ((p0.length : Int) + (IntKind.i64.wrap ((IntKind.i64.wrap (p2 - 1)) - x6354))).toNat * 1) [.int .u8 (IntKind.u8.wrap x6385)] = q := ⟨_, rfl⟩
    have rp6398 : RepL (Rp.int .u8) I6360 w6359 cl6396 y6392 := by rw [hq6395, ← hcl6397, Nat.zero_add]; exact RepL.set rp6358 (by omega) (rfl)
    have hn6399 : x6238.length = y6392.length := by rw [hq6395, List.length_set]; exact hn6357
    refine RW.op (by kernel_rfl) (OK.storeSl hT (i := 0) (b := b6241) (off := 0 + ((p0.length : Int) + (IntKind.i64.wrap ((IntKind.i64.wrap (p2 - 1)) - x6354))).toNat * 1) (m := 1) (vs := [.int .u8 (IntKind.u8.wrap x6385)]) (c := x6238.length) (e := 5) (size := 1) (n := x6238.length) (cl := cl6356) (cl' := cl6396) s (by kernel_rfl) rfl rfl (flat_ok rfl) (by have h1 := RepL.length rp6358; simp only [List.length_cons, List.length_nil, h1]; exact row_bd (n := 1) h6394 rfl) hcl6397 ?_)
    rintro w6390 s k6391
    replace rp6398 := rp6398.st k6391
    replace kk := kk.trans k6391
    refine RW.nil ?_
    refine WPK.region ?_
    refine RW.seg hT 2 [] [] [.int .i64 (IntKind.i64.wrap (x6354 + 1)), .int .i64 (IntKind.i64.wrap (x6354 + 1))] [] (by kernel_rfl) (trivial) ?_
    refine RW.nil ?_
    subst hrec6381
    exact ⟨n6380, Nat.le_refl _, fun X h => kc (by kernel_rfl) rfl (h I6360 (IntKind.i64.wrap (x6354 + 1)) y6392 [(D6353.getD 0 undef), (D6353.getD 1 undef), (D6353.getD 2 undef), (D6353.getD 3 undef), .int .i64 x6354, (D6353.getD 5 undef), (D6353.getD 6 undef), (D6353.getD 7 undef), (D6353.getD 8 undef), (D6353.getD 9 undef), (D6353.getD 10 undef), .bool (decide (x6354 < p2)), .int .i64 x6354, .slice (some ⟨b6241, o6262, none⟩) n6263 c6264, .int .i64 p2, .int .i64 (IntKind.i64.wrap (p2 - 1)), .int .i64 x6354, .int .i64 (IntKind.i64.wrap ((IntKind.i64.wrap (p2 - 1)) - x6354)), .int .u64 p1, .int .i64 x6354, .int .i64 (IntKind.i64.wrap (8 * x6354)), .int .u64 (IntKind.u64.wrap (IntKind.i64.wrap (8 * x6354))), .int .u64 x6385, .int .u8 (IntKind.u8.wrap x6385), (.pointer (some ⟨b6241, 0 + ((p0.length : Int) + (IntKind.i64.wrap ((IntKind.i64.wrap (p2 - 1)) - x6354))).toNat * 1, none⟩)), .int .i64 (IntKind.i64.wrap (x6354 + 1))] cl6396 _ hf s kk hn6399 rp6398)⟩
  · have hf := iteF h6383 hf
    refine WPK.condF (Eq.trans (b := .bool (decide (x6354 < p2))) (by kernel_rfl) (bo_f h6383)) ?_
    refine WPK.exit (blockQ.same ?_)
    refine WPK.seq ?_
    refine WPK.region ?_
    refine RW.seg hT 2 [] [] [.slice (some ⟨b6241, 0, none⟩) x6238.length x6238.length, .slice (some ⟨b6241, 0, none⟩) x6238.length x6238.length] [] (by kernel_rfl) (trivial) ?_
    refine RW.nil ?_
    refine WPK.ret (?_)
    obtain rfl := someS hf
    refine Fin.of (rs := [.tmp 6]) hT [] (.slice (some ⟨b6241, 0, none⟩) x6238.length x6238.length) [] rfl (by kernel_rfl) (trivial) ?_
    exact fun X h => vc rfl (h I6360 (some ⟨b6241, 0, none⟩) x6238.length x6238.length cl6356 _ s kk hn6357 rp6358)
theorem c42 {w0 w : World} {M I : Nat → Prop} {F : List It} (p0 : (List Int)) (p1 : Int) (A6423 : Option Addr) (c6424 : Nat) (hc6425 : (p0.length ≤ c6424 ∧ c6424 ≤ 9223372036854775807)) (e6426 : Elems (Rp.int .u8) I w A6423 p0) (s : St w0 M I (F) w) {r : (List Int)} (hf : g42 p0 p1 = some r) :
    Ret Tryd.prog 42 [.slice A6423 p0.length c6424, .int .u16 p1] w fun v wz => ∀ X : Value → World → Prop, (∀ (I' : Nat → Prop) (A6441 : Option Addr) (n6442 : Nat) (c6443 : Nat) (cl6444 : List Value) (w' : World), St w0 M I' ((.sl (.slice A6441 n6442 c6443) 5 1 n6442 cl6444) :: F) w' → Kp I w I' w' → n6442 = r.length → RepL (Rp.int .u8) I' w' cl6444 r → X (.slice A6441 n6442 c6443) w') → X v wz := by
  have kk : Kp I w I w := Kp.refl
  unfold g42 at hf
  refine Ret.of Tryd.func42 rfl ?_
  refine WPK.seq ?_
  refine WPK.region ?_
  refine RW.seg hT 1 [] [] [.slice none 0 0] [] (by kernel_rfl) (trivial) ?_
  refine RW.nil ?_
  refine WPK.seq ?_
  refine WPK.region ?_
  refine RW.seg hT 3 [undef] [] [.slice A6423 p0.length c6424, .int .u16 p1, .int .u64 (IntKind.u64.wrap p1)] [] (by kernel_rfl) (trivial) ?_
  obtain ⟨x6427, hx6428, hf⟩ := bindS hf
  refine RW.op (by kernel_rfl) (OK.call' en53 (by kernel_rfl) (c53 (F := F) p0 (IntKind.u64.wrap p1) 2 A6423 c6424 hc6425 e6426 s hx6428) ?_)
  intro X6431 hX6432
  refine fun _ _ hJ => hJ X6431 ?_
  intro I6433 A6434 n6435 c6436 cl6437 w6429 s k6430 hn6438 rp6439
  refine hX6432 _ _ ?_
  replace e6426 := e6426.st k6430
  replace kk := kk.trans k6430
  refine RW.seg hT 1 [] [] [.slice A6434 n6435 c6436] [] (by kernel_rfl) (trivial) ?_
  refine RW.nil ?_
  refine WPK.ret (?_)
  obtain rfl := someS hf
  refine Fin.of (rs := [.tmp 4]) hT [] (.slice A6434 n6435 c6436) [] rfl (by kernel_rfl) (trivial) ?_
  exact fun X h => vc rfl (h I6433 A6434 n6435 c6436 cl6437 _ s kk hn6438 rp6439)
theorem c41 {w0 w : World} {M I : Nat → Prop} {F : List It} (p0 : (List Int)) (p1 : Int) (A6480 : Option Addr) (c6481 : Nat) (hc6482 : (p0.length ≤ c6481 ∧ c6481 ≤ 9223372036854775807)) (e6483 : Elems (Rp.int .u8) I w A6480 p0) (s : St w0 M I (F) w) {r : (List Int)} (hf : g41 p0 p1 = some r) :
    Ret Tryd.prog 41 [.slice A6480 p0.length c6481, .int .u64 p1] w fun v wz => ∀ X : Value → World → Prop, (∀ (I' : Nat → Prop) (A6498 : Option Addr) (n6499 : Nat) (c6500 : Nat) (cl6501 : List Value) (w' : World), St w0 M I' ((.sl (.slice A6498 n6499 c6500) 5 1 n6499 cl6501) :: F) w' → Kp I w I' w' → n6499 = r.length → RepL (Rp.int .u8) I' w' cl6501 r → X (.slice A6498 n6499 c6500) w') → X v wz := by
  have kk : Kp I w I w := Kp.refl
  unfold g41 at hf
  refine Ret.of Tryd.func41 rfl ?_
  refine WPK.seq ?_
  refine WPK.region ?_
  refine RW.seg hT 1 [] [] [.slice none 0 0] [] (by kernel_rfl) (trivial) ?_
  refine RW.nil ?_
  refine WPK.seq ?_
  refine WPK.region ?_
  refine RW.seg hT 2 [] [] [.slice A6480 p0.length c6481, .int .u64 p1] [] (by kernel_rfl) (trivial) ?_
  obtain ⟨x6484, hx6485, hf⟩ := bindS hf
  refine RW.op (by kernel_rfl) (OK.call' en53 (by kernel_rfl) (c53 (F := F) p0 p1 8 A6480 c6481 hc6482 e6483 s hx6485) ?_)
  intro X6488 hX6489
  refine fun _ _ hJ => hJ X6488 ?_
  intro I6490 A6491 n6492 c6493 cl6494 w6486 s k6487 hn6495 rp6496
  refine hX6489 _ _ ?_
  replace e6483 := e6483.st k6487
  replace kk := kk.trans k6487
  refine RW.seg hT 1 [] [] [.slice A6491 n6492 c6493] [] (by kernel_rfl) (trivial) ?_
  refine RW.nil ?_
  refine WPK.ret (?_)
  obtain rfl := someS hf
  refine Fin.of (rs := [.tmp 4]) hT [] (.slice A6491 n6492 c6493) [] rfl (by kernel_rfl) (trivial) ?_
  exact fun X h => vc rfl (h I6490 A6491 n6492 c6493 cl6494 _ s kk hn6495 rp6496)
theorem c43 {w0 w : World} {M I : Nat → Prop} {F : List It} (p0 : (List Int)) (p1 : Int) (A7053 : Option Addr) (c7054 : Nat) (hc7055 : (p0.length ≤ c7054 ∧ c7054 ≤ 9223372036854775807)) (e7056 : Elems (Rp.int .u8) I w A7053 p0) (s : St w0 M I (F) w) {r : (List Int)} (hf : g43 p0 p1 = some r) :
    Ret Tryd.prog 43 [.slice A7053 p0.length c7054, .int .u32 p1] w fun v wz => ∀ X : Value → World → Prop, (∀ (I' : Nat → Prop) (A7071 : Option Addr) (n7072 : Nat) (c7073 : Nat) (cl7074 : List Value) (w' : World), St w0 M I' ((.sl (.slice A7071 n7072 c7073) 5 1 n7072 cl7074) :: F) w' → Kp I w I' w' → n7072 = r.length → RepL (Rp.int .u8) I' w' cl7074 r → X (.slice A7071 n7072 c7073) w') → X v wz := by
  have kk : Kp I w I w := Kp.refl
  unfold g43 at hf
  refine Ret.of Tryd.func43 rfl ?_
  refine WPK.seq ?_
  refine WPK.region ?_
  refine RW.seg hT 1 [] [] [.slice none 0 0] [] (by kernel_rfl) (trivial) ?_
  refine RW.nil ?_
  refine WPK.seq ?_
  refine WPK.region ?_
  refine RW.seg hT 3 [undef] [] [.slice A7053 p0.length c7054, .int .u32 p1, .int .u64 (IntKind.u64.wrap p1)] [] (by kernel_rfl) (trivial) ?_
  obtain ⟨x7057, hx7058, hf⟩ := bindS hf
  refine RW.op (by kernel_rfl) (OK.call' en53 (by kernel_rfl) (c53 (F := F) p0 (IntKind.u64.wrap p1) 4 A7053 c7054 hc7055 e7056 s hx7058) ?_)
  intro X7061 hX7062
  refine fun _ _ hJ => hJ X7061 ?_
  intro I7063 A7064 n7065 c7066 cl7067 w7059 s k7060 hn7068 rp7069
  refine hX7062 _ _ ?_
  replace e7056 := e7056.st k7060
  replace kk := kk.trans k7060
  refine RW.seg hT 1 [] [] [.slice A7064 n7065 c7066] [] (by kernel_rfl) (trivial) ?_
  refine RW.nil ?_
  refine WPK.ret (?_)
  obtain rfl := someS hf
  refine Fin.of (rs := [.tmp 4]) hT [] (.slice A7064 n7065 c7066) [] rfl (by kernel_rfl) (trivial) ?_
  exact fun X h => vc rfl (h I7063 A7064 n7065 c7066 cl7067 _ s kk hn7068 rp7069)
end Go.Proofs.YtjkghheeeiacmaaDoor
