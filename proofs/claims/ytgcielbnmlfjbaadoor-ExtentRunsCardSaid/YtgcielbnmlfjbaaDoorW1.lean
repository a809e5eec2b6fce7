/- PRINTED BY sy.py: each call computes what the plain function of its number tells. -/
import Derived.Test.YtgcielbnmlfjbaaDoorTab
import Derived.Test.YtgcielbnmlfjbaaDoorSXs
import Derived.Test.YtgcielbnmlfjbaaDoorG
namespace Go.Proofs.YtgcielbnmlfjbaaDoor
open Go Go.SX Go.RowKit
set_option maxRecDepth 100000
set_option linter.unusedVariables false
def rp_T_extent_Set : Rp T_extent_Set := Rp.iso (fun x => (x.n, x.w)) (Rp.pair (Rp.int .i64) (Rp.slice (Rp.int .u64)))
attribute [local irreducible] WPK RW RD Ret SX.Fin SX.Any opK RoundBeg RoundEnd RangeEnd Rounds
theorem en19 : Proofs.Enters Tryd.prog 19 := Proofs.enters_of Tryd.func19 (by kernel_rfl) rfl
theorem en34 : Proofs.Enters Tryd.prog 34 := Proofs.enters_of Tryd.func34 (by kernel_rfl) rfl
theorem en32 : Proofs.Enters Tryd.prog 32 := Proofs.enters_of Tryd.func32 (by kernel_rfl) rfl
theorem en33 : Proofs.Enters Tryd.prog 33 := Proofs.enters_of Tryd.func33 (by kernel_rfl) rfl
theorem en13 : Proofs.Enters Tryd.prog 13 := Proofs.enters_of Tryd.func13 (by kernel_rfl) rfl
theorem en22 : Proofs.Enters Tryd.prog 22 := Proofs.enters_of Tryd.func22 (by kernel_rfl) rfl
theorem en10 : Proofs.Enters Tryd.prog 10 := Proofs.enters_of Tryd.func10 (by kernel_rfl) rfl
theorem en12 : Proofs.Enters Tryd.prog 12 := Proofs.enters_of Tryd.func12 (by kernel_rfl) rfl
theorem en11 : Proofs.Enters Tryd.prog 11 := Proofs.enters_of Tryd.func11 (by kernel_rfl) rfl
theorem en31 : Proofs.Enters Tryd.prog 31 := Proofs.enters_of Tryd.func31 (by kernel_rfl) rfl
theorem en37 : Proofs.Enters Tryd.prog 37 := Proofs.enters_of Tryd.func37 (by kernel_rfl) rfl
theorem en21 : Proofs.Enters Tryd.prog 21 := Proofs.enters_of Tryd.func21 (by kernel_rfl) rfl
theorem en16 : Proofs.Enters Tryd.prog 16 := Proofs.enters_of Tryd.func16 (by kernel_rfl) rfl
theorem en44 : Proofs.Enters Tryd.prog 44 := Proofs.enters_of Tryd.func44 (by kernel_rfl) rfl
theorem en27 : Proofs.Enters Tryd.prog 27 := Proofs.enters_of Tryd.func27 (by kernel_rfl) rfl
theorem en35 : Proofs.Enters Tryd.prog 35 := Proofs.enters_of Tryd.func35 (by kernel_rfl) rfl
theorem en14 : Proofs.Enters Tryd.prog 14 := Proofs.enters_of Tryd.func14 (by kernel_rfl) rfl
theorem en15 : Proofs.Enters Tryd.prog 15 := Proofs.enters_of Tryd.func15 (by kernel_rfl) rfl
theorem en30 : Proofs.Enters Tryd.prog 30 := Proofs.enters_of Tryd.func30 (by kernel_rfl) rfl
theorem en8 : Proofs.Enters Tryd.prog 8 := Proofs.enters_of Tryd.func8 (by kernel_rfl) rfl
theorem en9 : Proofs.Enters Tryd.prog 9 := Proofs.enters_of Tryd.func9 (by kernel_rfl) rfl
theorem en3 : Proofs.Enters Tryd.prog 3 := Proofs.enters_of Tryd.func3 (by kernel_rfl) rfl
theorem en4 : Proofs.Enters Tryd.prog 4 := Proofs.enters_of Tryd.func4 (by kernel_rfl) rfl
theorem en17 : Proofs.Enters Tryd.prog 17 := Proofs.enters_of Tryd.func17 (by kernel_rfl) rfl
theorem en36 : Proofs.Enters Tryd.prog 36 := Proofs.enters_of Tryd.func36 (by kernel_rfl) rfl
theorem en18 : Proofs.Enters Tryd.prog 18 := Proofs.enters_of Tryd.func18 (by kernel_rfl) rfl
theorem en5 : Proofs.Enters Tryd.prog 5 := Proofs.enters_of Tryd.func5 (by kernel_rfl) rfl
theorem c19 {w0 w : World} {M I : Nat → Prop} {F : List It} (p0 : Int) (s : St w0 M I (F) w) {r : ((Option T_extent_Set) × Int)} (hf : g19 p0 = some r) :
    Ret Tryd.prog 19 [.int .i64 p0] w fun v wz => ∀ X : Value → World → Prop, (∀ (I' : Nat → Prop) (w' : World), r.1 = none → St w0 M I' (F) w' → Kp I w I' w' → X (.tuple #[.pointer none, .int .i64 r.2]) w') → (∀ (y : T_extent_Set) (I' : Nat → Prop) (b60 : Nat) (A61 : Option Addr) (n62 : Nat) (c63 : Nat) (cl64 : List Value) (w' : World), r.1 = some y → St w0 M I' ((.blk b60 (.cells #[.int .i64 y.n, .slice A61 n62 c63] 53 (0, 0))) :: (.sl (.slice A61 n62 c63) 61 1 n62 cl64) :: F) w' → Kp I w I' w' → n62 = y.w.length → RepL (Rp.int .u64) I' w' cl64 y.w → X (.tuple #[.pointer (some ⟨b60, 0, none⟩), .int .i64 r.2]) w') → X v wz := by
  have kk : Kp I w I w := Kp.refl
  unfold g19 at hf
  refine Ret.of Tryd.func19 rfl ?_
  refine WPK.seq ?_
  refine WPK.region ?_
  refine RW.seg hT 2 [] [] [.pointer none, .int .i64 0] [] (by kernel_rfl) (trivial) ?_
  refine RW.nil ?_
  refine WPK.seq ?_
  refine WPK.seq ?_
  refine WPK.cut' (fun E ds wz => ∀ X : Kont, (∀ (x42 : Bool) (D41 : List Value), g19_j1 p0 x42 = some r → X [.int .i64 p0, (D41.getD 0 undef), .pointer none, .int .i64 0, (D41.getD 1 undef), (D41.getD 2 undef), (D41.getD 3 undef), (D41.getD 4 undef), (D41.getD 5 undef), .bool x42, undef, undef, undef, undef, undef, undef, undef, undef] [] w) → X E ds wz) ?_ ?_
  · intro X57 hX58
    refine fun _ _ _ hJ => hJ X57 ?_
    intro x42 D41 hf
    refine hX58 _ _ _ ?_
    unfold g19_j1 at hf
    by_cases h43 : x42 = true
    · have hf := iteT h43 hf
      refine WPK.condT (Eq.trans (b := .bool x42) (by kernel_rfl) (b_t h43)) ?_
      refine WPK.seq ?_
      refine WPK.region ?_
      refine RW.seg hT 2 [] [] [.pointer none, .int .i64 1] [] (by kernel_rfl) (trivial) ?_
      refine RW.nil ?_
      refine WPK.ret (?_)
      obtain rfl := someS hf
      refine Fin.of (rs := [.tmp 2, .tmp 3]) hT [] (.tuple #[.pointer none, .int .i64 1]) [] rfl (by kernel_rfl) (trivial) ?_
      exact fun X h h' => vc rfl (h I _ rfl s kk)
    · have hf := iteF h43 hf
      refine WPK.condF (Eq.trans (b := .bool x42) (by kernel_rfl) (b_f h43)) ?_
      refine WPK.skip ?_
      refine WPK.seq ?_
      refine WPK.region ?_
      obtain ⟨x44, hx45, hf⟩ := bindS hf
      refine RW.seg hT 5 [] [(14, .int .i64 x44)] [.int .i64 p0, .int .i64 p0, .int .i64 (IntKind.i64.wrap (p0 + 64)), .int .i64 (IntKind.i64.wrap ((IntKind.i64.wrap (p0 + 64)) - 1)), .int .i64 x44] [.both (.ne0 64) (.veq (.int .i64 (IntKind.i64.wrap (Int.tdiv (IntKind.i64.wrap ((IntKind.i64.wrap (p0 + 64)) - 1)) 64))) (.int .i64 x44))] (by kernel_rfl) (⟨(show (64 : Int) ≠ 0 by decide), int_v (someS hx45)⟩) ?_
      obtain ⟨x46, hx47, hf⟩ := bindS hf
      refine RW.op (by kernel_rfl) (OK.make hT (r := (Rp.int .u64)) (n := x44) (z := .int .u64 0) (x := 0) (e := 61) (bytes := 8) s (by kernel_rfl) hx47 (fun _ _ => rfl) ?_)
      rintro w48 b49 cl50 s k51 rp52
      replace kk := kk.trans k51
      refine RW.seg hT 1 [] [] [.agg #[.int .i64 p0, .slice (some ⟨b49, 0, none⟩) x46.length x46.length]] [] (by kernel_rfl) (trivial) ?_
      refine RW.op (by kernel_rfl) (OK.new hT (f := fun b => .pointer (some ⟨b, 0, none⟩)) (cs := [.int .i64 p0, .slice (some ⟨b49, 0, none⟩) x46.length x46.length]) (e := 53) (c := .tt) s (by kernel_rfl) trivial ?_)
      rintro w54 b55 s k56 -
      replace rp52 := rp52.st k56
      replace kk := kk.trans k56
      refine RW.seg hT 2 [] [] [.pointer (some ⟨b55, 0, none⟩), .int .i64 0] [] (by kernel_rfl) (trivial) ?_
      refine RW.nil ?_
      refine WPK.ret (?_)
      obtain rfl := someS hf
      refine Fin.of (rs := [.tmp 2, .tmp 3]) hT [] (.tuple #[.pointer (some ⟨b55, 0, none⟩), .int .i64 0]) [] rfl (by kernel_rfl) (trivial) ?_
      exact fun X h h' => vc rfl (h' (T_extent_Set.mk p0 x46) I b55 (some ⟨b49, 0, none⟩) x46.length x46.length cl50 _ rfl s kk rfl rp52)
  · refine WPK.region ?_
    refine RW.seg hT 2 [] [] [.int .i64 p0, .bool (decide (p0 < 1))] [] (by kernel_rfl) (trivial) ?_
    by_cases h59 : p0 < 1
    · have hf := iteT h59 hf
      refine RW.seg hT 4 [] [(6, .bool true)] [.bool true, undef, undef, .bool true] [.veq (.bool (decide (p0 < 1))) (.bool true)] (by kernel_rfl) (bo_t h59) ?_
      refine RW.nil ?_
      exact fun X h => kc (by kernel_rfl) rfl (h true [undef, .int .i64 p0, .bool (decide (p0 < 1)), .bool true, undef, undef] hf)
    · have hf := iteF h59 hf
      refine RW.seg hT 4 [] [(6, .bool false)] [.bool false, .int .i64 p0, .bool (decide (p0 > 2048)), .bool (decide (p0 > 2048))] [.veq (.bool (decide (p0 < 1))) (.bool false)] (by kernel_rfl) (bo_f h59) ?_
      refine RW.nil ?_
      exact fun X h => kc (by kernel_rfl) rfl (h (decide (p0 > 2048)) [undef, .int .i64 p0, .bool (decide (p0 < 1)), .bool false, .int .i64 p0, .bool (decide (p0 > 2048))] hf)
theorem c34 {w0 w : World} {M I : Nat → Prop} {F : List It} (p0 : T_extent_Set) (b133 : Nat) (A134 : Option Addr) (n135 : Nat) (c136 : Nat) (cl137 : List Value) (hn138 : n135 = p0.w.length) (rp139 : RepL (Rp.int .u64) I w cl137 p0.w) (s : St w0 M I ((.blk b133 (.cells #[.int .i64 p0.n, .slice A134 n135 c136] 53 (0, 0))) :: (.sl (.slice A134 n135 c136) 61 1 n135 cl137) :: F) w) {r : Bool} (hf : g34 p0 = some r) :
    Ret Tryd.prog 34 [.pointer (some ⟨b133, 0, none⟩)] w fun v wz => ∀ X : Value → World → Prop, (∀ (I' : Nat → Prop) (w' : World), St w0 M I' ((.blk b133 (.cells #[.int .i64 p0.n, .slice A134 n135 c136] 53 (0, 0))) :: (.sl (.slice A134 n135 c136) 61 1 n135 cl137) :: F) w' → Kp I w I' w' → X (.bool r) w') → X v wz := by
  have kk : Kp I w I w := Kp.refl
  unfold g34 at hf
  refine Ret.of Tryd.func34 rfl ?_
  refine WPK.seq ?_
  refine WPK.region ?_
  refine RW.seg hT 1 [] [] [.bool false] [] (by kernel_rfl) (trivial) ?_
  refine RW.nil ?_
  refine WPK.seq ?_
  refine WPK.region ?_
  refine RW.seg hT 10 [.int .i64 p0.n] [(10, .bool (decide (p0.n = 0)))] [.pointer (some ⟨b133, 0, none⟩), .bool false, .bool false, .pointer (some ⟨b133, 0, none⟩), .pointer (some ⟨b133, 0, none⟩), .pointer (some ⟨b133, 0, none⟩), .int .i64 p0.n, .bool (decide (p0.n = 0)), .bool (decide (p0.n = 0)), .bool (decide (p0.n = 0))] [.cell ⟨b133, 0, none⟩ (.int .i64 p0.n), .veq (.bool (p0.n == 0)) (.bool (decide (p0.n = 0)))] (by kernel_rfl) (⟨s.cell (i := 0) (off := 0) rfl rfl, eq_v⟩) ?_
  refine RW.nil ?_
  refine WPK.ret (?_)
  obtain rfl := someS hf
  refine Fin.of (rs := [.tmp 2]) hT [] (.bool (decide (p0.n = 0))) [] rfl (by kernel_rfl) (trivial) ?_
  exact fun X h => vc rfl (h I _ s kk)
theorem c32 {w0 w : World} {M I : Nat → Prop} {F : List It} (p0 : T_extent_Set) (p1 : Int) (b163 : Nat) (A164 : Option Addr) (n165 : Nat) (c166 : Nat) (cl167 : List Value) (hn168 : n165 = p0.w.length) (rp169 : RepL (Rp.int .u64) I w cl167 p0.w) (s : St w0 M I ((.blk b163 (.cells #[.int .i64 p0.n, .slice A164 n165 c166] 53 (0, 0))) :: (.sl (.slice A164 n165 c166) 61 1 n165 cl167) :: F) w) {r : Int} (hf : g32 p0 p1 = some r) :
    Ret Tryd.prog 32 [.pointer (some ⟨b163, 0, none⟩), .int .i64 p1] w fun v wz => ∀ X : Value → World → Prop, (∀ (I' : Nat → Prop) (w' : World), St w0 M I' ((.blk b163 (.cells #[.int .i64 p0.n, .slice A164 n165 c166] 53 (0, 0))) :: (.sl (.slice A164 n165 c166) 61 1 n165 cl167) :: F) w' → Kp I w I' w' → X (.int .i64 r) w') → X v wz := by
  have kk : Kp I w I w := Kp.refl
  unfold g32 at hf
  refine Ret.of Tryd.func32 rfl ?_
  refine WPK.seq ?_
  refine WPK.region ?_
  refine RW.seg hT 1 [] [] [.int .i64 0] [] (by kernel_rfl) (trivial) ?_
  refine RW.nil ?_
  refine WPK.seq ?_
  refine WPK.block ?_
  refine WPK.seq ?_
  refine WPK.region ?_
  refine RW.seg hT 1 [] [] [.pointer (some ⟨b163, 0, none⟩)] [] (by kernel_rfl) (trivial) ?_
  obtain ⟨x182, hx183, hf⟩ := bindS hf
  refine RW.op (by kernel_rfl) (OK.call' en34 (by kernel_rfl) (c34 (F := F) p0 b163 A164 n165 c166 cl167 hn168 rp169 s hx183) ?_)
  intro X186 hX187
  refine fun _ _ hJ => hJ X186 ?_
  intro I188 w184 s k185
  refine hX187 _ _ ?_
  replace rp169 := rp169.st k185
  replace kk := kk.trans k185
  refine RW.seg hT 1 [] [] [.bool x182] [] (by kernel_rfl) (trivial) ?_
  refine RW.nil ?_
  by_cases h189 : x182 = true
  · have hf := iteT h189 hf
    refine WPK.condT (Eq.trans (b := .bool x182) (by kernel_rfl) (b_t h189)) ?_
    refine WPK.seq ?_
    refine WPK.region ?_
    refine RW.seg hT 1 [] [] [.int .i64 2] [] (by kernel_rfl) (trivial) ?_
    refine RW.nil ?_
    refine WPK.ret (blockQ.ret (?_))
    obtain rfl := someS hf
    refine Fin.of (rs := [.tmp 4]) hT [] (.int .i64 2) [] rfl (by kernel_rfl) (trivial) ?_
    exact fun X h => vc rfl (h I188 _ s kk)
  · have hf := iteF h189 hf
    refine WPK.condF (Eq.trans (b := .bool x182) (by kernel_rfl) (b_f h189)) ?_
    refine WPK.seq ?_
    refine WPK.region ?_
    refine RW.seg hT 2 [] [] [.int .i64 p1, .bool (decide (p1 < 0))] [] (by kernel_rfl) (trivial) ?_
    by_cases h191 : p1 < 0
    · have hf := iteT h191 hf
      refine RW.seg hT 9 [] [(11, .bool true)] [.bool true, undef, undef, undef, undef, undef, undef, .bool true, .bool true] [.veq (.bool (decide (p1 < 0))) (.bool true)] (by kernel_rfl) (bo_t h191) ?_
      refine RW.nil ?_
      refine WPK.condT (by kernel_rfl) ?_
      refine WPK.seq ?_
      refine WPK.region ?_
      refine RW.seg hT 1 [] [] [.int .i64 1] [] (by kernel_rfl) (trivial) ?_
      refine RW.nil ?_
      refine WPK.ret (blockQ.ret (?_))
      obtain rfl := someS hf
      refine Fin.of (rs := [.tmp 4]) hT [] (.int .i64 1) [] rfl (by kernel_rfl) (trivial) ?_
      exact fun X h => vc rfl (h I188 _ s kk)
    · have hf := iteF h191 hf
      refine RW.seg hT 9 [.int .i64 p0.n] [(11, .bool false)] [.bool false, .int .i64 p1, .pointer (some ⟨b163, 0, none⟩), .pointer (some ⟨b163, 0, none⟩), .pointer (some ⟨b163, 0, none⟩), .int .i64 p0.n, .bool (decide (p1 ≥ p0.n)), .bool (decide (p1 ≥ p0.n)), .bool (decide (p1 ≥ p0.n))] [.veq (.bool (decide (p1 < 0))) (.bool false), .cell ⟨b163, 0, none⟩ (.int .i64 p0.n)] (by kernel_rfl) (⟨bo_f h191, s.cell (i := 0) (off := 0) rfl rfl⟩) ?_
      refine RW.nil ?_
      by_cases h192 : p1 ≥ p0.n
      · have hf := iteT h192 hf
        refine WPK.condT (Eq.trans (b := .bool (decide (p1 ≥ p0.n))) (by kernel_rfl) (bo_t h192)) ?_
        refine WPK.seq ?_
        refine WPK.region ?_
        refine RW.seg hT 1 [] [] [.int .i64 1] [] (by kernel_rfl) (trivial) ?_
        refine RW.nil ?_
        refine WPK.ret (blockQ.ret (?_))
        obtain rfl := someS hf
        refine Fin.of (rs := [.tmp 4]) hT [] (.int .i64 1) [] rfl (by kernel_rfl) (trivial) ?_
        exact fun X h => vc rfl (h I188 _ s kk)
      · have hf := iteF h192 hf
        refine WPK.condF (Eq.trans (b := .bool (decide (p1 ≥ p0.n))) (by kernel_rfl) (bo_f h192)) ?_
        refine WPK.skip ?_
        refine WPK.seq ?_
        refine WPK.region ?_
        refine RW.seg hT 1 [] [] [.int .i64 0] [] (by kernel_rfl) (trivial) ?_
        refine RW.nil ?_
        refine WPK.ret (?_)
        obtain rfl := someS hf
        refine Fin.of (rs := [.tmp 4]) hT [] (.int .i64 0) [] rfl (by kernel_rfl) (trivial) ?_
        exact fun X h => vc rfl (h I188 _ s kk)
theorem c33 {w0 w : World} {M I : Nat → Prop} {F : List It} (p0 : Int) (s : St w0 M I (F) w) {r : Int} (hf : g33 p0 = some r) :
    Ret Tryd.prog 33 [.int .i64 p0] w fun v wz => ∀ X : Value → World → Prop, (∀ (I' : Nat → Prop) (w' : World), St w0 M I' (F) w' → Kp I w I' w' → X (.int .u64 r) w') → X v wz := by
  have kk : Kp I w I w := Kp.refl
  unfold g33 at hf
  refine Ret.of Tryd.func33 rfl ?_
  refine WPK.seq ?_
  refine WPK.region ?_
  refine RW.seg hT 1 [] [] [.int .u64 0] [] (by kernel_rfl) (trivial) ?_
  refine RW.nil ?_
  refine WPK.seq ?_
  refine WPK.region ?_
  obtain ⟨h239, hf⟩ := iteS hf
  refine RW.seg hT 5 [undef] [] [.int .i64 p0, .int .i64 (Int.tmod p0 64), .int .u64 (IntKind.u64.wrap (Int.tmod p0 64)), .int .u64 (shlI .u64 1 (IntKind.u64.wrap (Int.tmod p0 64))), .int .u64 (shlI .u64 1 (IntKind.u64.wrap (Int.tmod p0 64)))] [.ne0 64, .nn (IntKind.u64.wrap (Int.tmod p0 64))] (by kernel_rfl) (⟨(show (64 : Int) ≠ 0 by decide), h239⟩) ?_
  refine RW.nil ?_
  refine WPK.ret (?_)
  obtain rfl := someS hf
  refine Fin.of (rs := [.tmp 2]) hT [] (.int .u64 (shlI .u64 1 (IntKind.u64.wrap (Int.tmod p0 64)))) [] rfl (by kernel_rfl) (trivial) ?_
  exact fun X h => vc rfl (h I _ s kk)
theorem c13 {w0 w : World} {M I : Nat → Prop} {F : List It} (p0 : T_extent_Set) (p1 : Int) (b275 : Nat) (A276 : Option Addr) (n277 : Nat) (c278 : Nat) (cl279 : List Value) (hn280 : n277 = p0.w.length) (rp281 : RepL (Rp.int .u64) I w cl279 p0.w) (s : St w0 M I ((.blk b275 (.cells #[.int .i64 p0.n, .slice A276 n277 c278] 53 (0, 0))) :: (.sl (.slice A276 n277 c278) 61 1 n277 cl279) :: F) w) {r : Bool} (hf : g13 p0 p1 = some r) :
    Ret Tryd.prog 13 [.pointer (some ⟨b275, 0, none⟩), .int .i64 p1] w fun v wz => ∀ X : Value → World → Prop, (∀ (I' : Nat → Prop) (w' : World), St w0 M I' ((.blk b275 (.cells #[.int .i64 p0.n, .slice A276 n277 c278] 53 (0, 0))) :: (.sl (.slice A276 n277 c278) 61 1 n277 cl279) :: F) w' → Kp I w I' w' → X (.bool r) w') → X v wz := by
  have kk : Kp I w I w := Kp.refl
  unfold g13 at hf
  refine Ret.of Tryd.func13 rfl ?_
  refine WPK.seq ?_
  refine WPK.region ?_
  refine RW.seg hT 1 [] [] [.bool false] [] (by kernel_rfl) (trivial) ?_
  refine RW.nil ?_
  refine WPK.seq ?_
  have rp281S311 := rp281
  have kS315 : Kp I w I w := Kp.refl
  refine WPK.draw (fun w' => ∃ I' : Nat → Prop, St w0 M I' ((.blk b275 (.cells #[.int .i64 p0.n, .slice A276 n277 c278] 53 (0, 0))) :: (.sl (.slice A276 n277 c278) 61 1 n277 cl279) :: F) w' ∧ Kp I w I' w') 19 (by kernel_rfl) ?_
  intro w312 hd313
  have k314 := Kp.dr s hd313
  replace s := s.dr hd313
  replace rp281 := rp281.st k314
  replace kk := kk.trans k314
  replace kS315 := kS315.trans k314
  refine RD.seg hT (by kernel_rfl) [0, 1] [] [] [.pointer (some ⟨b275, 0, none⟩), .int .i64 p1] [] (by kernel_rfl) (fun _ _ => trivial) ⟨_, s.pick [0, 1] 2 rfl, kS315⟩ ?_
  obtain ⟨x316, hx317, hf⟩ := bindS hf
  refine RD.op (i := 2) rfl (by kernel_rfl) (by kernel_rfl) (OK.call' en32 (by kernel_rfl) (c32 (F := F) p0 p1 b275 A276 n277 c278 cl279 hn280 rp281 s hx317) ?_)
  intro X320 hX321
  refine fun _ _ hJ => hJ X320 ?_
  intro I322 w318 s k319
  refine hX321 _ _ ?_
  replace rp281 := rp281.st k319
  replace kk := kk.trans k319
  replace kS315 := kS315.trans k319
  refine ⟨fun _ => ⟨_, s.pick [0, 1] 2 rfl, kS315⟩, RD.fold ?_⟩
  refine RD.seg hT (by kernel_rfl) [3] [] [(8, .bool (decide (x316 = 0)))] [.bool (decide (x316 = 0))] [.veq (.bool (x316 == 0)) (.bool (decide (x316 = 0)))] (by kernel_rfl) (by rintro w' ⟨I', s, k⟩; have rp281 := rp281S311.st k; exact eq_v) ⟨_, s.pick [0, 1] 2 rfl, kS315⟩ ?_
  by_cases h323 : x316 = 0
  · have hf := iteT h323 hf
    obtain ⟨x324, hx325, hf⟩ := bindS hf
    obtain ⟨h326, hx325⟩ := getS hx325
    obtain ⟨b327, rfl⟩ := (St.elem s (i := 1) rfl hn280 rp281 hx325).1
    refine RD.seg hT (by kernel_rfl) [4, 5, 6, 7, 8, 9, 10, 11, 12, 13] [.slice (some ⟨b327, 0, none⟩) n277 c278, .int .u64 x324] [(9, .bool true)] [.bool true, .pointer (some ⟨b275, 0, none⟩), .pointer (some ⟨b275, 0, none⟩), .pointer (some ⟨b275, 1, none⟩), .slice (some ⟨b327, 0, none⟩) n277 c278, .int .i64 p1, .int .i64 (IntKind.i64.wrap (Int.tdiv p1 64)), .pointer (some ⟨b327, 0 + (IntKind.i64.wrap (Int.tdiv p1 64)).toNat * 1, none⟩), .int .u64 x324, .int .i64 p1] [.veq (.bool (decide (x316 = 0))) (.bool true), .cell ⟨b275, 1, none⟩ (.slice (some ⟨b327, 0, none⟩) n277 c278), .ne0 64, .idx (IntKind.i64.wrap (Int.tdiv p1 64)) n277, .cell ⟨b327, 0 + (IntKind.i64.wrap (Int.tdiv p1 64)).toNat * 1, none⟩ (.int .u64 x324)] (by kernel_rfl) (by rintro w' ⟨I', s, k⟩; have rp281 := rp281S311.st k; obtain ⟨-, cs329, hr330, ha331⟩ := St.elem s (i := 1) rfl hn280 rp281 hx325; replace ha331 := ha331 _ rfl; obtain rfl : cs329 = [.int .u64 x324] := hr330; exact ⟨bo_t h323, s.cell (i := 0) (off := 1) rfl rfl, (show (64 : Int) ≠ 0 by decide), (by rw [hn280]; exact h326), ha331 0 _ rfl⟩) ⟨_, s.pick [0, 1] 2 rfl, kS315⟩ ?_
    obtain ⟨x332, hx333, hf⟩ := bindS hf
    refine RD.op (i := 14) rfl (by kernel_rfl) (by kernel_rfl) (OK.call' en33 (by kernel_rfl) (c33 (F := (.blk b275 (.cells #[.int .i64 p0.n, .slice (some ⟨b327, 0, none⟩) n277 c278] 53 (0, 0))) :: (.sl (.slice (some ⟨b327, 0, none⟩) n277 c278) 61 1 n277 cl279) :: F) p1 s hx333) ?_)
    intro X336 hX337
    refine fun _ _ hJ => hJ X336 ?_
    intro I338 w334 s k335
    refine hX337 _ _ ?_
    replace rp281 := rp281.st k335
    replace kk := kk.trans k335
    replace kS315 := kS315.trans k335
    refine ⟨fun _ => ⟨_, s.pick [0, 1] 2 rfl, kS315⟩, RD.fold ?_⟩
    refine RD.seg hT (by kernel_rfl) [15, 16, 17, 18] [] [(21, .bool (decide ((andI .u64 x324 x332) ≠ 0)))] [.int .u64 (andI .u64 x324 x332), .bool (decide ((andI .u64 x324 x332) ≠ 0)), .bool (decide ((andI .u64 x324 x332) ≠ 0)), .bool (decide ((andI .u64 x324 x332) ≠ 0))] [.veq (.bool ((andI .u64 x324 x332) != 0)) (.bool (decide ((andI .u64 x324 x332) ≠ 0)))] (by kernel_rfl) (by rintro w' ⟨I', s, k⟩; have rp281 := rp281S311.st k; exact ne_v) ⟨_, s.pick [0, 1] 2 rfl, kS315⟩ ?_
    refine RD.done (by kernel_rfl) ?_
    refine WPK.ret (?_)
    obtain rfl := someS hf
    refine Fin.of (rs := [.tmp 4]) hT [] (.bool (decide ((andI .u64 x324 x332) ≠ 0))) [] rfl (by kernel_rfl) (trivial) ?_
    exact fun X h => vc rfl (h I338 _ s kk)
  · have hf := iteF h323 hf
    refine RD.seg hT (by kernel_rfl) [4, 5, 6, 7, 8, 9, 10, 11, 12, 13] [] [(9, .bool false)] [.bool false, undef, undef, undef, undef, undef, undef, undef, undef, undef] [.veq (.bool (decide (x316 = 0))) (.bool false)] (by kernel_rfl) (by rintro w' ⟨I', s, k⟩; have rp281 := rp281S311.st k; exact bo_f h323) ⟨_, s.pick [0, 1] 2 rfl, kS315⟩ ?_
    refine RD.skip (i := 14) rfl (by kernel_rfl) (by kernel_rfl) ?_
    refine ⟨fun _ => ⟨_, s.pick [0, 1] 2 rfl, kS315⟩, ?_⟩
    refine RD.seg hT (by kernel_rfl) [15, 16, 17, 18] [] [] [undef, undef, .bool false, .bool false] [] (by kernel_rfl) (fun _ _ => trivial) ⟨_, s.pick [0, 1] 2 rfl, kS315⟩ ?_
    refine RD.done (by kernel_rfl) ?_
    refine WPK.ret (?_)
    obtain rfl := someS hf
    refine Fin.of (rs := [.tmp 4]) hT [] (.bool false) [] rfl (by kernel_rfl) (trivial) ?_
    exact fun X h => vc rfl (h I322 _ s kk)
theorem c22 {w0 w : World} {M I : Nat → Prop} {F : List It} (p0 : T_extent_Set) (p1 : Int) (b390 : Nat) (A391 : Option Addr) (n392 : Nat) (c393 : Nat) (cl394 : List Value) (hn395 : n392 = p0.w.length) (rp396 : RepL (Rp.int .u64) I w cl394 p0.w) (s : St w0 M I ((.blk b390 (.cells #[.int .i64 p0.n, .slice A391 n392 c393] 53 (0, 0))) :: (.sl (.slice A391 n392 c393) 61 1 n392 cl394) :: F) w) {r : (Int × T_extent_Set)} (hf : g22 p0 p1 = some r) :
    Ret Tryd.prog 22 [.pointer (some ⟨b390, 0, none⟩), .int .i64 p1] w fun v wz => ∀ X : Value → World → Prop, (∀ (I' : Nat → Prop) (A465 : Option Addr) (n466 : Nat) (c467 : Nat) (cl468 : List Value) (w' : World), St w0 M I' ((.blk b390 (.cells #[.int .i64 r.2.n, .slice A465 n466 c467] 53 (0, 0))) :: (.sl (.slice A465 n466 c467) 61 1 n466 cl468) :: F) w' → Kp I w I' w' → n466 = r.2.w.length → RepL (Rp.int .u64) I' w' cl468 r.2.w → X (.int .i64 r.1) w') → X v wz := by
  have kk : Kp I w I w := Kp.refl
  unfold g22 at hf
  refine Ret.of Tryd.func22 rfl ?_
  refine WPK.seq ?_
  refine WPK.region ?_
  refine RW.seg hT 1 [] [] [.int .i64 0] [] (by kernel_rfl) (trivial) ?_
  refine RW.nil ?_
  refine WPK.seq ?_
  refine WPK.seq ?_
  refine WPK.region ?_
  refine RW.seg hT 2 [] [] [.pointer (some ⟨b390, 0, none⟩), .int .i64 p1] [] (by kernel_rfl) (trivial) ?_
  obtain ⟨x406, hx407, hf⟩ := bindS hf
  refine RW.op (by kernel_rfl) (OK.call' en32 (by kernel_rfl) (c32 (F := F) p0 p1 b390 A391 n392 c393 cl394 hn395 rp396 s hx407) ?_)
  intro X410 hX411
  refine fun _ _ hJ => hJ X410 ?_
  intro I412 w408 s k409
  refine hX411 _ _ ?_
  replace rp396 := rp396.st k409
  replace kk := kk.trans k409
  refine RW.seg hT 1 [] [] [.int .i64 x406] [] (by kernel_rfl) (trivial) ?_
  refine RW.nil ?_
  refine WPK.seq ?_
  refine WPK.region ?_
  refine RW.seg hT 2 [] [(10, .bool (decide (x406 ≠ 0)))] [.int .i64 x406, .bool (decide (x406 ≠ 0))] [.veq (.bool (x406 != 0)) (.bool (decide (x406 ≠ 0)))] (by kernel_rfl) (ne_v) ?_
  refine RW.nil ?_
  by_cases h413 : x406 ≠ 0
  · have hf := iteT h413 hf
    refine WPK.condT (Eq.trans (b := .bool (decide (x406 ≠ 0))) (by kernel_rfl) (bo_t h413)) ?_
    refine WPK.seq ?_
    refine WPK.region ?_
    refine RW.seg hT 2 [] [] [.int .i64 x406, .int .i64 x406] [] (by kernel_rfl) (trivial) ?_
    refine RW.nil ?_
    refine WPK.ret (?_)
    obtain rfl := someS hf
    refine Fin.of (rs := [.tmp 4]) hT [] (.int .i64 x406) [] rfl (by kernel_rfl) (trivial) ?_
    exact fun X h => vc rfl (h I412 A391 n392 c393 cl394 _ s kk hn395 rp396)
  · have hf := iteF h413 hf
    refine WPK.condF (Eq.trans (b := .bool (decide (x406 ≠ 0))) (by kernel_rfl) (bo_f h413)) ?_
    refine WPK.skip ?_
    refine WPK.seq ?_
    refine WPK.seq ?_
    refine WPK.region ?_
    refine RW.seg hT 2 [] [] [.pointer (some ⟨b390, 0, none⟩), .int .i64 p1] [] (by kernel_rfl) (trivial) ?_
    obtain ⟨x422, hx423, hf⟩ := bindS hf
    refine RW.op (by kernel_rfl) (OK.call' en13 (by kernel_rfl) (c13 (F := F) p0 p1 b390 A391 n392 c393 cl394 hn395 rp396 s hx423) ?_)
    intro X426 hX427
    refine fun _ _ hJ => hJ X426 ?_
    intro I428 w424 s k425
    refine hX427 _ _ ?_
    replace rp396 := rp396.st k425
    replace kk := kk.trans k425
    refine RW.nil ?_
    by_cases h429 : x422 = true
    · have hf := iteT h429 hf
      refine WPK.condT (Eq.trans (b := .bool x422) (by kernel_rfl) (b_t h429)) ?_
      refine WPK.seq ?_
      refine WPK.region ?_
      refine RW.seg hT 1 [] [] [.int .i64 70] [] (by kernel_rfl) (trivial) ?_
      refine RW.nil ?_
      refine WPK.ret (?_)
      obtain rfl := someS hf
      refine Fin.of (rs := [.tmp 4]) hT [] (.int .i64 70) [] rfl (by kernel_rfl) (trivial) ?_
      exact fun X h => vc rfl (h I428 A391 n392 c393 cl394 _ s kk hn395 rp396)
    · have hf := iteF h429 hf
      refine WPK.condF (Eq.trans (b := .bool x422) (by kernel_rfl) (b_f h429)) ?_
      refine WPK.skip ?_
      refine WPK.seq ?_
      have rp396S430 := rp396
      have kS434 : Kp I428 w424 I428 w424 := Kp.refl
      refine WPK.draw (fun w' => ∃ I' : Nat → Prop, St w0 M I' ((.blk b390 (.cells #[.int .i64 p0.n, .slice A391 n392 c393] 53 (0, 0))) :: (.sl (.slice A391 n392 c393) 61 1 n392 cl394) :: F) w' ∧ Kp I428 w424 I' w') 12 (by kernel_rfl) ?_
      intro w431 hd432
      have k433 := Kp.dr s hd432
      replace s := s.dr hd432
      replace rp396 := rp396.st k433
      replace kk := kk.trans k433
      replace kS434 := kS434.trans k433
      obtain ⟨x435, hx436, hf⟩ := bindS hf
      obtain ⟨h437, hx436⟩ := getS hx436
      obtain ⟨b438, rfl⟩ := (St.elem s (i := 1) rfl hn395 rp396 hx436).1
      refine RD.seg hT (by kernel_rfl) [0, 1, 2, 3, 4, 5, 6, 7, 8] [.slice (some ⟨b438, 0, none⟩) n392 c393, .int .u64 x435] [] [.pointer (some ⟨b390, 0, none⟩), .pointer (some ⟨b390, 0, none⟩), .pointer (some ⟨b390, 1, none⟩), .slice (some ⟨b438, 0, none⟩) n392 c393, .int .i64 p1, .int .i64 (IntKind.i64.wrap (Int.tdiv p1 64)), .pointer (some ⟨b438, 0 + (IntKind.i64.wrap (Int.tdiv p1 64)).toNat * 1, none⟩), .int .u64 x435, .int .i64 p1] [.cell ⟨b390, 1, none⟩ (.slice (some ⟨b438, 0, none⟩) n392 c393), .ne0 64, .idx (IntKind.i64.wrap (Int.tdiv p1 64)) n392, .cell ⟨b438, 0 + (IntKind.i64.wrap (Int.tdiv p1 64)).toNat * 1, none⟩ (.int .u64 x435)] (by kernel_rfl) (by rintro w' ⟨I', s, k⟩; have rp396 := rp396S430.st k; obtain ⟨-, cs440, hr441, ha442⟩ := St.elem s (i := 1) rfl hn395 rp396 hx436; replace ha442 := ha442 _ rfl; obtain rfl : cs440 = [.int .u64 x435] := hr441; exact ⟨s.cell (i := 0) (off := 1) rfl rfl, (show (64 : Int) ≠ 0 by decide), (by rw [hn395]; exact h437), ha442 0 _ rfl⟩) ⟨_, s.pick [0, 1] 2 rfl, kS434⟩ ?_
      obtain ⟨x443, hx444, hf⟩ := bindS hf
      refine RD.op (i := 9) rfl (by kernel_rfl) (by kernel_rfl) (OK.call' en33 (by kernel_rfl) (c33 (F := (.blk b390 (.cells #[.int .i64 p0.n, .slice (some ⟨b438, 0, none⟩) n392 c393] 53 (0, 0))) :: (.sl (.slice (some ⟨b438, 0, none⟩) n392 c393) 61 1 n392 cl394) :: F) p1 s hx444) ?_)
      intro X447 hX448
      refine fun _ _ hJ => hJ X447 ?_
      intro I449 w445 s k446
      refine hX448 _ _ ?_
      replace rp396 := rp396.st k446
      replace kk := kk.trans k446
      replace kS434 := kS434.trans k446
      refine ⟨fun _ => ⟨_, s.pick [0, 1] 2 rfl, kS434⟩, RD.fold ?_⟩
      obtain ⟨x450, hx451, hf⟩ := bindS hf
      obtain ⟨h452, hx451⟩ := getS hx451
      refine RD.seg hT (by kernel_rfl) [10, 11] [] [] [.int .u64 (orI .u64 x435 x443), .pointer (some ⟨b438, 0 + (IntKind.i64.wrap (Int.tdiv p1 64)).toNat * 1, none⟩)] [.idx (IntKind.i64.wrap (Int.tdiv p1 64)) n392] (by kernel_rfl) (by rintro w' ⟨I', s, k⟩; have rp396 := rp396S430.st k; exact (by rw [hn395]; exact h452)) ⟨_, s.pick [0, 1] 2 rfl, kS434⟩ ?_
      obtain ⟨y457, hy458, hf⟩ := bindS hf
      obtain ⟨h459, hq460⟩ := setS hy458
      obtain ⟨cl461, hcl462⟩ : ∃ q, setL cl394 (0 + (IntKind.i64.wrap (Int.tdiv p1 64)).toNat * 1) [.int .u64 (orI .u64 x435 x443)] = q := ⟨_, rfl⟩
      have rp463 : RepL (Rp.int .u64) I449 w445 cl461 y457 := by rw [hq460, ← hcl462, Nat.zero_add]; exact RepL.set rp396 (by omega) (rfl)
      have hn464 : n392 = y457.length := by rw [hq460, List.length_set]; exact hn395
      refine RD.op (i := 12) rfl (by kernel_rfl) (by kernel_rfl) (OK.storeSl hT (i := 1) (b := b438) (off := 0 + (IntKind.i64.wrap (Int.tdiv p1 64)).toNat * 1) (m := 1) (vs := [.int .u64 (orI .u64 x435 x443)]) (c := c393) (e := 61) (size := 1) (n := n392) (cl := cl394) (cl' := cl461) s (by kernel_rfl) rfl rfl (flat_ok rfl) (by have h1 := RepL.length rp396; simp only [List.length_cons, List.length_nil, h1]; exact row_bd (n := 1) h459 rfl) hcl462 ?_)
      rintro w455 s k456
      replace rp463 := rp463.st k456
      replace kk := kk.trans k456
      replace kS434 := kS434.trans k456
      refine ⟨fun h => absurd h (by decide), RD.fold ?_⟩
      refine RD.done (by kernel_rfl) ?_
      refine WPK.seq ?_
      refine WPK.region ?_
      refine RW.seg hT 1 [] [] [.int .i64 0] [] (by kernel_rfl) (trivial) ?_
      refine RW.nil ?_
      refine WPK.ret (?_)
      obtain rfl := someS hf
      refine Fin.of (rs := [.tmp 4]) hT [] (.int .i64 0) [] rfl (by kernel_rfl) (trivial) ?_
      exact fun X h => vc rfl (h I449 (some ⟨b438, 0, none⟩) n392 c393 cl461 _ s kk hn464 rp463)
theorem c10 {w0 w : World} {M I : Nat → Prop} {F : List It} (p0 : Int) (p1 : (List Int)) (A646 : Option Addr) (c647 : Nat) (hc648 : (p1.length ≤ c647 ∧ c647 ≤ 9223372036854775807)) (e649 : Elems (Rp.int .i64) I w A646 p1) (s : St w0 M I (F) w) {r : (Option T_extent_Set)} (hf : g10 p0 p1 = some r) :
    Ret Tryd.prog 10 [.int .i64 p0, .slice A646 p1.length c647] w fun v wz => ∀ X : Value → World → Prop, (∀ (I' : Nat → Prop) (w' : World), r = none → St w0 M I' (F) w' → Kp I w I' w' → X (.pointer none) w') → (∀ (y : T_extent_Set) (I' : Nat → Prop) (b865 : Nat) (A866 : Option Addr) (n867 : Nat) (c868 : Nat) (cl869 : List Value) (w' : World), r = some y → St w0 M I' ((.blk b865 (.cells #[.int .i64 y.n, .slice A866 n867 c868] 53 (0, 0))) :: (.sl (.slice A866 n867 c868) 61 1 n867 cl869) :: F) w' → Kp I w I' w' → n867 = y.w.length → RepL (Rp.int .u64) I' w' cl869 y.w → X (.pointer (some ⟨b865, 0, none⟩)) w') → X v wz := by
  have kk : Kp I w I w := Kp.refl
  unfold g10 at hf
  refine Ret.of Tryd.func10 rfl ?_
  refine WPK.seq ?_
  refine WPK.region ?_
  refine RW.seg hT 1 [] [] [.pointer none] [] (by kernel_rfl) (trivial) ?_
  refine RW.nil ?_
  refine WPK.seq ?_
  refine WPK.region ?_
  refine RW.seg hT 1 [] [] [.int .i64 p0] [] (by kernel_rfl) (trivial) ?_
  obtain ⟨x650, hx651, hf⟩ := bindS hf
  refine RW.op (by kernel_rfl) (OK.call' en19 (by kernel_rfl) (c19 (F := F) p0 s hx651) ?_)
  intro X654 hX655
  refine fun _ _ hJ => hJ X654 ?_ ?_
  · intro I656 w652 hv s k653
    refine hX655 _ _ ?_
    replace hf := optN hv hf
    replace e649 := e649.st k653
    replace kk := kk.trans k653
    refine RW.seg hT 5 [] [] [.tuple #[.pointer none, .int .i64 x650.2], .pointer none, .int .i64 x650.2, .pointer none, .int .i64 x650.2] [] (by kernel_rfl) (trivial) ?_
    refine RW.nil ?_
    refine WPK.seq ?_
    refine WPK.seq ?_
    refine WPK.cut' (fun E ds wz => ∀ X : Kont, (∀ (D670 : List Value), g10_j1 = some r → X [(D670.getD 0 undef), .slice A646 p1.length c647, (D670.getD 1 undef), (D670.getD 2 undef), .pointer none, .pointer none, (D670.getD 3 undef), (D670.getD 4 undef), undef, (D670.getD 5 undef), (D670.getD 6 undef), (D670.getD 7 undef), (D670.getD 8 undef), (D670.getD 9 undef), (D670.getD 10 undef), (D670.getD 11 undef), (D670.getD 12 undef), (D670.getD 13 undef), (D670.getD 14 undef), .bool true, undef, undef, undef, undef, undef, undef, (D670.getD 15 undef), (D670.getD 16 undef), (D670.getD 17 undef), undef, undef] [] w652) → X E ds wz) ?_ ?_
    · intro X671 hX672
      refine fun _ _ _ hJ => hJ X671 ?_
      intro D670 hf
      refine hX672 _ _ _ ?_
      unfold g10_j1 at hf
      refine WPK.condT (by kernel_rfl) ?_
      refine WPK.seq ?_
      refine WPK.region ?_
      refine RW.seg hT 1 [] [] [.pointer none] [] (by kernel_rfl) (trivial) ?_
      refine RW.nil ?_
      refine WPK.ret (?_)
      obtain rfl := someS hf
      refine Fin.of (rs := [.tmp 4]) hT [] (.pointer none) [] rfl (by kernel_rfl) (trivial) ?_
      exact fun X h h' => vc rfl (h I656 _ rfl s kk)
    · refine WPK.region ?_
      refine RW.seg hT 2 [] [(15, .bool (decide (x650.2 ≠ 0)))] [.int .i64 x650.2, .bool (decide (x650.2 ≠ 0))] [.veq (.bool (x650.2 != 0)) (.bool (decide (x650.2 ≠ 0)))] (by kernel_rfl) (ne_v) ?_
      by_cases h673 : x650.2 ≠ 0
      · have hf := iteT h673 hf
        refine RW.seg hT 4 [] [(16, .bool true)] [.bool true, undef, undef, .bool true] [.veq (.bool (decide (x650.2 ≠ 0))) (.bool true)] (by kernel_rfl) (bo_t h673) ?_
        refine RW.nil ?_
        exact fun X h => kc (by kernel_rfl) rfl (h [.int .i64 p0, undef, undef, .int .i64 x650.2, undef, .tuple #[.pointer none, .int .i64 x650.2], .int .i64 p0, .tuple #[.pointer none, .int .i64 x650.2], .pointer none, .int .i64 x650.2, .int .i64 x650.2, .bool (decide (x650.2 ≠ 0)), .bool true, undef, undef, undef, undef, undef] hf)
      · have hf := iteF h673 hf
        refine RW.seg hT 4 [] [(16, .bool false)] [.bool false, .pointer none, .bool true, .bool true] [.veq (.bool (decide (x650.2 ≠ 0))) (.bool false)] (by kernel_rfl) (bo_f h673) ?_
        refine RW.nil ?_
        exact fun X h => kc (by kernel_rfl) rfl (h [.int .i64 p0, undef, undef, .int .i64 x650.2, undef, .tuple #[.pointer none, .int .i64 x650.2], .int .i64 p0, .tuple #[.pointer none, .int .i64 x650.2], .pointer none, .int .i64 x650.2, .int .i64 x650.2, .bool (decide (x650.2 ≠ 0)), .bool false, .pointer none, .bool true, undef, undef, undef] hf)
  · intro x658 I657 b659 A660 n661 c662 cl663 w652 hv s k653 hn664 rp665
    refine hX655 _ _ ?_
    replace hf := optS hv hf
    replace e649 := e649.st k653
    replace kk := kk.trans k653
    refine RW.seg hT 5 [] [] [.tuple #[.pointer (some ⟨b659, 0, none⟩), .int .i64 x650.2], .pointer (some ⟨b659, 0, none⟩), .int .i64 x650.2, .pointer (some ⟨b659, 0, none⟩), .int .i64 x650.2] [] (by kernel_rfl) (trivial) ?_
    refine RW.nil ?_
    refine WPK.seq ?_
    refine WPK.seq ?_
    refine WPK.cut' (fun E ds wz => ∀ X : Kont, (∀ (x678 : Bool) (D677 : List Value), g10_j2 p1 x658 x678 = some r → X [(D677.getD 0 undef), .slice A646 p1.length c647, (D677.getD 1 undef), (D677.getD 2 undef), .pointer none, .pointer (some ⟨b659, 0, none⟩), (D677.getD 3 undef), (D677.getD 4 undef), undef, (D677.getD 5 undef), (D677.getD 6 undef), (D677.getD 7 undef), (D677.getD 8 undef), (D677.getD 9 undef), (D677.getD 10 undef), (D677.getD 11 undef), (D677.getD 12 undef), (D677.getD 13 undef), (D677.getD 14 undef), .bool x678, undef, undef, undef, undef, undef, undef, (D677.getD 15 undef), (D677.getD 16 undef), (D677.getD 17 undef), undef, undef] [] w652) → X E ds wz) ?_ ?_
    · intro X862 hX863
      refine fun _ _ _ hJ => hJ X862 ?_
      intro x678 D677 hf
      refine hX863 _ _ _ ?_
      unfold g10_j2 at hf
      by_cases h679 : x678 = true
      · have hf := iteT h679 hf
        refine WPK.condT (Eq.trans (b := .bool x678) (by kernel_rfl) (b_t h679)) ?_
        refine WPK.seq ?_
        refine WPK.region ?_
        refine RW.seg hT 1 [] [] [.pointer none] [] (by kernel_rfl) (trivial) ?_
        refine RW.nil ?_
        refine WPK.ret (?_)
        obtain rfl := someS hf
        refine Fin.of (rs := [.tmp 4]) hT [] (.pointer none) [] rfl (by kernel_rfl) (trivial) ?_
        replace s := s.pick [] 2 rfl
        exact fun X h h' => vc rfl (h I657 _ rfl s kk)
      · have hf := iteF h679 hf
        refine WPK.condF (Eq.trans (b := .bool x678) (by kernel_rfl) (b_f h679)) ?_
        refine WPK.skip ?_
        refine WPK.seq ?_
        refine WPK.seq ?_
        refine WPK.region ?_
        refine RW.seg hT 3 [] [] [.slice A646 p1.length c647, .int .i64 (p1.length : Int), .int .i64 0] [] (by kernel_rfl) (trivial) ?_
        refine RW.nil ?_
        refine WPK.block ?_
        refine WPK.loop' (J := fun n834 E ds wz => ∀ X : Kont, (∀ (I808 : Nat → Prop) (x797 : Int) (x798 : Int) (x799 : (List Int)) (D796 : List Value) (A800 : Option Addr) (n801 : Nat) (c802 : Nat) (cl803 : List Value) (w' : World), g10_l3 p1 n834 x797 x798 x799 = some r → St w0 M I808 ((.blk b659 (.cells #[.int .i64 x798, .slice A800 n801 c802] 53 (0, 0))) :: (.sl (.slice A800 n801 c802) 61 1 n801 cl803) :: F) w' → Kp I w I808 w' → Elems (Rp.int .i64) I808 w' A646 p1 → n801 = x799.length → RepL (Rp.int .u64) I808 w' cl803 x799 → X [(D796.getD 0 undef), (D796.getD 1 undef), (D796.getD 2 undef), (D796.getD 3 undef), .pointer none, .pointer (some ⟨b659, 0, none⟩), (D796.getD 4 undef), (D796.getD 5 undef), (D796.getD 6 undef), (D796.getD 7 undef), (D796.getD 8 undef), (D796.getD 9 undef), (D796.getD 10 undef), (D796.getD 11 undef), (D796.getD 12 undef), (D796.getD 13 undef), (D796.getD 14 undef), (D796.getD 15 undef), (D796.getD 16 undef), (D796.getD 17 undef), .slice A646 p1.length c647, .int .i64 (p1.length : Int), .int .i64 x797, (D796.getD 18 undef), (D796.getD 19 undef), (D796.getD 20 undef), (D796.getD 21 undef), (D796.getD 22 undef), (D796.getD 23 undef), (D796.getD 24 undef), undef] [] w') → X E ds wz) FUEL (fun X h => kc (by kernel_rfl) rfl (h I657 0 x658.n x658.w [(D677.getD 0 undef), .slice A646 p1.length c647, (D677.getD 1 undef), (D677.getD 2 undef), (D677.getD 3 undef), (D677.getD 4 undef), undef, (D677.getD 5 undef), (D677.getD 6 undef), (D677.getD 7 undef), (D677.getD 8 undef), (D677.getD 9 undef), (D677.getD 10 undef), (D677.getD 11 undef), (D677.getD 12 undef), (D677.getD 13 undef), (D677.getD 14 undef), .bool x678, undef, undef, undef, (D677.getD 15 undef), (D677.getD 16 undef), (D677.getD 17 undef), undef] A660 n661 c662 cl663 _ hf s kk e649 hn664 rp665)) (fun _ _ _ hJ => hJ (fun _ _ _ => False) (by intro I808 x797 x798 x799 D796 A800 n801 c802 cl803 w807 hf s kk e649 hn804 rp805; exact noneS hf)) ?_
        intro X860 hX861
        refine fun n834 _ _ _ hJ => hJ (X860 n834) ?_
        intro I808 x797 x798 x799 D796 A800 n801 c802 cl803 w807 hf s kk e649 hn804 rp805
        refine hX861 _ _ _ _ ?_
        replace hf : g10_l3B p1 (g10_l3 p1 n834) x797 x798 x799 = some r := hf
        generalize hrec835 : g10_l3 p1 n834 = rec833 at hf
        unfold g10_l3B at hf
        refine WPK.seq ?_
        refine WPK.region ?_
        refine RW.seg hT 1 [] [] [.bool (decide (x797 < (p1.length : Int)))] [] (by kernel_rfl) (trivial) ?_
        refine RW.nil ?_
        refine WPK.seq ?_
        by_cases h837 : x797 < (p1.length : Int)
        · have hf := iteT h837 hf
          refine WPK.condT (Eq.trans (b := .bool (decide (x797 < (p1.length : Int)))) (by kernel_rfl) (bo_t h837)) ?_
          refine WPK.skip ?_
          refine WPK.seq ?_
          refine WPK.block ?_
          refine WPK.seq ?_
          refine WPK.region ?_
          obtain ⟨x838, hx839, hf⟩ := bindS hf
          obtain ⟨h840, hx839⟩ := getS hx839
          obtain ⟨b841, o842, rfl⟩ := Elems.opn e649 hx839
          obtain ⟨cs843, hr844, ha845⟩ := Elems.get e649 hx839
          obtain rfl : cs843 = [.int .i64 x838] := hr844
          refine RW.seg hT 3 [.int .i64 x838] [] [.pointer (some ⟨b841, o842 + x797.toNat * 1, none⟩), .int .i64 x838, .int .i64 x838] [.idx x797 p1.length, .cell ⟨b841, o842 + x797.toNat * 1, none⟩ (.int .i64 x838)] (by kernel_rfl) (⟨h840, ha845 0 _ rfl⟩) ?_
          refine RW.nil ?_
          refine WPK.region ?_
          refine RW.seg hT 2 [] [] [.pointer (some ⟨b659, 0, none⟩), .int .i64 x838] [] (by kernel_rfl) (trivial) ?_
          obtain ⟨x846, hx847, hf⟩ := bindS hf
          refine RW.op (by kernel_rfl) (OK.call' en22 (by kernel_rfl) (c22 (F := F) (T_extent_Set.mk x798 x799) x838 b659 A800 n801 c802 cl803 hn804 rp805 s hx847) ?_)
          intro X850 hX851
          refine fun _ _ hJ => hJ X850 ?_
          intro I852 A853 n854 c855 cl856 w848 s k849 hn857 rp858
          refine hX851 _ _ ?_
          replace e649 := e649.st k849
          replace rp805 := rp805.st k849
          replace kk := kk.trans k849
          refine RW.nil ?_
          refine WPK.region ?_
          refine RW.seg hT 2 [] [] [.int .i64 (IntKind.i64.wrap (x797 + 1)), .int .i64 (IntKind.i64.wrap (x797 + 1))] [] (by kernel_rfl) (trivial) ?_
          refine RW.nil ?_
          subst hrec835
          exact ⟨n834, Nat.le_refl _, fun X h => kc (by kernel_rfl) rfl (h I852 (IntKind.i64.wrap (x797 + 1)) x846.2.n x846.2.w [(D796.getD 0 undef), (D796.getD 1 undef), (D796.getD 2 undef), (D796.getD 3 undef), (D796.getD 4 undef), (D796.getD 5 undef), .int .i64 x838, (D796.getD 7 undef), (D796.getD 8 undef), (D796.getD 9 undef), (D796.getD 10 undef), (D796.getD 11 undef), (D796.getD 12 undef), (D796.getD 13 undef), (D796.getD 14 undef), (D796.getD 15 undef), (D796.getD 16 undef), (D796.getD 17 undef), .bool (decide (x797 < (p1.length : Int))), .pointer (some ⟨b841, o842 + x797.toNat * 1, none⟩), .int .i64 x838, .pointer (some ⟨b659, 0, none⟩), .int .i64 x838, .int .i64 x846.1, .int .i64 (IntKind.i64.wrap (x797 + 1))] A853 n854 c855 cl856 _ hf s kk e649 hn857 rp858)⟩
        · have hf := iteF h837 hf
          refine WPK.condF (Eq.trans (b := .bool (decide (x797 < (p1.length : Int)))) (by kernel_rfl) (bo_f h837)) ?_
          refine WPK.exit (blockQ.same ?_)
          refine WPK.seq ?_
          refine WPK.region ?_
          refine RW.seg hT 2 [] [] [.pointer (some ⟨b659, 0, none⟩), .pointer (some ⟨b659, 0, none⟩)] [] (by kernel_rfl) (trivial) ?_
          refine RW.nil ?_
          refine WPK.ret (?_)
          obtain rfl := someS hf
          refine Fin.of (rs := [.tmp 4]) hT [] (.pointer (some ⟨b659, 0, none⟩)) [] rfl (by kernel_rfl) (trivial) ?_
          exact fun X h h' => vc rfl (h' (T_extent_Set.mk x798 x799) I808 b659 A800 n801 c802 cl803 _ rfl s kk hn804 rp805)
    · refine WPK.region ?_
      refine RW.seg hT 2 [] [(15, .bool (decide (x650.2 ≠ 0)))] [.int .i64 x650.2, .bool (decide (x650.2 ≠ 0))] [.veq (.bool (x650.2 != 0)) (.bool (decide (x650.2 ≠ 0)))] (by kernel_rfl) (ne_v) ?_
      by_cases h864 : x650.2 ≠ 0
      · have hf := iteT h864 hf
        refine RW.seg hT 4 [] [(16, .bool true)] [.bool true, undef, undef, .bool true] [.veq (.bool (decide (x650.2 ≠ 0))) (.bool true)] (by kernel_rfl) (bo_t h864) ?_
        refine RW.nil ?_
        exact fun X h => kc (by kernel_rfl) rfl (h true [.int .i64 p0, undef, undef, .int .i64 x650.2, undef, .tuple #[.pointer (some ⟨b659, 0, none⟩), .int .i64 x650.2], .int .i64 p0, .tuple #[.pointer (some ⟨b659, 0, none⟩), .int .i64 x650.2], .pointer (some ⟨b659, 0, none⟩), .int .i64 x650.2, .int .i64 x650.2, .bool (decide (x650.2 ≠ 0)), .bool true, undef, undef, undef, undef, undef] hf)
      · have hf := iteF h864 hf
        refine RW.seg hT 4 [] [(16, .bool false)] [.bool false, .pointer (some ⟨b659, 0, none⟩), .bool false, .bool false] [.veq (.bool (decide (x650.2 ≠ 0))) (.bool false)] (by kernel_rfl) (bo_f h864) ?_
        refine RW.nil ?_
        exact fun X h => kc (by kernel_rfl) rfl (h false [.int .i64 p0, undef, undef, .int .i64 x650.2, undef, .tuple #[.pointer (some ⟨b659, 0, none⟩), .int .i64 x650.2], .int .i64 p0, .tuple #[.pointer (some ⟨b659, 0, none⟩), .int .i64 x650.2], .pointer (some ⟨b659, 0, none⟩), .int .i64 x650.2, .int .i64 x650.2, .bool (decide (x650.2 ≠ 0)), .bool false, .pointer (some ⟨b659, 0, none⟩), .bool false, undef, undef, undef] hf)
theorem c37 {w0 w : World} {M I : Nat → Prop} {F : List It} (p0 : (List Int)) (A997 : Option Addr) (c998 : Nat) (hc999 : (p0.length ≤ c998 ∧ c998 ≤ 9223372036854775807)) (e1000 : Elems (Rp.int .u64) I w A997 p0) (s : St w0 M I (F) w) {r : (List Int)} (hf : g37 p0 = some r) :
    Ret Tryd.prog 37 [.slice A997 p0.length c998] w fun v wz => ∀ X : Value → World → Prop, (∀ (I' : Nat → Prop) (A1023 : Option Addr) (n1024 : Nat) (c1025 : Nat) (cl1026 : List Value) (w' : World), St w0 M I' ((.sl (.slice A1023 n1024 c1025) 61 1 n1024 cl1026) :: F) w' → Kp I w I' w' → n1024 = r.length → RepL (Rp.int .u64) I' w' cl1026 r → X (.slice A1023 n1024 c1025) w') → X v wz := by
  have kk : Kp I w I w := Kp.refl
  unfold g37 at hf
  refine Ret.of Tryd.func37 rfl ?_
  refine WPK.seq ?_
  refine WPK.region ?_
  refine RW.seg hT 1 [] [] [.slice none 0 0] [] (by kernel_rfl) (trivial) ?_
  refine RW.nil ?_
  refine WPK.seq ?_
  refine WPK.seq ?_
  refine WPK.region ?_
  refine RW.seg hT 1 [] [] [.slice A997 p0.length c998] [] (by kernel_rfl) (trivial) ?_
  rcases A997 with _ | a1005
  · have hx1004 : p0 = [] := Elems.none_nil e1000
    replace hf : (some ([] : List Int)) = some r := by simpa [hx1004, appI, List.length_nil] using hf
    refine RW.seg hT 1 [] [] [.bool true] [] (by kernel_rfl) (trivial) ?_
    refine RW.nil ?_
    refine WPK.condT (by kernel_rfl) ?_
    refine WPK.seq ?_
    refine WPK.region ?_
    refine RW.seg hT 1 [] [] [.slice none 0 0] [] (by kernel_rfl) (trivial) ?_
    refine RW.nil ?_
    refine WPK.ret (?_)
    obtain rfl := someS hf
    refine Fin.of (rs := [.tmp 2]) hT [] (.slice none 0 0) [] rfl (by kernel_rfl) (trivial) ?_
    replace s := s.pushNil 61 1
    exact fun X h => vc rfl (h I none 0 0 [] _ s kk rfl (RepL.nil (r := (Rp.int .u64))))
  · refine RW.seg hT 1 [] [] [.bool false] [] (by kernel_rfl) (trivial) ?_
    refine RW.nil ?_
    refine WPK.condF (by kernel_rfl) ?_
    refine WPK.skip ?_
    refine WPK.seq ?_
    refine WPK.region ?_
    refine RW.op (by kernel_rfl) (OK.new hT (f := fun b => .slice (some ⟨b, 0, none⟩) 0 0) (cs := []) (e := 61) (c := .tt) s (by kernel_rfl) trivial ?_)
    rintro w1007 b1008 s k1009 -
    replace e1000 := e1000.st k1009
    replace kk := kk.trans k1009
    have rp1010 : RepL (Rp.int .u64) I w1007 [] ([] : List Int) := RepL.nil
    replace s : St w0 M I ((.sl (.slice (some ⟨b1008, 0, none⟩) 0 0) 61 1 0 []) :: F) w1007 := s.blkSl (i := 0) (n := 0) (c := 0) (size := 1) rfl rfl (Nat.le_refl _) (by decide)
    refine RW.seg hT 1 [] [] [.slice (some a1005) p0.length c998] [] (by kernel_rfl) (trivial) ?_
    obtain ⟨nw1012, hs1013, rq1014⟩ := Elems.src e1000
    obtain ⟨x1015, hx1016, hf⟩ := bindS hf
    refine RW.op (by kernel_rfl) (OK.app hT (r := (Rp.int .u64)) (i := 0) (t := 51) (e := 61) (size := 1) (bytes := 8) (c := 0) (n := 0) (m := p0.length) s (by kernel_rfl) rfl rfl rfl rfl rfl (by decide) rfl rfl rfl rfl rp1010 hs1013 rq1014 flat_int rfl hx1016 ?_)
    rintro A1017 c1018 cl1019 w1020 s k1021 rp1022
    replace e1000 := e1000.st k1021
    replace rp1010 := rp1010.st k1021
    replace kk := kk.trans k1021
    refine RW.seg hT 1 [] [] [.slice A1017 x1015.length c1018] [] (by kernel_rfl) (trivial) ?_
    refine RW.nil ?_
    refine WPK.ret (?_)
    obtain rfl := someS hf
    refine Fin.of (rs := [.tmp 2]) hT [] (.slice A1017 x1015.length c1018) [] rfl (by kernel_rfl) (trivial) ?_
    exact fun X h => vc rfl (h I A1017 x1015.length c1018 cl1019 _ s kk rfl rp1022)
theorem c21 {w0 w : World} {M I : Nat → Prop} {F : List It} (p0 : T_extent_Set) (b1054 : Nat) (A1055 : Option Addr) (n1056 : Nat) (c1057 : Nat) (cl1058 : List Value) (hn1059 : n1056 = p0.w.length) (rp1060 : RepL (Rp.int .u64) I w cl1058 p0.w) (s : St w0 M I ((.blk b1054 (.cells #[.int .i64 p0.n, .slice A1055 n1056 c1057] 53 (0, 0))) :: (.sl (.slice A1055 n1056 c1057) 61 1 n1056 cl1058) :: F) w) {r : (Option T_extent_Set)} (hf : g21 p0 = some r) :
    Ret Tryd.prog 21 [.pointer (some ⟨b1054, 0, none⟩)] w fun v wz => ∀ X : Value → World → Prop, (∀ (I' : Nat → Prop) (w' : World), r = none → St w0 M I' ((.blk b1054 (.cells #[.int .i64 p0.n, .slice A1055 n1056 c1057] 53 (0, 0))) :: (.sl (.slice A1055 n1056 c1057) 61 1 n1056 cl1058) :: F) w' → Kp I w I' w' → X (.pointer none) w') → (∀ (y : T_extent_Set) (I' : Nat → Prop) (b1107 : Nat) (A1108 : Option Addr) (n1109 : Nat) (c1110 : Nat) (cl1111 : List Value) (w' : World), r = some y → St w0 M I' ((.blk b1107 (.cells #[.int .i64 y.n, .slice A1108 n1109 c1110] 53 (0, 0))) :: (.sl (.slice A1108 n1109 c1110) 61 1 n1109 cl1111) :: (.blk b1054 (.cells #[.int .i64 p0.n, .slice A1055 n1056 c1057] 53 (0, 0))) :: (.sl (.slice A1055 n1056 c1057) 61 1 n1056 cl1058) :: F) w' → Kp I w I' w' → n1109 = y.w.length → RepL (Rp.int .u64) I' w' cl1111 y.w → X (.pointer (some ⟨b1107, 0, none⟩)) w') → X v wz := by
  have kk : Kp I w I w := Kp.refl
  unfold g21 at hf
  refine Ret.of Tryd.func21 rfl ?_
  refine WPK.seq ?_
  refine WPK.region ?_
  refine RW.seg hT 1 [] [] [.pointer none] [] (by kernel_rfl) (trivial) ?_
  refine RW.nil ?_
  refine WPK.seq ?_
  refine WPK.seq ?_
  refine WPK.region ?_
  refine RW.seg hT 1 [] [] [.pointer (some ⟨b1054, 0, none⟩)] [] (by kernel_rfl) (trivial) ?_
  obtain ⟨x1070, hx1071, hf⟩ := bindS hf
  refine RW.op (by kernel_rfl) (OK.call' en34 (by kernel_rfl) (c34 (F := F) p0 b1054 A1055 n1056 c1057 cl1058 hn1059 rp1060 s hx1071) ?_)
  intro X1074 hX1075
  refine fun _ _ hJ => hJ X1074 ?_
  intro I1076 w1072 s k1073
  refine hX1075 _ _ ?_
  replace rp1060 := rp1060.st k1073
  replace kk := kk.trans k1073
  refine RW.nil ?_
  by_cases h1077 : x1070 = true
  · have hf := iteT h1077 hf
    refine WPK.condT (Eq.trans (b := .bool x1070) (by kernel_rfl) (b_t h1077)) ?_
    refine WPK.seq ?_
    refine WPK.region ?_
    refine RW.seg hT 1 [] [] [.pointer none] [] (by kernel_rfl) (trivial) ?_
    refine RW.nil ?_
    refine WPK.ret (?_)
    obtain rfl := someS hf
    refine Fin.of (rs := [.tmp 2]) hT [] (.pointer none) [] rfl (by kernel_rfl) (trivial) ?_
    exact fun X h h' => vc rfl (h I1076 _ rfl s kk)
  · have hf := iteF h1077 hf
    refine WPK.condF (Eq.trans (b := .bool x1070) (by kernel_rfl) (b_f h1077)) ?_
    refine WPK.skip ?_
    refine WPK.seq ?_
    have rp1060S1078 := rp1060
    have kS1082 : Kp I1076 w1072 I1076 w1072 := Kp.refl
    refine WPK.draw (fun w' => ∃ I' : Nat → Prop, St w0 M I' ((.blk b1054 (.cells #[.int .i64 p0.n, .slice A1055 n1056 c1057] 53 (0, 0))) :: (.sl (.slice A1055 n1056 c1057) 61 1 n1056 cl1058) :: F) w' ∧ Kp I1076 w1072 I' w') 12 (by kernel_rfl) ?_
    intro w1079 hd1080
    have k1081 := Kp.dr s hd1080
    replace s := s.dr hd1080
    replace rp1060 := rp1060.st k1081
    replace kk := kk.trans k1081
    replace kS1082 := kS1082.trans k1081
    refine RD.seg hT (by kernel_rfl) [0, 1, 2, 3, 4, 5, 6, 7] [.int .i64 p0.n, .slice A1055 n1056 c1057] [] [.pointer (some ⟨b1054, 0, none⟩), .pointer (some ⟨b1054, 0, none⟩), .pointer (some ⟨b1054, 0, none⟩), .int .i64 p0.n, .pointer (some ⟨b1054, 0, none⟩), .pointer (some ⟨b1054, 0, none⟩), .pointer (some ⟨b1054, 1, none⟩), .slice A1055 n1056 c1057] [.cell ⟨b1054, 0, none⟩ (.int .i64 p0.n), .cell ⟨b1054, 1, none⟩ (.slice A1055 n1056 c1057)] (by kernel_rfl) (by rintro w' ⟨I', s, k⟩; have rp1060 := rp1060S1078.st k; exact ⟨s.cell (i := 0) (off := 0) rfl rfl, s.cell (i := 0) (off := 1) rfl rfl⟩) ⟨_, s.pick [0, 1] 2 rfl, kS1082⟩ ?_
    have sa1083 := s
    obtain ⟨hc1084, e1085⟩ := St.lend s (i := 1) rfl hn1059 rp1060
    have k1086 := Kp.shut (I := I1076) (w := w1079) (p := .sl (.slice A1055 n1056 c1057) 61 1 n1056 cl1058)
    replace s := s.shut 1 rfl
    obtain ⟨x1087, hx1088, hf⟩ := bindS hf
    have hc1091 := c37 (F := (.blk b1054 (.cells #[.int .i64 p0.n, .slice A1055 n1056 c1057] 53 (0, 0))) :: F) p0.w A1055 c1057 hc1084 e1085 s hx1088
    rw [← hn1059] at hc1091
    refine RD.op (i := 8) rfl (by kernel_rfl) (by kernel_rfl) (OK.call' en37 (by kernel_rfl) (hc1091) ?_)
    intro X1092 hX1093
    refine fun _ _ hJ => hJ X1092 ?_
    intro I1094 A1095 n1096 c1097 cl1098 w1089 s k1090 hn1099 rp1100
    refine hX1093 _ _ ?_
    have s' := St.back sa1083 (i := 1) rfl s k1090
    replace k1090 := Kp.back sa1083 (i := 1) rfl k1090
    replace s := s'; clear s'
    obtain ⟨I1103, s, k1090⟩ : ∃ I : Nat → Prop, St w0 M I ((.sl (.slice A1055 n1056 c1057) 61 1 n1056 cl1058) :: (.sl (.slice A1095 n1096 c1097) 61 1 n1096 cl1098) :: (.blk b1054 (.cells #[.int .i64 p0.n, .slice A1055 n1056 c1057] 53 (0, 0))) :: F) w1089 ∧ Kp _ _ I _ := ⟨_, s, k1090⟩
    replace rp1100 := RepL.free (I' := I1103) (w' := w1089) free_int rp1100
    replace rp1060 := rp1060.st k1090
    replace kk := kk.trans k1090
    replace kS1082 := kS1082.trans k1090
    refine ⟨fun _ => ⟨_, s.pick [2, 0] 3 rfl, kS1082⟩, RD.fold ?_⟩
    refine RD.seg hT (by kernel_rfl) [9] [] [] [.agg #[.int .i64 p0.n, .slice A1095 n1096 c1097]] [] (by kernel_rfl) (fun _ _ => trivial) ⟨_, s.pick [2, 0] 3 rfl, kS1082⟩ ?_
    refine RD.op (i := 10) rfl (by kernel_rfl) (by kernel_rfl) (OK.new hT (f := fun b => .pointer (some ⟨b, 0, none⟩)) (cs := [.int .i64 p0.n, .slice A1095 n1096 c1097]) (e := 53) (c := .tt) s (by kernel_rfl) trivial ?_)
    rintro w1104 b1105 s k1106 -
    replace rp1060 := rp1060.st k1106
    replace rp1100 := rp1100.st k1106
    replace kk := kk.trans k1106
    replace kS1082 := kS1082.trans k1106
    refine ⟨fun _ => ⟨_, s.pick [3, 1] 4 rfl, kS1082⟩, RD.fold ?_⟩
    refine RD.seg hT (by kernel_rfl) [11] [] [] [.pointer (some ⟨b1105, 0, none⟩)] [] (by kernel_rfl) (fun _ _ => trivial) ⟨_, s.pick [3, 1] 4 rfl, kS1082⟩ ?_
    refine RD.done (by kernel_rfl) ?_
    refine WPK.ret (?_)
    obtain rfl := someS hf
    refine Fin.of (rs := [.tmp 2]) hT [] (.pointer (some ⟨b1105, 0, none⟩)) [] rfl (by kernel_rfl) (trivial) ?_
    replace s := s.pick [0, 2, 3, 1] 4 rfl
    exact fun X h h' => vc rfl (h' (T_extent_Set.mk p0.n x1087) I1103 b1105 A1095 n1096 c1097 cl1098 _ rfl s kk hn1099 rp1100)
theorem c16 {w0 w : World} {M I : Nat → Prop} {F : List It} (p0 : T_extent_Set) (b1404 : Nat) (A1405 : Option Addr) (n1406 : Nat) (c1407 : Nat) (cl1408 : List Value) (hn1409 : n1406 = p0.w.length) (rp1410 : RepL (Rp.int .u64) I w cl1408 p0.w) (s : St w0 M I ((.blk b1404 (.cells #[.int .i64 p0.n, .slice A1405 n1406 c1407] 53 (0, 0))) :: (.sl (.slice A1405 n1406 c1407) 61 1 n1406 cl1408) :: F) w) {r : (Option T_extent_Set)} (hf : g16 p0 = some r) :
    Ret Tryd.prog 16 [.pointer (some ⟨b1404, 0, none⟩)] w fun v wz => ∀ X : Value → World → Prop, (∀ (I' : Nat → Prop) (w' : World), r = none → St w0 M I' ((.blk b1404 (.cells #[.int .i64 p0.n, .slice A1405 n1406 c1407] 53 (0, 0))) :: (.sl (.slice A1405 n1406 c1407) 61 1 n1406 cl1408) :: F) w' → Kp I w I' w' → X (.pointer none) w') → (∀ (y : T_extent_Set) (I' : Nat → Prop) (b1701 : Nat) (A1702 : Option Addr) (n1703 : Nat) (c1704 : Nat) (cl1705 : List Value) (w' : World), r = some y → St w0 M I' ((.blk b1701 (.cells #[.int .i64 y.n, .slice A1702 n1703 c1704] 53 (0, 0))) :: (.sl (.slice A1702 n1703 c1704) 61 1 n1703 cl1705) :: (.blk b1404 (.cells #[.int .i64 p0.n, .slice A1405 n1406 c1407] 53 (0, 0))) :: (.sl (.slice A1405 n1406 c1407) 61 1 n1406 cl1408) :: F) w' → Kp I w I' w' → n1703 = y.w.length → RepL (Rp.int .u64) I' w' cl1705 y.w → X (.pointer (some ⟨b1701, 0, none⟩)) w') → X v wz := by
  have kk : Kp I w I w := Kp.refl
  unfold g16 at hf
  refine Ret.of Tryd.func16 rfl ?_
  refine WPK.seq ?_
  refine WPK.region ?_
  refine RW.seg hT 1 [] [] [.pointer none] [] (by kernel_rfl) (trivial) ?_
  refine RW.nil ?_
  refine WPK.seq ?_
  refine WPK.region ?_
  refine RW.seg hT 1 [] [] [.pointer (some ⟨b1404, 0, none⟩)] [] (by kernel_rfl) (trivial) ?_
  obtain ⟨x1412, hx1413, hf⟩ := bindS hf
  refine RW.op (by kernel_rfl) (OK.call' en21 (by kernel_rfl) (c21 (F := F) p0 b1404 A1405 n1406 c1407 cl1408 hn1409 rp1410 s hx1413) ?_)
  intro X1416 hX1417
  refine fun _ _ hJ => hJ X1416 ?_ ?_
  · intro I1418 w1414 hv s k1415
    refine hX1417 _ _ ?_
    replace hf := optN hv hf
    replace rp1410 := rp1410.st k1415
    replace kk := kk.trans k1415
    refine RW.seg hT 1 [] [] [.pointer none] [] (by kernel_rfl) (trivial) ?_
    refine RW.nil ?_
    refine WPK.seq ?_
    refine WPK.seq ?_
    refine WPK.region ?_
    refine RW.seg hT 2 [] [] [.pointer none, .bool true] [] (by kernel_rfl) (trivial) ?_
    refine RW.nil ?_
    refine WPK.condT (by kernel_rfl) ?_
    refine WPK.seq ?_
    refine WPK.region ?_
    refine RW.seg hT 1 [] [] [.pointer none] [] (by kernel_rfl) (trivial) ?_
    refine RW.nil ?_
    refine WPK.ret (?_)
    obtain rfl := someS hf
    refine Fin.of (rs := [.tmp 2]) hT [] (.pointer none) [] rfl (by kernel_rfl) (trivial) ?_
    exact fun X h h' => vc rfl (h I1418 _ rfl s kk)
  · intro x1420 I1419 b1421 A1422 n1423 c1424 cl1425 w1414 hv s k1415 hn1426 rp1427
    refine hX1417 _ _ ?_
    replace hf := optS hv hf
    replace rp1410 := rp1410.st k1415
    replace kk := kk.trans k1415
    refine RW.seg hT 1 [] [] [.pointer (some ⟨b1421, 0, none⟩)] [] (by kernel_rfl) (trivial) ?_
    refine RW.nil ?_
    refine WPK.seq ?_
    refine WPK.seq ?_
    refine WPK.region ?_
    refine RW.seg hT 2 [] [] [.pointer (some ⟨b1421, 0, none⟩), .bool false] [] (by kernel_rfl) (trivial) ?_
    refine RW.nil ?_
    refine WPK.condF (by kernel_rfl) ?_
    refine WPK.skip ?_
    refine WPK.seq ?_
    refine WPK.seq ?_
    refine WPK.region ?_
    refine RW.seg hT 6 [.slice A1422 n1423 c1424] [(14, .int .i64 (x1420.w.length : Int))] [.pointer (some ⟨b1421, 0, none⟩), .pointer (some ⟨b1421, 0, none⟩), .pointer (some ⟨b1421, 1, none⟩), .slice A1422 n1423 c1424, .int .i64 (x1420.w.length : Int), .int .i64 0] [.cell ⟨b1421, 1, none⟩ (.slice A1422 n1423 c1424), .veq (.int .i64 (n1423 : Nat)) (.int .i64 (x1420.w.length : Int))] (by kernel_rfl) (⟨s.cell (i := 0) (off := 1) rfl rfl, len_v hn1426⟩) ?_
    refine RW.nil ?_
    refine WPK.block ?_
    refine WPK.loop' (J := fun n1603 E ds wz => ∀ X : Kont, (∀ (I1571 : Nat → Prop) (x1565 : Int) (x1566 : (List Int)) (D1564 : List Value) (cl1567 : List Value) (w' : World), g16_l1 x1420 n1603 x1565 x1566 = some r → St w0 M I1571 ((.blk b1421 (.cells #[.int .i64 x1420.n, .slice A1422 n1423 c1424] 53 (0, 0))) :: (.sl (.slice A1422 n1423 c1424) 61 1 n1423 cl1567) :: (.blk b1404 (.cells #[.int .i64 p0.n, .slice A1405 n1406 c1407] 53 (0, 0))) :: (.sl (.slice A1405 n1406 c1407) 61 1 n1406 cl1408) :: F) w' → Kp I w I1571 w' → n1423 = x1566.length → RepL (Rp.int .u64) I1571 w' cl1567 x1566 → RepL (Rp.int .u64) I1571 w' cl1408 p0.w → X [(D1564.getD 0 undef), (D1564.getD 1 undef), .pointer none, .pointer (some ⟨b1421, 0, none⟩), (D1564.getD 2 undef), undef, (D1564.getD 3 undef), (D1564.getD 4 undef), (D1564.getD 5 undef), (D1564.getD 6 undef), (D1564.getD 7 undef), (D1564.getD 8 undef), (D1564.getD 9 undef), (D1564.getD 10 undef), .int .i64 (x1420.w.length : Int), .int .i64 x1565, (D1564.getD 11 undef), (D1564.getD 12 undef), (D1564.getD 13 undef), (D1564.getD 14 undef), (D1564.getD 15 undef), (D1564.getD 16 undef), (D1564.getD 17 undef), (D1564.getD 18 undef), (D1564.getD 19 undef), (D1564.getD 20 undef), (D1564.getD 21 undef), (D1564.getD 22 undef), (D1564.getD 23 undef), (D1564.getD 24 undef), (D1564.getD 25 undef), (D1564.getD 26 undef), (D1564.getD 27 undef), undef, undef, undef, undef, undef, undef, undef, undef, undef, undef, undef, undef, undef, undef, (D1564.getD 28 undef), undef, undef, undef, undef, undef, undef, undef, undef, undef, undef, undef] [] w') → X E ds wz) FUEL (fun X h => kc (by kernel_rfl) rfl (h I1419 0 x1420.w [.pointer (some ⟨b1404, 0, none⟩), undef, undef, .pointer (some ⟨b1404, 0, none⟩), .pointer (some ⟨b1421, 0, none⟩), .pointer (some ⟨b1421, 0, none⟩), .bool false, .pointer (some ⟨b1421, 0, none⟩), .pointer (some ⟨b1421, 0, none⟩), .pointer (some ⟨b1421, 1, none⟩), .slice A1422 n1423 c1424, undef, undef, undef, undef, undef, undef, undef, undef, undef, undef, undef, undef, undef, undef, undef, undef, undef, undef] cl1425 _ hf s kk hn1426 rp1427 rp1410)) (fun _ _ _ hJ => hJ (fun _ _ _ => False) (by intro I1571 x1565 x1566 D1564 cl1567 w1570 hf s kk hn1568 rp1569 rp1410; exact noneS hf)) ?_
    intro X1699 hX1700
    refine fun n1603 _ _ _ hJ => hJ (X1699 n1603) ?_
    intro I1571 x1565 x1566 D1564 cl1567 w1570 hf s kk hn1568 rp1569 rp1410
    refine hX1700 _ _ _ _ ?_
    replace hf : g16_l1B x1420 (g16_l1 x1420 n1603) x1565 x1566 = some r := hf
    generalize hrec1604 : g16_l1 x1420 n1603 = rec1602 at hf
    unfold g16_l1B at hf
    refine WPK.seq ?_
    refine WPK.region ?_
    refine RW.seg hT 1 [] [] [.bool (decide (x1565 < (x1420.w.length : Int)))] [] (by kernel_rfl) (trivial) ?_
    refine RW.nil ?_
    refine WPK.seq ?_
    by_cases h1606 : x1565 < (x1420.w.length : Int)
    · have hf := iteT h1606 hf
      refine WPK.condT (Eq.trans (b := .bool (decide (x1565 < (x1420.w.length : Int)))) (by kernel_rfl) (bo_t h1606)) ?_
      refine WPK.skip ?_
      refine WPK.seq ?_
      refine WPK.block ?_
      refine WPK.seq ?_
      refine WPK.region ?_
      refine RW.seg hT 2 [] [] [.int .i64 x1565, .int .i64 x1565] [] (by kernel_rfl) (trivial) ?_
      refine RW.nil ?_
      have rp1569S1607 := rp1569
      have rp1410S1607 := rp1410
      have kS1611 : Kp I1571 w1570 I1571 w1570 := Kp.refl
      refine WPK.draw (fun w' => ∃ I' : Nat → Prop, St w0 M I' ((.blk b1421 (.cells #[.int .i64 x1420.n, .slice A1422 n1423 c1424] 53 (0, 0))) :: (.sl (.slice A1422 n1423 c1424) 61 1 n1423 cl1567) :: (.blk b1404 (.cells #[.int .i64 p0.n, .slice A1405 n1406 c1407] 53 (0, 0))) :: (.sl (.slice A1405 n1406 c1407) 61 1 n1406 cl1408) :: F) w' ∧ Kp I1571 w1570 I' w') 14 (by kernel_rfl) ?_
      intro w1608 hd1609
      have k1610 := Kp.dr s hd1609
      replace s := s.dr hd1609
      replace rp1569 := rp1569.st k1610
      replace rp1410 := rp1410.st k1610
      replace kk := kk.trans k1610
      replace kS1611 := kS1611.trans k1610
      obtain ⟨x1612, hx1613, hf⟩ := bindS hf
      obtain ⟨h1614, hx1613⟩ := getS hx1613
      obtain ⟨b1615, rfl⟩ := (St.elem s (i := 1) rfl hn1568 rp1569 hx1613).1
      obtain ⟨x1620, hx1621, hf⟩ := bindS hf
      obtain ⟨h1622, hx1621⟩ := getS hx1621
      refine RD.seg hT (by kernel_rfl) [0, 1, 2, 3, 4, 5, 6, 7, 8, 9, 10, 11, 12, 13] [.slice (some ⟨b1615, 0, none⟩) n1423 c1424, .slice (some ⟨b1615, 0, none⟩) n1423 c1424, .int .u64 x1612] [] [.pointer (some ⟨b1421, 0, none⟩), .pointer (some ⟨b1421, 0, none⟩), .pointer (some ⟨b1421, 1, none⟩), .slice (some ⟨b1615, 0, none⟩) n1423 c1424, .int .i64 x1565, .pointer (some ⟨b1421, 0, none⟩), .pointer (some ⟨b1421, 0, none⟩), .pointer (some ⟨b1421, 1, none⟩), .slice (some ⟨b1615, 0, none⟩) n1423 c1424, .int .i64 x1565, .pointer (some ⟨b1615, 0 + x1565.toNat * 1, none⟩), .int .u64 x1612, .int .u64 (cplI .u64 x1612), .pointer (some ⟨b1615, 0 + x1565.toNat * 1, none⟩)] [.cell ⟨b1421, 1, none⟩ (.slice (some ⟨b1615, 0, none⟩) n1423 c1424), .cell ⟨b1421, 1, none⟩ (.slice (some ⟨b1615, 0, none⟩) n1423 c1424), .idx x1565 n1423, .cell ⟨b1615, 0 + x1565.toNat * 1, none⟩ (.int .u64 x1612), .idx x1565 n1423] (by kernel_rfl) (by rintro w' ⟨I', s, k⟩; have rp1569 := rp1569S1607.st k; have rp1410 := rp1410S1607.st k; obtain ⟨-, cs1617, hr1618, ha1619⟩ := St.elem s (i := 1) rfl hn1568 rp1569 hx1613; replace ha1619 := ha1619 _ rfl; obtain rfl : cs1617 = [.int .u64 x1612] := hr1618; exact ⟨s.cell (i := 0) (off := 1) rfl rfl, s.cell (i := 0) (off := 1) rfl rfl, (by rw [hn1568]; exact h1614), ha1619 0 _ rfl, (by rw [hn1568]; exact h1622)⟩) ⟨_, s.pick [0, 1, 2, 3] 4 rfl, kS1611⟩ ?_
      obtain ⟨y1627, hy1628, hf⟩ := bindS hf
      obtain ⟨h1629, hq1630⟩ := setS hy1628
      obtain ⟨cl1631, hcl1632⟩ : ∃ q, setL cl1567 (0 + x1565.toNat * 1) [.int .u64 (cplI .u64 x1612)] = q := ⟨_, rfl⟩
      have rp1633 : RepL (Rp.int .u64) I1571 w1608 cl1631 y1627 := by rw [hq1630, ← hcl1632, Nat.zero_add]; exact RepL.set rp1569 (by omega) (rfl)
      have hn1634 : n1423 = y1627.length := by rw [hq1630, List.length_set]; exact hn1568
      refine RD.op (i := 14) rfl (by kernel_rfl) (by kernel_rfl) (OK.storeSl hT (i := 1) (b := b1615) (off := 0 + x1565.toNat * 1) (m := 1) (vs := [.int .u64 (cplI .u64 x1612)]) (c := c1424) (e := 61) (size := 1) (n := n1423) (cl := cl1567) (cl' := cl1631) s (by kernel_rfl) rfl rfl (flat_ok rfl) (by have h1 := RepL.length rp1569; simp only [List.length_cons, List.length_nil, h1]; exact row_bd (n := 1) h1629 rfl) hcl1632 ?_)
      rintro w1625 s k1626
      replace rp1633 := rp1633.st k1626
      replace rp1410 := rp1410.st k1626
      replace kk := kk.trans k1626
      replace kS1611 := kS1611.trans k1626
      refine ⟨fun h => absurd h (by decide), RD.fold ?_⟩
      refine RD.done (by kernel_rfl) ?_
      refine WPK.region ?_
      refine RW.seg hT 2 [] [] [.int .i64 (IntKind.i64.wrap (x1565 + 1)), .int .i64 (IntKind.i64.wrap (x1565 + 1))] [] (by kernel_rfl) (trivial) ?_
      refine RW.nil ?_
      subst hrec1604
      exact ⟨n1603, Nat.le_refl _, fun X h => kc (by kernel_rfl) rfl (h I1571 (IntKind.i64.wrap (x1565 + 1)) y1627 [(D1564.getD 0 undef), (D1564.getD 1 undef), .int .i64 x1565, (D1564.getD 3 undef), (D1564.getD 4 undef), (D1564.getD 5 undef), (D1564.getD 6 undef), (D1564.getD 7 undef), (D1564.getD 8 undef), (D1564.getD 9 undef), (D1564.getD 10 undef), .bool (decide (x1565 < (x1420.w.length : Int))), .int .i64 x1565, .pointer (some ⟨b1421, 0, none⟩), .pointer (some ⟨b1421, 0, none⟩), .pointer (some ⟨b1421, 1, none⟩), .slice (some ⟨b1615, 0, none⟩) n1423 c1424, .int .i64 x1565, .pointer (some ⟨b1421, 0, none⟩), .pointer (some ⟨b1421, 0, none⟩), .pointer (some ⟨b1421, 1, none⟩), .slice (some ⟨b1615, 0, none⟩) n1423 c1424, .int .i64 x1565, (.pointer (some ⟨b1615, 0 + x1565.toNat * 1, none⟩)), .int .u64 x1612, .int .u64 (cplI .u64 x1612), (.pointer (some ⟨b1615, 0 + x1565.toNat * 1, none⟩)), .int .i64 (IntKind.i64.wrap (x1565 + 1)), (D1564.getD 28 undef)] cl1631 _ hf s kk hn1634 rp1633 rp1410)⟩
    · have hf := iteF h1606 hf
      refine WPK.condF (Eq.trans (b := .bool (decide (x1565 < (x1420.w.length : Int)))) (by kernel_rfl) (bo_f h1606)) ?_
      refine WPK.exit (blockQ.same ?_)
      refine WPK.seq ?_
      refine WPK.seq ?_
      refine WPK.region ?_
      refine RW.seg hT 6 [.int .i64 x1420.n] [] [.pointer (some ⟨b1421, 0, none⟩), .pointer (some ⟨b1421, 0, none⟩), .pointer (some ⟨b1421, 0, none⟩), .int .i64 x1420.n, .int .i64 (Int.tmod x1420.n 64), .int .i64 (Int.tmod x1420.n 64)] [.cell ⟨b1421, 0, none⟩ (.int .i64 x1420.n), .ne0 64] (by kernel_rfl) (⟨s.cell (i := 0) (off := 0) rfl rfl, (show (64 : Int) ≠ 0 by decide)⟩) ?_
      refine RW.nil ?_
      refine WPK.seq ?_
      refine WPK.region ?_
      refine RW.seg hT 2 [] [] [.int .i64 (Int.tmod x1420.n 64), .bool (decide ((Int.tmod x1420.n 64) > 0))] [] (by kernel_rfl) (trivial) ?_
      refine RW.nil ?_
      by_cases h1667 : (Int.tmod x1420.n 64) > 0
      · have hf := iteT h1667 hf
        refine WPK.condT (Eq.trans (b := .bool (decide ((Int.tmod x1420.n 64) > 0))) (by kernel_rfl) (bo_t h1667)) ?_
        have rp1569S1668 := rp1569
        have rp1410S1668 := rp1410
        have kS1672 : Kp I1571 w1570 I1571 w1570 := Kp.refl
        refine WPK.draw (fun w' => ∃ I' : Nat → Prop, St w0 M I' ((.blk b1421 (.cells #[.int .i64 x1420.n, .slice A1422 n1423 c1424] 53 (0, 0))) :: (.sl (.slice A1422 n1423 c1424) 61 1 n1423 cl1567) :: (.blk b1404 (.cells #[.int .i64 p0.n, .slice A1405 n1406 c1407] 53 (0, 0))) :: (.sl (.slice A1405 n1406 c1407) 61 1 n1406 cl1408) :: F) w' ∧ Kp I1571 w1570 I' w') 18 (by kernel_rfl) ?_
        intro w1669 hd1670
        have k1671 := Kp.dr s hd1670
        replace s := s.dr hd1670
        replace rp1569 := rp1569.st k1671
        replace rp1410 := rp1410.st k1671
        replace kk := kk.trans k1671
        replace kS1672 := kS1672.trans k1671
        obtain ⟨x1673, hx1674, hf⟩ := bindS hf
        obtain ⟨h1675, hx1674⟩ := getS hx1674
        obtain ⟨b1676, rfl⟩ := (St.elem s (i := 1) rfl hn1568 rp1569 hx1674).1
        obtain ⟨h1681, hf⟩ := iteS hf
        obtain ⟨x1682, hx1683, hf⟩ := bindS hf
        obtain ⟨x1684, hx1685, hf⟩ := bindS hf
        obtain ⟨h1686, hx1685⟩ := getS hx1685
        refine RD.seg hT (by kernel_rfl) [0, 1, 2, 3, 4, 5, 6, 7, 8, 9, 10, 11, 12, 13, 14, 15, 16, 17] [.slice (some ⟨b1676, 0, none⟩) n1423 c1424, .slice (some ⟨b1676, 0, none⟩) n1423 c1424, .int .u64 x1673, undef] [(48, .int .i64 (x1566.length : Int)), (55, .int .u64 x1682)] [.pointer (some ⟨b1421, 0, none⟩), .pointer (some ⟨b1421, 0, none⟩), .pointer (some ⟨b1421, 1, none⟩), .slice (some ⟨b1676, 0, none⟩) n1423 c1424, .pointer (some ⟨b1421, 0, none⟩), .pointer (some ⟨b1421, 0, none⟩), .pointer (some ⟨b1421, 1, none⟩), .slice (some ⟨b1676, 0, none⟩) n1423 c1424, .int .i64 (x1566.length : Int), .int .i64 (IntKind.i64.wrap ((x1566.length : Int) - 1)), .pointer (some ⟨b1676, 0 + (IntKind.i64.wrap ((x1566.length : Int) - 1)).toNat * 1, none⟩), .int .u64 x1673, .int .i64 (Int.tmod x1420.n 64), .int .u64 (IntKind.u64.wrap (Int.tmod x1420.n 64)), .int .u64 (shlI .u64 1 (IntKind.u64.wrap (Int.tmod x1420.n 64))), .int .u64 x1682, .int .u64 (andI .u64 x1673 x1682), .pointer (some ⟨b1676, 0 + (IntKind.i64.wrap ((x1566.length : Int) - 1)).toNat * 1, none⟩)] [.cell ⟨b1421, 1, none⟩ (.slice (some ⟨b1676, 0, none⟩) n1423 c1424), .cell ⟨b1421, 1, none⟩ (.slice (some ⟨b1676, 0, none⟩) n1423 c1424), .veq (.int .i64 (n1423 : Nat)) (.int .i64 (x1566.length : Int)), .idx (IntKind.i64.wrap ((x1566.length : Int) - 1)) n1423, .cell ⟨b1676, 0 + (IntKind.i64.wrap ((x1566.length : Int) - 1)).toNat * 1, none⟩ (.int .u64 x1673), .nn (IntKind.u64.wrap (Int.tmod x1420.n 64)), .veq (.int .u64 (IntKind.u64.wrap ((shlI .u64 1 (IntKind.u64.wrap (Int.tmod x1420.n 64))) - 1))) (.int .u64 x1682), .idx (IntKind.i64.wrap ((x1566.length : Int) - 1)) n1423] (by kernel_rfl) (by rintro w' ⟨I', s, k⟩; have rp1569 := rp1569S1668.st k; have rp1410 := rp1410S1668.st k; obtain ⟨-, cs1678, hr1679, ha1680⟩ := St.elem s (i := 1) rfl hn1568 rp1569 hx1674; replace ha1680 := ha1680 _ rfl; obtain rfl : cs1678 = [.int .u64 x1673] := hr1679; exact ⟨s.cell (i := 0) (off := 1) rfl rfl, s.cell (i := 0) (off := 1) rfl rfl, len_v hn1568, (by rw [hn1568]; exact h1675), ha1680 0 _ rfl, h1681, int_v (someS hx1683), (by rw [hn1568]; exact h1686)⟩) ⟨_, s.pick [0, 1, 2, 3] 4 rfl, kS1672⟩ ?_
        obtain ⟨y1691, hy1692, hf⟩ := bindS hf
        obtain ⟨h1693, hq1694⟩ := setS hy1692
        obtain ⟨cl1695, hcl1696⟩ : ∃ q, setL cl1567 (0 + (IntKind.i64.wrap ((x1566.length : Int) - 1)).toNat * 1) [.int .u64 (andI .u64 x1673 x1682)] = q := ⟨_, rfl⟩
        have rp1697 : RepL (Rp.int .u64) I1571 w1669 cl1695 y1691 := by rw [hq1694, ← hcl1696, Nat.zero_add]; exact RepL.set rp1569 (by omega) (rfl)
        have hn1698 : n1423 = y1691.length := by rw [hq1694, List.length_set]; exact hn1568
        refine RD.op (i := 18) rfl (by kernel_rfl) (by kernel_rfl) (OK.storeSl hT (i := 1) (b := b1676) (off := 0 + (IntKind.i64.wrap ((x1566.length : Int) - 1)).toNat * 1) (m := 1) (vs := [.int .u64 (andI .u64 x1673 x1682)]) (c := c1424) (e := 61) (size := 1) (n := n1423) (cl := cl1567) (cl' := cl1695) s (by kernel_rfl) rfl rfl (flat_ok rfl) (by have h1 := RepL.length rp1569; simp only [List.length_cons, List.length_nil, h1]; exact row_bd (n := 1) h1693 rfl) hcl1696 ?_)
        rintro w1689 s k1690
        replace rp1697 := rp1697.st k1690
        replace rp1410 := rp1410.st k1690
        replace kk := kk.trans k1690
        replace kS1672 := kS1672.trans k1690
        refine ⟨fun h => absurd h (by decide), RD.fold ?_⟩
        refine RD.done (by kernel_rfl) ?_
        refine WPK.seq ?_
        refine WPK.region ?_
        refine RW.seg hT 2 [] [] [.pointer (some ⟨b1421, 0, none⟩), .pointer (some ⟨b1421, 0, none⟩)] [] (by kernel_rfl) (trivial) ?_
        refine RW.nil ?_
        refine WPK.ret (?_)
        obtain rfl := someS hf
        refine Fin.of (rs := [.tmp 2]) hT [] (.pointer (some ⟨b1421, 0, none⟩)) [] rfl (by kernel_rfl) (trivial) ?_
        exact fun X h h' => vc rfl (h' (T_extent_Set.mk x1420.n y1691) I1571 b1421 (some ⟨b1676, 0, none⟩) n1423 c1424 cl1695 _ rfl s kk hn1698 rp1697)
      · have hf := iteF h1667 hf
        refine WPK.condF (Eq.trans (b := .bool (decide ((Int.tmod x1420.n 64) > 0))) (by kernel_rfl) (bo_f h1667)) ?_
        refine WPK.skip ?_
        refine WPK.seq ?_
        refine WPK.region ?_
        refine RW.seg hT 2 [] [] [.pointer (some ⟨b1421, 0, none⟩), .pointer (some ⟨b1421, 0, none⟩)] [] (by kernel_rfl) (trivial) ?_
        refine RW.nil ?_
        refine WPK.ret (?_)
        obtain rfl := someS hf
        refine Fin.of (rs := [.tmp 2]) hT [] (.pointer (some ⟨b1421, 0, none⟩)) [] rfl (by kernel_rfl) (trivial) ?_
        exact fun X h h' => vc rfl (h' (T_extent_Set.mk x1420.n x1566) I1571 b1421 A1422 n1423 c1424 cl1567 _ rfl s kk hn1568 rp1569)
theorem c44 {w0 w : World} {M I : Nat → Prop} {F : List It} (p0 : Int) (eg0 : Elems (Rp.int .u8) I w (some ⟨0, 0, none⟩) TAB0) (s : St w0 M I (F) w) {r : Int} (hf : g44 p0 = some r) :
    Ret Tryd.prog 44 [.int .u64 p0] w fun v wz => ∀ X : Value → World → Prop, (∀ (I' : Nat → Prop) (w' : World), St w0 M I' (F) w' → Kp I w I' w' → X (.int .i64 r) w') → X v wz := by
  have kk : Kp I w I w := Kp.refl
  unfold g44 at hf
  refine Ret.of Tryd.func44 rfl ?_
  refine WPK.seq ?_
  refine WPK.region ?_
  refine RW.seg hT 1 [] [] [.int .i64 0] [] (by kernel_rfl) (trivial) ?_
  refine RW.nil ?_
  refine WPK.seq ?_
  refine WPK.seq ?_
  refine WPK.region ?_
  refine RW.seg hT 2 [] [(4, .bool (decide (p0 = 0)))] [.int .u64 p0, .bool (decide (p0 = 0))] [.veq (.bool (p0 == 0)) (.bool (decide (p0 = 0)))] (by kernel_rfl) (eq_v) ?_
  refine RW.nil ?_
  by_cases h1792 : p0 = 0
  · have hf := iteT h1792 hf
    refine WPK.condT (Eq.trans (b := .bool (decide (p0 = 0))) (by kernel_rfl) (bo_t h1792)) ?_
    refine WPK.seq ?_
    refine WPK.region ?_
    refine RW.seg hT 1 [] [] [.int .i64 64] [] (by kernel_rfl) (trivial) ?_
    refine RW.nil ?_
    refine WPK.ret (?_)
    obtain rfl := someS hf
    refine Fin.of (rs := [.tmp 2]) hT [] (.int .i64 64) [] rfl (by kernel_rfl) (trivial) ?_
    exact fun X h => vc rfl (h I _ s kk)
  · have hf := iteF h1792 hf
    refine WPK.condF (Eq.trans (b := .bool (decide (p0 = 0))) (by kernel_rfl) (bo_f h1792)) ?_
    refine WPK.skip ?_
    refine WPK.seq ?_
    refine WPK.region ?_
    obtain ⟨x1793, hx1794, hf⟩ := bindS hf
    obtain ⟨x1795, hx1796, hf⟩ := bindS hf
    obtain ⟨h1797, hx1796⟩ := getS hx1796
    obtain ⟨cs1798, hr1799, ha1800⟩ := Elems.get eg0 hx1796
    obtain rfl : cs1798 = [.int .u8 x1795] := hr1799
    refine RW.seg hT 10 [.int .u8 x1795, undef] [(9, .int .u64 x1793)] [.int .u64 p0, .int .u64 p0, .int .u64 (IntKind.u64.wrap (0 - p0)), .int .u64 (andI .u64 p0 (IntKind.u64.wrap (0 - p0))), .int .u64 x1793, .int .u64 (shrI .u64 x1793 58), .pointer (some ⟨0, 0 + (shrI .u64 x1793 58).toNat * 1, none⟩), .int .u8 x1795, .int .i64 (IntKind.i64.wrap x1795), .int .i64 (IntKind.i64.wrap x1795)] [.veq (.int .u64 (IntKind.u64.wrap ((andI .u64 p0 (IntKind.u64.wrap (0 - p0))) * 285870213051353865))) (.int .u64 x1793), .nn 58, .idx (shrI .u64 x1793 58) 64, .cell ⟨0, 0 + (shrI .u64 x1793 58).toNat * 1, none⟩ (.int .u8 x1795)] (by kernel_rfl) (⟨int_v (someS hx1794), (show (0 : Int) ≤ 58 by decide), h1797, ha1800 0 _ rfl⟩) ?_
    refine RW.nil ?_
    refine WPK.ret (?_)
    obtain rfl := someS hf
    refine Fin.of (rs := [.tmp 2]) hT [] (.int .i64 (IntKind.i64.wrap x1795)) [] rfl (by kernel_rfl) (trivial) ?_
    exact fun X h => vc rfl (h I _ s kk)
theorem c27 {w0 w : World} {M I : Nat → Prop} {F : List It} (p0 : T_extent_Set) (p1 : Int) (b2231 : Nat) (A2232 : Option Addr) (n2233 : Nat) (c2234 : Nat) (cl2235 : List Value) (hn2236 : n2233 = p0.w.length) (rp2237 : RepL (Rp.int .u64) I w cl2235 p0.w) (eg0 : Elems (Rp.int .u8) I w (some ⟨0, 0, none⟩) TAB0) (s : St w0 M I ((.blk b2231 (.cells #[.int .i64 p0.n, .slice A2232 n2233 c2234] 53 (0, 0))) :: (.sl (.slice A2232 n2233 c2234) 61 1 n2233 cl2235) :: F) w) {r : Int} (hf : g27 p0 p1 = some r) :
    Ret Tryd.prog 27 [.pointer (some ⟨b2231, 0, none⟩), .int .i64 p1] w fun v wz => ∀ X : Value → World → Prop, (∀ (I' : Nat → Prop) (w' : World), St w0 M I' ((.blk b2231 (.cells #[.int .i64 p0.n, .slice A2232 n2233 c2234] 53 (0, 0))) :: (.sl (.slice A2232 n2233 c2234) 61 1 n2233 cl2235) :: F) w' → Kp I w I' w' → X (.int .i64 r) w') → X v wz := by
  have kk : Kp I w I w := Kp.refl
  unfold g27 at hf
  refine Ret.of Tryd.func27 rfl ?_
  refine WPK.seq ?_
  refine WPK.region ?_
  refine RW.seg hT 1 [] [] [.int .i64 0] [] (by kernel_rfl) (trivial) ?_
  refine RW.nil ?_
  refine WPK.seq ?_
  refine WPK.seq ?_
  refine WPK.cut' (fun E ds wz => ∀ X : Kont, (∀ (I2267 : Nat → Prop) (x2265 : Bool) (D2264 : List Value) (w' : World), g27_j1 p0 p1 x2265 = some r → St w0 M I2267 ((.blk b2231 (.cells #[.int .i64 p0.n, .slice A2232 n2233 c2234] 53 (0, 0))) :: (.sl (.slice A2232 n2233 c2234) 61 1 n2233 cl2235) :: F) w' → Kp I w I2267 w' → RepL (Rp.int .u64) I2267 w' cl2235 p0.w → Elems (Rp.int .u8) I2267 w' (some ⟨0, 0, none⟩) TAB0 → X [.pointer (some ⟨b2231, 0, none⟩), .int .i64 p1, (D2264.getD 0 undef), (D2264.getD 1 undef), .int .i64 0, undef, undef, undef, (D2264.getD 2 undef), (D2264.getD 3 undef), (D2264.getD 4 undef), (D2264.getD 5 undef), (D2264.getD 6 undef), (D2264.getD 7 undef), (D2264.getD 8 undef), (D2264.getD 9 undef), (D2264.getD 10 undef), .bool x2265, (D2264.getD 11 undef), undef, undef, undef, undef, undef, undef, undef, undef, undef, undef, undef, (D2264.getD 12 undef), undef, undef, undef, undef, undef, undef, undef, undef, undef, undef, undef, undef, undef, undef, undef, undef, undef, (D2264.getD 13 undef), undef, undef] [] w') → X E ds wz) ?_ ?_
  · intro X2706 hX2707
    refine fun _ _ _ hJ => hJ X2706 ?_
    intro I2267 x2265 D2264 w2266 hf s kk rp2237 eg0
    refine hX2707 _ _ _ ?_
    unfold g27_j1 at hf
    by_cases h2268 : x2265 = true
    · have hf := iteT h2268 hf
      refine WPK.condT (Eq.trans (b := .bool x2265) (by kernel_rfl) (b_t h2268)) ?_
      refine WPK.seq ?_
      refine WPK.region ?_
      refine RW.seg hT 1 [] [] [.int .i64 (-1)] [] (by kernel_rfl) (trivial) ?_
      refine RW.nil ?_
      refine WPK.ret (?_)
      obtain rfl := someS hf
      refine Fin.of (rs := [.tmp 4]) hT [] (.int .i64 (-1)) [] rfl (by kernel_rfl) (trivial) ?_
      exact fun X h => vc rfl (h I2267 _ s kk)
    · have hf := iteF h2268 hf
      refine WPK.condF (Eq.trans (b := .bool x2265) (by kernel_rfl) (b_f h2268)) ?_
      refine WPK.skip ?_
      refine WPK.seq ?_
      refine WPK.region ?_
      refine RW.seg hT 3 [] [] [.int .i64 p1, .int .i64 (if 0 > p1 then 0 else p1), .int .i64 (if 0 > p1 then 0 else p1)] [] (by kernel_rfl) (trivial) ?_
      refine RW.nil ?_
      refine WPK.seq ?_
      refine WPK.region ?_
      obtain ⟨h2269, hf⟩ := iteS hf
      obtain ⟨x2270, hx2271, hf⟩ := bindS hf
      refine RW.seg hT 5 [undef] [(23, .int .u64 x2270)] [.int .i64 (if 0 > p1 then 0 else p1), .int .i64 (Int.tmod (if 0 > p1 then 0 else p1) 64), .int .u64 (IntKind.u64.wrap (Int.tmod (if 0 > p1 then 0 else p1) 64)), .int .u64 x2270, .int .u64 x2270] [.ne0 64, .both (.nn (IntKind.u64.wrap (Int.tmod (if 0 > p1 then 0 else p1) 64))) (.veq (.int .u64 (shlI .u64 18446744073709551615 (IntKind.u64.wrap (Int.tmod (if 0 > p1 then 0 else p1) 64)))) (.int .u64 x2270))] (by kernel_rfl) (⟨(show (64 : Int) ≠ 0 by decide), ⟨h2269, int_v (someS hx2271)⟩⟩) ?_
      refine RW.nil ?_
      refine WPK.seq ?_
      refine WPK.seq ?_
      refine WPK.region ?_
      refine RW.seg hT 3 [] [] [.int .i64 (if 0 > p1 then 0 else p1), .int .i64 (IntKind.i64.wrap (Int.tdiv (if 0 > p1 then 0 else p1) 64)), .int .i64 (IntKind.i64.wrap (Int.tdiv (if 0 > p1 then 0 else p1) 64))] [.ne0 64] (by kernel_rfl) ((show (64 : Int) ≠ 0 by decide)) ?_
      refine RW.nil ?_
      refine WPK.block ?_
      refine WPK.loop' (J := fun n2636 E ds wz => ∀ X : Kont, (∀ (x2567 : Int) (x2568 : Int) (D2566 : List Value), g27_l2 p0 n2636 x2567 x2568 = some r → X [.pointer (some ⟨b2231, 0, none⟩), (D2566.getD 0 undef), (D2566.getD 1 undef), (D2566.getD 2 undef), .int .i64 0, .int .u64 x2567, .int .i64 x2568, (D2566.getD 3 undef), (D2566.getD 4 undef), (D2566.getD 5 undef), (D2566.getD 6 undef), (D2566.getD 7 undef), (D2566.getD 8 undef), (D2566.getD 9 undef), (D2566.getD 10 undef), (D2566.getD 11 undef), (D2566.getD 12 undef), (D2566.getD 13 undef), (D2566.getD 14 undef), (D2566.getD 15 undef), (D2566.getD 16 undef), (D2566.getD 17 undef), (D2566.getD 18 undef), (D2566.getD 19 undef), (D2566.getD 20 undef), (D2566.getD 21 undef), (D2566.getD 22 undef), (D2566.getD 23 undef), (D2566.getD 24 undef), (D2566.getD 25 undef), (D2566.getD 26 undef), (D2566.getD 27 undef), (D2566.getD 28 undef), (D2566.getD 29 undef), (D2566.getD 30 undef), (D2566.getD 31 undef), (D2566.getD 32 undef), (D2566.getD 33 undef), (D2566.getD 34 undef), (D2566.getD 35 undef), (D2566.getD 36 undef), (D2566.getD 37 undef), (D2566.getD 38 undef), (D2566.getD 39 undef), (D2566.getD 40 undef), (D2566.getD 41 undef), undef, undef, (D2566.getD 42 undef), undef, undef] [] w2266) → X E ds wz) FUEL (fun X h => kc (by kernel_rfl) rfl (h x2270 (IntKind.i64.wrap (Int.tdiv (if 0 > p1 then 0 else p1) 64)) [.int .i64 (if 0 > p1 then 0 else p1), (D2264.getD 0 undef), (D2264.getD 1 undef), undef, (D2264.getD 2 undef), (D2264.getD 3 undef), (D2264.getD 4 undef), (D2264.getD 5 undef), (D2264.getD 6 undef), (D2264.getD 7 undef), (D2264.getD 8 undef), (D2264.getD 9 undef), (D2264.getD 10 undef), .bool x2265, .int .i64 p1, .int .i64 (if 0 > p1 then 0 else p1), .int .i64 (if 0 > p1 then 0 else p1), .int .i64 (Int.tmod (if 0 > p1 then 0 else p1) 64), .int .u64 (IntKind.u64.wrap (Int.tmod (if 0 > p1 then 0 else p1) 64)), .int .u64 x2270, .int .i64 (if 0 > p1 then 0 else p1), .int .i64 (IntKind.i64.wrap (Int.tdiv (if 0 > p1 then 0 else p1) 64)), undef, undef, undef, undef, (D2264.getD 12 undef), undef, undef, undef, undef, undef, undef, undef, undef, undef, undef, undef, undef, undef, undef, undef, (D2264.getD 13 undef)] hf)) (fun _ _ _ hJ => hJ (fun _ _ _ => False) (by intro x2567 x2568 D2566 hf; exact noneS hf)) ?_
      intro X2704 hX2705
      refine fun n2636 _ _ _ hJ => hJ (X2704 n2636) ?_
      intro x2567 x2568 D2566 hf
      refine hX2705 _ _ _ _ ?_
      replace hf : g27_l2B p0 (g27_l2 p0 n2636) x2567 x2568 = some r := hf
      generalize hrec2637 : g27_l2 p0 n2636 = rec2635 at hf
      unfold g27_l2B at hf
      refine WPK.seq ?_
      refine WPK.seq ?_
      refine WPK.region ?_
      refine RW.seg hT 7 [.slice A2232 n2233 c2234] [(31, .int .i64 (p0.w.length : Int))] [.int .i64 x2568, .pointer (some ⟨b2231, 0, none⟩), .pointer (some ⟨b2231, 0, none⟩), .pointer (some ⟨b2231, 1, none⟩), .slice A2232 n2233 c2234, .int .i64 (p0.w.length : Int), .bool (decide (x2568 < (p0.w.length : Int)))] [.cell ⟨b2231, 1, none⟩ (.slice A2232 n2233 c2234), .veq (.int .i64 (n2233 : Nat)) (.int .i64 (p0.w.length : Int))] (by kernel_rfl) (⟨s.cell (i := 0) (off := 1) rfl rfl, len_v hn2236⟩) ?_
      refine RW.nil ?_
      by_cases h2639 : x2568 < (p0.w.length : Int)
      · have hf := iteT h2639 hf
        refine WPK.condT (Eq.trans (b := .bool (decide (x2568 < (p0.w.length : Int)))) (by kernel_rfl) (bo_t h2639)) ?_
        refine WPK.skip ?_
        refine WPK.seq ?_
        refine WPK.block ?_
        refine WPK.seq ?_
        refine WPK.seq ?_
        refine WPK.region ?_
        obtain ⟨x2688, hx2689, hf⟩ := bindS hf
        obtain ⟨h2690, hx2689⟩ := getS hx2689
        obtain ⟨b2691, rfl⟩ := (St.elem s (i := 1) rfl hn2236 rp2237 hx2689).1
        obtain ⟨-, cs2693, hr2694, ha2695⟩ := St.elem s (i := 1) rfl hn2236 rp2237 hx2689
        replace ha2695 := ha2695 _ rfl
        obtain rfl : cs2693 = [.int .u64 x2688] := hr2694
        refine RW.seg hT 10 [.slice (some ⟨b2691, 0, none⟩) n2233 c2234, .int .u64 x2688] [] [.pointer (some ⟨b2231, 0, none⟩), .pointer (some ⟨b2231, 0, none⟩), .pointer (some ⟨b2231, 1, none⟩), .slice (some ⟨b2691, 0, none⟩) n2233 c2234, .int .i64 x2568, .pointer (some ⟨b2691, 0 + x2568.toNat * 1, none⟩), .int .u64 x2688, .int .u64 x2567, .int .u64 (andI .u64 x2688 x2567), .int .u64 (andI .u64 x2688 x2567)] [.cell ⟨b2231, 1, none⟩ (.slice (some ⟨b2691, 0, none⟩) n2233 c2234), .idx x2568 n2233, .cell ⟨b2691, 0 + x2568.toNat * 1, none⟩ (.int .u64 x2688)] (by kernel_rfl) (⟨s.cell (i := 0) (off := 1) rfl rfl, (by rw [hn2236]; exact h2690), ha2695 0 _ rfl⟩) ?_
        refine RW.nil ?_
        refine WPK.seq ?_
        refine WPK.region ?_
        refine RW.seg hT 2 [] [(45, .bool (decide ((andI .u64 x2688 x2567) ≠ 0)))] [.int .u64 (andI .u64 x2688 x2567), .bool (decide ((andI .u64 x2688 x2567) ≠ 0))] [.veq (.bool ((andI .u64 x2688 x2567) != 0)) (.bool (decide ((andI .u64 x2688 x2567) ≠ 0)))] (by kernel_rfl) (ne_v) ?_
        refine RW.nil ?_
        by_cases h2696 : (andI .u64 x2688 x2567) ≠ 0
        · have hf := iteT h2696 hf
          refine WPK.condT (Eq.trans (b := .bool (decide ((andI .u64 x2688 x2567) ≠ 0))) (by kernel_rfl) (bo_t h2696)) ?_
          refine WPK.seq ?_
          refine WPK.region ?_
          refine RW.seg hT 3 [] [] [.int .i64 x2568, .int .i64 (IntKind.i64.wrap (x2568 * 64)), .int .u64 (andI .u64 x2688 x2567)] [] (by kernel_rfl) (trivial) ?_
          obtain ⟨x2697, hx2698, hf⟩ := bindS hf
          refine RW.op (by kernel_rfl) (OK.call' en44 (by kernel_rfl) (c44 (F := (.blk b2231 (.cells #[.int .i64 p0.n, .slice (some ⟨b2691, 0, none⟩) n2233 c2234] 53 (0, 0))) :: (.sl (.slice (some ⟨b2691, 0, none⟩) n2233 c2234) 61 1 n2233 cl2235) :: F) (andI .u64 x2688 x2567) eg0 s hx2698) ?_)
          intro X2701 hX2702
          refine fun _ _ hJ => hJ X2701 ?_
          intro I2703 w2699 s k2700
          refine hX2702 _ _ ?_
          replace rp2237 := rp2237.st k2700
          replace eg0 := eg0.st k2700
          replace kk := kk.trans k2700
          refine RW.seg hT 2 [] [] [.int .i64 (IntKind.i64.wrap ((IntKind.i64.wrap (x2568 * 64)) + x2697)), .int .i64 (IntKind.i64.wrap ((IntKind.i64.wrap (x2568 * 64)) + x2697))] [] (by kernel_rfl) (trivial) ?_
          refine RW.nil ?_
          refine WPK.ret (blockQ.ret (blockQ.ret (?_)))
          obtain rfl := someS hf
          refine Fin.of (rs := [.tmp 4]) hT [] (.int .i64 (IntKind.i64.wrap ((IntKind.i64.wrap (x2568 * 64)) + x2697))) [] rfl (by kernel_rfl) (trivial) ?_
          exact fun X h => vc rfl (h I2703 _ s kk)
        · have hf := iteF h2696 hf
          refine WPK.condF (Eq.trans (b := .bool (decide ((andI .u64 x2688 x2567) ≠ 0))) (by kernel_rfl) (bo_f h2696)) ?_
          refine WPK.skip ?_
          refine WPK.region ?_
          refine RW.seg hT 1 [] [] [.int .u64 18446744073709551615] [] (by kernel_rfl) (trivial) ?_
          refine RW.nil ?_
          refine WPK.region ?_
          refine RW.seg hT 3 [] [] [.int .i64 x2568, .int .i64 (IntKind.i64.wrap (x2568 + 1)), .int .i64 (IntKind.i64.wrap (x2568 + 1))] [] (by kernel_rfl) (trivial) ?_
          refine RW.nil ?_
          subst hrec2637
          exact ⟨n2636, Nat.le_refl _, fun X h => kc (by kernel_rfl) rfl (h 18446744073709551615 (IntKind.i64.wrap (x2568 + 1)) [(D2566.getD 0 undef), (D2566.getD 1 undef), (D2566.getD 2 undef), .int .u64 (andI .u64 x2688 x2567), (D2566.getD 4 undef), (D2566.getD 5 undef), (D2566.getD 6 undef), (D2566.getD 7 undef), (D2566.getD 8 undef), (D2566.getD 9 undef), (D2566.getD 10 undef), (D2566.getD 11 undef), (D2566.getD 12 undef), (D2566.getD 13 undef), (D2566.getD 14 undef), (D2566.getD 15 undef), (D2566.getD 16 undef), (D2566.getD 17 undef), (D2566.getD 18 undef), (D2566.getD 19 undef), (D2566.getD 20 undef), (D2566.getD 21 undef), .int .i64 x2568, .pointer (some ⟨b2231, 0, none⟩), .pointer (some ⟨b2231, 0, none⟩), .pointer (some ⟨b2231, 1, none⟩), .slice (some ⟨b2691, 0, none⟩) n2233 c2234, .int .i64 (p0.w.length : Int), .bool (decide (x2568 < (p0.w.length : Int))), .int .i64 x2568, .int .i64 (IntKind.i64.wrap (x2568 + 1)), .pointer (some ⟨b2231, 0, none⟩), .pointer (some ⟨b2231, 0, none⟩), .pointer (some ⟨b2231, 1, none⟩), .slice (some ⟨b2691, 0, none⟩) n2233 c2234, .int .i64 x2568, .pointer (some ⟨b2691, 0 + x2568.toNat * 1, none⟩), .int .u64 x2688, .int .u64 x2567, .int .u64 (andI .u64 x2688 x2567), .int .u64 (andI .u64 x2688 x2567), .bool (decide ((andI .u64 x2688 x2567) ≠ 0)), (D2566.getD 42 undef)] hf)⟩
      · have hf := iteF h2639 hf
        refine WPK.condF (Eq.trans (b := .bool (decide (x2568 < (p0.w.length : Int)))) (by kernel_rfl) (bo_f h2639)) ?_
        refine WPK.exit (blockQ.same ?_)
        refine WPK.seq ?_
        refine WPK.region ?_
        refine RW.seg hT 1 [] [] [.int .i64 (-1)] [] (by kernel_rfl) (trivial) ?_
        refine RW.nil ?_
        refine WPK.ret (?_)
        obtain rfl := someS hf
        refine Fin.of (rs := [.tmp 4]) hT [] (.int .i64 (-1)) [] rfl (by kernel_rfl) (trivial) ?_
        exact fun X h => vc rfl (h I2267 _ s kk)
  · refine WPK.region ?_
    refine RW.seg hT 1 [] [] [.pointer (some ⟨b2231, 0, none⟩)] [] (by kernel_rfl) (trivial) ?_
    obtain ⟨x2708, hx2709, hf⟩ := bindS hf
    refine RW.op (by kernel_rfl) (OK.call' en34 (by kernel_rfl) (c34 (F := F) p0 b2231 A2232 n2233 c2234 cl2235 hn2236 rp2237 s hx2709) ?_)
    intro X2712 hX2713
    refine fun _ _ hJ => hJ X2712 ?_
    intro I2714 w2710 s k2711
    refine hX2713 _ _ ?_
    replace rp2237 := rp2237.st k2711
    replace eg0 := eg0.st k2711
    replace kk := kk.trans k2711
    by_cases h2715 : x2708 = true
    · have hf := iteT h2715 hf
      refine RW.seg hT 8 [] [(10, .bool true)] [.bool true, undef, undef, undef, undef, undef, undef, .bool true] [.veq (.bool (x2708)) (.bool true)] (by kernel_rfl) (b_t h2715) ?_
      refine RW.nil ?_
      exact fun X h => kc (by kernel_rfl) rfl (h I2714 true [undef, undef, .pointer (some ⟨b2231, 0, none⟩), .bool x2708, .bool true, undef, undef, undef, undef, undef, undef, undef, undef, undef] _ hf s kk rp2237 eg0)
    · have hf := iteF h2715 hf
      refine RW.seg hT 8 [.int .i64 p0.n] [(10, .bool false)] [.bool false, .int .i64 p1, .pointer (some ⟨b2231, 0, none⟩), .pointer (some ⟨b2231, 0, none⟩), .pointer (some ⟨b2231, 0, none⟩), .int .i64 p0.n, .bool (decide (p1 ≥ p0.n)), .bool (decide (p1 ≥ p0.n))] [.veq (.bool (x2708)) (.bool false), .cell ⟨b2231, 0, none⟩ (.int .i64 p0.n)] (by kernel_rfl) (⟨b_f h2715, s.cell (i := 0) (off := 0) rfl rfl⟩) ?_
      refine RW.nil ?_
      exact fun X h => kc (by kernel_rfl) rfl (h I2714 (decide (p1 ≥ p0.n)) [undef, undef, .pointer (some ⟨b2231, 0, none⟩), .bool x2708, .bool false, .int .i64 p1, .pointer (some ⟨b2231, 0, none⟩), .pointer (some ⟨b2231, 0, none⟩), .pointer (some ⟨b2231, 0, none⟩), .int .i64 p0.n, .bool (decide (p1 ≥ p0.n)), undef, undef, undef] _ hf s kk rp2237 eg0)
theorem c34_1 {w0 w : World} {M I : Nat → Prop} {F : List It}  (s : St w0 M I (F) w) {r : Bool} (hf : g34_1 = some r) :
    Ret Tryd.prog 34 [.pointer none] w fun v wz => ∀ X : Value → World → Prop, (∀ (I' : Nat → Prop) (w' : World), St w0 M I' (F) w' → Kp I w I' w' → X (.bool r) w') → X v wz := by
  have kk : Kp I w I w := Kp.refl
  unfold g34_1 at hf
  refine Ret.of Tryd.func34 rfl ?_
  refine WPK.seq ?_
  refine WPK.region ?_
  refine RW.seg hT 1 [] [] [.bool false] [] (by kernel_rfl) (trivial) ?_
  refine RW.nil ?_
  refine WPK.seq ?_
  refine WPK.region ?_
  refine RW.seg hT 10 [] [] [.pointer none, .bool true, .bool true, undef, undef, undef, undef, undef, .bool true, .bool true] [] (by kernel_rfl) (trivial) ?_
  refine RW.nil ?_
  refine WPK.ret (?_)
  obtain rfl := someS hf
  refine Fin.of (rs := [.tmp 2]) hT [] (.bool true) [] rfl (by kernel_rfl) (trivial) ?_
  exact fun X h => vc rfl (h I _ s kk)
theorem c27_1 {w0 w : World} {M I : Nat → Prop} {F : List It} (p1 : Int) (s : St w0 M I (F) w) {r : Int} (hf : g27_1 p1 = some r) :
    Ret Tryd.prog 27 [.pointer none, .int .i64 p1] w fun v wz => ∀ X : Value → World → Prop, (∀ (I' : Nat → Prop) (w' : World), St w0 M I' (F) w' → Kp I w I' w' → X (.int .i64 r) w') → X v wz := by
  have kk : Kp I w I w := Kp.refl
  unfold g27_1 at hf
  refine Ret.of Tryd.func27 rfl ?_
  refine WPK.seq ?_
  refine WPK.region ?_
  refine RW.seg hT 1 [] [] [.int .i64 0] [] (by kernel_rfl) (trivial) ?_
  refine RW.nil ?_
  refine WPK.seq ?_
  refine WPK.seq ?_
  refine WPK.region ?_
  refine RW.seg hT 1 [] [] [.pointer none] [] (by kernel_rfl) (trivial) ?_
  obtain ⟨x2782, hx2783, hf⟩ := bindS hf
  refine RW.op (by kernel_rfl) (OK.call' en34 (by kernel_rfl) (c34_1 (F := F) s hx2783) ?_)
  intro X2786 hX2787
  refine fun _ _ hJ => hJ X2786 ?_
  intro I2788 w2784 s k2785
  refine hX2787 _ _ ?_
  replace kk := kk.trans k2785
  by_cases h2789 : x2782 = true
  · have hf := iteT h2789 hf
    refine RW.seg hT 8 [] [(10, .bool true)] [.bool true, undef, undef, undef, undef, undef, undef, .bool true] [.veq (.bool (x2782)) (.bool true)] (by kernel_rfl) (b_t h2789) ?_
    refine RW.nil ?_
    refine WPK.condT (by kernel_rfl) ?_
    refine WPK.seq ?_
    refine WPK.region ?_
    refine RW.seg hT 1 [] [] [.int .i64 (-1)] [] (by kernel_rfl) (trivial) ?_
    refine RW.nil ?_
    refine WPK.ret (?_)
    obtain rfl := someS hf
    refine Fin.of (rs := [.tmp 4]) hT [] (.int .i64 (-1)) [] rfl (by kernel_rfl) (trivial) ?_
    exact fun X h => vc rfl (h I2788 _ s kk)
  · have hf := iteF h2789 hf
    exact noneS hf
theorem c35 {w0 w : World} {M I : Nat → Prop} {F : List It} (p0 : Int) (s : St w0 M I (F) w) {r : Int} (hf : g35 p0 = some r) :
    Ret Tryd.prog 35 [.int .u64 p0] w fun v wz => ∀ X : Value → World → Prop, (∀ (I' : Nat → Prop) (w' : World), St w0 M I' (F) w' → Kp I w I' w' → X (.int .i64 r) w') → X v wz := by
  have kk : Kp I w I w := Kp.refl
  unfold g35 at hf
  refine Ret.of Tryd.func35 rfl ?_
  refine WPK.seq ?_
  refine WPK.region ?_
  refine RW.seg hT 1 [] [] [.int .i64 0] [] (by kernel_rfl) (trivial) ?_
  refine RW.nil ?_
  refine WPK.seq ?_
  refine WPK.region ?_
  obtain ⟨x5204, hx5205, hf⟩ := bindS hf
  refine RW.seg hT 7 [] [(8, .int .u64 x5204)] [.int .u64 p0, .int .u64 (shrI .u64 p0 1), .int .u64 (andI .u64 (shrI .u64 p0 1) 6148914691236517205), .int .u64 p0, .int .u64 (andI .u64 p0 6148914691236517205), .int .u64 x5204, .int .u64 x5204] [.nn 1, .veq (.int .u64 (IntKind.u64.wrap ((andI .u64 (shrI .u64 p0 1) 6148914691236517205) + (andI .u64 p0 6148914691236517205)))) (.int .u64 x5204)] (by kernel_rfl) (⟨(show (0 : Int) ≤ 1 by decide), int_v (someS hx5205)⟩) ?_
  refine RW.nil ?_
  refine WPK.seq ?_
  refine WPK.region ?_
  obtain ⟨x5206, hx5207, hf⟩ := bindS hf
  refine RW.seg hT 7 [] [(14, .int .u64 x5206)] [.int .u64 x5204, .int .u64 (shrI .u64 x5204 2), .int .u64 (andI .u64 (shrI .u64 x5204 2) 3689348814741910323), .int .u64 x5204, .int .u64 (andI .u64 x5204 3689348814741910323), .int .u64 x5206, .int .u64 x5206] [.nn 2, .veq (.int .u64 (IntKind.u64.wrap ((andI .u64 (shrI .u64 x5204 2) 3689348814741910323) + (andI .u64 x5204 3689348814741910323)))) (.int .u64 x5206)] (by kernel_rfl) (⟨(show (0 : Int) ≤ 2 by decide), int_v (someS hx5207)⟩) ?_
  refine RW.nil ?_
  refine WPK.seq ?_
  refine WPK.region ?_
  obtain ⟨x5208, hx5209, hf⟩ := bindS hf
  refine RW.seg hT 6 [] [(19, .int .u64 x5208)] [.int .u64 x5206, .int .u64 (shrI .u64 x5206 4), .int .u64 x5206, .int .u64 (IntKind.u64.wrap ((shrI .u64 x5206 4) + x5206)), .int .u64 x5208, .int .u64 x5208] [.nn 4, .veq (.int .u64 (andI .u64 (IntKind.u64.wrap ((shrI .u64 x5206 4) + x5206)) 1085102592571150095)) (.int .u64 x5208)] (by kernel_rfl) (⟨(show (0 : Int) ≤ 4 by decide), int_v (someS hx5209)⟩) ?_
  refine RW.nil ?_
  refine WPK.seq ?_
  refine WPK.region ?_
  refine RW.seg hT 5 [] [] [.int .u64 x5208, .int .u64 x5208, .int .u64 (shrI .u64 x5208 8), .int .u64 (IntKind.u64.wrap (x5208 + (shrI .u64 x5208 8))), .int .u64 (IntKind.u64.wrap (x5208 + (shrI .u64 x5208 8)))] [.nn 8] (by kernel_rfl) ((show (0 : Int) ≤ 8 by decide)) ?_
  refine RW.nil ?_
  refine WPK.seq ?_
  refine WPK.region ?_
  obtain ⟨x5210, hx5211, hf⟩ := bindS hf
  obtain ⟨x5212, hx5213, hf⟩ := bindS hf
  refine RW.seg hT 5 [] [(26, .int .u64 x5210), (27, .int .u64 x5212)] [.int .u64 (IntKind.u64.wrap (x5208 + (shrI .u64 x5208 8))), .int .u64 (IntKind.u64.wrap (x5208 + (shrI .u64 x5208 8))), .int .u64 x5210, .int .u64 x5212, .int .u64 x5212] [.both (.nn 16) (.veq (.int .u64 (shrI .u64 (IntKind.u64.wrap (x5208 + (shrI .u64 x5208 8))) 16)) (.int .u64 x5210)), .veq (.int .u64 (IntKind.u64.wrap ((IntKind.u64.wrap (x5208 + (shrI .u64 x5208 8))) + x5210))) (.int .u64 x5212)] (by kernel_rfl) (⟨⟨(show (0 : Int) ≤ 16 by decide), int_v (someS hx5211)⟩, int_v (someS hx5213)⟩) ?_
  refine RW.nil ?_
  refine WPK.seq ?_
  refine WPK.region ?_
  refine RW.seg hT 5 [] [] [.int .u64 x5212, .int .u64 x5212, .int .u64 (shrI .u64 x5212 32), .int .u64 (IntKind.u64.wrap (x5212 + (shrI .u64 x5212 32))), .int .u64 (IntKind.u64.wrap (x5212 + (shrI .u64 x5212 32)))] [.nn 32] (by kernel_rfl) ((show (0 : Int) ≤ 32 by decide)) ?_
  refine RW.nil ?_
  refine WPK.seq ?_
  refine WPK.region ?_
  obtain ⟨x5214, hx5215, hf⟩ := bindS hf
  refine RW.seg hT 4 [undef] [(33, .int .i64 x5214)] [.int .u64 (IntKind.u64.wrap (x5212 + (shrI .u64 x5212 32))), .int .i64 x5214, .int .i64 (andI .i64 x5214 127), .int .i64 (andI .i64 x5214 127)] [.veq (.int .i64 (IntKind.i64.wrap (IntKind.u64.wrap (x5212 + (shrI .u64 x5212 32))))) (.int .i64 x5214)] (by kernel_rfl) (int_v (someS hx5215)) ?_
  refine RW.nil ?_
  refine WPK.ret (?_)
  obtain rfl := someS hf
  refine Fin.of (rs := [.tmp 2]) hT [] (.int .i64 (andI .i64 x5214 127)) [] rfl (by kernel_rfl) (trivial) ?_
  exact fun X h => vc rfl (h I _ s kk)
theorem c14 {w0 w : World} {M I : Nat → Prop} {F : List It} (p0 : T_extent_Set) (b5329 : Nat) (A5330 : Option Addr) (n5331 : Nat) (c5332 : Nat) (cl5333 : List Value) (hn5334 : n5331 = p0.w.length) (rp5335 : RepL (Rp.int .u64) I w cl5333 p0.w) (s : St w0 M I ((.blk b5329 (.cells #[.int .i64 p0.n, .slice A5330 n5331 c5332] 53 (0, 0))) :: (.sl (.slice A5330 n5331 c5332) 61 1 n5331 cl5333) :: F) w) {r : Int} (hf : g14 p0 = some r) :
    Ret Tryd.prog 14 [.pointer (some ⟨b5329, 0, none⟩)] w fun v wz => ∀ X : Value → World → Prop, (∀ (I' : Nat → Prop) (w' : World), St w0 M I' ((.blk b5329 (.cells #[.int .i64 p0.n, .slice A5330 n5331 c5332] 53 (0, 0))) :: (.sl (.slice A5330 n5331 c5332) 61 1 n5331 cl5333) :: F) w' → Kp I w I' w' → X (.int .i64 r) w') → X v wz := by
  have kk : Kp I w I w := Kp.refl
  unfold g14 at hf
  refine Ret.of Tryd.func14 rfl ?_
  refine WPK.seq ?_
  refine WPK.region ?_
  refine RW.seg hT 1 [] [] [.int .i64 0] [] (by kernel_rfl) (trivial) ?_
  refine RW.nil ?_
  refine WPK.seq ?_
  refine WPK.region ?_
  refine RW.seg hT 1 [] [] [.int .i64 0] [] (by kernel_rfl) (trivial) ?_
  refine RW.nil ?_
  refine WPK.seq ?_
  refine WPK.seq ?_
  refine WPK.region ?_
  refine RW.seg hT 1 [] [] [.pointer (some ⟨b5329, 0, none⟩)] [] (by kernel_rfl) (trivial) ?_
  obtain ⟨x5345, hx5346, hf⟩ := bindS hf
  refine RW.op (by kernel_rfl) (OK.call' en34 (by kernel_rfl) (c34 (F := F) p0 b5329 A5330 n5331 c5332 cl5333 hn5334 rp5335 s hx5346) ?_)
  intro X5349 hX5350
  refine fun _ _ hJ => hJ X5349 ?_
  intro I5351 w5347 s k5348
  refine hX5350 _ _ ?_
  replace rp5335 := rp5335.st k5348
  replace kk := kk.trans k5348
  refine RW.nil ?_
  by_cases h5352 : x5345 = true
  · have hf := iteT h5352 hf
    refine WPK.condT (Eq.trans (b := .bool x5345) (by kernel_rfl) (b_t h5352)) ?_
    refine WPK.seq ?_
    refine WPK.region ?_
    refine RW.seg hT 2 [] [] [.int .i64 0, .int .i64 0] [] (by kernel_rfl) (trivial) ?_
    refine RW.nil ?_
    refine WPK.ret (?_)
    obtain rfl := someS hf
    refine Fin.of (rs := [.tmp 2]) hT [] (.int .i64 0) [] rfl (by kernel_rfl) (trivial) ?_
    exact fun X h => vc rfl (h I5351 _ s kk)
  · have hf := iteF h5352 hf
    refine WPK.condF (Eq.trans (b := .bool x5345) (by kernel_rfl) (b_f h5352)) ?_
    refine WPK.skip ?_
    refine WPK.seq ?_
    refine WPK.seq ?_
    refine WPK.region ?_
    refine RW.seg hT 6 [.slice A5330 n5331 c5332] [(12, .int .i64 (p0.w.length : Int))] [.pointer (some ⟨b5329, 0, none⟩), .pointer (some ⟨b5329, 0, none⟩), .pointer (some ⟨b5329, 1, none⟩), .slice A5330 n5331 c5332, .int .i64 (p0.w.length : Int), .int .i64 0] [.cell ⟨b5329, 1, none⟩ (.slice A5330 n5331 c5332), .veq (.int .i64 (n5331 : Nat)) (.int .i64 (p0.w.length : Int))] (by kernel_rfl) (⟨s.cell (i := 0) (off := 1) rfl rfl, len_v hn5334⟩) ?_
    refine RW.nil ?_
    refine WPK.block ?_
    refine WPK.loop' (J := fun n5456 E ds wz => ∀ X : Kont, (∀ (I5437 : Nat → Prop) (x5434 : Int) (x5435 : Int) (D5433 : List Value) (w' : World), g14_l1 p0 n5456 x5434 x5435 = some r → St w0 M I5437 ((.blk b5329 (.cells #[.int .i64 p0.n, .slice A5330 n5331 c5332] 53 (0, 0))) :: (.sl (.slice A5330 n5331 c5332) 61 1 n5331 cl5333) :: F) w' → Kp I w I5437 w' → RepL (Rp.int .u64) I5437 w' cl5333 p0.w → X [.pointer (some ⟨b5329, 0, none⟩), (D5433.getD 0 undef), .int .i64 0, .int .i64 x5434, (D5433.getD 1 undef), (D5433.getD 2 undef), (D5433.getD 3 undef), (D5433.getD 4 undef), (D5433.getD 5 undef), (D5433.getD 6 undef), (D5433.getD 7 undef), (D5433.getD 8 undef), .int .i64 (p0.w.length : Int), .int .i64 x5435, (D5433.getD 9 undef), (D5433.getD 10 undef), (D5433.getD 11 undef), (D5433.getD 12 undef), (D5433.getD 13 undef), (D5433.getD 14 undef), (D5433.getD 15 undef), (D5433.getD 16 undef), (D5433.getD 17 undef), (D5433.getD 18 undef), (D5433.getD 19 undef), (D5433.getD 20 undef), (D5433.getD 21 undef), undef] [] w') → X E ds wz) FUEL (fun X h => kc (by kernel_rfl) rfl (h I5351 0 0 [undef, undef, .pointer (some ⟨b5329, 0, none⟩), .bool x5345, undef, .pointer (some ⟨b5329, 0, none⟩), .pointer (some ⟨b5329, 0, none⟩), .pointer (some ⟨b5329, 1, none⟩), .slice A5330 n5331 c5332, undef, undef, undef, undef, undef, undef, undef, undef, undef, undef, undef, undef, undef] _ hf s kk rp5335)) (fun _ _ _ hJ => hJ (fun _ _ _ => False) (by intro I5437 x5434 x5435 D5433 w5436 hf s kk rp5335; exact noneS hf)) ?_
    intro X5475 hX5476
    refine fun n5456 _ _ _ hJ => hJ (X5475 n5456) ?_
    intro I5437 x5434 x5435 D5433 w5436 hf s kk rp5335
    refine hX5476 _ _ _ _ ?_
    replace hf : g14_l1B p0 (g14_l1 p0 n5456) x5434 x5435 = some r := hf
    generalize hrec5457 : g14_l1 p0 n5456 = rec5455 at hf
    unfold g14_l1B at hf
    refine WPK.seq ?_
    refine WPK.region ?_
    refine RW.seg hT 1 [] [] [.bool (decide (x5435 < (p0.w.length : Int)))] [] (by kernel_rfl) (trivial) ?_
    refine RW.nil ?_
    refine WPK.seq ?_
    by_cases h5459 : x5435 < (p0.w.length : Int)
    · have hf := iteT h5459 hf
      refine WPK.condT (Eq.trans (b := .bool (decide (x5435 < (p0.w.length : Int)))) (by kernel_rfl) (bo_t h5459)) ?_
      refine WPK.skip ?_
      refine WPK.seq ?_
      refine WPK.block ?_
      refine WPK.seq ?_
      refine WPK.region ?_
      refine RW.seg hT 2 [] [] [.int .i64 x5435, .int .i64 x5435] [] (by kernel_rfl) (trivial) ?_
      refine RW.nil ?_
      refine WPK.region ?_
      obtain ⟨x5460, hx5461, hf⟩ := bindS hf
      obtain ⟨h5462, hx5461⟩ := getS hx5461
      obtain ⟨b5463, rfl⟩ := (St.elem s (i := 1) rfl hn5334 rp5335 hx5461).1
      obtain ⟨-, cs5465, hr5466, ha5467⟩ := St.elem s (i := 1) rfl hn5334 rp5335 hx5461
      replace ha5467 := ha5467 _ rfl
      obtain rfl : cs5465 = [.int .u64 x5460] := hr5466
      refine RW.seg hT 8 [.slice (some ⟨b5463, 0, none⟩) n5331 c5332, .int .u64 x5460] [] [.int .i64 x5434, .pointer (some ⟨b5329, 0, none⟩), .pointer (some ⟨b5329, 0, none⟩), .pointer (some ⟨b5329, 1, none⟩), .slice (some ⟨b5463, 0, none⟩) n5331 c5332, .int .i64 x5435, .pointer (some ⟨b5463, 0 + x5435.toNat * 1, none⟩), .int .u64 x5460] [.cell ⟨b5329, 1, none⟩ (.slice (some ⟨b5463, 0, none⟩) n5331 c5332), .idx x5435 n5331, .cell ⟨b5463, 0 + x5435.toNat * 1, none⟩ (.int .u64 x5460)] (by kernel_rfl) (⟨s.cell (i := 0) (off := 1) rfl rfl, (by rw [hn5334]; exact h5462), ha5467 0 _ rfl⟩) ?_
      obtain ⟨x5468, hx5469, hf⟩ := bindS hf
      refine RW.op (by kernel_rfl) (OK.call' en35 (by kernel_rfl) (c35 (F := (.blk b5329 (.cells #[.int .i64 p0.n, .slice (some ⟨b5463, 0, none⟩) n5331 c5332] 53 (0, 0))) :: (.sl (.slice (some ⟨b5463, 0, none⟩) n5331 c5332) 61 1 n5331 cl5333) :: F) x5460 s hx5469) ?_)
      intro X5472 hX5473
      refine fun _ _ hJ => hJ X5472 ?_
      intro I5474 w5470 s k5471
      refine hX5473 _ _ ?_
      replace rp5335 := rp5335.st k5471
      replace kk := kk.trans k5471
      refine RW.seg hT 2 [] [] [.int .i64 (IntKind.i64.wrap (x5434 + x5468)), .int .i64 (IntKind.i64.wrap (x5434 + x5468))] [] (by kernel_rfl) (trivial) ?_
      refine RW.nil ?_
      refine WPK.region ?_
      refine RW.seg hT 2 [] [] [.int .i64 (IntKind.i64.wrap (x5435 + 1)), .int .i64 (IntKind.i64.wrap (x5435 + 1))] [] (by kernel_rfl) (trivial) ?_
      refine RW.nil ?_
      subst hrec5457
      exact ⟨n5456, Nat.le_refl _, fun X h => kc (by kernel_rfl) rfl (h I5474 (IntKind.i64.wrap (x5434 + x5468)) (IntKind.i64.wrap (x5435 + 1)) [(D5433.getD 0 undef), .int .i64 x5435, (D5433.getD 2 undef), (D5433.getD 3 undef), (D5433.getD 4 undef), (D5433.getD 5 undef), (D5433.getD 6 undef), (D5433.getD 7 undef), (D5433.getD 8 undef), .bool (decide (x5435 < (p0.w.length : Int))), .int .i64 x5435, .int .i64 x5434, .pointer (some ⟨b5329, 0, none⟩), .pointer (some ⟨b5329, 0, none⟩), .pointer (some ⟨b5329, 1, none⟩), .slice (some ⟨b5463, 0, none⟩) n5331 c5332, .int .i64 x5435, .pointer (some ⟨b5463, 0 + x5435.toNat * 1, none⟩), .int .u64 x5460, .int .i64 x5468, .int .i64 (IntKind.i64.wrap (x5434 + x5468)), .int .i64 (IntKind.i64.wrap (x5435 + 1))] _ hf s kk rp5335)⟩
    · have hf := iteF h5459 hf
      refine WPK.condF (Eq.trans (b := .bool (decide (x5435 < (p0.w.length : Int)))) (by kernel_rfl) (bo_f h5459)) ?_
      refine WPK.exit (blockQ.same ?_)
      refine WPK.seq ?_
      refine WPK.region ?_
      refine RW.seg hT 2 [] [] [.int .i64 x5434, .int .i64 x5434] [] (by kernel_rfl) (trivial) ?_
      refine RW.nil ?_
      refine WPK.ret (?_)
      obtain rfl := someS hf
      refine Fin.of (rs := [.tmp 2]) hT [] (.int .i64 x5434) [] rfl (by kernel_rfl) (trivial) ?_
      exact fun X h => vc rfl (h I5437 _ s kk)
theorem c15 {w0 w : World} {M I : Nat → Prop} {F : List It} (p0 : T_extent_Set) (p1 : Int) (b6188 : Nat) (A6189 : Option Addr) (n6190 : Nat) (c6191 : Nat) (cl6192 : List Value) (hn6193 : n6190 = p0.w.length) (rp6194 : RepL (Rp.int .u64) I w cl6192 p0.w) (eg0 : Elems (Rp.int .u8) I w (some ⟨0, 0, none⟩) TAB0) (s : St w0 M I ((.blk b6188 (.cells #[.int .i64 p0.n, .slice A6189 n6190 c6191] 53 (0, 0))) :: (.sl (.slice A6189 n6190 c6191) 61 1 n6190 cl6192) :: F) w) {r : Int} (hf : g15 p0 p1 = some r) :
    Ret Tryd.prog 15 [.pointer (some ⟨b6188, 0, none⟩), .int .i64 p1] w fun v wz => ∀ X : Value → World → Prop, (∀ (I' : Nat → Prop) (w' : World), St w0 M I' ((.blk b6188 (.cells #[.int .i64 p0.n, .slice A6189 n6190 c6191] 53 (0, 0))) :: (.sl (.slice A6189 n6190 c6191) 61 1 n6190 cl6192) :: F) w' → Kp I w I' w' → X (.int .i64 r) w') → X v wz := by
  have kk : Kp I w I w := Kp.refl
  unfold g15 at hf
  refine Ret.of Tryd.func15 rfl ?_
  refine WPK.seq ?_
  refine WPK.region ?_
  refine RW.op (by kernel_rfl) (OK.new hT (f := fun b => .pointer (some ⟨b, 0, none⟩)) (cs := [.int .i64 p1]) (e := 3) (c := .tt) s (by kernel_rfl) trivial ?_)
  rintro w6196 b6197 s k6198 -
  replace rp6194 := rp6194.st k6198
  replace eg0 := eg0.st k6198
  replace kk := kk.trans k6198
  refine RW.seg hT 1 [] [] [.int .i64 0] [] (by kernel_rfl) (trivial) ?_
  refine RW.nil ?_
  refine WPK.scope ?_
  refine WPK.seq ?_
  refine WPK.region ?_
  refine RW.op (by kernel_rfl) (OK.new hT (f := fun b => .pointer (some ⟨b, 0, none⟩)) (cs := [.int .i64 0]) (e := 3) (c := .tt) s (by kernel_rfl) trivial ?_)
  rintro w6199 b6200 s k6201 -
  replace rp6194 := rp6194.st k6201
  replace eg0 := eg0.st k6201
  replace kk := kk.trans k6201
  refine RW.op (by kernel_rfl) (OK.store hT (i := 0) (b := b6200) (off := 0) (n := 1) (vs := [.int .i64 (-1)]) (cs := [.int .i64 0]) (e := 3) s (by kernel_rfl) rfl rfl (flat_ok rfl) (Nat.le_of_ble_eq_true rfl) ?_)
  rintro w6202 s k6203 -
  replace rp6194 := rp6194.st k6203
  replace eg0 := eg0.st k6203
  replace kk := kk.trans k6203
  refine RW.nil ?_
  refine WPK.seq ?_
  refine WPK.seq ?_
  refine WPK.region ?_
  refine RW.seg hT 2 [.int .i64 p1] [] [.int .i64 p1, .bool (decide (p1 < 1))] [.cell ⟨b6197, 0, none⟩ (.int .i64 p1)] (by kernel_rfl) (s.cell (i := 1) (off := 0) rfl rfl) ?_
  refine RW.nil ?_
  by_cases h6205 : p1 < 1
  · have hf := iteT h6205 hf
    refine WPK.condT (Eq.trans (b := .bool (decide (p1 < 1))) (by kernel_rfl) (bo_t h6205)) ?_
    refine WPK.seq ?_
    refine WPK.region ?_
    refine RW.seg hT 2 [.int .i64 (-1)] [] [.int .i64 (-1), .int .i64 (-1)] [.cell ⟨b6200, 0, none⟩ (.int .i64 (-1))] (by kernel_rfl) (s.cell (i := 0) (off := 0) rfl rfl) ?_
    refine RW.nil ?_
    refine WPK.ret (scopeQ.ret (?_))
    obtain rfl := someS hf
    refine Fin.of (rs := [.tmp 4]) hT [] (.int .i64 (-1)) [] rfl (by kernel_rfl) (trivial) ?_
    replace s := s.pick [2, 3] 4 rfl
    exact fun X h => vc rfl (h I _ s kk)
  · have hf := iteF h6205 hf
    refine WPK.condF (Eq.trans (b := .bool (decide (p1 < 1))) (by kernel_rfl) (bo_f h6205)) ?_
    refine WPK.skip ?_
    refine WPK.seq ?_
    refine WPK.label ?_
    refine WPK.seq ?_
    refine WPK.cut' (fun E ds wz => ∀ X : Kont, (∀ (I6549 : Nat → Prop) (x6547 : Int) (d6545 : Nat) (D6546 : List Value) (w' : World), g15_j1 x6547 = some r → St w0 M I6549 ((.blk b6188 (.cells #[.int .i64 p0.n, .slice A6189 n6190 c6191] 53 (0, 0))) :: (.sl (.slice A6189 n6190 c6191) 61 1 n6190 cl6192) :: (.blk b6200 (.cells #[.int .i64 x6547] 3 (0, 0))) :: (.blk d6545 (.deferred (some []))) :: F) w' → Kp I w I6549 w' → RepL (Rp.int .u64) I6549 w' cl6192 p0.w → Elems (Rp.int .u8) I6549 w' (some ⟨0, 0, none⟩) TAB0 → X [(D6546.getD 0 undef), (D6546.getD 1 undef), (D6546.getD 2 undef), (D6546.getD 3 undef), .int .i64 0, .pointer (some ⟨b6200, 0, none⟩), (D6546.getD 4 undef), (D6546.getD 5 undef), (D6546.getD 6 undef), (D6546.getD 7 undef), (D6546.getD 8 undef), (D6546.getD 9 undef), (D6546.getD 10 undef), (D6546.getD 11 undef), (D6546.getD 12 undef), (D6546.getD 13 undef), (D6546.getD 14 undef), (D6546.getD 15 undef), (D6546.getD 16 undef), undef] [mk d6545] w') → X E ds wz) ?_ ?_
    · intro X6552 hX6553
      refine fun _ _ _ hJ => hJ X6552 ?_
      intro I6549 x6547 d6545 D6546 w6548 hf s kk rp6194 eg0
      refine hX6553 _ _ _ ?_
      unfold g15_j1 at hf
      refine WPK.seq ?_
      refine WPK.region ?_
      refine RW.seg hT 2 [.int .i64 x6547] [] [.int .i64 x6547, .int .i64 x6547] [.cell ⟨b6200, 0, none⟩ (.int .i64 x6547)] (by kernel_rfl) (s.cell (i := 2) (off := 0) rfl rfl) ?_
      refine RW.nil ?_
      refine WPK.ret (scopeQ.ret (?_))
      obtain rfl := someS hf
      refine Fin.mark (i := 3) s rfl ?_
      intro w6550 s k6551
      replace rp6194 := rp6194.st k6551
      replace eg0 := eg0.st k6551
      replace kk := kk.trans k6551
      refine Fin.of (rs := [.tmp 4]) hT [] (.int .i64 x6547) [] rfl (by kernel_rfl) (trivial) ?_
      replace s := s.pick [0, 1] 3 rfl
      exact fun X h => vc rfl (h I6549 _ s kk)
    · refine WPK.seq ?_
      refine WPK.region ?_
      refine RW.seg hT 1 [] [] [.pointer (some ⟨b6188, 0, none⟩)] [] (by kernel_rfl) (trivial) ?_
      refine RW.op (by kernel_rfl) (OK.inl (args := [.pointer (some ⟨b6188, 0, none⟩)]) en12 (by kernel_rfl) ?_)
      intro R6554 hR6555
      refine Ret.of Tryd.func12 rfl ?_
      refine WPK.seq ?_
      refine WPK.region ?_
      refine RW.op (by kernel_rfl) (OK.new hT (f := fun b => .pointer (some ⟨b, 0, none⟩)) (cs := [.pointer (some ⟨b6188, 0, none⟩)]) (e := 25) (c := .tt) s (by kernel_rfl) trivial ?_)
      rintro w6559 b6560 s k6561 -
      replace rp6194 := rp6194.st k6561
      replace eg0 := eg0.st k6561
      replace kk := kk.trans k6561
      refine RW.seg hT 1 [] [] [.nilFunc] [] (by kernel_rfl) (trivial) ?_
      refine RW.nil ?_
      refine WPK.seq ?_
      refine WPK.region ?_
      refine RW.seg hT 2 [] [] [.func (.func 31) #[] #[.pointer (some ⟨b6560, 0, none⟩)], .func (.func 31) #[] #[.pointer (some ⟨b6560, 0, none⟩)]] [] (by kernel_rfl) (trivial) ?_
      refine RW.nil ?_
      refine WPK.ret (?_)
      refine Fin.of (rs := [.tmp 2]) hT [] (.func (.func 31) #[] #[.pointer (some ⟨b6560, 0, none⟩)]) [] rfl (by kernel_rfl) (trivial) ?_
      refine hR6555 _ _ ?_
      refine RW.nil ?_
      refine WPK.block ?_
      refine WPK.range (gf := 31) (first := []) (cap := [.pointer (some ⟨b6560, 0, none⟩)]) s (by kernel_rfl) en31 ?_
      intro l6562 d6563 rec6564 w6566 R6568 hrec6565 s k6567 hR6569
      replace rp6194 := rp6194.st k6567
      replace eg0 := eg0.st k6567
      replace kk := kk.trans k6567
      refine Ret.of Tryd.func31 rfl ?_
      refine WPK.seq ?_
      refine WPK.region ?_
      refine RW.seg hT 1 [.pointer (some ⟨b6188, 0, none⟩)] [] [.pointer (some ⟨b6188, 0, none⟩)] [.cell ⟨b6560, 0, none⟩ (.pointer (some ⟨b6188, 0, none⟩))] (by kernel_rfl) (s.cell (i := 2) (off := 0) rfl rfl) ?_
      replace s := s.pick [5, 6, 0, 1, 2, 3, 4] 7 rfl
      obtain ⟨x6570, hx6571, hf⟩ := bindS hf
      refine RW.op (by kernel_rfl) (OK.call' en16 (by kernel_rfl) (c16 (F := (.blk l6562 (rec6564 .ready none)) :: (.blk d6563 (.deferred (some []))) :: (.blk b6560 (.cells #[.pointer (some ⟨b6188, 0, none⟩)] 25 (0, 0))) :: (.blk b6200 (.cells #[.int .i64 (-1)] 3 (0, 0))) :: (.blk b6197 (.cells #[.int .i64 p1] 3 (0, 0))) :: F) p0 b6188 A6189 n6190 c6191 cl6192 hn6193 rp6194 s hx6571) ?_)
      intro X6574 hX6575
      refine fun _ _ hJ => hJ X6574 ?_ ?_
      · intro I6576 w6572 hv s k6573
        refine hX6575 _ _ ?_
        replace hf := optN hv hf
        replace rp6194 := rp6194.st k6573
        replace eg0 := eg0.st k6573
        replace kk := kk.trans k6573
        refine RW.seg hT 1 [] [] [.pointer none] [] (by kernel_rfl) (trivial) ?_
        refine RW.nil ?_
        refine WPK.seq ?_
        refine WPK.region ?_
        refine RW.seg hT 1 [.pointer (some ⟨b6188, 0, none⟩)] [] [.pointer (some ⟨b6188, 0, none⟩)] [.cell ⟨b6560, 0, none⟩ (.pointer (some ⟨b6188, 0, none⟩))] (by kernel_rfl) (s.cell (i := 4) (off := 0) rfl rfl) ?_
        obtain ⟨x6587, hx6588, hf⟩ := bindS hf
        refine RW.op (by kernel_rfl) (OK.call' en27 (by kernel_rfl) (c27 (F := (.blk l6562 (rec6564 .ready none)) :: (.blk d6563 (.deferred (some []))) :: (.blk b6560 (.cells #[.pointer (some ⟨b6188, 0, none⟩)] 25 (0, 0))) :: (.blk b6200 (.cells #[.int .i64 (-1)] 3 (0, 0))) :: (.blk b6197 (.cells #[.int .i64 p1] 3 (0, 0))) :: F) p0 0 b6188 A6189 n6190 c6191 cl6192 hn6193 rp6194 eg0 s hx6588) ?_)
        intro X6591 hX6592
        refine fun _ _ hJ => hJ X6591 ?_
        intro I6593 w6589 s k6590
        refine hX6592 _ _ ?_
        replace rp6194 := rp6194.st k6590
        replace eg0 := eg0.st k6590
        replace kk := kk.trans k6590
        refine RW.seg hT 1 [] [] [.int .i64 x6587] [] (by kernel_rfl) (trivial) ?_
        refine RW.nil ?_
        refine WPK.block ?_
        refine WPK.loop' (J := fun n6688 E ds wz => ∀ X : Kont, (∀ (I6642 : Nat → Prop) (x6640 : Int) (D6639 : List Value) (w' : World), g15_l2 p0 p1 n6688 x6640 = some r → St w0 M I6642 ((.blk b6188 (.cells #[.int .i64 p0.n, .slice A6189 n6190 c6191] 53 (0, 0))) :: (.sl (.slice A6189 n6190 c6191) 61 1 n6190 cl6192) :: (.blk l6562 (rec6564 .ready none)) :: (.blk d6563 (.deferred (some []))) :: (.blk b6560 (.cells #[.pointer (some ⟨b6188, 0, none⟩)] 25 (0, 0))) :: (.blk b6200 (.cells #[.int .i64 (-1)] 3 (0, 0))) :: (.blk b6197 (.cells #[.int .i64 p1] 3 (0, 0))) :: F) w' → Kp I w I6642 w' → RepL (Rp.int .u64) I6642 w' cl6192 p0.w → Elems (Rp.int .u8) I6642 w' (some ⟨0, 0, none⟩) TAB0 → X [.func (.yield l6562) #[] #[], .pointer (some ⟨b6560, 0, none⟩), (D6639.getD 0 undef), .pointer none, .int .i64 x6640, (D6639.getD 1 undef), (D6639.getD 2 undef), (D6639.getD 3 undef), (D6639.getD 4 undef), (D6639.getD 5 undef), (D6639.getD 6 undef), (D6639.getD 7 undef), (D6639.getD 8 undef), (D6639.getD 9 undef), (D6639.getD 10 undef), (D6639.getD 11 undef), (D6639.getD 12 undef), (D6639.getD 13 undef), (D6639.getD 14 undef), (D6639.getD 15 undef), (D6639.getD 16 undef), (D6639.getD 17 undef), (D6639.getD 18 undef), (D6639.getD 19 undef), (D6639.getD 20 undef), (D6639.getD 21 undef), (D6639.getD 22 undef), (D6639.getD 23 undef), (D6639.getD 24 undef), (D6639.getD 25 undef), (D6639.getD 26 undef)] [] w') → X E ds wz) FUEL (fun X h => kc (by kernel_rfl) rfl (h I6593 x6587 [undef, undef, .pointer (some ⟨b6188, 0, none⟩), .pointer none, .pointer (some ⟨b6188, 0, none⟩), .int .i64 x6587, undef, undef, undef, undef, undef, undef, undef, undef, undef, undef, undef, undef, undef, undef, undef, undef, undef, undef, undef, undef, undef] _ hf s kk rp6194 eg0)) (fun _ _ _ hJ => hJ (fun _ _ _ => False) (by intro I6642 x6640 D6639 w6641 hf s kk rp6194 eg0; exact noneS hf)) ?_
        intro X6738 hX6739
        refine fun n6688 _ _ _ hJ => hJ (X6738 n6688) ?_
        intro I6642 x6640 D6639 w6641 hf s kk rp6194 eg0
        refine hX6739 _ _ _ _ ?_
        replace hf : g15_l2B p0 p1 (g15_l2 p0 p1 n6688) x6640 = some r := hf
        generalize hrec6689 : g15_l2 p0 p1 n6688 = rec6687 at hf
        unfold g15_l2B at hf
        refine WPK.seq ?_
        refine WPK.seq ?_
        refine WPK.region ?_
        refine RW.seg hT 2 [] [] [.int .i64 x6640, .bool (decide (x6640 ≥ 0))] [] (by kernel_rfl) (trivial) ?_
        refine RW.nil ?_
        by_cases h6691 : x6640 ≥ 0
        · have hf := iteT h6691 hf
          refine WPK.condT (Eq.trans (b := .bool (decide (x6640 ≥ 0))) (by kernel_rfl) (bo_t h6691)) ?_
          refine WPK.skip ?_
          refine WPK.block ?_
          refine WPK.seq ?_
          refine WPK.region ?_
          refine RW.seg hT 2 [] [] [.pointer none, .int .i64 x6640] [] (by kernel_rfl) (trivial) ?_
          obtain ⟨x6692, hx6693, hf⟩ := bindS hf
          refine RW.op (by kernel_rfl) (OK.call' en27 (by kernel_rfl) (c27_1 (F := (.blk b6188 (.cells #[.int .i64 p0.n, .slice A6189 n6190 c6191] 53 (0, 0))) :: (.sl (.slice A6189 n6190 c6191) 61 1 n6190 cl6192) :: (.blk l6562 (rec6564 .ready none)) :: (.blk d6563 (.deferred (some []))) :: (.blk b6560 (.cells #[.pointer (some ⟨b6188, 0, none⟩)] 25 (0, 0))) :: (.blk b6200 (.cells #[.int .i64 (-1)] 3 (0, 0))) :: (.blk b6197 (.cells #[.int .i64 p1] 3 (0, 0))) :: F) x6640 s hx6693) ?_)
          intro X6696 hX6697
          refine fun _ _ hJ => hJ X6696 ?_
          intro I6698 w6694 s k6695
          refine hX6697 _ _ ?_
          replace rp6194 := rp6194.st k6695
          replace eg0 := eg0.st k6695
          replace kk := kk.trans k6695
          refine RW.seg hT 1 [] [] [.int .i64 x6692] [] (by kernel_rfl) (trivial) ?_
          refine RW.nil ?_
          refine WPK.seq ?_
          refine WPK.cut' (fun E ds wz => ∀ X : Kont, (∀ (x6701 : Int) (D6700 : List Value), g15_j3 p0 p1 x6640 rec6687 x6701 = some r → X [.func (.yield l6562) #[] #[], .pointer (some ⟨b6560, 0, none⟩), (D6700.getD 0 undef), .pointer none, .int .i64 x6640, .int .i64 x6701, (D6700.getD 1 undef), (D6700.getD 2 undef), (D6700.getD 3 undef), (D6700.getD 4 undef), .int .i64 x6640, .bool (decide (x6640 ≥ 0)), (D6700.getD 5 undef), (D6700.getD 6 undef), .int .i64 x6692, .int .i64 x6692, .bool (decide (x6692 < 0)), (D6700.getD 7 undef), (D6700.getD 8 undef), (D6700.getD 9 undef), (D6700.getD 10 undef), (D6700.getD 11 undef), (D6700.getD 12 undef), (D6639.getD 19 undef), (D6639.getD 20 undef), (D6700.getD 13 undef), (D6639.getD 22 undef), (D6639.getD 23 undef), (D6700.getD 14 undef), (D6700.getD 15 undef), (D6639.getD 26 undef)] [] w6694) → X E ds wz) ?_ ?_
          · intro X6733 hX6734
            refine fun _ _ _ hJ => hJ X6733 ?_
            intro x6701 D6700 hf
            refine hX6734 _ _ _ ?_
            unfold g15_j3 at hf
            refine WPK.seq ?_
            refine WPK.seq ?_
            refine WPK.region ?_
            refine RW.seg hT 5 [] [] [.func (.yield l6562) #[] #[], .int .i64 x6640, .int .i64 x6701, .int .i64 x6640, .int .i64 (IntKind.i64.wrap (x6701 - x6640))] [] (by kernel_rfl) (trivial) ?_
            refine RW.op (by kernel_rfl) (OK.yield (args := [.int .i64 x6640, .int .i64 (IntKind.i64.wrap (x6701 - x6640))]) hrec6565 s (i := 2) rfl (by kernel_rfl) rfl ?_)
            intro R6713 hR6714
            refine WPK.seq ?_
            refine WPK.region ?_
            refine RW.seg hT 1 [] [] [.int .i64 x6640] [] (by kernel_rfl) (trivial) ?_
            refine RW.nil ?_
            refine WPK.region ?_
            refine RW.seg hT 1 [] [] [.int .i64 (IntKind.i64.wrap (x6701 - x6640))] [] (by kernel_rfl) (trivial) ?_
            refine RW.nil ?_
            refine RoundBeg.of hrec6565 s (i := 2) rfl ?_
            intro w6715 s k6716
            replace rp6194 := rp6194.st k6716
            replace eg0 := eg0.st k6716
            replace kk := kk.trans k6716
            refine WPK.block ?_
            refine WPK.seq ?_
            refine WPK.region ?_
            refine RW.seg hT 3 [.int .i64 p1] [] [.int .i64 (IntKind.i64.wrap (x6701 - x6640)), .int .i64 p1, .bool (decide ((IntKind.i64.wrap (x6701 - x6640)) ≥ p1))] [.cell ⟨b6197, 0, none⟩ (.int .i64 p1)] (by kernel_rfl) (s.cell (i := 6) (off := 0) rfl rfl) ?_
            refine RW.nil ?_
            by_cases h6717 : (IntKind.i64.wrap (x6701 - x6640)) ≥ p1
            · have hf := iteT h6717 hf
              refine WPK.condT (Eq.trans (b := .bool (decide ((IntKind.i64.wrap (x6701 - x6640)) ≥ p1))) (by kernel_rfl) (bo_t h6717)) ?_
              refine WPK.seq ?_
              refine WPK.region ?_
              refine RW.seg hT 1 [] [] [.int .i64 x6640] [] (by kernel_rfl) (trivial) ?_
              refine RW.op (by kernel_rfl) (OK.store hT (i := 5) (b := b6200) (off := 0) (n := 1) (vs := [.int .i64 x6640]) (cs := [.int .i64 (-1)]) (e := 3) s (by kernel_rfl) rfl rfl (flat_ok rfl) (Nat.le_of_ble_eq_true rfl) ?_)
              rintro w6718 s k6719 -
              replace rp6194 := rp6194.st k6719
              replace eg0 := eg0.st k6719
              replace kk := kk.trans k6719
              refine RW.nil ?_
              refine WPK.exit (blockQ.other rfl (?_))
              refine RoundEnd.stop (Code.exit 0) hrec6565 s (i := 2) rfl ?_
              intro w6720 s k6721
              replace rp6194 := rp6194.st k6721
              replace eg0 := eg0.st k6721
              replace kk := kk.trans k6721
              refine hR6714 _ _ ?_
              refine RW.seg hT 1 [] [] [.bool true] [] (by kernel_rfl) (trivial) ?_
              refine RW.nil ?_
              refine WPK.condT (by kernel_rfl) ?_
              refine WPK.ret (blockQ.ret (blockQ.ret (?_)))
              refine Fin.of (rs := []) hT [] (.tuple #[]) [] rfl (by kernel_rfl) (trivial) ?_
              refine hR6569 _ _ (RangeEnd.jump hrec6565 s (i := 2) rfl ?_)
              intro w6722 s k6723
              replace rp6194 := rp6194.st k6723
              replace eg0 := eg0.st k6723
              replace kk := kk.trans k6723
              refine WPK.exit (blockQ.same ?_)
              replace s := s.pick [0, 1, 4, 2] 6 rfl
              exact fun X h => kc (by kernel_rfl) rfl (h I6698 x6640 d6563 [.pointer (some ⟨b6188, 0, none⟩), .int .i64 p1, undef, .pointer (some ⟨b6197, 0, none⟩), undef, undef, .int .i64 p1, .bool (decide (p1 < 1)), undef, .pointer (some ⟨b6188, 0, none⟩), .func (.func 31) #[] #[.pointer (some ⟨b6560, 0, none⟩)], undef, undef, undef, undef, undef, undef] _ hf s kk rp6194 eg0)
            · have hf := iteF h6717 hf
              refine WPK.condF (Eq.trans (b := .bool (decide ((IntKind.i64.wrap (x6701 - x6640)) ≥ p1))) (by kernel_rfl) (bo_f h6717)) ?_
              refine WPK.skip ?_
              refine RoundEnd.next hrec6565 s (i := 2) rfl ?_
              intro w6724 s k6725
              replace rp6194 := rp6194.st k6725
              replace eg0 := eg0.st k6725
              replace kk := kk.trans k6725
              refine hR6714 _ _ ?_
              refine RW.seg hT 1 [] [] [.bool false] [] (by kernel_rfl) (trivial) ?_
              refine RW.nil ?_
              refine WPK.condF (by kernel_rfl) ?_
              refine WPK.skip ?_
              refine WPK.region ?_
              refine RW.seg hT 2 [.pointer (some ⟨b6188, 0, none⟩)] [] [.pointer (some ⟨b6188, 0, none⟩), .int .i64 x6701] [.cell ⟨b6560, 0, none⟩ (.pointer (some ⟨b6188, 0, none⟩))] (by kernel_rfl) (s.cell (i := 4) (off := 0) rfl rfl) ?_
              obtain ⟨x6726, hx6727, hf⟩ := bindS hf
              refine RW.op (by kernel_rfl) (OK.call' en27 (by kernel_rfl) (c27 (F := (.blk l6562 (rec6564 .ready none)) :: (.blk d6563 (.deferred (some []))) :: (.blk b6560 (.cells #[.pointer (some ⟨b6188, 0, none⟩)] 25 (0, 0))) :: (.blk b6200 (.cells #[.int .i64 (-1)] 3 (0, 0))) :: (.blk b6197 (.cells #[.int .i64 p1] 3 (0, 0))) :: F) p0 x6701 b6188 A6189 n6190 c6191 cl6192 hn6193 rp6194 eg0 s hx6727) ?_)
              intro X6730 hX6731
              refine fun _ _ hJ => hJ X6730 ?_
              intro I6732 w6728 s k6729
              refine hX6731 _ _ ?_
              replace rp6194 := rp6194.st k6729
              replace eg0 := eg0.st k6729
              replace kk := kk.trans k6729
              refine RW.seg hT 1 [] [] [.int .i64 x6726] [] (by kernel_rfl) (trivial) ?_
              refine RW.nil ?_
              subst hrec6689
              exact ⟨n6688, Nat.le_refl _, fun X h => kc (by kernel_rfl) rfl (h I6732 x6726 [(D6700.getD 0 undef), .int .i64 x6701, (D6700.getD 1 undef), (D6700.getD 2 undef), (D6700.getD 3 undef), (D6700.getD 4 undef), .int .i64 x6640, .bool (decide (x6640 ≥ 0)), (D6700.getD 5 undef), (D6700.getD 6 undef), .int .i64 x6692, .int .i64 x6692, .bool (decide (x6692 < 0)), (D6700.getD 7 undef), (D6700.getD 8 undef), (D6700.getD 9 undef), (D6700.getD 10 undef), .func (.yield l6562) #[] #[], .int .i64 x6640, .int .i64 x6701, .int .i64 x6640, .int .i64 (IntKind.i64.wrap (x6701 - x6640)), .bool true, .bool false, .pointer (some ⟨b6188, 0, none⟩), .int .i64 x6701, .int .i64 x6726] _ hf s kk rp6194 eg0)⟩
          · refine WPK.seq ?_
            refine WPK.region ?_
            refine RW.seg hT 2 [] [] [.int .i64 x6692, .bool (decide (x6692 < 0))] [] (by kernel_rfl) (trivial) ?_
            refine RW.nil ?_
            by_cases h6735 : x6692 < 0
            · have hf := iteT h6735 hf
              refine WPK.condT (Eq.trans (b := .bool (decide (x6692 < 0))) (by kernel_rfl) (bo_t h6735)) ?_
              refine WPK.region ?_
              refine RW.seg hT 5 [.pointer (some ⟨b6188, 0, none⟩), .int .i64 p0.n] [] [.pointer (some ⟨b6188, 0, none⟩), .pointer (some ⟨b6188, 0, none⟩), .pointer (some ⟨b6188, 0, none⟩), .int .i64 p0.n, .int .i64 p0.n] [.cell ⟨b6560, 0, none⟩ (.pointer (some ⟨b6188, 0, none⟩)), .cell ⟨b6188, 0, none⟩ (.int .i64 p0.n)] (by kernel_rfl) (⟨s.cell (i := 4) (off := 0) rfl rfl, s.cell (i := 0) (off := 0) rfl rfl⟩) ?_
              refine RW.nil ?_
              exact fun X h => kc (by kernel_rfl) rfl (h p0.n [(D6639.getD 0 undef), (D6639.getD 2 undef), (D6639.getD 3 undef), (D6639.getD 4 undef), (D6639.getD 5 undef), .pointer none, .int .i64 x6640, .pointer (some ⟨b6188, 0, none⟩), .pointer (some ⟨b6188, 0, none⟩), .pointer (some ⟨b6188, 0, none⟩), .int .i64 p0.n, (D6639.getD 17 undef), (D6639.getD 18 undef), (D6639.getD 21 undef), (D6639.getD 24 undef), (D6639.getD 25 undef)] hf)
            · have hf := iteF h6735 hf
              refine WPK.condF (Eq.trans (b := .bool (decide (x6692 < 0))) (by kernel_rfl) (bo_f h6735)) ?_
              refine WPK.skip ?_
              exact fun X h => kc (by kernel_rfl) rfl (h x6692 [(D6639.getD 0 undef), (D6639.getD 2 undef), (D6639.getD 3 undef), (D6639.getD 4 undef), (D6639.getD 5 undef), .pointer none, .int .i64 x6640, (D6639.getD 13 undef), (D6639.getD 14 undef), (D6639.getD 15 undef), (D6639.getD 16 undef), (D6639.getD 17 undef), (D6639.getD 18 undef), (D6639.getD 21 undef), (D6639.getD 24 undef), (D6639.getD 25 undef)] hf)
        · have hf := iteF h6691 hf
          refine WPK.condF (Eq.trans (b := .bool (decide (x6640 ≥ 0))) (by kernel_rfl) (bo_f h6691)) ?_
          refine WPK.exit (blockQ.same ?_)
          refine Fin.of (rs := []) hT [] (.tuple #[]) [] rfl (by kernel_rfl) (trivial) ?_
          refine hR6569 _ _ (RangeEnd.done hrec6565 s (i := 2) rfl ?_)
          intro w6736 s k6737
          replace rp6194 := rp6194.st k6737
          replace eg0 := eg0.st k6737
          replace kk := kk.trans k6737
          replace s := s.pick [0, 1, 4, 2] 6 rfl
          exact fun X h => kc (by kernel_rfl) rfl (h I6642 (-1) d6563 [.pointer (some ⟨b6188, 0, none⟩), .int .i64 p1, undef, .pointer (some ⟨b6197, 0, none⟩), undef, undef, .int .i64 p1, .bool (decide (p1 < 1)), undef, .pointer (some ⟨b6188, 0, none⟩), .func (.func 31) #[] #[.pointer (some ⟨b6560, 0, none⟩)], undef, undef, undef, undef, undef, undef] _ hf s kk rp6194 eg0)
      · intro x6578 I6577 b6579 A6580 n6581 c6582 cl6583 w6572 hv s k6573 hn6584 rp6585
        refine hX6575 _ _ ?_
        replace hf := optS hv hf
        replace rp6194 := rp6194.st k6573
        replace eg0 := eg0.st k6573
        replace kk := kk.trans k6573
        refine RW.seg hT 1 [] [] [.pointer (some ⟨b6579, 0, none⟩)] [] (by kernel_rfl) (trivial) ?_
        refine RW.nil ?_
        refine WPK.seq ?_
        refine WPK.region ?_
        refine RW.seg hT 1 [.pointer (some ⟨b6188, 0, none⟩)] [] [.pointer (some ⟨b6188, 0, none⟩)] [.cell ⟨b6560, 0, none⟩ (.pointer (some ⟨b6188, 0, none⟩))] (by kernel_rfl) (s.cell (i := 6) (off := 0) rfl rfl) ?_
        replace s := s.pick [2, 3, 0, 1, 4, 5, 6, 7, 8] 9 rfl
        obtain ⟨x6740, hx6741, hf⟩ := bindS hf
        refine RW.op (by kernel_rfl) (OK.call' en27 (by kernel_rfl) (c27 (F := (.blk b6579 (.cells #[.int .i64 x6578.n, .slice A6580 n6581 c6582] 53 (0, 0))) :: (.sl (.slice A6580 n6581 c6582) 61 1 n6581 cl6583) :: (.blk l6562 (rec6564 .ready none)) :: (.blk d6563 (.deferred (some []))) :: (.blk b6560 (.cells #[.pointer (some ⟨b6188, 0, none⟩)] 25 (0, 0))) :: (.blk b6200 (.cells #[.int .i64 (-1)] 3 (0, 0))) :: (.blk b6197 (.cells #[.int .i64 p1] 3 (0, 0))) :: F) p0 0 b6188 A6189 n6190 c6191 cl6192 hn6193 rp6194 eg0 s hx6741) ?_)
        intro X6744 hX6745
        refine fun _ _ hJ => hJ X6744 ?_
        intro I6746 w6742 s k6743
        refine hX6745 _ _ ?_
        replace rp6194 := rp6194.st k6743
        replace rp6585 := rp6585.st k6743
        replace eg0 := eg0.st k6743
        replace kk := kk.trans k6743
        refine RW.seg hT 1 [] [] [.int .i64 x6740] [] (by kernel_rfl) (trivial) ?_
        refine RW.nil ?_
        refine WPK.block ?_
        refine WPK.loop' (J := fun n6841 E ds wz => ∀ X : Kont, (∀ (I6795 : Nat → Prop) (x6793 : Int) (D6792 : List Value) (w' : World), g15_l4 p0 p1 x6578 n6841 x6793 = some r → St w0 M I6795 ((.blk b6188 (.cells #[.int .i64 p0.n, .slice A6189 n6190 c6191] 53 (0, 0))) :: (.sl (.slice A6189 n6190 c6191) 61 1 n6190 cl6192) :: (.blk b6579 (.cells #[.int .i64 x6578.n, .slice A6580 n6581 c6582] 53 (0, 0))) :: (.sl (.slice A6580 n6581 c6582) 61 1 n6581 cl6583) :: (.blk l6562 (rec6564 .ready none)) :: (.blk d6563 (.deferred (some []))) :: (.blk b6560 (.cells #[.pointer (some ⟨b6188, 0, none⟩)] 25 (0, 0))) :: (.blk b6200 (.cells #[.int .i64 (-1)] 3 (0, 0))) :: (.blk b6197 (.cells #[.int .i64 p1] 3 (0, 0))) :: F) w' → Kp I w I6795 w' → RepL (Rp.int .u64) I6795 w' cl6192 p0.w → RepL (Rp.int .u64) I6795 w' cl6583 x6578.w → Elems (Rp.int .u8) I6795 w' (some ⟨0, 0, none⟩) TAB0 → X [.func (.yield l6562) #[] #[], .pointer (some ⟨b6560, 0, none⟩), (D6792.getD 0 undef), .pointer (some ⟨b6579, 0, none⟩), .int .i64 x6793, (D6792.getD 1 undef), (D6792.getD 2 undef), (D6792.getD 3 undef), (D6792.getD 4 undef), (D6792.getD 5 undef), (D6792.getD 6 undef), (D6792.getD 7 undef), (D6792.getD 8 undef), (D6792.getD 9 undef), (D6792.getD 10 undef), (D6792.getD 11 undef), (D6792.getD 12 undef), (D6792.getD 13 undef), (D6792.getD 14 undef), (D6792.getD 15 undef), (D6792.getD 16 undef), (D6792.getD 17 undef), (D6792.getD 18 undef), (D6792.getD 19 undef), (D6792.getD 20 undef), (D6792.getD 21 undef), (D6792.getD 22 undef), (D6792.getD 23 undef), (D6792.getD 24 undef), (D6792.getD 25 undef), (D6792.getD 26 undef)] [] w') → X E ds wz) FUEL (fun X h => kc (by kernel_rfl) rfl (h I6746 x6740 [undef, undef, .pointer (some ⟨b6188, 0, none⟩), .pointer (some ⟨b6579, 0, none⟩), .pointer (some ⟨b6188, 0, none⟩), .int .i64 x6740, undef, undef, undef, undef, undef, undef, undef, undef, undef, undef, undef, undef, undef, undef, undef, undef, undef, undef, undef, undef, undef] _ hf s kk rp6194 rp6585 eg0)) (fun _ _ _ hJ => hJ (fun _ _ _ => False) (by intro I6795 x6793 D6792 w6794 hf s kk rp6194 rp6585 eg0; exact noneS hf)) ?_
        intro X6891 hX6892
        refine fun n6841 _ _ _ hJ => hJ (X6891 n6841) ?_
        intro I6795 x6793 D6792 w6794 hf s kk rp6194 rp6585 eg0
        refine hX6892 _ _ _ _ ?_
        replace hf : g15_l4B p0 p1 x6578 (g15_l4 p0 p1 x6578 n6841) x6793 = some r := hf
        generalize hrec6842 : g15_l4 p0 p1 x6578 n6841 = rec6840 at hf
        unfold g15_l4B at hf
        refine WPK.seq ?_
        refine WPK.seq ?_
        refine WPK.region ?_
        refine RW.seg hT 2 [] [] [.int .i64 x6793, .bool (decide (x6793 ≥ 0))] [] (by kernel_rfl) (trivial) ?_
        refine RW.nil ?_
        by_cases h6844 : x6793 ≥ 0
        · have hf := iteT h6844 hf
          refine WPK.condT (Eq.trans (b := .bool (decide (x6793 ≥ 0))) (by kernel_rfl) (bo_t h6844)) ?_
          refine WPK.skip ?_
          refine WPK.block ?_
          refine WPK.seq ?_
          refine WPK.region ?_
          refine RW.seg hT 2 [] [] [.pointer (some ⟨b6579, 0, none⟩), .int .i64 x6793] [] (by kernel_rfl) (trivial) ?_
          replace s := s.pick [2, 3, 0, 1, 4, 5, 6, 7, 8] 9 rfl
          obtain ⟨x6845, hx6846, hf⟩ := bindS hf
          refine RW.op (by kernel_rfl) (OK.call' en27 (by kernel_rfl) (c27 (F := (.blk b6188 (.cells #[.int .i64 p0.n, .slice A6189 n6190 c6191] 53 (0, 0))) :: (.sl (.slice A6189 n6190 c6191) 61 1 n6190 cl6192) :: (.blk l6562 (rec6564 .ready none)) :: (.blk d6563 (.deferred (some []))) :: (.blk b6560 (.cells #[.pointer (some ⟨b6188, 0, none⟩)] 25 (0, 0))) :: (.blk b6200 (.cells #[.int .i64 (-1)] 3 (0, 0))) :: (.blk b6197 (.cells #[.int .i64 p1] 3 (0, 0))) :: F) x6578 x6793 b6579 A6580 n6581 c6582 cl6583 hn6584 rp6585 eg0 s hx6846) ?_)
          intro X6849 hX6850
          refine fun _ _ hJ => hJ X6849 ?_
          intro I6851 w6847 s k6848
          refine hX6850 _ _ ?_
          replace rp6585 := rp6585.st k6848
          replace rp6194 := rp6194.st k6848
          replace eg0 := eg0.st k6848
          replace kk := kk.trans k6848
          refine RW.seg hT 1 [] [] [.int .i64 x6845] [] (by kernel_rfl) (trivial) ?_
          refine RW.nil ?_
          refine WPK.seq ?_
          refine WPK.cut' (fun E ds wz => ∀ X : Kont, (∀ (x6854 : Int) (D6853 : List Value), g15_j5 p0 p1 x6793 rec6840 x6854 = some r → X [.func (.yield l6562) #[] #[], .pointer (some ⟨b6560, 0, none⟩), (D6853.getD 0 undef), .pointer (some ⟨b6579, 0, none⟩), .int .i64 x6793, .int .i64 x6854, (D6853.getD 1 undef), (D6853.getD 2 undef), (D6853.getD 3 undef), (D6853.getD 4 undef), .int .i64 x6793, .bool (decide (x6793 ≥ 0)), (D6853.getD 5 undef), (D6853.getD 6 undef), .int .i64 x6845, .int .i64 x6845, .bool (decide (x6845 < 0)), (D6853.getD 7 undef), (D6853.getD 8 undef), (D6853.getD 9 undef), (D6853.getD 10 undef), (D6853.getD 11 undef), (D6853.getD 12 undef), (D6792.getD 19 undef), (D6792.getD 20 undef), (D6853.getD 13 undef), (D6792.getD 22 undef), (D6792.getD 23 undef), (D6853.getD 14 undef), (D6853.getD 15 undef), (D6792.getD 26 undef)] [] w6847) → X E ds wz) ?_ ?_
          · intro X6886 hX6887
            refine fun _ _ _ hJ => hJ X6886 ?_
            intro x6854 D6853 hf
            refine hX6887 _ _ _ ?_
            unfold g15_j5 at hf
            refine WPK.seq ?_
            refine WPK.seq ?_
            refine WPK.region ?_
            refine RW.seg hT 5 [] [] [.func (.yield l6562) #[] #[], .int .i64 x6793, .int .i64 x6854, .int .i64 x6793, .int .i64 (IntKind.i64.wrap (x6854 - x6793))] [] (by kernel_rfl) (trivial) ?_
            refine RW.op (by kernel_rfl) (OK.yield (args := [.int .i64 x6793, .int .i64 (IntKind.i64.wrap (x6854 - x6793))]) hrec6565 s (i := 4) rfl (by kernel_rfl) rfl ?_)
            intro R6866 hR6867
            refine WPK.seq ?_
            refine WPK.region ?_
            refine RW.seg hT 1 [] [] [.int .i64 x6793] [] (by kernel_rfl) (trivial) ?_
            refine RW.nil ?_
            refine WPK.region ?_
            refine RW.seg hT 1 [] [] [.int .i64 (IntKind.i64.wrap (x6854 - x6793))] [] (by kernel_rfl) (trivial) ?_
            refine RW.nil ?_
            refine RoundBeg.of hrec6565 s (i := 4) rfl ?_
            intro w6868 s k6869
            replace rp6585 := rp6585.st k6869
            replace rp6194 := rp6194.st k6869
            replace eg0 := eg0.st k6869
            replace kk := kk.trans k6869
            refine WPK.block ?_
            refine WPK.seq ?_
            refine WPK.region ?_
            refine RW.seg hT 3 [.int .i64 p1] [] [.int .i64 (IntKind.i64.wrap (x6854 - x6793)), .int .i64 p1, .bool (decide ((IntKind.i64.wrap (x6854 - x6793)) ≥ p1))] [.cell ⟨b6197, 0, none⟩ (.int .i64 p1)] (by kernel_rfl) (s.cell (i := 8) (off := 0) rfl rfl) ?_
            refine RW.nil ?_
            by_cases h6870 : (IntKind.i64.wrap (x6854 - x6793)) ≥ p1
            · have hf := iteT h6870 hf
              refine WPK.condT (Eq.trans (b := .bool (decide ((IntKind.i64.wrap (x6854 - x6793)) ≥ p1))) (by kernel_rfl) (bo_t h6870)) ?_
              refine WPK.seq ?_
              refine WPK.region ?_
              refine RW.seg hT 1 [] [] [.int .i64 x6793] [] (by kernel_rfl) (trivial) ?_
              refine RW.op (by kernel_rfl) (OK.store hT (i := 7) (b := b6200) (off := 0) (n := 1) (vs := [.int .i64 x6793]) (cs := [.int .i64 (-1)]) (e := 3) s (by kernel_rfl) rfl rfl (flat_ok rfl) (Nat.le_of_ble_eq_true rfl) ?_)
              rintro w6871 s k6872 -
              replace rp6585 := rp6585.st k6872
              replace rp6194 := rp6194.st k6872
              replace eg0 := eg0.st k6872
              replace kk := kk.trans k6872
              refine RW.nil ?_
              refine WPK.exit (blockQ.other rfl (?_))
              refine RoundEnd.stop (Code.exit 0) hrec6565 s (i := 4) rfl ?_
              intro w6873 s k6874
              replace rp6585 := rp6585.st k6874
              replace rp6194 := rp6194.st k6874
              replace eg0 := eg0.st k6874
              replace kk := kk.trans k6874
              refine hR6867 _ _ ?_
              refine RW.seg hT 1 [] [] [.bool true] [] (by kernel_rfl) (trivial) ?_
              refine RW.nil ?_
              refine WPK.condT (by kernel_rfl) ?_
              refine WPK.ret (blockQ.ret (blockQ.ret (?_)))
              refine Fin.of (rs := []) hT [] (.tuple #[]) [] rfl (by kernel_rfl) (trivial) ?_
              refine hR6569 _ _ (RangeEnd.jump hrec6565 s (i := 4) rfl ?_)
              intro w6875 s k6876
              replace rp6585 := rp6585.st k6876
              replace rp6194 := rp6194.st k6876
              replace eg0 := eg0.st k6876
              replace kk := kk.trans k6876
              refine WPK.exit (blockQ.same ?_)
              replace s := s.pick [2, 3, 6, 4] 8 rfl
              exact fun X h => kc (by kernel_rfl) rfl (h I6851 x6793 d6563 [.pointer (some ⟨b6188, 0, none⟩), .int .i64 p1, undef, .pointer (some ⟨b6197, 0, none⟩), undef, undef, .int .i64 p1, .bool (decide (p1 < 1)), undef, .pointer (some ⟨b6188, 0, none⟩), .func (.func 31) #[] #[.pointer (some ⟨b6560, 0, none⟩)], undef, undef, undef, undef, undef, undef] _ hf s kk rp6194 eg0)
            · have hf := iteF h6870 hf
              refine WPK.condF (Eq.trans (b := .bool (decide ((IntKind.i64.wrap (x6854 - x6793)) ≥ p1))) (by kernel_rfl) (bo_f h6870)) ?_
              refine WPK.skip ?_
              refine RoundEnd.next hrec6565 s (i := 4) rfl ?_
              intro w6877 s k6878
              replace rp6585 := rp6585.st k6878
              replace rp6194 := rp6194.st k6878
              replace eg0 := eg0.st k6878
              replace kk := kk.trans k6878
              refine hR6867 _ _ ?_
              refine RW.seg hT 1 [] [] [.bool false] [] (by kernel_rfl) (trivial) ?_
              refine RW.nil ?_
              refine WPK.condF (by kernel_rfl) ?_
              refine WPK.skip ?_
              refine WPK.region ?_
              refine RW.seg hT 2 [.pointer (some ⟨b6188, 0, none⟩)] [] [.pointer (some ⟨b6188, 0, none⟩), .int .i64 x6854] [.cell ⟨b6560, 0, none⟩ (.pointer (some ⟨b6188, 0, none⟩))] (by kernel_rfl) (s.cell (i := 6) (off := 0) rfl rfl) ?_
              replace s := s.pick [2, 3, 0, 1, 4, 5, 6, 7, 8] 9 rfl
              obtain ⟨x6879, hx6880, hf⟩ := bindS hf
              refine RW.op (by kernel_rfl) (OK.call' en27 (by kernel_rfl) (c27 (F := (.blk b6579 (.cells #[.int .i64 x6578.n, .slice A6580 n6581 c6582] 53 (0, 0))) :: (.sl (.slice A6580 n6581 c6582) 61 1 n6581 cl6583) :: (.blk l6562 (rec6564 .ready none)) :: (.blk d6563 (.deferred (some []))) :: (.blk b6560 (.cells #[.pointer (some ⟨b6188, 0, none⟩)] 25 (0, 0))) :: (.blk b6200 (.cells #[.int .i64 (-1)] 3 (0, 0))) :: (.blk b6197 (.cells #[.int .i64 p1] 3 (0, 0))) :: F) p0 x6854 b6188 A6189 n6190 c6191 cl6192 hn6193 rp6194 eg0 s hx6880) ?_)
              intro X6883 hX6884
              refine fun _ _ hJ => hJ X6883 ?_
              intro I6885 w6881 s k6882
              refine hX6884 _ _ ?_
              replace rp6194 := rp6194.st k6882
              replace rp6585 := rp6585.st k6882
              replace eg0 := eg0.st k6882
              replace kk := kk.trans k6882
              refine RW.seg hT 1 [] [] [.int .i64 x6879] [] (by kernel_rfl) (trivial) ?_
              refine RW.nil ?_
              subst hrec6842
              exact ⟨n6841, Nat.le_refl _, fun X h => kc (by kernel_rfl) rfl (h I6885 x6879 [(D6853.getD 0 undef), .int .i64 x6854, (D6853.getD 1 undef), (D6853.getD 2 undef), (D6853.getD 3 undef), (D6853.getD 4 undef), .int .i64 x6793, .bool (decide (x6793 ≥ 0)), (D6853.getD 5 undef), (D6853.getD 6 undef), .int .i64 x6845, .int .i64 x6845, .bool (decide (x6845 < 0)), (D6853.getD 7 undef), (D6853.getD 8 undef), (D6853.getD 9 undef), (D6853.getD 10 undef), .func (.yield l6562) #[] #[], .int .i64 x6793, .int .i64 x6854, .int .i64 x6793, .int .i64 (IntKind.i64.wrap (x6854 - x6793)), .bool true, .bool false, .pointer (some ⟨b6188, 0, none⟩), .int .i64 x6854, .int .i64 x6879] _ hf s kk rp6194 rp6585 eg0)⟩
          · refine WPK.seq ?_
            refine WPK.region ?_
            refine RW.seg hT 2 [] [] [.int .i64 x6845, .bool (decide (x6845 < 0))] [] (by kernel_rfl) (trivial) ?_
            refine RW.nil ?_
            by_cases h6888 : x6845 < 0
            · have hf := iteT h6888 hf
              refine WPK.condT (Eq.trans (b := .bool (decide (x6845 < 0))) (by kernel_rfl) (bo_t h6888)) ?_
              refine WPK.region ?_
              refine RW.seg hT 5 [.pointer (some ⟨b6188, 0, none⟩), .int .i64 p0.n] [] [.pointer (some ⟨b6188, 0, none⟩), .pointer (some ⟨b6188, 0, none⟩), .pointer (some ⟨b6188, 0, none⟩), .int .i64 p0.n, .int .i64 p0.n] [.cell ⟨b6560, 0, none⟩ (.pointer (some ⟨b6188, 0, none⟩)), .cell ⟨b6188, 0, none⟩ (.int .i64 p0.n)] (by kernel_rfl) (⟨s.cell (i := 6) (off := 0) rfl rfl, s.cell (i := 2) (off := 0) rfl rfl⟩) ?_
              refine RW.nil ?_
              exact fun X h => kc (by kernel_rfl) rfl (h p0.n [(D6792.getD 0 undef), (D6792.getD 2 undef), (D6792.getD 3 undef), (D6792.getD 4 undef), (D6792.getD 5 undef), .pointer (some ⟨b6579, 0, none⟩), .int .i64 x6793, .pointer (some ⟨b6188, 0, none⟩), .pointer (some ⟨b6188, 0, none⟩), .pointer (some ⟨b6188, 0, none⟩), .int .i64 p0.n, (D6792.getD 17 undef), (D6792.getD 18 undef), (D6792.getD 21 undef), (D6792.getD 24 undef), (D6792.getD 25 undef)] hf)
            · have hf := iteF h6888 hf
              refine WPK.condF (Eq.trans (b := .bool (decide (x6845 < 0))) (by kernel_rfl) (bo_f h6888)) ?_
              refine WPK.skip ?_
              exact fun X h => kc (by kernel_rfl) rfl (h x6845 [(D6792.getD 0 undef), (D6792.getD 2 undef), (D6792.getD 3 undef), (D6792.getD 4 undef), (D6792.getD 5 undef), .pointer (some ⟨b6579, 0, none⟩), .int .i64 x6793, (D6792.getD 13 undef), (D6792.getD 14 undef), (D6792.getD 15 undef), (D6792.getD 16 undef), (D6792.getD 17 undef), (D6792.getD 18 undef), (D6792.getD 21 undef), (D6792.getD 24 undef), (D6792.getD 25 undef)] hf)
        · have hf := iteF h6844 hf
          refine WPK.condF (Eq.trans (b := .bool (decide (x6793 ≥ 0))) (by kernel_rfl) (bo_f h6844)) ?_
          refine WPK.exit (blockQ.same ?_)
          refine Fin.of (rs := []) hT [] (.tuple #[]) [] rfl (by kernel_rfl) (trivial) ?_
          refine hR6569 _ _ (RangeEnd.done hrec6565 s (i := 4) rfl ?_)
          intro w6889 s k6890
          replace rp6194 := rp6194.st k6890
          replace rp6585 := rp6585.st k6890
          replace eg0 := eg0.st k6890
          replace kk := kk.trans k6890
          replace s := s.pick [0, 1, 6, 4] 8 rfl
          exact fun X h => kc (by kernel_rfl) rfl (h I6795 (-1) d6563 [.pointer (some ⟨b6188, 0, none⟩), .int .i64 p1, undef, .pointer (some ⟨b6197, 0, none⟩), undef, undef, .int .i64 p1, .bool (decide (p1 < 1)), undef, .pointer (some ⟨b6188, 0, none⟩), .func (.func 31) #[] #[.pointer (some ⟨b6560, 0, none⟩)], undef, undef, undef, undef, undef, undef] _ hf s kk rp6194 eg0)
end Go.Proofs.YtgcielbnmlfjbaaDoor
