/- PRINTED BY sy.py: each call computes what the plain function of its number tells. -/
import Derived.Test.YtefjbhogpgihaaaDoorTab
import Derived.Test.YtefjbhogpgihaaaDoorSXz
import Derived.Test.YtefjbhogpgihaaaDoorG
namespace Go.Proofs.YtefjbhogpgihaaaDoor
open Go Go.SX Go.RowKit
set_option maxRecDepth 100000
set_option linter.unusedVariables false
def rp_T_api_Pair : Rp T_api_Pair := Rp.iso (fun x => (x.Key, x.Val)) (Rp.pair (Rp.slice (Rp.int .u8)) (Rp.slice (Rp.int .u8)))
def rp_T_api_Node : Rp T_api_Node := Rp.iso (fun x => (x.Leaf, x.Pairs, x.Keys, x.Kids)) (Rp.pair Rp.bool (Rp.pair (Rp.slice rp_T_api_Pair) (Rp.pair (Rp.slice (Rp.slice (Rp.int .u8))) (Rp.slice (Rp.int .i64)))))
def rp_T_pack_Reader : Rp T_pack_Reader := Rp.iso (fun x => (x.b, x.err, x.made)) (Rp.pair (Rp.slice (Rp.int .u8)) (Rp.pair (Rp.int .i64) Rp.bool))
attribute [local irreducible] WPK RW RD Ret SX.Fin SX.Any opK RoundBeg RoundEnd RangeEnd Rounds
theorem en42 : Proofs.Enters Tryd.prog 42 := Proofs.enters_of Tryd.func42 (by kernel_rfl) rfl
theorem en41 : Proofs.Enters Tryd.prog 41 := Proofs.enters_of Tryd.func41 (by kernel_rfl) rfl
theorem en57 : Proofs.Enters Tryd.prog 57 := Proofs.enters_of Tryd.func57 (by kernel_rfl) rfl
theorem en56 : Proofs.Enters Tryd.prog 56 := Proofs.enters_of Tryd.func56 (by kernel_rfl) rfl
theorem en49 : Proofs.Enters Tryd.prog 49 := Proofs.enters_of Tryd.func49 (by kernel_rfl) rfl
theorem en43 : Proofs.Enters Tryd.prog 43 := Proofs.enters_of Tryd.func43 (by kernel_rfl) rfl
theorem en58 : Proofs.Enters Tryd.prog 58 := Proofs.enters_of Tryd.func58 (by kernel_rfl) rfl
theorem en44 : Proofs.Enters Tryd.prog 44 := Proofs.enters_of Tryd.func44 (by kernel_rfl) rfl
theorem en45 : Proofs.Enters Tryd.prog 45 := Proofs.enters_of Tryd.func45 (by kernel_rfl) rfl
theorem en59 : Proofs.Enters Tryd.prog 59 := Proofs.enters_of Tryd.func59 (by kernel_rfl) rfl
theorem en47 : Proofs.Enters Tryd.prog 47 := Proofs.enters_of Tryd.func47 (by kernel_rfl) rfl
theorem en46 : Proofs.Enters Tryd.prog 46 := Proofs.enters_of Tryd.func46 (by kernel_rfl) rfl
theorem en29 : Proofs.Enters Tryd.prog 29 := Proofs.enters_of Tryd.func29 (by kernel_rfl) rfl
theorem en14 : Proofs.Enters Tryd.prog 14 := Proofs.enters_of Tryd.func14 (by kernel_rfl) rfl
theorem en48 : Proofs.Enters Tryd.prog 48 := Proofs.enters_of Tryd.func48 (by kernel_rfl) rfl
theorem en30 : Proofs.Enters Tryd.prog 30 := Proofs.enters_of Tryd.func30 (by kernel_rfl) rfl
theorem en13 : Proofs.Enters Tryd.prog 13 := Proofs.enters_of Tryd.func13 (by kernel_rfl) rfl
theorem en34 : Proofs.Enters Tryd.prog 34 := Proofs.enters_of Tryd.func34 (by kernel_rfl) rfl
theorem en32 : Proofs.Enters Tryd.prog 32 := Proofs.enters_of Tryd.func32 (by kernel_rfl) rfl
theorem en15 : Proofs.Enters Tryd.prog 15 := Proofs.enters_of Tryd.func15 (by kernel_rfl) rfl
theorem en33 : Proofs.Enters Tryd.prog 33 := Proofs.enters_of Tryd.func33 (by kernel_rfl) rfl
theorem en16 : Proofs.Enters Tryd.prog 16 := Proofs.enters_of Tryd.func16 (by kernel_rfl) rfl
theorem en6 : Proofs.Enters Tryd.prog 6 := Proofs.enters_of Tryd.func6 (by kernel_rfl) rfl
theorem en11 : Proofs.Enters Tryd.prog 11 := Proofs.enters_of Tryd.func11 (by kernel_rfl) rfl
theorem en31 : Proofs.Enters Tryd.prog 31 := Proofs.enters_of Tryd.func31 (by kernel_rfl) rfl
theorem en12 : Proofs.Enters Tryd.prog 12 := Proofs.enters_of Tryd.func12 (by kernel_rfl) rfl
theorem en4 : Proofs.Enters Tryd.prog 4 := Proofs.enters_of Tryd.func4 (by kernel_rfl) rfl
theorem en5 : Proofs.Enters Tryd.prog 5 := Proofs.enters_of Tryd.func5 (by kernel_rfl) rfl
theorem en17 : Proofs.Enters Tryd.prog 17 := Proofs.enters_of Tryd.func17 (by kernel_rfl) rfl
theorem en51 : Proofs.Enters Tryd.prog 51 := Proofs.enters_of Tryd.func51 (by kernel_rfl) rfl
theorem en52 : Proofs.Enters Tryd.prog 52 := Proofs.enters_of Tryd.func52 (by kernel_rfl) rfl
theorem en53 : Proofs.Enters Tryd.prog 53 := Proofs.enters_of Tryd.func53 (by kernel_rfl) rfl
theorem en50 : Proofs.Enters Tryd.prog 50 := Proofs.enters_of Tryd.func50 (by kernel_rfl) rfl
theorem en35 : Proofs.Enters Tryd.prog 35 := Proofs.enters_of Tryd.func35 (by kernel_rfl) rfl
theorem en36 : Proofs.Enters Tryd.prog 36 := Proofs.enters_of Tryd.func36 (by kernel_rfl) rfl
theorem en20 : Proofs.Enters Tryd.prog 20 := Proofs.enters_of Tryd.func20 (by kernel_rfl) rfl
theorem en18 : Proofs.Enters Tryd.prog 18 := Proofs.enters_of Tryd.func18 (by kernel_rfl) rfl
theorem en37 : Proofs.Enters Tryd.prog 37 := Proofs.enters_of Tryd.func37 (by kernel_rfl) rfl
theorem en19 : Proofs.Enters Tryd.prog 19 := Proofs.enters_of Tryd.func19 (by kernel_rfl) rfl
theorem en7 : Proofs.Enters Tryd.prog 7 := Proofs.enters_of Tryd.func7 (by kernel_rfl) rfl
theorem en22 : Proofs.Enters Tryd.prog 22 := Proofs.enters_of Tryd.func22 (by kernel_rfl) rfl
theorem en21 : Proofs.Enters Tryd.prog 21 := Proofs.enters_of Tryd.func21 (by kernel_rfl) rfl
theorem en23 : Proofs.Enters Tryd.prog 23 := Proofs.enters_of Tryd.func23 (by kernel_rfl) rfl
theorem en24 : Proofs.Enters Tryd.prog 24 := Proofs.enters_of Tryd.func24 (by kernel_rfl) rfl
theorem en8 : Proofs.Enters Tryd.prog 8 := Proofs.enters_of Tryd.func8 (by kernel_rfl) rfl
theorem en25 : Proofs.Enters Tryd.prog 25 := Proofs.enters_of Tryd.func25 (by kernel_rfl) rfl
theorem en26 : Proofs.Enters Tryd.prog 26 := Proofs.enters_of Tryd.func26 (by kernel_rfl) rfl
theorem en9 : Proofs.Enters Tryd.prog 9 := Proofs.enters_of Tryd.func9 (by kernel_rfl) rfl
theorem en10 : Proofs.Enters Tryd.prog 10 := Proofs.enters_of Tryd.func10 (by kernel_rfl) rfl
theorem en3 : Proofs.Enters Tryd.prog 3 := Proofs.enters_of Tryd.func3 (by kernel_rfl) rfl
theorem c56 {w0 w : World} {M I : Nat → Prop} {F : List It} (p0 : (List Int)) (A195 : Option Addr) (c196 : Nat) (hc197 : (p0.length ≤ c196 ∧ c196 ≤ 9223372036854775807)) (e198 : Elems (Rp.int .u8) I w A195 p0) (s : St w0 M I (F) w) {r : Bool} (hf : g56 p0 = some r) :
    Ret Tryd.prog 56 [.slice A195 p0.length c196] w fun v wz => ∀ X : Value → World → Prop, (∀ (I' : Nat → Prop) (w' : World), St w0 M I' (F) w' → Kp I w I' w' → X (.bool r) w') → X v wz := by
  have kk : Kp I w I w := Kp.refl
  unfold g56 at hf
  refine Ret.of Tryd.func56 rfl ?_
  refine WPK.seq ?_
  refine WPK.region ?_
  refine RW.seg hT 1 [] [] [.bool false] [] (by kernel_rfl) (trivial) ?_
  refine RW.nil ?_
  refine WPK.seq ?_
  refine WPK.region ?_
  refine RW.seg hT 3 [] [] [.slice A195 p0.length c196, .int .i64 (p0.length : Int), .bool (decide ((p0.length : Int) > 0))] [] (by kernel_rfl) (trivial) ?_
  by_cases h200 : (p0.length : Int) > 0
  · have hf := iteT h200 hf
    refine RW.seg hT 6 [] [(6, .bool true)] [.bool true, .slice A195 p0.length c196, .int .i64 (p0.length : Int), .bool (decide ((p0.length : Int) ≤ 25)), .bool (decide ((p0.length : Int) ≤ 25)), .bool (decide ((p0.length : Int) ≤ 25))] [.veq (.bool (decide ((p0.length : Int) > 0))) (.bool true)] (by kernel_rfl) (bo_t h200) ?_
    refine RW.nil ?_
    refine WPK.ret (?_)
    obtain rfl := someS hf
    refine Fin.of (rs := [.tmp 2]) hT [] (.bool (decide ((p0.length : Int) ≤ 25))) [] rfl (by kernel_rfl) (trivial) ?_
    exact fun X h => vc rfl (h I _ s kk)
  · have hf := iteF h200 hf
    refine RW.seg hT 6 [] [(6, .bool false)] [.bool false, undef, undef, undef, .bool false, .bool false] [.veq (.bool (decide ((p0.length : Int) > 0))) (.bool false)] (by kernel_rfl) (bo_f h200) ?_
    refine RW.nil ?_
    refine WPK.ret (?_)
    obtain rfl := someS hf
    refine Fin.of (rs := [.tmp 2]) hT [] (.bool false) [] rfl (by kernel_rfl) (trivial) ?_
    exact fun X h => vc rfl (h I _ s kk)
theorem c49 {w0 w : World} {M I : Nat → Prop} {F : List It} (p0 : (List Int)) (p1 : (List Int)) (A380 : Option Addr) (c381 : Nat) (A384 : Option Addr) (c385 : Nat) (hc382 : (p0.length ≤ c381 ∧ c381 ≤ 9223372036854775807)) (e383 : Elems (Rp.int .u8) I w A380 p0) (hc386 : (p1.length ≤ c385 ∧ c385 ≤ 9223372036854775807)) (e387 : Elems (Rp.int .u8) I w A384 p1) (s : St w0 M I (F) w) {r : Int} (hf : g49 p0 p1 = some r) :
    Ret Tryd.prog 49 [.slice A380 p0.length c381, .slice A384 p1.length c385] w fun v wz => ∀ X : Value → World → Prop, (∀ (I' : Nat → Prop) (w' : World), St w0 M I' (F) w' → Kp I w I' w' → X (.int .i64 r) w') → X v wz := by
  have kk : Kp I w I w := Kp.refl
  unfold g49 at hf
  refine Ret.of Tryd.func49 rfl ?_
  refine WPK.seq ?_
  refine WPK.region ?_
  refine RW.seg hT 1 [] [] [.int .i64 0] [] (by kernel_rfl) (trivial) ?_
  refine RW.nil ?_
  refine WPK.seq ?_
  refine WPK.region ?_
  refine RW.seg hT 2 [] [] [.slice A380 p0.length c381, .slice A384 p1.length c385] [] (by kernel_rfl) (trivial) ?_
  refine RW.op (by kernel_rfl) (OK.compare (c := c381) (d := c385) Tryd.func60 (by kernel_rfl) (by kernel_rfl) (by kernel_rfl) (by kernel_rfl) rfl e383 rfl e387 (by kernel_rfl) ?_)
  refine RW.seg hT 1 [] [] [.int .i64 (cmpB p0 p1)] [] (by kernel_rfl) (trivial) ?_
  refine RW.nil ?_
  refine WPK.ret (?_)
  obtain rfl := someS hf
  refine Fin.of (rs := [.tmp 4]) hT [] (.int .i64 (cmpB p0 p1)) [] rfl (by kernel_rfl) (trivial) ?_
  exact fun X h => vc rfl (h I _ s kk)
theorem c44 {w0 w : World} {M I : Nat → Prop} {F : List It} (p0 : T_api_Pair) (A16544 : Option Addr) (c16545 : Nat) (A16548 : Option Addr) (c16549 : Nat) (hc16546 : (p0.Key.length ≤ c16545 ∧ c16545 ≤ 9223372036854775807)) (e16547 : Elems (Rp.int .u8) I w A16544 p0.Key) (hc16550 : (p0.Val.length ≤ c16549 ∧ c16549 ≤ 9223372036854775807)) (e16551 : Elems (Rp.int .u8) I w A16548 p0.Val) (s : St w0 M I (F) w) {r : Bool} (hf : g44 p0 = some r) :
    Ret Tryd.prog 44 [.agg #[.slice A16544 p0.Key.length c16545, .slice A16548 p0.Val.length c16549]] w fun v wz => ∀ X : Value → World → Prop, (∀ (I' : Nat → Prop) (w' : World), St w0 M I' (F) w' → Kp I w I' w' → X (.bool r) w') → X v wz := by
  have kk : Kp I w I w := Kp.refl
  unfold g44 at hf
  refine Ret.of Tryd.func44 rfl ?_
  refine WPK.seq ?_
  refine WPK.region ?_
  refine RW.op (by kernel_rfl) (OK.new hT (f := fun b => .pointer (some ⟨b, 0, none⟩)) (cs := [.slice A16544 p0.Key.length c16545, .slice A16548 p0.Val.length c16549]) (e := 41) (c := .tt) s (by kernel_rfl) trivial ?_)
  clear s
  rintro w16552 b16553 s k16554 -
  replace e16547 := e16547.st k16554
  replace e16551 := e16551.st k16554
  replace kk := kk.trans k16554
  refine RW.seg hT 1 [] [] [.bool false] [] (by kernel_rfl) (trivial) ?_
  refine RW.nil ?_
  refine WPK.seq ?_
  refine WPK.region ?_
  refine RW.seg hT 5 [.slice A16548 p0.Val.length c16549] [] [.pointer (some ⟨b16553, 1, none⟩), .slice A16548 p0.Val.length c16549, .int .i64 (p0.Val.length : Int), .bool (decide ((p0.Val.length : Int) > 24)), .bool (decide ((p0.Val.length : Int) > 24))] [.cell ⟨b16553, 1, none⟩ (.slice A16548 p0.Val.length c16549)] (by kernel_rfl) (s.cell (i := 0) (off := 1) rfl rfl) ?_
  refine RW.nil ?_
  refine WPK.ret (?_)
  obtain rfl := someS hf
  refine Fin.of (rs := [.tmp 2]) hT [] (.bool (decide ((p0.Val.length : Int) > 24))) [] rfl (by kernel_rfl) (trivial) ?_
  replace s := s.pick [] 1 rfl
  exact fun X h => vc rfl (h I _ s kk)
theorem c47 {w0 w : World} {M I : Nat → Prop} {F : List It} (p0 : Int) (s : St w0 M I (F) w) {r : Bool} (hf : g47 p0 = some r) :
    Ret Tryd.prog 47 [.int .i64 p0] w fun v wz => ∀ X : Value → World → Prop, (∀ (I' : Nat → Prop) (w' : World), St w0 M I' (F) w' → Kp I w I' w' → X (.bool r) w') → X v wz := by
  have kk : Kp I w I w := Kp.refl
  unfold g47 at hf
  refine Ret.of Tryd.func47 rfl ?_
  refine WPK.seq ?_
  refine WPK.region ?_
  refine RW.seg hT 1 [] [] [.bool false] [] (by kernel_rfl) (trivial) ?_
  refine RW.nil ?_
  refine WPK.seq ?_
  refine WPK.region ?_
  refine RW.seg hT 2 [] [] [.int .i64 p0, .bool (decide (p0 ≥ 2))] [] (by kernel_rfl) (trivial) ?_
  by_cases h19919 : p0 ≥ 2
  · have hf := iteT h19919 hf
    refine RW.seg hT 5 [] [(5, .bool true)] [.bool true, .int .i64 p0, .bool (decide (p0 < 2048)), .bool (decide (p0 < 2048)), .bool (decide (p0 < 2048))] [.veq (.bool (decide (p0 ≥ 2))) (.bool true)] (by kernel_rfl) (bo_t h19919) ?_
    refine RW.nil ?_
    refine WPK.ret (?_)
    obtain rfl := someS hf
    refine Fin.of (rs := [.tmp 2]) hT [] (.bool (decide (p0 < 2048))) [] rfl (by kernel_rfl) (trivial) ?_
    exact fun X h => vc rfl (h I _ s kk)
  · have hf := iteF h19919 hf
    refine RW.seg hT 5 [] [(5, .bool false)] [.bool false, undef, undef, .bool false, .bool false] [.veq (.bool (decide (p0 ≥ 2))) (.bool false)] (by kernel_rfl) (bo_f h19919) ?_
    refine RW.nil ?_
    refine WPK.ret (?_)
    obtain rfl := someS hf
    refine Fin.of (rs := [.tmp 2]) hT [] (.bool false) [] rfl (by kernel_rfl) (trivial) ?_
    exact fun X h => vc rfl (h I _ s kk)
theorem c46 {w0 w : World} {M I : Nat → Prop} {F : List It} (p0 : Int) (s : St w0 M I (F) w) {r : Bool} (hf : g46 p0 = some r) :
    Ret Tryd.prog 46 [.int .i64 p0] w fun v wz => ∀ X : Value → World → Prop, (∀ (I' : Nat → Prop) (w' : World), St w0 M I' (F) w' → Kp I w I' w' → X (.bool r) w') → X v wz := by
  have kk : Kp I w I w := Kp.refl
  unfold g46 at hf
  refine Ret.of Tryd.func46 rfl ?_
  refine WPK.seq ?_
  refine WPK.region ?_
  refine RW.seg hT 1 [] [] [.bool false] [] (by kernel_rfl) (trivial) ?_
  refine RW.nil ?_
  refine WPK.seq ?_
  refine WPK.region ?_
  refine RW.seg hT 1 [] [] [.int .i64 p0] [] (by kernel_rfl) (trivial) ?_
  obtain ⟨x19927, hx19928, hf⟩ := bindS hf
  refine RW.op (by kernel_rfl) (OK.call' en47 (by kernel_rfl) (c47 (F := F) p0 s hx19928) ?_)
  intro X19931 hX19932
  refine fun _ _ hJ => hJ X19931 ?_
  clear s
  intro I19933 w19929 s k19930
  refine hX19932 _ _ ?_
  replace kk := kk.trans k19930
  refine RW.seg hT 2 [] [(5, .bool (decide (¬ (x19927 = true))))] [.bool (decide (¬ (x19927 = true))), .bool (decide (¬ (x19927 = true)))] [.veq (.bool (!x19927)) (.bool (decide (¬ (x19927 = true))))] (by kernel_rfl) (not_b) ?_
  refine RW.nil ?_
  refine WPK.ret (?_)
  obtain rfl := someS hf
  refine Fin.of (rs := [.tmp 2]) hT [] (.bool (decide (¬ (x19927 = true)))) [] rfl (by kernel_rfl) (trivial) ?_
  exact fun X h => vc rfl (h I19933 _ s kk)
theorem c29 {w0 w : World} {M I : Nat → Prop} {F : List It} (p0 : T_api_Node) (A26289 : Option Addr) (c26290 : Nat) (A26293 : Option Addr) (c26294 : Nat) (A26297 : Option Addr) (c26298 : Nat) (hc26291 : (p0.Pairs.length ≤ c26290 ∧ c26290 ≤ 9223372036854775807)) (e26292 : Elems rp_T_api_Pair I w A26289 p0.Pairs) (hc26295 : (p0.Keys.length ≤ c26294 ∧ c26294 ≤ 9223372036854775807)) (e26296 : Elems (Rp.slice (Rp.int .u8)) I w A26293 p0.Keys) (hc26299 : (p0.Kids.length ≤ c26298 ∧ c26298 ≤ 9223372036854775807)) (e26300 : Elems (Rp.int .i64) I w A26297 p0.Kids) (s : St w0 M I (F) w) {r : Bool} (hf : g29 p0 = some r) :
    Ret Tryd.prog 29 [.agg #[.bool p0.Leaf, .slice A26289 p0.Pairs.length c26290, .slice A26293 p0.Keys.length c26294, .slice A26297 p0.Kids.length c26298]] w fun v wz => ∀ X : Value → World → Prop, (∀ (I' : Nat → Prop) (w' : World), St w0 M I' (F) w' → Kp I w I' w' → X (.bool r) w') → X v wz := by
  have kk : Kp I w I w := Kp.refl
  unfold g29 at hf
  refine Ret.of Tryd.func29 rfl ?_
  refine WPK.seq ?_
  refine WPK.region ?_
  refine RW.op (by kernel_rfl) (OK.new hT (f := fun b => .pointer (some ⟨b, 0, none⟩)) (cs := [.bool p0.Leaf, .slice A26289 p0.Pairs.length c26290, .slice A26293 p0.Keys.length c26294, .slice A26297 p0.Kids.length c26298]) (e := 26) (c := .tt) s (by kernel_rfl) trivial ?_)
  clear s
  rintro w26301 b26302 s k26303 -
  replace e26292 := e26292.st k26303
  replace e26296 := e26296.st k26303
  replace e26300 := e26300.st k26303
  replace kk := kk.trans k26303
  refine RW.seg hT 1 [] [] [.bool false] [] (by kernel_rfl) (trivial) ?_
  refine RW.nil ?_
  refine WPK.seq ?_
  refine WPK.seq ?_
  refine WPK.region ?_
  refine RW.seg hT 1 [.agg #[.bool p0.Leaf, .slice A26289 p0.Pairs.length c26290, .slice A26293 p0.Keys.length c26294, .slice A26297 p0.Kids.length c26298]] [] [.agg #[.bool p0.Leaf, .slice A26289 p0.Pairs.length c26290, .slice A26293 p0.Keys.length c26294, .slice A26297 p0.Kids.length c26298]] [.cells ⟨b26302, 0, none⟩ [.bool p0.Leaf, .slice A26289 p0.Pairs.length c26290, .slice A26293 p0.Keys.length c26294, .slice A26297 p0.Kids.length c26298] 4] (by kernel_rfl) (s.cells (i := 0) rfl rfl rfl) ?_
  refine RW.op (by kernel_rfl) (OK.inl (args := [.agg #[.bool p0.Leaf, .slice A26289 p0.Pairs.length c26290, .slice A26293 p0.Keys.length c26294, .slice A26297 p0.Kids.length c26298]]) en42 (by kernel_rfl) ?_)
  intro R37195 hR37196
  refine Ret.of Tryd.func42 rfl ?_
  refine WPK.seq ?_
  refine WPK.region ?_
  refine RW.op (by kernel_rfl) (OK.new hT (f := fun b => .pointer (some ⟨b, 0, none⟩)) (cs := [.bool p0.Leaf, .slice A26289 p0.Pairs.length c26290, .slice A26293 p0.Keys.length c26294, .slice A26297 p0.Kids.length c26298]) (e := 26) (c := .tt) s (by kernel_rfl) trivial ?_)
  clear s
  rintro w37200 b37201 s k37202 -
  replace e26292 := e26292.st k37202
  replace e26296 := e26296.st k37202
  replace e26300 := e26300.st k37202
  replace kk := kk.trans k37202
  refine RW.seg hT 1 [] [] [.nilFunc] [] (by kernel_rfl) (trivial) ?_
  refine RW.nil ?_
  refine WPK.seq ?_
  refine WPK.region ?_
  refine RW.seg hT 2 [] [] [.func (.func 57) #[] #[.pointer (some ⟨b37201, 0, none⟩)], .func (.func 57) #[] #[.pointer (some ⟨b37201, 0, none⟩)]] [] (by kernel_rfl) (trivial) ?_
  refine RW.nil ?_
  refine WPK.ret (?_)
  refine Fin.of (rs := [.tmp 2]) hT [] (.func (.func 57) #[] #[.pointer (some ⟨b37201, 0, none⟩)]) [] rfl (by kernel_rfl) (trivial) ?_
  refine hR37196 _ _ ?_
  refine RW.op (by kernel_rfl) (OK.inl (args := [.func (.func 57) #[] #[.pointer (some ⟨b37201, 0, none⟩)]]) en41 (by kernel_rfl) ?_)
  intro R37203 hR37204
  refine Ret.cut (fun v wz => ∀ X : Value → World → Prop, (∀ (I42646 : Nat → Prop) (x42644 : Bool) (w' : World), g29_j1 p0 x42644 = some r → St w0 M I42646 ((.blk b26302 (.cells #[.bool p0.Leaf, .slice A26289 p0.Pairs.length c26290, .slice A26293 p0.Keys.length c26294, .slice A26297 p0.Kids.length c26298] 26 (0, 0))) :: F) w' → Kp I w I42646 w' → Elems rp_T_api_Pair I42646 w' A26289 p0.Pairs → Elems (Rp.slice (Rp.int .u8)) I42646 w' A26293 p0.Keys → Elems (Rp.int .i64) I42646 w' A26297 p0.Kids → X (.bool x42644) w') → X v wz) ?_ ?_
  · refine fun _ _ hJ => hJ R37203 ?_
    clear s
    intro I42646 x42644 w42645 hf s kk e26292 e26296 e26300
    refine hR37204 _ _ ?_
    unfold g29_j1 at hf
    refine RW.seg hT 1 [] [(8, .bool (decide (¬ (x42644 = true))))] [.bool (decide (¬ (x42644 = true)))] [.veq (.bool (!x42644)) (.bool (decide (¬ (x42644 = true))))] (by kernel_rfl) (not_b) ?_
    refine RW.nil ?_
    by_cases h42647 : ¬ (x42644 = true)
    · have hf := iteT h42647 hf
      refine WPK.condT (Eq.trans (b := .bool (decide (¬ (x42644 = true)))) (by kernel_rfl) (bo_t h42647)) ?_
      refine WPK.seq ?_
      refine WPK.region ?_
      refine RW.seg hT 1 [] [] [.bool false] [] (by kernel_rfl) (trivial) ?_
      refine RW.nil ?_
      refine WPK.ret (?_)
      obtain rfl := someS hf
      refine Fin.of (rs := [.tmp 2]) hT [] (.bool false) [] rfl (by kernel_rfl) (trivial) ?_
      replace s := s.pick [] 1 rfl
      exact fun X h => vc rfl (h I42646 _ s kk)
    · have hf := iteF h42647 hf
      refine WPK.condF (Eq.trans (b := .bool (decide (¬ (x42644 = true)))) (by kernel_rfl) (bo_f h42647)) ?_
      refine WPK.skip ?_
      refine WPK.seq ?_
      refine WPK.seq ?_
      refine WPK.region ?_
      refine RW.seg hT 2 [.bool p0.Leaf] [] [.pointer (some ⟨b26302, 0, none⟩), .bool p0.Leaf] [.cell ⟨b26302, 0, none⟩ (.bool p0.Leaf)] (by kernel_rfl) (s.cell (i := 0) (off := 0) rfl rfl) ?_
      refine RW.nil ?_
      by_cases h44335 : p0.Leaf = true
      · have hf := iteT h44335 hf
        refine WPK.condT (Eq.trans (b := .bool p0.Leaf) (by kernel_rfl) (b_t h44335)) ?_
        refine WPK.seq ?_
        refine WPK.region ?_
        refine RW.seg hT 2 [.slice A26289 p0.Pairs.length c26290] [] [.pointer (some ⟨b26302, 1, none⟩), .slice A26289 p0.Pairs.length c26290] [.cell ⟨b26302, 1, none⟩ (.slice A26289 p0.Pairs.length c26290)] (by kernel_rfl) (s.cell (i := 0) (off := 1) rfl rfl) ?_
        refine RW.op (by kernel_rfl) (OK.inl (args := [.slice A26289 p0.Pairs.length c26290, .func (.func 44) #[] #[]]) en43 (by kernel_rfl) ?_)
        intro R44336 hR44337
        refine Ret.of Tryd.func43 rfl ?_
        refine WPK.seq ?_
        refine WPK.region ?_
        refine RW.seg hT 1 [] [] [.bool false] [] (by kernel_rfl) (trivial) ?_
        refine RW.nil ?_
        refine WPK.seq ?_
        refine WPK.region ?_
        refine RW.seg hT 2 [] [] [.slice A26289 p0.Pairs.length c26290, .func (.func 44) #[] #[]] [] (by kernel_rfl) (trivial) ?_
        refine RW.op (by kernel_rfl) (OK.inl (args := [.slice A26289 p0.Pairs.length c26290, .func (.func 44) #[] #[]]) en58 (by kernel_rfl) ?_)
        intro R45176 hR45177
        refine Ret.cut (fun v wz => ∀ X : Value → World → Prop, (∀ (I45597 : Nat → Prop) (x45595 : Int) (w' : World), g29_j2 p0 x45595 = some r → St w0 M I45597 ((.blk b26302 (.cells #[.bool p0.Leaf, .slice A26289 p0.Pairs.length c26290, .slice A26293 p0.Keys.length c26294, .slice A26297 p0.Kids.length c26298] 26 (0, 0))) :: F) w' → Kp I w I45597 w' → Elems rp_T_api_Pair I45597 w' A26289 p0.Pairs → Elems (Rp.slice (Rp.int .u8)) I45597 w' A26293 p0.Keys → Elems (Rp.int .i64) I45597 w' A26297 p0.Kids → X (.int .i64 x45595) w') → X v wz) ?_ ?_
        · refine fun _ _ hJ => hJ R45176 ?_
          clear s
          intro I45597 x45595 w45596 hf s kk e26292 e26296 e26300
          refine hR45177 _ _ ?_
          unfold g29_j2 at hf
          refine RW.seg hT 2 [] [] [.bool (decide (x45595 ≥ 0)), .bool (decide (x45595 ≥ 0))] [] (by kernel_rfl) (trivial) ?_
          refine RW.nil ?_
          refine WPK.ret (?_)
          refine Fin.of (rs := [.tmp 4]) hT [] (.bool (decide (x45595 ≥ 0))) [] rfl (by kernel_rfl) (trivial) ?_
          refine hR44337 _ _ ?_
          refine RW.seg hT 1 [] [] [.bool (decide (x45595 ≥ 0))] [] (by kernel_rfl) (trivial) ?_
          refine RW.nil ?_
          refine WPK.seq ?_
          refine WPK.cut' (Kn fun E ds wz => ∀ X : Kont, (∀ (x45603 : Bool) (D45602 : List Value), g29_j3 x45603 = some r → X [(D45602.getD 0 undef), .pointer (some ⟨b26302, 0, none⟩), .bool x45603, (D45602.getD 1 undef), undef, (D45602.getD 2 undef), (D45602.getD 3 undef), (D45602.getD 4 undef), (D45602.getD 5 undef), (D45602.getD 6 undef), (D45602.getD 7 undef), (D45602.getD 8 undef), (D45602.getD 9 undef), (D45602.getD 10 undef), (D45602.getD 11 undef), (D45602.getD 12 undef), (D45602.getD 13 undef), (D45602.getD 14 undef), (D45602.getD 15 undef), (D45602.getD 16 undef), (D45602.getD 17 undef), (D45602.getD 18 undef), (D45602.getD 19 undef), (D45602.getD 20 undef), (D45602.getD 21 undef), (D45602.getD 22 undef), (D45602.getD 23 undef), (D45602.getD 24 undef), (D45602.getD 25 undef), (D45602.getD 26 undef), (D45602.getD 27 undef), (D45602.getD 28 undef), undef, undef, undef, undef, undef, undef, undef, undef, undef, undef, undef, undef, undef, undef, undef, undef, undef, undef, undef, undef, undef, undef, undef, undef, undef, undef, undef, undef, undef, undef, undef, undef, undef] [] w45596) → X E ds wz) ?_ ?_
          · intro X45604 hX45605
            refine fun _ _ _ hJ => hJ X45604 ?_
            intro x45603 D45602 hf
            refine hX45605 _ _ _ ?_
            unfold g29_j3 at hf
            refine WPK.ret (?_)
            obtain rfl := someS hf
            refine Fin.of (rs := [.tmp 2]) hT [] (.bool x45603) [] rfl (by kernel_rfl) (trivial) ?_
            replace s := s.pick [] 1 rfl
            exact fun X h => vc rfl (h I45597 _ s kk)
          · refine WPK.region ?_
            refine RW.seg hT 2 [] [(15, .bool (decide (¬ (x45595 ≥ 0))))] [.bool (decide (x45595 ≥ 0)), .bool (decide (¬ (x45595 ≥ 0)))] [.veq (.bool (!(decide (x45595 ≥ 0)))) (.bool (decide (¬ (x45595 ≥ 0))))] (by kernel_rfl) (not_v) ?_
            by_cases h45606 : ¬ (x45595 ≥ 0)
            · have hf := iteT h45606 hf
              refine RW.seg hT 6 [.slice A26289 p0.Pairs.length c26290] [(16, .bool true)] [.bool true, .pointer (some ⟨b26302, 1, none⟩), .slice A26289 p0.Pairs.length c26290, .int .i64 (p0.Pairs.length : Int), .bool (decide ((p0.Pairs.length : Int) ≤ 255)), .bool (decide ((p0.Pairs.length : Int) ≤ 255))] [.veq (.bool (decide (¬ (x45595 ≥ 0)))) (.bool true), .cell ⟨b26302, 1, none⟩ (.slice A26289 p0.Pairs.length c26290)] (by kernel_rfl) (⟨bo_t h45606, s.cell (i := 0) (off := 1) rfl rfl⟩) ?_
              by_cases h45607 : (p0.Pairs.length : Int) ≤ 255
              · have hf := iteT h45607 hf
                obtain ⟨x45608, hx45609, hf⟩ := bindS hf
                refine RW.seg hT 11 [.slice A26293 p0.Keys.length c26294, .slice A26297 p0.Kids.length c26298] [(22, .bool true), (29, .int .i64 x45608), (30, .bool (decide (x45608 = 0)))] [.bool true, .pointer (some ⟨b26302, 2, none⟩), .slice A26293 p0.Keys.length c26294, .int .i64 (p0.Keys.length : Int), .pointer (some ⟨b26302, 3, none⟩), .slice A26297 p0.Kids.length c26298, .int .i64 (p0.Kids.length : Int), .int .i64 x45608, .bool (decide (x45608 = 0)), .bool (decide (x45608 = 0)), .bool (decide (x45608 = 0))] [.veq (.bool (decide ((p0.Pairs.length : Int) ≤ 255))) (.bool true), .cell ⟨b26302, 2, none⟩ (.slice A26293 p0.Keys.length c26294), .cell ⟨b26302, 3, none⟩ (.slice A26297 p0.Kids.length c26298), .veq (.int .i64 (IntKind.i64.wrap ((p0.Keys.length : Int) + (p0.Kids.length : Int)))) (.int .i64 x45608), .veq (.bool (x45608 == 0)) (.bool (decide (x45608 = 0)))] (by kernel_rfl) (⟨bo_t h45607, s.cell (i := 0) (off := 2) rfl rfl, s.cell (i := 0) (off := 3) rfl rfl, int_v (someS hx45609), eq_v⟩) ?_
                refine RW.nil ?_
                exact fun X h => kc (by kernel_rfl) rfl (h (decide (x45608 = 0)) [(.agg #[.bool p0.Leaf, .slice A26289 p0.Pairs.length c26290, .slice A26293 p0.Keys.length c26294, .slice A26297 p0.Kids.length c26298]), .bool (decide (x45595 ≥ 0)), (.agg #[.bool p0.Leaf, .slice A26289 p0.Pairs.length c26290, .slice A26293 p0.Keys.length c26294, .slice A26297 p0.Kids.length c26298]), (.func (.func 57) #[] #[.pointer (some ⟨b37201, 0, none⟩)]), .bool x42644, .bool (decide (¬ (x42644 = true))), .pointer (some ⟨b26302, 0, none⟩), .bool p0.Leaf, .pointer (some ⟨b26302, 1, none⟩), .slice A26289 p0.Pairs.length c26290, .bool (decide (x45595 ≥ 0)), .bool (decide (x45595 ≥ 0)), .bool (decide (¬ (x45595 ≥ 0))), .bool true, .pointer (some ⟨b26302, 1, none⟩), .slice A26289 p0.Pairs.length c26290, .int .i64 (p0.Pairs.length : Int), .bool (decide ((p0.Pairs.length : Int) ≤ 255)), .bool (decide ((p0.Pairs.length : Int) ≤ 255)), .bool true, .pointer (some ⟨b26302, 2, none⟩), .slice A26293 p0.Keys.length c26294, .int .i64 (p0.Keys.length : Int), .pointer (some ⟨b26302, 3, none⟩), .slice A26297 p0.Kids.length c26298, .int .i64 (p0.Kids.length : Int), .int .i64 x45608, .bool (decide (x45608 = 0)), .bool (decide (x45608 = 0))] hf)
              · have hf := iteF h45607 hf
                refine RW.seg hT 11 [] [(22, .bool false)] [.bool false, undef, undef, undef, undef, undef, undef, undef, undef, .bool false, .bool false] [.veq (.bool (decide ((p0.Pairs.length : Int) ≤ 255))) (.bool false)] (by kernel_rfl) (bo_f h45607) ?_
                refine RW.nil ?_
                exact fun X h => kc (by kernel_rfl) rfl (h false [(.agg #[.bool p0.Leaf, .slice A26289 p0.Pairs.length c26290, .slice A26293 p0.Keys.length c26294, .slice A26297 p0.Kids.length c26298]), .bool (decide (x45595 ≥ 0)), (.agg #[.bool p0.Leaf, .slice A26289 p0.Pairs.length c26290, .slice A26293 p0.Keys.length c26294, .slice A26297 p0.Kids.length c26298]), (.func (.func 57) #[] #[.pointer (some ⟨b37201, 0, none⟩)]), .bool x42644, .bool (decide (¬ (x42644 = true))), .pointer (some ⟨b26302, 0, none⟩), .bool p0.Leaf, .pointer (some ⟨b26302, 1, none⟩), .slice A26289 p0.Pairs.length c26290, .bool (decide (x45595 ≥ 0)), .bool (decide (x45595 ≥ 0)), .bool (decide (¬ (x45595 ≥ 0))), .bool true, .pointer (some ⟨b26302, 1, none⟩), .slice A26289 p0.Pairs.length c26290, .int .i64 (p0.Pairs.length : Int), .bool (decide ((p0.Pairs.length : Int) ≤ 255)), .bool (decide ((p0.Pairs.length : Int) ≤ 255)), .bool false, undef, undef, undef, undef, undef, undef, undef, undef, .bool false] hf)
            · have hf := iteF h45606 hf
              refine RW.seg hT 17 [] [(16, .bool false)] [.bool false, undef, undef, undef, undef, .bool false, .bool false, undef, undef, undef, undef, undef, undef, undef, undef, .bool false, .bool false] [.veq (.bool (decide (¬ (x45595 ≥ 0)))) (.bool false)] (by kernel_rfl) (bo_f h45606) ?_
              refine RW.nil ?_
              exact fun X h => kc (by kernel_rfl) rfl (h false [(.agg #[.bool p0.Leaf, .slice A26289 p0.Pairs.length c26290, .slice A26293 p0.Keys.length c26294, .slice A26297 p0.Kids.length c26298]), .bool (decide (x45595 ≥ 0)), (.agg #[.bool p0.Leaf, .slice A26289 p0.Pairs.length c26290, .slice A26293 p0.Keys.length c26294, .slice A26297 p0.Kids.length c26298]), (.func (.func 57) #[] #[.pointer (some ⟨b37201, 0, none⟩)]), .bool x42644, .bool (decide (¬ (x42644 = true))), .pointer (some ⟨b26302, 0, none⟩), .bool p0.Leaf, .pointer (some ⟨b26302, 1, none⟩), .slice A26289 p0.Pairs.length c26290, .bool (decide (x45595 ≥ 0)), .bool (decide (x45595 ≥ 0)), .bool (decide (¬ (x45595 ≥ 0))), .bool false, undef, undef, undef, undef, .bool false, .bool false, undef, undef, undef, undef, undef, undef, undef, undef, .bool false] hf)
        · refine Ret.of Tryd.func58 rfl ?_
          refine WPK.seq ?_
          refine WPK.region ?_
          refine RW.seg hT 1 [] [] [.int .i64 0] [] (by kernel_rfl) (trivial) ?_
          refine RW.nil ?_
          refine WPK.seq ?_
          refine WPK.seq ?_
          refine WPK.region ?_
          refine RW.seg hT 3 [] [] [.slice A26289 p0.Pairs.length c26290, .int .i64 (p0.Pairs.length : Int), .int .i64 0] [] (by kernel_rfl) (trivial) ?_
          refine RW.nil ?_
          refine WPK.block ?_
          refine WPK.loop' (J := fun n45956 E ds wz => ∀ X : Kont, (∀ (I45888 : Nat → Prop) (x45886 : Int) (D45885 : List Value) (w' : World), g29_l4 p0 n45956 x45886 = some r → St w0 M I45888 ((.blk b26302 (.cells #[.bool p0.Leaf, .slice A26289 p0.Pairs.length c26290, .slice A26293 p0.Keys.length c26294, .slice A26297 p0.Kids.length c26298] 26 (0, 0))) :: F) w' → Kp I w I45888 w' → Elems rp_T_api_Pair I45888 w' A26289 p0.Pairs → Elems (Rp.slice (Rp.int .u8)) I45888 w' A26293 p0.Keys → Elems (Rp.int .i64) I45888 w' A26297 p0.Kids → X [.slice A26289 p0.Pairs.length c26290, .func (.func 44) #[] #[], (D45885.getD 0 undef), (D45885.getD 1 undef), .int .i64 0, (D45885.getD 2 undef), (D45885.getD 3 undef), .int .i64 (p0.Pairs.length : Int), .int .i64 x45886, (D45885.getD 4 undef), (D45885.getD 5 undef), (D45885.getD 6 undef), (D45885.getD 7 undef), (D45885.getD 8 undef), (D45885.getD 9 undef), (D45885.getD 10 undef), (D45885.getD 11 undef), undef, (D45885.getD 12 undef)] [] w') → X E ds wz) FUEL (fun X h => kc (by kernel_rfl) rfl (h I42646 0 [undef, undef, undef, .slice A26289 p0.Pairs.length c26290, undef, undef, undef, undef, undef, undef, undef, undef, undef] _ hf s kk e26292 e26296 e26300)) (fun _ _ _ hJ => hJ (fun _ _ _ => False) (by intro I45888 x45886 D45885 w45887 hf s kk e26292 e26296 e26300; exact noneS hf)) ?_
          intro X46024 hX46025
          refine fun n45956 _ _ _ hJ => hJ (X46024 n45956) ?_
          clear s
          intro I45888 x45886 D45885 w45887 hf s kk e26292 e26296 e26300
          refine hX46025 _ _ _ _ ?_
          replace hf : g29_l4B p0 (g29_l4 p0 n45956) x45886 = some r := hf
          generalize hrec45957 : g29_l4 p0 n45956 = rec45955 at hf
          unfold g29_l4B at hf
          refine WPK.seq ?_
          refine WPK.region ?_
          refine RW.seg hT 1 [] [] [.bool (decide (x45886 < (p0.Pairs.length : Int)))] [] (by kernel_rfl) (trivial) ?_
          refine RW.nil ?_
          refine WPK.seq ?_
          by_cases h45959 : x45886 < (p0.Pairs.length : Int)
          · have hf := iteT h45959 hf
            refine WPK.condT (Eq.trans (b := .bool (decide (x45886 < (p0.Pairs.length : Int)))) (by kernel_rfl) (bo_t h45959)) ?_
            refine WPK.skip ?_
            refine WPK.seq ?_
            refine WPK.block ?_
            refine WPK.seq ?_
            refine WPK.region ?_
            refine RW.seg hT 2 [] [] [.int .i64 x45886, .int .i64 x45886] [] (by kernel_rfl) (trivial) ?_
            refine RW.nil ?_
            refine WPK.seq ?_
            refine WPK.region ?_
            obtain ⟨x45992, hx45993, hf⟩ := bindS hf
            obtain ⟨h45994, hx45993⟩ := getS hx45993
            obtain ⟨b45995, o45996, rfl⟩ := Elems.opn e26292 hx45993
            obtain ⟨cs45997, hr45998, ha45999⟩ := Elems.get e26292 hx45993
            obtain ⟨cs46000, cs46001, rfl, hr46002, hr46003⟩ := hr45998
            obtain ⟨A46004, c46005, rfl, q46006, q46007, e46008⟩ := hr46002
            have hc46009 := And.intro q46006 q46007
            obtain ⟨A46010, c46011, rfl, q46012, q46013, e46014⟩ := hr46003
            have hc46015 := And.intro q46012 q46013
            refine RW.seg hT 5 [.agg #[.slice A46004 x45992.Key.length c46005, .slice A46010 x45992.Val.length c46011]] [] [.func (.func 44) #[] #[], .slice (some ⟨b45995, o45996, none⟩) p0.Pairs.length c26290, .int .i64 x45886, .pointer (some ⟨b45995, o45996 + x45886.toNat * 2, none⟩), .agg #[.slice A46004 x45992.Key.length c46005, .slice A46010 x45992.Val.length c46011]] [.idx x45886 p0.Pairs.length, .cells ⟨b45995, o45996 + x45886.toNat * 2, none⟩ [.slice A46004 x45992.Key.length c46005, .slice A46010 x45992.Val.length c46011] 2] (by kernel_rfl) (⟨h45994, at_cells ha45999 (off := 0) rfl rfl⟩) ?_
            obtain ⟨x46016, hx46017, hf⟩ := bindS hf
            refine RW.op (by kernel_rfl) (OK.call' en44 (by kernel_rfl) (c44 (F := (.blk b26302 (.cells #[.bool p0.Leaf, .slice (some ⟨b45995, o45996, none⟩) p0.Pairs.length c26290, .slice A26293 p0.Keys.length c26294, .slice A26297 p0.Kids.length c26298] 26 (0, 0))) :: F) x45992 A46004 c46005 A46010 c46011 hc46009 e46008 hc46015 e46014 s hx46017) ?_)
            intro X46020 hX46021
            refine fun _ _ hJ => hJ X46020 ?_
            clear s
            intro I46022 w46018 s k46019
            refine hX46021 _ _ ?_
            replace e26292 := e26292.st k46019
            replace e46008 := e46008.st k46019
            replace e46014 := e46014.st k46019
            replace e26296 := e26296.st k46019
            replace e26300 := e26300.st k46019
            replace kk := kk.trans k46019
            refine RW.nil ?_
            by_cases h46023 : x46016 = true
            · have hf := iteT h46023 hf
              refine WPK.condT (Eq.trans (b := .bool x46016) (by kernel_rfl) (b_t h46023)) ?_
              refine WPK.seq ?_
              refine WPK.region ?_
              refine RW.seg hT 2 [] [] [.int .i64 x45886, .int .i64 x45886] [] (by kernel_rfl) (trivial) ?_
              refine RW.nil ?_
              refine WPK.ret (blockQ.ret (blockQ.ret (?_)))
              refine Fin.of (rs := [.tmp 4]) hT [] (.int .i64 x45886) [] rfl (by kernel_rfl) (trivial) ?_
              exact fun X h => vc rfl (h I46022 x45886 _ hf s kk e26292 e26296 e26300)
            · have hf := iteF h46023 hf
              refine WPK.condF (Eq.trans (b := .bool x46016) (by kernel_rfl) (b_f h46023)) ?_
              refine WPK.skip ?_
              refine WPK.region ?_
              refine RW.seg hT 2 [] [] [.int .i64 (IntKind.i64.wrap (x45886 + 1)), .int .i64 (IntKind.i64.wrap (x45886 + 1))] [] (by kernel_rfl) (trivial) ?_
              refine RW.nil ?_
              subst hrec45957
              exact ⟨n45956, Nat.le_refl _, fun X h => kc (by kernel_rfl) rfl (h I46022 (IntKind.i64.wrap (x45886 + 1)) [(D45885.getD 0 undef), (D45885.getD 1 undef), .int .i64 x45886, (D45885.getD 3 undef), .bool (decide (x45886 < (p0.Pairs.length : Int))), .int .i64 x45886, .func (.func 44) #[] #[], .slice (some ⟨b45995, o45996, none⟩) p0.Pairs.length c26290, .int .i64 x45886, .pointer (some ⟨b45995, o45996 + x45886.toNat * 2, none⟩), .agg #[.slice A46004 x45992.Key.length c46005, .slice A46010 x45992.Val.length c46011], .bool x46016, .int .i64 (IntKind.i64.wrap (x45886 + 1))] _ hf s kk e26292 e26296 e26300)⟩
          · have hf := iteF h45959 hf
            refine WPK.condF (Eq.trans (b := .bool (decide (x45886 < (p0.Pairs.length : Int)))) (by kernel_rfl) (bo_f h45959)) ?_
            refine WPK.exit (blockQ.same ?_)
            refine WPK.seq ?_
            refine WPK.region ?_
            refine RW.seg hT 1 [] [] [.int .i64 (-1)] [] (by kernel_rfl) (trivial) ?_
            refine RW.nil ?_
            refine WPK.ret (?_)
            refine Fin.of (rs := [.tmp 4]) hT [] (.int .i64 (-1)) [] rfl (by kernel_rfl) (trivial) ?_
            exact fun X h => vc rfl (h I45888 (-1) _ hf s kk e26292 e26296 e26300)
      · have hf := iteF h44335 hf
        refine WPK.condF (Eq.trans (b := .bool p0.Leaf) (by kernel_rfl) (b_f h44335)) ?_
        refine WPK.skip ?_
        refine WPK.seq ?_
        refine WPK.region ?_
        refine RW.seg hT 2 [.slice A26297 p0.Kids.length c26298] [] [.pointer (some ⟨b26302, 3, none⟩), .slice A26297 p0.Kids.length c26298] [.cell ⟨b26302, 3, none⟩ (.slice A26297 p0.Kids.length c26298)] (by kernel_rfl) (s.cell (i := 0) (off := 3) rfl rfl) ?_
        refine RW.op (by kernel_rfl) (OK.inl (args := [.slice A26297 p0.Kids.length c26298, .func (.func 46) #[] #[]]) en45 (by kernel_rfl) ?_)
        intro R46026 hR46027
        refine Ret.of Tryd.func45 rfl ?_
        refine WPK.seq ?_
        refine WPK.region ?_
        refine RW.seg hT 1 [] [] [.bool false] [] (by kernel_rfl) (trivial) ?_
        refine RW.nil ?_
        refine WPK.seq ?_
        refine WPK.region ?_
        refine RW.seg hT 2 [] [] [.slice A26297 p0.Kids.length c26298, .func (.func 46) #[] #[]] [] (by kernel_rfl) (trivial) ?_
        refine RW.op (by kernel_rfl) (OK.inl (args := [.slice A26297 p0.Kids.length c26298, .func (.func 46) #[] #[]]) en59 (by kernel_rfl) ?_)
        intro R46482 hR46483
        refine Ret.cut (fun v wz => ∀ X : Value → World → Prop, (∀ (I46711 : Nat → Prop) (x46709 : Int) (w' : World), g29_j5 p0 x46709 = some r → St w0 M I46711 ((.blk b26302 (.cells #[.bool p0.Leaf, .slice A26289 p0.Pairs.length c26290, .slice A26293 p0.Keys.length c26294, .slice A26297 p0.Kids.length c26298] 26 (0, 0))) :: F) w' → Kp I w I46711 w' → Elems rp_T_api_Pair I46711 w' A26289 p0.Pairs → Elems (Rp.slice (Rp.int .u8)) I46711 w' A26293 p0.Keys → Elems (Rp.int .i64) I46711 w' A26297 p0.Kids → X (.int .i64 x46709) w') → X v wz) ?_ ?_
        · refine fun _ _ hJ => hJ R46482 ?_
          clear s
          intro I46711 x46709 w46710 hf s kk e26292 e26296 e26300
          refine hR46483 _ _ ?_
          unfold g29_j5 at hf
          refine RW.seg hT 2 [] [] [.bool (decide (x46709 ≥ 0)), .bool (decide (x46709 ≥ 0))] [] (by kernel_rfl) (trivial) ?_
          refine RW.nil ?_
          refine WPK.ret (?_)
          refine Fin.of (rs := [.tmp 4]) hT [] (.bool (decide (x46709 ≥ 0))) [] rfl (by kernel_rfl) (trivial) ?_
          refine hR46027 _ _ ?_
          refine RW.seg hT 1 [] [] [.bool (decide (x46709 ≥ 0))] [] (by kernel_rfl) (trivial) ?_
          refine RW.nil ?_
          refine WPK.seq ?_
          refine WPK.cut' (Kn fun E ds wz => ∀ X : Kont, (∀ (I46727 : Nat → Prop) (x46725 : Bool) (D46724 : List Value) (w' : World), g29_j6 x46725 = some r → St w0 M I46727 (F) w' → Kp I w I46727 w' → X [(D46724.getD 0 undef), (D46724.getD 1 undef), .bool x46725, (D46724.getD 2 undef), (D46724.getD 3 undef), (D46724.getD 4 undef), (D46724.getD 5 undef), (D46724.getD 6 undef), (D46724.getD 7 undef), (D46724.getD 8 undef), (D46724.getD 9 undef), (D46724.getD 10 undef), (D46724.getD 11 undef), (D46724.getD 12 undef), (D46724.getD 13 undef), (D46724.getD 14 undef), (D46724.getD 15 undef), (D46724.getD 16 undef), (D46724.getD 17 undef), (D46724.getD 18 undef), (D46724.getD 19 undef), (D46724.getD 20 undef), (D46724.getD 21 undef), (D46724.getD 22 undef), (D46724.getD 23 undef), (D46724.getD 24 undef), (D46724.getD 25 undef), (D46724.getD 26 undef), (D46724.getD 27 undef), (D46724.getD 28 undef), (D46724.getD 29 undef), (D46724.getD 30 undef), (D46724.getD 31 undef), (D46724.getD 32 undef), (D46724.getD 33 undef), (D46724.getD 34 undef), (D46724.getD 35 undef), (D46724.getD 36 undef), (D46724.getD 37 undef), (D46724.getD 38 undef), (D46724.getD 39 undef), (D46724.getD 40 undef), (D46724.getD 41 undef), (D46724.getD 42 undef), (D46724.getD 43 undef), (D46724.getD 44 undef), (D46724.getD 45 undef), (D46724.getD 46 undef), (D46724.getD 47 undef), (D46724.getD 48 undef), (D46724.getD 49 undef), (D46724.getD 50 undef), (D46724.getD 51 undef), (D46724.getD 52 undef), (D46724.getD 53 undef), (D46724.getD 54 undef), (D46724.getD 55 undef), (D46724.getD 56 undef), (D46724.getD 57 undef), (D46724.getD 58 undef), (D46724.getD 59 undef), (D46724.getD 60 undef), (D46724.getD 61 undef), (D46724.getD 62 undef), (D46724.getD 63 undef)] [] w') → X E ds wz) ?_ ?_
          · intro X46728 hX46729
            refine fun _ _ _ hJ => hJ X46728 ?_
            clear s
            intro I46727 x46725 D46724 w46726 hf s kk
            refine hX46729 _ _ _ ?_
            unfold g29_j6 at hf
            refine WPK.ret (?_)
            obtain rfl := someS hf
            refine Fin.of (rs := [.tmp 2]) hT [] (.bool x46725) [] rfl (by kernel_rfl) (trivial) ?_
            exact fun X h => vc rfl (h I46727 _ s kk)
          · refine WPK.region ?_
            refine RW.seg hT 2 [] [(36, .bool (decide (¬ (x46709 ≥ 0))))] [.bool (decide (x46709 ≥ 0)), .bool (decide (¬ (x46709 ≥ 0)))] [.veq (.bool (!(decide (x46709 ≥ 0)))) (.bool (decide (¬ (x46709 ≥ 0))))] (by kernel_rfl) (not_v) ?_
            by_cases h46730 : ¬ (x46709 ≥ 0)
            · have hf := iteT h46730 hf
              refine RW.seg hT 6 [.slice A26289 p0.Pairs.length c26290] [(37, .bool true), (41, .bool (decide ((p0.Pairs.length : Int) = 0)))] [.bool true, .pointer (some ⟨b26302, 1, none⟩), .slice A26289 p0.Pairs.length c26290, .int .i64 (p0.Pairs.length : Int), .bool (decide ((p0.Pairs.length : Int) = 0)), .bool (decide ((p0.Pairs.length : Int) = 0))] [.veq (.bool (decide (¬ (x46709 ≥ 0)))) (.bool true), .cell ⟨b26302, 1, none⟩ (.slice A26289 p0.Pairs.length c26290), .veq (.bool ((p0.Pairs.length : Int) == 0)) (.bool (decide ((p0.Pairs.length : Int) = 0)))] (by kernel_rfl) (⟨bo_t h46730, s.cell (i := 0) (off := 1) rfl rfl, eq_v⟩) ?_
              by_cases h46731 : (p0.Pairs.length : Int) = 0
              · have hf := iteT h46731 hf
                refine RW.seg hT 6 [.slice A26293 p0.Keys.length c26294] [(43, .bool true)] [.bool true, .pointer (some ⟨b26302, 2, none⟩), .slice A26293 p0.Keys.length c26294, .int .i64 (p0.Keys.length : Int), .bool (decide ((p0.Keys.length : Int) > 0)), .bool (decide ((p0.Keys.length : Int) > 0))] [.veq (.bool (decide ((p0.Pairs.length : Int) = 0))) (.bool true), .cell ⟨b26302, 2, none⟩ (.slice A26293 p0.Keys.length c26294)] (by kernel_rfl) (⟨bo_t h46731, s.cell (i := 0) (off := 2) rfl rfl⟩) ?_
                by_cases h46732 : (p0.Keys.length : Int) > 0
                · have hf := iteT h46732 hf
                  refine RW.seg hT 6 [.slice A26293 p0.Keys.length c26294] [(49, .bool true)] [.bool true, .pointer (some ⟨b26302, 2, none⟩), .slice A26293 p0.Keys.length c26294, .int .i64 (p0.Keys.length : Int), .bool (decide ((p0.Keys.length : Int) ≤ 255)), .bool (decide ((p0.Keys.length : Int) ≤ 255))] [.veq (.bool (decide ((p0.Keys.length : Int) > 0))) (.bool true), .cell ⟨b26302, 2, none⟩ (.slice A26293 p0.Keys.length c26294)] (by kernel_rfl) (⟨bo_t h46732, s.cell (i := 0) (off := 2) rfl rfl⟩) ?_
                  by_cases h46733 : (p0.Keys.length : Int) ≤ 255
                  · have hf := iteT h46733 hf
                    refine RW.seg hT 11 [.slice A26297 p0.Kids.length c26298, .slice A26293 p0.Keys.length c26294] [(55, .bool true), (63, .bool (decide ((p0.Kids.length : Int) = (IntKind.i64.wrap ((p0.Keys.length : Int) + 1)))))] [.bool true, .pointer (some ⟨b26302, 3, none⟩), .slice A26297 p0.Kids.length c26298, .int .i64 (p0.Kids.length : Int), .pointer (some ⟨b26302, 2, none⟩), .slice A26293 p0.Keys.length c26294, .int .i64 (p0.Keys.length : Int), .int .i64 (IntKind.i64.wrap ((p0.Keys.length : Int) + 1)), .bool (decide ((p0.Kids.length : Int) = (IntKind.i64.wrap ((p0.Keys.length : Int) + 1)))), .bool (decide ((p0.Kids.length : Int) = (IntKind.i64.wrap ((p0.Keys.length : Int) + 1)))), .bool (decide ((p0.Kids.length : Int) = (IntKind.i64.wrap ((p0.Keys.length : Int) + 1))))] [.veq (.bool (decide ((p0.Keys.length : Int) ≤ 255))) (.bool true), .cell ⟨b26302, 3, none⟩ (.slice A26297 p0.Kids.length c26298), .cell ⟨b26302, 2, none⟩ (.slice A26293 p0.Keys.length c26294), .veq (.bool ((p0.Kids.length : Int) == (IntKind.i64.wrap ((p0.Keys.length : Int) + 1)))) (.bool (decide ((p0.Kids.length : Int) = (IntKind.i64.wrap ((p0.Keys.length : Int) + 1)))))] (by kernel_rfl) (⟨bo_t h46733, s.cell (i := 0) (off := 3) rfl rfl, s.cell (i := 0) (off := 2) rfl rfl, eq_v⟩) ?_
                    refine RW.nil ?_
                    replace s := s.pick [] 1 rfl
                    exact fun X h => kc (by kernel_rfl) rfl (h I46711 (decide ((p0.Kids.length : Int) = (IntKind.i64.wrap ((p0.Keys.length : Int) + 1)))) [(.agg #[.bool p0.Leaf, .slice A26289 p0.Pairs.length c26290, .slice A26293 p0.Keys.length c26294, .slice A26297 p0.Kids.length c26298]), .pointer (some ⟨b26302, 0, none⟩), undef, .bool (decide (x46709 ≥ 0)), (.agg #[.bool p0.Leaf, .slice A26289 p0.Pairs.length c26290, .slice A26293 p0.Keys.length c26294, .slice A26297 p0.Kids.length c26298]), (.func (.func 57) #[] #[.pointer (some ⟨b37201, 0, none⟩)]), .bool x42644, .bool (decide (¬ (x42644 = true))), .pointer (some ⟨b26302, 0, none⟩), .bool p0.Leaf, undef, undef, undef, undef, undef, undef, undef, undef, undef, undef, undef, undef, undef, undef, undef, undef, undef, undef, undef, undef, undef, .pointer (some ⟨b26302, 3, none⟩), .slice A26297 p0.Kids.length c26298, .bool (decide (x46709 ≥ 0)), .bool (decide (x46709 ≥ 0)), .bool (decide (¬ (x46709 ≥ 0))), .bool true, .pointer (some ⟨b26302, 1, none⟩), .slice A26289 p0.Pairs.length c26290, .int .i64 (p0.Pairs.length : Int), .bool (decide ((p0.Pairs.length : Int) = 0)), .bool (decide ((p0.Pairs.length : Int) = 0)), .bool true, .pointer (some ⟨b26302, 2, none⟩), .slice A26293 p0.Keys.length c26294, .int .i64 (p0.Keys.length : Int), .bool (decide ((p0.Keys.length : Int) > 0)), .bool (decide ((p0.Keys.length : Int) > 0)), .bool true, .pointer (some ⟨b26302, 2, none⟩), .slice A26293 p0.Keys.length c26294, .int .i64 (p0.Keys.length : Int), .bool (decide ((p0.Keys.length : Int) ≤ 255)), .bool (decide ((p0.Keys.length : Int) ≤ 255)), .bool true, .pointer (some ⟨b26302, 3, none⟩), .slice A26297 p0.Kids.length c26298, .int .i64 (p0.Kids.length : Int), .pointer (some ⟨b26302, 2, none⟩), .slice A26293 p0.Keys.length c26294, .int .i64 (p0.Keys.length : Int), .int .i64 (IntKind.i64.wrap ((p0.Keys.length : Int) + 1)), .bool (decide ((p0.Kids.length : Int) = (IntKind.i64.wrap ((p0.Keys.length : Int) + 1)))), .bool (decide ((p0.Kids.length : Int) = (IntKind.i64.wrap ((p0.Keys.length : Int) + 1))))] _ hf s kk)
                  · have hf := iteF h46733 hf
                    refine RW.seg hT 11 [] [(55, .bool false)] [.bool false, undef, undef, undef, undef, undef, undef, undef, undef, .bool false, .bool false] [.veq (.bool (decide ((p0.Keys.length : Int) ≤ 255))) (.bool false)] (by kernel_rfl) (bo_f h46733) ?_
                    refine RW.nil ?_
                    replace s := s.pick [] 1 rfl
                    exact fun X h => kc (by kernel_rfl) rfl (h I46711 false [(.agg #[.bool p0.Leaf, .slice A26289 p0.Pairs.length c26290, .slice A26293 p0.Keys.length c26294, .slice A26297 p0.Kids.length c26298]), .pointer (some ⟨b26302, 0, none⟩), undef, .bool (decide (x46709 ≥ 0)), (.agg #[.bool p0.Leaf, .slice A26289 p0.Pairs.length c26290, .slice A26293 p0.Keys.length c26294, .slice A26297 p0.Kids.length c26298]), (.func (.func 57) #[] #[.pointer (some ⟨b37201, 0, none⟩)]), .bool x42644, .bool (decide (¬ (x42644 = true))), .pointer (some ⟨b26302, 0, none⟩), .bool p0.Leaf, undef, undef, undef, undef, undef, undef, undef, undef, undef, undef, undef, undef, undef, undef, undef, undef, undef, undef, undef, undef, undef, .pointer (some ⟨b26302, 3, none⟩), .slice A26297 p0.Kids.length c26298, .bool (decide (x46709 ≥ 0)), .bool (decide (x46709 ≥ 0)), .bool (decide (¬ (x46709 ≥ 0))), .bool true, .pointer (some ⟨b26302, 1, none⟩), .slice A26289 p0.Pairs.length c26290, .int .i64 (p0.Pairs.length : Int), .bool (decide ((p0.Pairs.length : Int) = 0)), .bool (decide ((p0.Pairs.length : Int) = 0)), .bool true, .pointer (some ⟨b26302, 2, none⟩), .slice A26293 p0.Keys.length c26294, .int .i64 (p0.Keys.length : Int), .bool (decide ((p0.Keys.length : Int) > 0)), .bool (decide ((p0.Keys.length : Int) > 0)), .bool true, .pointer (some ⟨b26302, 2, none⟩), .slice A26293 p0.Keys.length c26294, .int .i64 (p0.Keys.length : Int), .bool (decide ((p0.Keys.length : Int) ≤ 255)), .bool (decide ((p0.Keys.length : Int) ≤ 255)), .bool false, undef, undef, undef, undef, undef, undef, undef, undef, .bool false] _ hf s kk)
                · have hf := iteF h46732 hf
                  refine RW.seg hT 17 [] [(49, .bool false)] [.bool false, undef, undef, undef, undef, .bool false, .bool false, undef, undef, undef, undef, undef, undef, undef, undef, .bool false, .bool false] [.veq (.bool (decide ((p0.Keys.length : Int) > 0))) (.bool false)] (by kernel_rfl) (bo_f h46732) ?_
                  refine RW.nil ?_
                  replace s := s.pick [] 1 rfl
                  exact fun X h => kc (by kernel_rfl) rfl (h I46711 false [(.agg #[.bool p0.Leaf, .slice A26289 p0.Pairs.length c26290, .slice A26293 p0.Keys.length c26294, .slice A26297 p0.Kids.length c26298]), .pointer (some ⟨b26302, 0, none⟩), undef, .bool (decide (x46709 ≥ 0)), (.agg #[.bool p0.Leaf, .slice A26289 p0.Pairs.length c26290, .slice A26293 p0.Keys.length c26294, .slice A26297 p0.Kids.length c26298]), (.func (.func 57) #[] #[.pointer (some ⟨b37201, 0, none⟩)]), .bool x42644, .bool (decide (¬ (x42644 = true))), .pointer (some ⟨b26302, 0, none⟩), .bool p0.Leaf, undef, undef, undef, undef, undef, undef, undef, undef, undef, undef, undef, undef, undef, undef, undef, undef, undef, undef, undef, undef, undef, .pointer (some ⟨b26302, 3, none⟩), .slice A26297 p0.Kids.length c26298, .bool (decide (x46709 ≥ 0)), .bool (decide (x46709 ≥ 0)), .bool (decide (¬ (x46709 ≥ 0))), .bool true, .pointer (some ⟨b26302, 1, none⟩), .slice A26289 p0.Pairs.length c26290, .int .i64 (p0.Pairs.length : Int), .bool (decide ((p0.Pairs.length : Int) = 0)), .bool (decide ((p0.Pairs.length : Int) = 0)), .bool true, .pointer (some ⟨b26302, 2, none⟩), .slice A26293 p0.Keys.length c26294, .int .i64 (p0.Keys.length : Int), .bool (decide ((p0.Keys.length : Int) > 0)), .bool (decide ((p0.Keys.length : Int) > 0)), .bool false, undef, undef, undef, undef, .bool false, .bool false, undef, undef, undef, undef, undef, undef, undef, undef, .bool false] _ hf s kk)
              · have hf := iteF h46731 hf
                refine RW.seg hT 23 [] [(43, .bool false)] [.bool false, undef, undef, undef, undef, .bool false, .bool false, undef, undef, undef, undef, .bool false, .bool false, undef, undef, undef, undef, undef, undef, undef, undef, .bool false, .bool false] [.veq (.bool (decide ((p0.Pairs.length : Int) = 0))) (.bool false)] (by kernel_rfl) (bo_f h46731) ?_
                refine RW.nil ?_
                replace s := s.pick [] 1 rfl
                exact fun X h => kc (by kernel_rfl) rfl (h I46711 false [(.agg #[.bool p0.Leaf, .slice A26289 p0.Pairs.length c26290, .slice A26293 p0.Keys.length c26294, .slice A26297 p0.Kids.length c26298]), .pointer (some ⟨b26302, 0, none⟩), undef, .bool (decide (x46709 ≥ 0)), (.agg #[.bool p0.Leaf, .slice A26289 p0.Pairs.length c26290, .slice A26293 p0.Keys.length c26294, .slice A26297 p0.Kids.length c26298]), (.func (.func 57) #[] #[.pointer (some ⟨b37201, 0, none⟩)]), .bool x42644, .bool (decide (¬ (x42644 = true))), .pointer (some ⟨b26302, 0, none⟩), .bool p0.Leaf, undef, undef, undef, undef, undef, undef, undef, undef, undef, undef, undef, undef, undef, undef, undef, undef, undef, undef, undef, undef, undef, .pointer (some ⟨b26302, 3, none⟩), .slice A26297 p0.Kids.length c26298, .bool (decide (x46709 ≥ 0)), .bool (decide (x46709 ≥ 0)), .bool (decide (¬ (x46709 ≥ 0))), .bool true, .pointer (some ⟨b26302, 1, none⟩), .slice A26289 p0.Pairs.length c26290, .int .i64 (p0.Pairs.length : Int), .bool (decide ((p0.Pairs.length : Int) = 0)), .bool (decide ((p0.Pairs.length : Int) = 0)), .bool false, undef, undef, undef, undef, .bool false, .bool false, undef, undef, undef, undef, .bool false, .bool false, undef, undef, undef, undef, undef, undef, undef, undef, .bool false] _ hf s kk)
            · have hf := iteF h46730 hf
              refine RW.seg hT 29 [] [(37, .bool false)] [.bool false, undef, undef, undef, undef, .bool false, .bool false, undef, undef, undef, undef, .bool false, .bool false, undef, undef, undef, undef, .bool false, .bool false, undef, undef, undef, undef, undef, undef, undef, undef, .bool false, .bool false] [.veq (.bool (decide (¬ (x46709 ≥ 0)))) (.bool false)] (by kernel_rfl) (bo_f h46730) ?_
              refine RW.nil ?_
              replace s := s.pick [] 1 rfl
              exact fun X h => kc (by kernel_rfl) rfl (h I46711 false [(.agg #[.bool p0.Leaf, .slice A26289 p0.Pairs.length c26290, .slice A26293 p0.Keys.length c26294, .slice A26297 p0.Kids.length c26298]), .pointer (some ⟨b26302, 0, none⟩), undef, .bool (decide (x46709 ≥ 0)), (.agg #[.bool p0.Leaf, .slice A26289 p0.Pairs.length c26290, .slice A26293 p0.Keys.length c26294, .slice A26297 p0.Kids.length c26298]), (.func (.func 57) #[] #[.pointer (some ⟨b37201, 0, none⟩)]), .bool x42644, .bool (decide (¬ (x42644 = true))), .pointer (some ⟨b26302, 0, none⟩), .bool p0.Leaf, undef, undef, undef, undef, undef, undef, undef, undef, undef, undef, undef, undef, undef, undef, undef, undef, undef, undef, undef, undef, undef, .pointer (some ⟨b26302, 3, none⟩), .slice A26297 p0.Kids.length c26298, .bool (decide (x46709 ≥ 0)), .bool (decide (x46709 ≥ 0)), .bool (decide (¬ (x46709 ≥ 0))), .bool false, undef, undef, undef, undef, .bool false, .bool false, undef, undef, undef, undef, .bool false, .bool false, undef, undef, undef, undef, .bool false, .bool false, undef, undef, undef, undef, undef, undef, undef, undef, .bool false] _ hf s kk)
        · refine Ret.of Tryd.func59 rfl ?_
          refine WPK.seq ?_
          refine WPK.region ?_
          refine RW.seg hT 1 [] [] [.int .i64 0] [] (by kernel_rfl) (trivial) ?_
          refine RW.nil ?_
          refine WPK.seq ?_
          refine WPK.seq ?_
          refine WPK.region ?_
          refine RW.seg hT 3 [] [] [.slice A26297 p0.Kids.length c26298, .int .i64 (p0.Kids.length : Int), .int .i64 0] [] (by kernel_rfl) (trivial) ?_
          refine RW.nil ?_
          refine WPK.block ?_
          refine WPK.loop' (J := fun n46920 E ds wz => ∀ X : Kont, (∀ (I46884 : Nat → Prop) (x46882 : Int) (D46881 : List Value) (w' : World), g29_l7 p0 n46920 x46882 = some r → St w0 M I46884 ((.blk b26302 (.cells #[.bool p0.Leaf, .slice A26289 p0.Pairs.length c26290, .slice A26293 p0.Keys.length c26294, .slice A26297 p0.Kids.length c26298] 26 (0, 0))) :: F) w' → Kp I w I46884 w' → Elems (Rp.int .i64) I46884 w' A26297 p0.Kids → Elems rp_T_api_Pair I46884 w' A26289 p0.Pairs → Elems (Rp.slice (Rp.int .u8)) I46884 w' A26293 p0.Keys → X [.slice A26297 p0.Kids.length c26298, .func (.func 46) #[] #[], (D46881.getD 0 undef), (D46881.getD 1 undef), .int .i64 0, (D46881.getD 2 undef), (D46881.getD 3 undef), .int .i64 (p0.Kids.length : Int), .int .i64 x46882, (D46881.getD 4 undef), (D46881.getD 5 undef), (D46881.getD 6 undef), (D46881.getD 7 undef), (D46881.getD 8 undef), (D46881.getD 9 undef), (D46881.getD 10 undef), (D46881.getD 11 undef), undef, (D46881.getD 12 undef)] [] w') → X E ds wz) FUEL (fun X h => kc (by kernel_rfl) rfl (h I42646 0 [undef, undef, undef, .slice A26297 p0.Kids.length c26298, undef, undef, undef, undef, undef, undef, undef, undef, undef] _ hf s kk e26300 e26292 e26296)) (fun _ _ _ hJ => hJ (fun _ _ _ => False) (by intro I46884 x46882 D46881 w46883 hf s kk e26300 e26292 e26296; exact noneS hf)) ?_
          intro X46956 hX46957
          refine fun n46920 _ _ _ hJ => hJ (X46956 n46920) ?_
          clear s
          intro I46884 x46882 D46881 w46883 hf s kk e26300 e26292 e26296
          refine hX46957 _ _ _ _ ?_
          replace hf : g29_l7B p0 (g29_l7 p0 n46920) x46882 = some r := hf
          generalize hrec46921 : g29_l7 p0 n46920 = rec46919 at hf
          unfold g29_l7B at hf
          refine WPK.seq ?_
          refine WPK.region ?_
          refine RW.seg hT 1 [] [] [.bool (decide (x46882 < (p0.Kids.length : Int)))] [] (by kernel_rfl) (trivial) ?_
          refine RW.nil ?_
          refine WPK.seq ?_
          by_cases h46923 : x46882 < (p0.Kids.length : Int)
          · have hf := iteT h46923 hf
            refine WPK.condT (Eq.trans (b := .bool (decide (x46882 < (p0.Kids.length : Int)))) (by kernel_rfl) (bo_t h46923)) ?_
            refine WPK.skip ?_
            refine WPK.seq ?_
            refine WPK.block ?_
            refine WPK.seq ?_
            refine WPK.region ?_
            refine RW.seg hT 2 [] [] [.int .i64 x46882, .int .i64 x46882] [] (by kernel_rfl) (trivial) ?_
            refine RW.nil ?_
            refine WPK.seq ?_
            refine WPK.region ?_
            obtain ⟨x46940, hx46941, hf⟩ := bindS hf
            obtain ⟨h46942, hx46941⟩ := getS hx46941
            obtain ⟨b46943, o46944, rfl⟩ := Elems.opn e26300 hx46941
            obtain ⟨cs46945, hr46946, ha46947⟩ := Elems.get e26300 hx46941
            obtain rfl : cs46945 = [.int .i64 x46940] := hr46946
            refine RW.seg hT 5 [.int .i64 x46940] [] [.func (.func 46) #[] #[], .slice (some ⟨b46943, o46944, none⟩) p0.Kids.length c26298, .int .i64 x46882, .pointer (some ⟨b46943, o46944 + x46882.toNat * 1, none⟩), .int .i64 x46940] [.idx x46882 p0.Kids.length, .cell ⟨b46943, o46944 + x46882.toNat * 1, none⟩ (.int .i64 x46940)] (by kernel_rfl) (⟨h46942, ha46947 0 _ rfl⟩) ?_
            obtain ⟨x46948, hx46949, hf⟩ := bindS hf
            refine RW.op (by kernel_rfl) (OK.call' en46 (by kernel_rfl) (c46 (F := (.blk b26302 (.cells #[.bool p0.Leaf, .slice A26289 p0.Pairs.length c26290, .slice A26293 p0.Keys.length c26294, .slice (some ⟨b46943, o46944, none⟩) p0.Kids.length c26298] 26 (0, 0))) :: F) x46940 s hx46949) ?_)
            intro X46952 hX46953
            refine fun _ _ hJ => hJ X46952 ?_
            clear s
            intro I46954 w46950 s k46951
            refine hX46953 _ _ ?_
            replace e26300 := e26300.st k46951
            replace e26292 := e26292.st k46951
            replace e26296 := e26296.st k46951
            replace kk := kk.trans k46951
            refine RW.nil ?_
            by_cases h46955 : x46948 = true
            · have hf := iteT h46955 hf
              refine WPK.condT (Eq.trans (b := .bool x46948) (by kernel_rfl) (b_t h46955)) ?_
              refine WPK.seq ?_
              refine WPK.region ?_
              refine RW.seg hT 2 [] [] [.int .i64 x46882, .int .i64 x46882] [] (by kernel_rfl) (trivial) ?_
              refine RW.nil ?_
              refine WPK.ret (blockQ.ret (blockQ.ret (?_)))
              refine Fin.of (rs := [.tmp 4]) hT [] (.int .i64 x46882) [] rfl (by kernel_rfl) (trivial) ?_
              exact fun X h => vc rfl (h I46954 x46882 _ hf s kk e26292 e26296 e26300)
            · have hf := iteF h46955 hf
              refine WPK.condF (Eq.trans (b := .bool x46948) (by kernel_rfl) (b_f h46955)) ?_
              refine WPK.skip ?_
              refine WPK.region ?_
              refine RW.seg hT 2 [] [] [.int .i64 (IntKind.i64.wrap (x46882 + 1)), .int .i64 (IntKind.i64.wrap (x46882 + 1))] [] (by kernel_rfl) (trivial) ?_
              refine RW.nil ?_
              subst hrec46921
              exact ⟨n46920, Nat.le_refl _, fun X h => kc (by kernel_rfl) rfl (h I46954 (IntKind.i64.wrap (x46882 + 1)) [(D46881.getD 0 undef), (D46881.getD 1 undef), .int .i64 x46882, (D46881.getD 3 undef), .bool (decide (x46882 < (p0.Kids.length : Int))), .int .i64 x46882, .func (.func 46) #[] #[], .slice (some ⟨b46943, o46944, none⟩) p0.Kids.length c26298, .int .i64 x46882, .pointer (some ⟨b46943, o46944 + x46882.toNat * 1, none⟩), .int .i64 x46940, .bool x46948, .int .i64 (IntKind.i64.wrap (x46882 + 1))] _ hf s kk e26300 e26292 e26296)⟩
          · have hf := iteF h46923 hf
            refine WPK.condF (Eq.trans (b := .bool (decide (x46882 < (p0.Kids.length : Int)))) (by kernel_rfl) (bo_f h46923)) ?_
            refine WPK.exit (blockQ.same ?_)
            refine WPK.seq ?_
            refine WPK.region ?_
            refine RW.seg hT 1 [] [] [.int .i64 (-1)] [] (by kernel_rfl) (trivial) ?_
            refine RW.nil ?_
            refine WPK.ret (?_)
            refine Fin.of (rs := [.tmp 4]) hT [] (.int .i64 (-1)) [] rfl (by kernel_rfl) (trivial) ?_
            exact fun X h => vc rfl (h I46884 (-1) _ hf s kk e26292 e26296 e26300)
  · refine Ret.of Tryd.func41 rfl ?_
    refine WPK.seq ?_
    refine WPK.region ?_
    refine RW.op (by kernel_rfl) (OK.new hT (f := fun b => .pointer (some ⟨b, 0, none⟩)) (cs := [.bool false]) (e := 4) (c := .tt) s (by kernel_rfl) trivial ?_)
    clear s
    rintro w46958 b46959 s k46960 -
    replace e26292 := e26292.st k46960
    replace e26296 := e26296.st k46960
    replace e26300 := e26300.st k46960
    replace kk := kk.trans k46960
    refine RW.nil ?_
    refine WPK.seq ?_
    refine WPK.region ?_
    refine RW.op (by kernel_rfl) (OK.new hT (f := fun b => .pointer (some ⟨b, 0, none⟩)) (cs := [.slice none 0 0]) (e := 27) (c := .tt) s (by kernel_rfl) trivial ?_)
    clear s
    rintro w46961 b46962 s k46963 -
    replace e26292 := e26292.st k46963
    replace e26296 := e26296.st k46963
    replace e26300 := e26300.st k46963
    replace kk := kk.trans k46963
    refine RW.nil ?_
    refine WPK.seq ?_
    refine WPK.seq ?_
    refine WPK.region ?_
    refine RW.seg hT 1 [] [] [.func (.func 57) #[] #[.pointer (some ⟨b37201, 0, none⟩)]] [] (by kernel_rfl) (trivial) ?_
    refine RW.nil ?_
    refine WPK.block ?_
    refine WPK.range (gf := 57) (first := []) (cap := [.pointer (some ⟨b37201, 0, none⟩)]) s (by kernel_rfl) en57 ?_
    clear s
    intro l49674 d49675 rec49676 w49678 R49680 hrec49677 s k49679 hR49681
    replace e26292 := e26292.st k49679
    replace e26296 := e26296.st k49679
    replace e26300 := e26300.st k49679
    replace kk := kk.trans k49679
    refine Ret.of Tryd.func57 rfl ?_
    refine WPK.seq ?_
    refine WPK.seq ?_
    refine WPK.region ?_
    refine RW.seg hT 4 [.slice A26289 p0.Pairs.length c26290] [] [.pointer (some ⟨b37201, 1, none⟩), .slice A26289 p0.Pairs.length c26290, .int .i64 (p0.Pairs.length : Int), .int .i64 0] [.cell ⟨b37201, 1, none⟩ (.slice A26289 p0.Pairs.length c26290)] (by kernel_rfl) (s.cell (i := 4) (off := 1) rfl rfl) ?_
    refine RW.nil ?_
    refine WPK.block ?_
    refine WPK.loop' (J := fun n51252 E ds wz => ∀ X : Kont, (∀ (I51010 : Nat → Prop) (x51001 : Int) (x51002 : (List Int)) (z51007 : Bool) (D51000 : List Value) (A51003 : Option Addr) (c51004 : Nat) (w' : World), g29_l8 p0 n51252 x51001 x51002 z51007 = some r → St w0 M I51010 ((.blk l49674 (rec49676 .ready none)) :: (.blk d49675 (.deferred (some []))) :: (.blk b46962 (.cells #[.slice A51003 x51002.length c51004] 27 (0, 0))) :: (.blk b46959 (.cells #[.bool false] 4 (0, 0))) :: (.blk b37201 (.cells #[.bool p0.Leaf, .slice A26289 p0.Pairs.length c26290, .slice A26293 p0.Keys.length c26294, .slice A26297 p0.Kids.length c26298] 26 (0, 0))) :: (.blk b26302 (.cells #[.bool p0.Leaf, .slice A26289 p0.Pairs.length c26290, .slice A26293 p0.Keys.length c26294, .slice A26297 p0.Kids.length c26298] 26 (0, 0))) :: F) w' → Kp I w I51010 w' → Elems rp_T_api_Pair I51010 w' A26289 p0.Pairs → (x51002.length ≤ c51004 ∧ c51004 ≤ 9223372036854775807) → Elems (Rp.int .u8) I51010 w' A51003 x51002 → A51003.isNone = z51007 → Elems (Rp.slice (Rp.int .u8)) I51010 w' A26293 p0.Keys → Elems (Rp.int .i64) I51010 w' A26297 p0.Kids → X [.func (.yield l49674) #[] #[], .pointer (some ⟨b37201, 0, none⟩), (D51000.getD 0 undef), (D51000.getD 1 undef), (D51000.getD 2 undef), (D51000.getD 3 undef), undef, (D51000.getD 4 undef), .slice A26289 p0.Pairs.length c26290, .int .i64 (p0.Pairs.length : Int), .int .i64 x51001, (D51000.getD 5 undef), (D51000.getD 6 undef), (D51000.getD 7 undef), (D51000.getD 8 undef), (D51000.getD 9 undef), (D51000.getD 10 undef), (D51000.getD 11 undef), (D51000.getD 12 undef), (D51000.getD 13 undef), undef, undef, undef, undef, undef, undef, undef, undef, undef, undef, undef, undef] [] w') → X E ds wz) FUEL (fun X h => kc (by kernel_rfl) rfl (h I 0 [] true [undef, undef, undef, undef, .pointer (some ⟨b37201, 1, none⟩), undef, undef, undef, undef, undef, undef, undef, undef, undef] none 0 _ hf s kk e26292 nil_hc Elems.nil rfl e26296 e26300)) (fun _ _ _ hJ => hJ (fun _ _ _ => False) (by intro I51010 x51001 x51002 z51007 D51000 A51003 c51004 w51009 hf s kk e26292 hc51005 e51006 hz51008 e26296 e26300; exact noneS hf)) ?_
    intro X52394 hX52395
    refine fun n51252 _ _ _ hJ => hJ (X52394 n51252) ?_
    clear s
    intro I51010 x51001 x51002 z51007 D51000 A51003 c51004 w51009 hf s kk e26292 hc51005 e51006 hz51008 e26296 e26300
    refine hX52395 _ _ _ _ ?_
    replace hf : g29_l8B p0 (g29_l8 p0 n51252) x51001 x51002 z51007 = some r := hf
    generalize hrec51253 : g29_l8 p0 n51252 = rec51251 at hf
    unfold g29_l8B at hf
    refine WPK.seq ?_
    refine WPK.region ?_
    refine RW.seg hT 1 [] [] [.bool (decide (x51001 < (p0.Pairs.length : Int)))] [] (by kernel_rfl) (trivial) ?_
    refine RW.nil ?_
    refine WPK.seq ?_
    by_cases h51255 : x51001 < (p0.Pairs.length : Int)
    · have hf := iteT h51255 hf
      refine WPK.condT (Eq.trans (b := .bool (decide (x51001 < (p0.Pairs.length : Int)))) (by kernel_rfl) (bo_t h51255)) ?_
      refine WPK.skip ?_
      refine WPK.seq ?_
      refine WPK.block ?_
      refine WPK.seq ?_
      refine WPK.region ?_
      obtain ⟨x51375, hx51376, hf⟩ := bindS hf
      obtain ⟨h51377, hx51376⟩ := getS hx51376
      obtain ⟨b51378, o51379, rfl⟩ := Elems.opn e26292 hx51376
      obtain ⟨cs51380, hr51381, ha51382⟩ := Elems.get e26292 hx51376
      obtain ⟨cs51383, cs51384, rfl, hr51385, hr51386⟩ := hr51381
      obtain ⟨A51387, c51388, rfl, q51389, q51390, e51391⟩ := hr51385
      have hc51392 := And.intro q51389 q51390
      obtain ⟨A51393, c51394, rfl, q51395, q51396, e51397⟩ := hr51386
      have hc51398 := And.intro q51395 q51396
      refine RW.seg hT 2 [.agg #[.slice A51387 x51375.Key.length c51388, .slice A51393 x51375.Val.length c51394]] [] [.pointer (some ⟨b51378, o51379 + x51001.toNat * 2, none⟩), .agg #[.slice A51387 x51375.Key.length c51388, .slice A51393 x51375.Val.length c51394]] [.idx x51001 p0.Pairs.length, .cells ⟨b51378, o51379 + x51001.toNat * 2, none⟩ [.slice A51387 x51375.Key.length c51388, .slice A51393 x51375.Val.length c51394] 2] (by kernel_rfl) (⟨h51377, at_cells ha51382 (off := 0) rfl rfl⟩) ?_
      refine RW.op (by kernel_rfl) (OK.new hT (f := fun b => .pointer (some ⟨b, 0, none⟩)) (cs := [.slice none 0 0, .slice none 0 0]) (e := 41) (c := .tt) s (by kernel_rfl) trivial ?_)
      clear s
      rintro w51399 b51400 s k51401 -
      replace e26292 := e26292.st k51401
      replace e51391 := e51391.st k51401
      replace e51397 := e51397.st k51401
      replace e51006 := e51006.st k51401
      replace e26296 := e26296.st k51401
      replace e26300 := e26300.st k51401
      replace kk := kk.trans k51401
      refine RW.op (by kernel_rfl) (OK.store hT (i := 0) (b := b51400) (off := 0) (n := 2) (vs := [.slice A51387 x51375.Key.length c51388, .slice A51393 x51375.Val.length c51394]) (cs := [.slice none 0 0, .slice none 0 0]) (e := 41) s (by kernel_rfl) rfl rfl (flat_ok rfl) (Nat.le_of_ble_eq_true rfl) ?_)
      clear s
      rintro w51402 s k51403 -
      replace e26292 := e26292.st k51403
      replace e51391 := e51391.st k51403
      replace e51397 := e51397.st k51403
      replace e51006 := e51006.st k51403
      replace e26296 := e26296.st k51403
      replace e26300 := e26300.st k51403
      replace kk := kk.trans k51403
      refine RW.nil ?_
      refine WPK.seq ?_
      refine WPK.region ?_
      refine RW.seg hT 3 [.slice A51387 x51375.Key.length c51388] [] [.func (.yield l49674) #[] #[], .pointer (some ⟨b51400, 0, none⟩), .slice A51387 x51375.Key.length c51388] [.cell ⟨b51400, 0, none⟩ (.slice A51387 x51375.Key.length c51388)] (by kernel_rfl) (s.cell (i := 0) (off := 0) rfl rfl) ?_
      refine RW.op (by kernel_rfl) (OK.yield (args := [.slice A51387 x51375.Key.length c51388]) hrec49677 s (i := 1) rfl (by kernel_rfl) rfl ?_)
      intro R51404 hR51405
      refine WPK.region ?_
      refine RW.seg hT 1 [] [] [.slice A51387 x51375.Key.length c51388] [] (by kernel_rfl) (trivial) ?_
      refine RW.nil ?_
      refine RoundBeg.of hrec49677 s (i := 1) rfl ?_
      clear s
      intro w51406 s k51407
      replace e51391 := e51391.st k51407
      replace e26292 := e26292.st k51407
      replace e51397 := e51397.st k51407
      replace e51006 := e51006.st k51407
      replace e26296 := e26296.st k51407
      replace e26300 := e26300.st k51407
      replace kk := kk.trans k51407
      refine WPK.block ?_
      refine WPK.seq ?_
      refine WPK.seq ?_
      refine WPK.region ?_
      refine RW.seg hT 1 [] [] [.slice A51387 x51375.Key.length c51388] [] (by kernel_rfl) (trivial) ?_
      obtain ⟨x51461, hx51462, hf⟩ := bindS hf
      refine RW.op (by kernel_rfl) (OK.call' en56 (by kernel_rfl) (c56 (F := (.blk b51400 (.cells #[.slice A51387 x51375.Key.length c51388, .slice A51393 x51375.Val.length c51394] 41 (0, 0))) :: (.blk l49674 (rec49676 .busy none)) :: (.blk d49675 (.deferred (some []))) :: (.blk b46962 (.cells #[.slice A51003 x51002.length c51004] 27 (0, 0))) :: (.blk b46959 (.cells #[.bool false] 4 (0, 0))) :: (.blk b37201 (.cells #[.bool p0.Leaf, .slice (some ⟨b51378, o51379, none⟩) p0.Pairs.length c26290, .slice A26293 p0.Keys.length c26294, .slice A26297 p0.Kids.length c26298] 26 (0, 0))) :: (.blk b26302 (.cells #[.bool p0.Leaf, .slice (some ⟨b51378, o51379, none⟩) p0.Pairs.length c26290, .slice A26293 p0.Keys.length c26294, .slice A26297 p0.Kids.length c26298] 26 (0, 0))) :: F) x51375.Key A51387 c51388 hc51392 e51391 s hx51462) ?_)
      intro X51465 hX51466
      refine fun _ _ hJ => hJ X51465 ?_
      clear s
      intro I51467 w51463 s k51464
      refine hX51466 _ _ ?_
      replace e51391 := e51391.st k51464
      replace e26292 := e26292.st k51464
      replace e51397 := e51397.st k51464
      replace e51006 := e51006.st k51464
      replace e26296 := e26296.st k51464
      replace e26300 := e26300.st k51464
      replace kk := kk.trans k51464
      refine RW.seg hT 1 [] [(9, .bool (decide (¬ (x51461 = true))))] [.bool (decide (¬ (x51461 = true)))] [.veq (.bool (!x51461)) (.bool (decide (¬ (x51461 = true))))] (by kernel_rfl) (not_b) ?_
      by_cases h51468 : ¬ (x51461 = true)
      · have hf := iteT h51468 hf
        refine RW.seg hT 10 [] [(10, .bool true)] [.bool true, undef, undef, undef, undef, undef, undef, undef, undef, .bool true] [.veq (.bool (decide (¬ (x51461 = true)))) (.bool true)] (by kernel_rfl) (bo_t h51468) ?_
        refine RW.nil ?_
        refine WPK.condT (by kernel_rfl) ?_
        refine WPK.seq ?_
        refine WPK.region ?_
        refine RW.op (by kernel_rfl) (OK.store hT (i := 4) (b := b46959) (off := 0) (n := 1) (vs := [.bool false]) (cs := [.bool false]) (e := 4) s (by kernel_rfl) rfl rfl (flat_ok rfl) (Nat.le_of_ble_eq_true rfl) ?_)
        clear s
        rintro w51469 s k51470 -
        replace e51391 := e51391.st k51470
        replace e26292 := e26292.st k51470
        replace e51397 := e51397.st k51470
        replace e51006 := e51006.st k51470
        replace e26296 := e26296.st k51470
        replace e26300 := e26300.st k51470
        replace kk := kk.trans k51470
        refine RW.nil ?_
        refine WPK.ret (blockQ.ret (?_))
        refine RoundEnd.stop Code.ret hrec49677 s (i := 1) rfl ?_
        clear s
        intro w51471 s k51472
        replace e51391 := e51391.st k51472
        replace e26292 := e26292.st k51472
        replace e51397 := e51397.st k51472
        replace e51006 := e51006.st k51472
        replace e26296 := e26296.st k51472
        replace e26300 := e26300.st k51472
        replace kk := kk.trans k51472
        refine hR51405 _ _ ?_
        refine RW.seg hT 1 [] [] [.bool true] [] (by kernel_rfl) (trivial) ?_
        refine RW.nil ?_
        refine WPK.condT (by kernel_rfl) ?_
        refine WPK.ret (blockQ.ret (blockQ.ret (?_)))
        refine Fin.of (rs := []) hT [] (.tuple #[]) [] rfl (by kernel_rfl) (trivial) ?_
        refine hR49681 _ _ (RangeEnd.jump hrec49677 s (i := 1) rfl ?_)
        clear s
        intro w51473 s k51474
        replace e51391 := e51391.st k51474
        replace e51397 := e51397.st k51474
        replace e51006 := e51006.st k51474
        replace e26292 := e26292.st k51474
        replace e26296 := e26296.st k51474
        replace e26300 := e26300.st k51474
        replace kk := kk.trans k51474
        refine WPK.ret (blockQ.ret (?_))
        refine Fin.mark (i := 1) s rfl ?_
        clear s
        intro w51475 s k51476
        replace e51391 := e51391.st k51476
        replace e51397 := e51397.st k51476
        replace e51006 := e51006.st k51476
        replace e26292 := e26292.st k51476
        replace e26296 := e26296.st k51476
        replace e26300 := e26300.st k51476
        replace kk := kk.trans k51476
        refine Fin.of (rs := [.cell 2 4]) hT [.bool false] (.bool false) [.cell ⟨b46959, 0, none⟩ (.bool false)] rfl (by kernel_rfl) (s.cell (i := 2) (off := 0) rfl rfl) ?_
        replace s := s.pick [4] 5 rfl
        exact fun X h => vc rfl (h I51467 false _ hf s kk e26292 e26296 e26300)
      · have hf := iteF h51468 hf
        refine RW.seg hT 3 [.slice A51003 x51002.length c51004] [(10, .bool false), (12, .bool (!z51007))] [.bool false, .slice A51003 x51002.length c51004, .bool (!z51007)] [.veq (.bool (decide (¬ (x51461 = true)))) (.bool false), .cell ⟨b46962, 0, none⟩ (.slice A51003 x51002.length c51004), .veq (.bool (!A51003.isNone)) (.bool ((!z51007)))] (by kernel_rfl) (⟨bo_f h51468, s.cell (i := 3) (off := 0) rfl rfl, neg_v hz51008⟩) ?_
        by_cases h51477 : (!z51007) = true
        · have hf := iteT h51477 hf
          refine RW.seg hT 3 [.slice A51003 x51002.length c51004] [(13, .bool true)] [.bool true, .slice A51003 x51002.length c51004, .slice A51387 x51375.Key.length c51388] [.veq (.bool ((!z51007))) (.bool true), .cell ⟨b46962, 0, none⟩ (.slice A51003 x51002.length c51004)] (by kernel_rfl) (⟨b_t h51477, s.cell (i := 3) (off := 0) rfl rfl⟩) ?_
          obtain ⟨x51478, hx51479, hf⟩ := bindS hf
          refine RW.op (by kernel_rfl) (OK.call' en49 (by kernel_rfl) (c49 (F := (.blk b51400 (.cells #[.slice A51387 x51375.Key.length c51388, .slice A51393 x51375.Val.length c51394] 41 (0, 0))) :: (.blk l49674 (rec49676 .busy none)) :: (.blk d49675 (.deferred (some []))) :: (.blk b46962 (.cells #[.slice A51003 x51002.length c51004] 27 (0, 0))) :: (.blk b46959 (.cells #[.bool false] 4 (0, 0))) :: (.blk b37201 (.cells #[.bool p0.Leaf, .slice (some ⟨b51378, o51379, none⟩) p0.Pairs.length c26290, .slice A26293 p0.Keys.length c26294, .slice A26297 p0.Kids.length c26298] 26 (0, 0))) :: (.blk b26302 (.cells #[.bool p0.Leaf, .slice (some ⟨b51378, o51379, none⟩) p0.Pairs.length c26290, .slice A26293 p0.Keys.length c26294, .slice A26297 p0.Kids.length c26298] 26 (0, 0))) :: F) x51002 x51375.Key A51003 c51004 A51387 c51388 hc51005 e51006 hc51392 e51391 s hx51479) ?_)
          intro X51482 hX51483
          refine fun _ _ hJ => hJ X51482 ?_
          clear s
          intro I51484 w51480 s k51481
          refine hX51483 _ _ ?_
          replace e51391 := e51391.st k51481
          replace e51006 := e51006.st k51481
          replace e26292 := e26292.st k51481
          replace e51397 := e51397.st k51481
          replace e26296 := e26296.st k51481
          replace e26300 := e26300.st k51481
          replace kk := kk.trans k51481
          refine RW.seg hT 3 [] [] [.bool (decide (x51478 ≥ 0)), .bool (decide (x51478 ≥ 0)), .bool (decide (x51478 ≥ 0))] [] (by kernel_rfl) (trivial) ?_
          refine RW.nil ?_
          by_cases h51485 : x51478 ≥ 0
          · have hf := iteT h51485 hf
            refine WPK.condT (Eq.trans (b := .bool (decide (x51478 ≥ 0))) (by kernel_rfl) (bo_t h51485)) ?_
            refine WPK.seq ?_
            refine WPK.region ?_
            refine RW.op (by kernel_rfl) (OK.store hT (i := 4) (b := b46959) (off := 0) (n := 1) (vs := [.bool false]) (cs := [.bool false]) (e := 4) s (by kernel_rfl) rfl rfl (flat_ok rfl) (Nat.le_of_ble_eq_true rfl) ?_)
            clear s
            rintro w51486 s k51487 -
            replace e51391 := e51391.st k51487
            replace e51006 := e51006.st k51487
            replace e26292 := e26292.st k51487
            replace e51397 := e51397.st k51487
            replace e26296 := e26296.st k51487
            replace e26300 := e26300.st k51487
            replace kk := kk.trans k51487
            refine RW.nil ?_
            refine WPK.ret (blockQ.ret (?_))
            refine RoundEnd.stop Code.ret hrec49677 s (i := 1) rfl ?_
            clear s
            intro w51488 s k51489
            replace e51391 := e51391.st k51489
            replace e51006 := e51006.st k51489
            replace e26292 := e26292.st k51489
            replace e51397 := e51397.st k51489
            replace e26296 := e26296.st k51489
            replace e26300 := e26300.st k51489
            replace kk := kk.trans k51489
            refine hR51405 _ _ ?_
            refine RW.seg hT 1 [] [] [.bool true] [] (by kernel_rfl) (trivial) ?_
            refine RW.nil ?_
            refine WPK.condT (by kernel_rfl) ?_
            refine WPK.ret (blockQ.ret (blockQ.ret (?_)))
            refine Fin.of (rs := []) hT [] (.tuple #[]) [] rfl (by kernel_rfl) (trivial) ?_
            refine hR49681 _ _ (RangeEnd.jump hrec49677 s (i := 1) rfl ?_)
            clear s
            intro w51490 s k51491
            replace e51391 := e51391.st k51491
            replace e51397 := e51397.st k51491
            replace e51006 := e51006.st k51491
            replace e26292 := e26292.st k51491
            replace e26296 := e26296.st k51491
            replace e26300 := e26300.st k51491
            replace kk := kk.trans k51491
            refine WPK.ret (blockQ.ret (?_))
            refine Fin.mark (i := 1) s rfl ?_
            clear s
            intro w51492 s k51493
            replace e51391 := e51391.st k51493
            replace e51397 := e51397.st k51493
            replace e51006 := e51006.st k51493
            replace e26292 := e26292.st k51493
            replace e26296 := e26296.st k51493
            replace e26300 := e26300.st k51493
            replace kk := kk.trans k51493
            refine Fin.of (rs := [.cell 2 4]) hT [.bool false] (.bool false) [.cell ⟨b46959, 0, none⟩ (.bool false)] rfl (by kernel_rfl) (s.cell (i := 2) (off := 0) rfl rfl) ?_
            replace s := s.pick [4] 5 rfl
            exact fun X h => vc rfl (h I51484 false _ hf s kk e26292 e26296 e26300)
          · have hf := iteF h51485 hf
            refine WPK.condF (Eq.trans (b := .bool (decide (x51478 ≥ 0))) (by kernel_rfl) (bo_f h51485)) ?_
            refine WPK.skip ?_
            refine WPK.region ?_
            refine RW.seg hT 1 [] [] [.slice A51387 x51375.Key.length c51388] [] (by kernel_rfl) (trivial) ?_
            refine RW.op (by kernel_rfl) (OK.store hT (i := 3) (b := b46962) (off := 0) (n := 1) (vs := [.slice A51387 x51375.Key.length c51388]) (cs := [.slice A51003 x51002.length c51004]) (e := 27) s (by kernel_rfl) rfl rfl (flat_ok rfl) (Nat.le_of_ble_eq_true rfl) ?_)
            clear s
            rintro w51494 s k51495 -
            replace e51391 := e51391.st k51495
            replace e51006 := e51006.st k51495
            replace e26292 := e26292.st k51495
            replace e51397 := e51397.st k51495
            replace e26296 := e26296.st k51495
            replace e26300 := e26300.st k51495
            replace kk := kk.trans k51495
            refine RW.nil ?_
            refine RoundEnd.next hrec49677 s (i := 1) rfl ?_
            clear s
            intro w51496 s k51497
            replace e51391 := e51391.st k51497
            replace e51006 := e51006.st k51497
            replace e26292 := e26292.st k51497
            replace e51397 := e51397.st k51497
            replace e26296 := e26296.st k51497
            replace e26300 := e26300.st k51497
            replace kk := kk.trans k51497
            refine hR51405 _ _ ?_
            refine RW.seg hT 1 [] [] [.bool false] [] (by kernel_rfl) (trivial) ?_
            refine RW.nil ?_
            refine WPK.condF (by kernel_rfl) ?_
            refine WPK.skip ?_
            refine WPK.region ?_
            refine RW.seg hT 2 [] [] [.int .i64 (IntKind.i64.wrap (x51001 + 1)), .int .i64 (IntKind.i64.wrap (x51001 + 1))] [] (by kernel_rfl) (trivial) ?_
            refine RW.nil ?_
            subst hrec51253
            obtain ⟨h51498, hf⟩ := iteS hf
            replace s := s.pick [1, 2, 3, 4, 5, 6] 7 rfl
            exact ⟨n51252, Nat.le_refl _, fun X h => kc (by kernel_rfl) rfl (h I51484 (IntKind.i64.wrap (x51001 + 1)) x51375.Key false [(D51000.getD 0 undef), (D51000.getD 1 undef), .pointer (some ⟨b51400, 0, none⟩), (D51000.getD 3 undef), (D51000.getD 4 undef), .bool (decide (x51001 < (p0.Pairs.length : Int))), .pointer (some ⟨b51378, o51379 + x51001.toNat * 2, none⟩), .agg #[.slice A51387 x51375.Key.length c51388, .slice A51393 x51375.Val.length c51394], .func (.yield l49674) #[] #[], .pointer (some ⟨b51400, 0, none⟩), .slice A51387 x51375.Key.length c51388, .bool true, .bool false, .int .i64 (IntKind.i64.wrap (x51001 + 1))] A51387 c51388 _ hf s kk e26292 hc51392 e51391 (some_pos e51391 h51498) e26296 e26300)⟩
        · have hf := iteF h51477 hf
          refine RW.seg hT 7 [] [(13, .bool false)] [.bool false, undef, undef, undef, undef, .bool false, .bool false] [.veq (.bool ((!z51007))) (.bool false)] (by kernel_rfl) (b_f h51477) ?_
          refine RW.nil ?_
          refine WPK.condF (by kernel_rfl) ?_
          refine WPK.skip ?_
          refine WPK.region ?_
          refine RW.seg hT 1 [] [] [.slice A51387 x51375.Key.length c51388] [] (by kernel_rfl) (trivial) ?_
          refine RW.op (by kernel_rfl) (OK.store hT (i := 3) (b := b46962) (off := 0) (n := 1) (vs := [.slice A51387 x51375.Key.length c51388]) (cs := [.slice A51003 x51002.length c51004]) (e := 27) s (by kernel_rfl) rfl rfl (flat_ok rfl) (Nat.le_of_ble_eq_true rfl) ?_)
          clear s
          rintro w51499 s k51500 -
          replace e51391 := e51391.st k51500
          replace e51006 := e51006.st k51500
          replace e26292 := e26292.st k51500
          replace e51397 := e51397.st k51500
          replace e26296 := e26296.st k51500
          replace e26300 := e26300.st k51500
          replace kk := kk.trans k51500
          refine RW.nil ?_
          refine RoundEnd.next hrec49677 s (i := 1) rfl ?_
          clear s
          intro w51501 s k51502
          replace e51391 := e51391.st k51502
          replace e51006 := e51006.st k51502
          replace e26292 := e26292.st k51502
          replace e51397 := e51397.st k51502
          replace e26296 := e26296.st k51502
          replace e26300 := e26300.st k51502
          replace kk := kk.trans k51502
          refine hR51405 _ _ ?_
          refine RW.seg hT 1 [] [] [.bool false] [] (by kernel_rfl) (trivial) ?_
          refine RW.nil ?_
          refine WPK.condF (by kernel_rfl) ?_
          refine WPK.skip ?_
          refine WPK.region ?_
          refine RW.seg hT 2 [] [] [.int .i64 (IntKind.i64.wrap (x51001 + 1)), .int .i64 (IntKind.i64.wrap (x51001 + 1))] [] (by kernel_rfl) (trivial) ?_
          refine RW.nil ?_
          subst hrec51253
          obtain ⟨h51503, hf⟩ := iteS hf
          replace s := s.pick [1, 2, 3, 4, 5, 6] 7 rfl
          exact ⟨n51252, Nat.le_refl _, fun X h => kc (by kernel_rfl) rfl (h I51467 (IntKind.i64.wrap (x51001 + 1)) x51375.Key false [(D51000.getD 0 undef), (D51000.getD 1 undef), .pointer (some ⟨b51400, 0, none⟩), (D51000.getD 3 undef), (D51000.getD 4 undef), .bool (decide (x51001 < (p0.Pairs.length : Int))), .pointer (some ⟨b51378, o51379 + x51001.toNat * 2, none⟩), .agg #[.slice A51387 x51375.Key.length c51388, .slice A51393 x51375.Val.length c51394], .func (.yield l49674) #[] #[], .pointer (some ⟨b51400, 0, none⟩), .slice A51387 x51375.Key.length c51388, .bool true, .bool false, .int .i64 (IntKind.i64.wrap (x51001 + 1))] A51387 c51388 _ hf s kk e26292 hc51392 e51391 (some_pos e51391 h51503) e26296 e26300)⟩
    · have hf := iteF h51255 hf
      refine WPK.condF (Eq.trans (b := .bool (decide (x51001 < (p0.Pairs.length : Int)))) (by kernel_rfl) (bo_f h51255)) ?_
      refine WPK.exit (blockQ.same ?_)
      refine WPK.seq ?_
      refine WPK.region ?_
      refine RW.seg hT 4 [.slice A26293 p0.Keys.length c26294] [] [.pointer (some ⟨b37201, 2, none⟩), .slice A26293 p0.Keys.length c26294, .int .i64 (p0.Keys.length : Int), .int .i64 0] [.cell ⟨b37201, 2, none⟩ (.slice A26293 p0.Keys.length c26294)] (by kernel_rfl) (s.cell (i := 4) (off := 2) rfl rfl) ?_
      refine RW.nil ?_
      refine WPK.block ?_
      replace s := s.pick [0, 1, 2, 3, 5] 6 rfl
      refine WPK.loop' (J := fun n52164 E ds wz => ∀ X : Kont, (∀ (I51952 : Nat → Prop) (x51943 : Int) (x51944 : (List Int)) (z51949 : Bool) (D51942 : List Value) (A51945 : Option Addr) (c51946 : Nat) (w' : World), g29_l9 p0 n52164 x51943 x51944 z51949 = some r → St w0 M I51952 ((.blk l49674 (rec49676 .ready none)) :: (.blk d49675 (.deferred (some []))) :: (.blk b46962 (.cells #[.slice A51945 x51944.length c51946] 27 (0, 0))) :: (.blk b46959 (.cells #[.bool false] 4 (0, 0))) :: (.blk b26302 (.cells #[.bool p0.Leaf, .slice A26289 p0.Pairs.length c26290, .slice A26293 p0.Keys.length c26294, .slice A26297 p0.Kids.length c26298] 26 (0, 0))) :: F) w' → Kp I w I51952 w' → Elems (Rp.slice (Rp.int .u8)) I51952 w' A26293 p0.Keys → (x51944.length ≤ c51946 ∧ c51946 ≤ 9223372036854775807) → Elems (Rp.int .u8) I51952 w' A51945 x51944 → A51945.isNone = z51949 → Elems rp_T_api_Pair I51952 w' A26289 p0.Pairs → Elems (Rp.int .i64) I51952 w' A26297 p0.Kids → X [.func (.yield l49674) #[] #[], (D51942.getD 0 undef), (D51942.getD 1 undef), (D51942.getD 2 undef), (D51942.getD 3 undef), (D51942.getD 4 undef), (D51942.getD 5 undef), (D51942.getD 6 undef), (D51942.getD 7 undef), (D51942.getD 8 undef), (D51942.getD 9 undef), (D51942.getD 10 undef), (D51942.getD 11 undef), (D51942.getD 12 undef), (D51942.getD 13 undef), (D51942.getD 14 undef), (D51942.getD 15 undef), (D51942.getD 16 undef), (D51942.getD 17 undef), (D51942.getD 18 undef), (D51942.getD 19 undef), .slice A26293 p0.Keys.length c26294, .int .i64 (p0.Keys.length : Int), .int .i64 x51943, (D51942.getD 20 undef), (D51942.getD 21 undef), (D51942.getD 22 undef), (D51942.getD 23 undef), (D51942.getD 24 undef), (D51942.getD 25 undef), (D51942.getD 26 undef), (D51942.getD 27 undef)] [] w') → X E ds wz) FUEL (fun X h => kc (by kernel_rfl) rfl (h I51010 0 x51002 z51007 [.pointer (some ⟨b37201, 0, none⟩), (D51000.getD 0 undef), (D51000.getD 1 undef), (D51000.getD 2 undef), (D51000.getD 3 undef), undef, (D51000.getD 4 undef), .slice A26289 p0.Pairs.length c26290, .int .i64 (p0.Pairs.length : Int), .int .i64 x51001, .bool (decide (x51001 < (p0.Pairs.length : Int))), (D51000.getD 6 undef), (D51000.getD 7 undef), (D51000.getD 8 undef), (D51000.getD 9 undef), (D51000.getD 10 undef), (D51000.getD 11 undef), (D51000.getD 12 undef), (D51000.getD 13 undef), .pointer (some ⟨b37201, 2, none⟩), undef, undef, undef, undef, undef, undef, undef, undef] A51003 c51004 _ hf s kk e26296 hc51005 e51006 hz51008 e26292 e26300)) (fun _ _ _ hJ => hJ (fun _ _ _ => False) (by intro I51952 x51943 x51944 z51949 D51942 A51945 c51946 w51951 hf s kk e26296 hc51947 e51948 hz51950 e26292 e26300; exact noneS hf)) ?_
      intro X52392 hX52393
      refine fun n52164 _ _ _ hJ => hJ (X52392 n52164) ?_
      clear s
      intro I51952 x51943 x51944 z51949 D51942 A51945 c51946 w51951 hf s kk e26296 hc51947 e51948 hz51950 e26292 e26300
      refine hX52393 _ _ _ _ ?_
      replace hf : g29_l9B p0 (g29_l9 p0 n52164) x51943 x51944 z51949 = some r := hf
      generalize hrec52165 : g29_l9 p0 n52164 = rec52163 at hf
      unfold g29_l9B at hf
      refine WPK.seq ?_
      refine WPK.region ?_
      refine RW.seg hT 1 [] [] [.bool (decide (x51943 < (p0.Keys.length : Int)))] [] (by kernel_rfl) (trivial) ?_
      refine RW.nil ?_
      refine WPK.seq ?_
      by_cases h52167 : x51943 < (p0.Keys.length : Int)
      · have hf := iteT h52167 hf
        refine WPK.condT (Eq.trans (b := .bool (decide (x51943 < (p0.Keys.length : Int)))) (by kernel_rfl) (bo_t h52167)) ?_
        refine WPK.skip ?_
        refine WPK.seq ?_
        refine WPK.block ?_
        refine WPK.seq ?_
        refine WPK.region ?_
        obtain ⟨x52272, hx52273, hf⟩ := bindS hf
        obtain ⟨h52274, hx52273⟩ := getS hx52273
        obtain ⟨b52275, o52276, rfl⟩ := Elems.opn e26296 hx52273
        obtain ⟨cs52277, hr52278, ha52279⟩ := Elems.get e26296 hx52273
        obtain ⟨A52280, c52281, rfl, q52282, q52283, e52284⟩ := hr52278
        have hc52285 := And.intro q52282 q52283
        refine RW.seg hT 3 [.slice A52280 x52272.length c52281] [] [.pointer (some ⟨b52275, o52276 + x51943.toNat * 1, none⟩), .slice A52280 x52272.length c52281, .slice A52280 x52272.length c52281] [.idx x51943 p0.Keys.length, .cell ⟨b52275, o52276 + x51943.toNat * 1, none⟩ (.slice A52280 x52272.length c52281)] (by kernel_rfl) (⟨h52274, ha52279 0 _ rfl⟩) ?_
        refine RW.nil ?_
        refine WPK.seq ?_
        refine WPK.region ?_
        refine RW.seg hT 2 [] [] [.func (.yield l49674) #[] #[], .slice A52280 x52272.length c52281] [] (by kernel_rfl) (trivial) ?_
        refine RW.op (by kernel_rfl) (OK.yield (args := [.slice A52280 x52272.length c52281]) hrec49677 s (i := 0) rfl (by kernel_rfl) rfl ?_)
        intro R52286 hR52287
        refine WPK.region ?_
        refine RW.seg hT 1 [] [] [.slice A52280 x52272.length c52281] [] (by kernel_rfl) (trivial) ?_
        refine RW.nil ?_
        refine RoundBeg.of hrec49677 s (i := 0) rfl ?_
        clear s
        intro w52288 s k52289
        replace e52284 := e52284.st k52289
        replace e26296 := e26296.st k52289
        replace e51948 := e51948.st k52289
        replace e26292 := e26292.st k52289
        replace e26300 := e26300.st k52289
        replace kk := kk.trans k52289
        refine WPK.block ?_
        refine WPK.seq ?_
        refine WPK.seq ?_
        refine WPK.region ?_
        refine RW.seg hT 1 [] [] [.slice A52280 x52272.length c52281] [] (by kernel_rfl) (trivial) ?_
        obtain ⟨x52343, hx52344, hf⟩ := bindS hf
        refine RW.op (by kernel_rfl) (OK.call' en56 (by kernel_rfl) (c56 (F := (.blk l49674 (rec49676 .busy none)) :: (.blk d49675 (.deferred (some []))) :: (.blk b46962 (.cells #[.slice A51945 x51944.length c51946] 27 (0, 0))) :: (.blk b46959 (.cells #[.bool false] 4 (0, 0))) :: (.blk b26302 (.cells #[.bool p0.Leaf, .slice A26289 p0.Pairs.length c26290, .slice (some ⟨b52275, o52276, none⟩) p0.Keys.length c26294, .slice A26297 p0.Kids.length c26298] 26 (0, 0))) :: F) x52272 A52280 c52281 hc52285 e52284 s hx52344) ?_)
        intro X52347 hX52348
        refine fun _ _ hJ => hJ X52347 ?_
        clear s
        intro I52349 w52345 s k52346
        refine hX52348 _ _ ?_
        replace e52284 := e52284.st k52346
        replace e26296 := e26296.st k52346
        replace e51948 := e51948.st k52346
        replace e26292 := e26292.st k52346
        replace e26300 := e26300.st k52346
        replace kk := kk.trans k52346
        refine RW.seg hT 1 [] [(9, .bool (decide (¬ (x52343 = true))))] [.bool (decide (¬ (x52343 = true)))] [.veq (.bool (!x52343)) (.bool (decide (¬ (x52343 = true))))] (by kernel_rfl) (not_b) ?_
        by_cases h52350 : ¬ (x52343 = true)
        · have hf := iteT h52350 hf
          refine RW.seg hT 10 [] [(10, .bool true)] [.bool true, undef, undef, undef, undef, undef, undef, undef, undef, .bool true] [.veq (.bool (decide (¬ (x52343 = true)))) (.bool true)] (by kernel_rfl) (bo_t h52350) ?_
          refine RW.nil ?_
          refine WPK.condT (by kernel_rfl) ?_
          refine WPK.seq ?_
          refine WPK.region ?_
          refine RW.op (by kernel_rfl) (OK.store hT (i := 3) (b := b46959) (off := 0) (n := 1) (vs := [.bool false]) (cs := [.bool false]) (e := 4) s (by kernel_rfl) rfl rfl (flat_ok rfl) (Nat.le_of_ble_eq_true rfl) ?_)
          clear s
          rintro w52351 s k52352 -
          replace e52284 := e52284.st k52352
          replace e26296 := e26296.st k52352
          replace e51948 := e51948.st k52352
          replace e26292 := e26292.st k52352
          replace e26300 := e26300.st k52352
          replace kk := kk.trans k52352
          refine RW.nil ?_
          refine WPK.ret (blockQ.ret (?_))
          refine RoundEnd.stop Code.ret hrec49677 s (i := 0) rfl ?_
          clear s
          intro w52353 s k52354
          replace e52284 := e52284.st k52354
          replace e26296 := e26296.st k52354
          replace e51948 := e51948.st k52354
          replace e26292 := e26292.st k52354
          replace e26300 := e26300.st k52354
          replace kk := kk.trans k52354
          refine hR52287 _ _ ?_
          refine RW.seg hT 1 [] [] [.bool true] [] (by kernel_rfl) (trivial) ?_
          refine RW.nil ?_
          refine WPK.condT (by kernel_rfl) ?_
          refine WPK.ret (blockQ.ret (blockQ.ret (?_)))
          refine Fin.of (rs := []) hT [] (.tuple #[]) [] rfl (by kernel_rfl) (trivial) ?_
          refine hR49681 _ _ (RangeEnd.jump hrec49677 s (i := 0) rfl ?_)
          clear s
          intro w52355 s k52356
          replace e51948 := e51948.st k52356
          replace e26292 := e26292.st k52356
          replace e26296 := e26296.st k52356
          replace e26300 := e26300.st k52356
          replace kk := kk.trans k52356
          refine WPK.ret (blockQ.ret (?_))
          refine Fin.mark (i := 0) s rfl ?_
          clear s
          intro w52357 s k52358
          replace e51948 := e51948.st k52358
          replace e26292 := e26292.st k52358
          replace e26296 := e26296.st k52358
          replace e26300 := e26300.st k52358
          replace kk := kk.trans k52358
          refine Fin.of (rs := [.cell 2 4]) hT [.bool false] (.bool false) [.cell ⟨b46959, 0, none⟩ (.bool false)] rfl (by kernel_rfl) (s.cell (i := 1) (off := 0) rfl rfl) ?_
          replace s := s.pick [2] 3 rfl
          exact fun X h => vc rfl (h I52349 false _ hf s kk e26292 e26296 e26300)
        · have hf := iteF h52350 hf
          refine RW.seg hT 3 [.slice A51945 x51944.length c51946] [(10, .bool false), (12, .bool (!z51949))] [.bool false, .slice A51945 x51944.length c51946, .bool (!z51949)] [.veq (.bool (decide (¬ (x52343 = true)))) (.bool false), .cell ⟨b46962, 0, none⟩ (.slice A51945 x51944.length c51946), .veq (.bool (!A51945.isNone)) (.bool ((!z51949)))] (by kernel_rfl) (⟨bo_f h52350, s.cell (i := 2) (off := 0) rfl rfl, neg_v hz51950⟩) ?_
          by_cases h52359 : (!z51949) = true
          · have hf := iteT h52359 hf
            refine RW.seg hT 3 [.slice A51945 x51944.length c51946] [(13, .bool true)] [.bool true, .slice A51945 x51944.length c51946, .slice A52280 x52272.length c52281] [.veq (.bool ((!z51949))) (.bool true), .cell ⟨b46962, 0, none⟩ (.slice A51945 x51944.length c51946)] (by kernel_rfl) (⟨b_t h52359, s.cell (i := 2) (off := 0) rfl rfl⟩) ?_
            obtain ⟨x52360, hx52361, hf⟩ := bindS hf
            refine RW.op (by kernel_rfl) (OK.call' en49 (by kernel_rfl) (c49 (F := (.blk l49674 (rec49676 .busy none)) :: (.blk d49675 (.deferred (some []))) :: (.blk b46962 (.cells #[.slice A51945 x51944.length c51946] 27 (0, 0))) :: (.blk b46959 (.cells #[.bool false] 4 (0, 0))) :: (.blk b26302 (.cells #[.bool p0.Leaf, .slice A26289 p0.Pairs.length c26290, .slice (some ⟨b52275, o52276, none⟩) p0.Keys.length c26294, .slice A26297 p0.Kids.length c26298] 26 (0, 0))) :: F) x51944 x52272 A51945 c51946 A52280 c52281 hc51947 e51948 hc52285 e52284 s hx52361) ?_)
            intro X52364 hX52365
            refine fun _ _ hJ => hJ X52364 ?_
            clear s
            intro I52366 w52362 s k52363
            refine hX52365 _ _ ?_
            replace e52284 := e52284.st k52363
            replace e51948 := e51948.st k52363
            replace e26296 := e26296.st k52363
            replace e26292 := e26292.st k52363
            replace e26300 := e26300.st k52363
            replace kk := kk.trans k52363
            refine RW.seg hT 3 [] [] [.bool (decide (x52360 ≥ 0)), .bool (decide (x52360 ≥ 0)), .bool (decide (x52360 ≥ 0))] [] (by kernel_rfl) (trivial) ?_
            refine RW.nil ?_
            by_cases h52367 : x52360 ≥ 0
            · have hf := iteT h52367 hf
              refine WPK.condT (Eq.trans (b := .bool (decide (x52360 ≥ 0))) (by kernel_rfl) (bo_t h52367)) ?_
              refine WPK.seq ?_
              refine WPK.region ?_
              refine RW.op (by kernel_rfl) (OK.store hT (i := 3) (b := b46959) (off := 0) (n := 1) (vs := [.bool false]) (cs := [.bool false]) (e := 4) s (by kernel_rfl) rfl rfl (flat_ok rfl) (Nat.le_of_ble_eq_true rfl) ?_)
              clear s
              rintro w52368 s k52369 -
              replace e52284 := e52284.st k52369
              replace e51948 := e51948.st k52369
              replace e26296 := e26296.st k52369
              replace e26292 := e26292.st k52369
              replace e26300 := e26300.st k52369
              replace kk := kk.trans k52369
              refine RW.nil ?_
              refine WPK.ret (blockQ.ret (?_))
              refine RoundEnd.stop Code.ret hrec49677 s (i := 0) rfl ?_
              clear s
              intro w52370 s k52371
              replace e52284 := e52284.st k52371
              replace e51948 := e51948.st k52371
              replace e26296 := e26296.st k52371
              replace e26292 := e26292.st k52371
              replace e26300 := e26300.st k52371
              replace kk := kk.trans k52371
              refine hR52287 _ _ ?_
              refine RW.seg hT 1 [] [] [.bool true] [] (by kernel_rfl) (trivial) ?_
              refine RW.nil ?_
              refine WPK.condT (by kernel_rfl) ?_
              refine WPK.ret (blockQ.ret (blockQ.ret (?_)))
              refine Fin.of (rs := []) hT [] (.tuple #[]) [] rfl (by kernel_rfl) (trivial) ?_
              refine hR49681 _ _ (RangeEnd.jump hrec49677 s (i := 0) rfl ?_)
              clear s
              intro w52372 s k52373
              replace e51948 := e51948.st k52373
              replace e26292 := e26292.st k52373
              replace e26296 := e26296.st k52373
              replace e26300 := e26300.st k52373
              replace kk := kk.trans k52373
              refine WPK.ret (blockQ.ret (?_))
              refine Fin.mark (i := 0) s rfl ?_
              clear s
              intro w52374 s k52375
              replace e51948 := e51948.st k52375
              replace e26292 := e26292.st k52375
              replace e26296 := e26296.st k52375
              replace e26300 := e26300.st k52375
              replace kk := kk.trans k52375
              refine Fin.of (rs := [.cell 2 4]) hT [.bool false] (.bool false) [.cell ⟨b46959, 0, none⟩ (.bool false)] rfl (by kernel_rfl) (s.cell (i := 1) (off := 0) rfl rfl) ?_
              replace s := s.pick [2] 3 rfl
              exact fun X h => vc rfl (h I52366 false _ hf s kk e26292 e26296 e26300)
            · have hf := iteF h52367 hf
              refine WPK.condF (Eq.trans (b := .bool (decide (x52360 ≥ 0))) (by kernel_rfl) (bo_f h52367)) ?_
              refine WPK.skip ?_
              refine WPK.region ?_
              refine RW.seg hT 1 [] [] [.slice A52280 x52272.length c52281] [] (by kernel_rfl) (trivial) ?_
              refine RW.op (by kernel_rfl) (OK.store hT (i := 2) (b := b46962) (off := 0) (n := 1) (vs := [.slice A52280 x52272.length c52281]) (cs := [.slice A51945 x51944.length c51946]) (e := 27) s (by kernel_rfl) rfl rfl (flat_ok rfl) (Nat.le_of_ble_eq_true rfl) ?_)
              clear s
              rintro w52376 s k52377 -
              replace e52284 := e52284.st k52377
              replace e51948 := e51948.st k52377
              replace e26296 := e26296.st k52377
              replace e26292 := e26292.st k52377
              replace e26300 := e26300.st k52377
              replace kk := kk.trans k52377
              refine RW.nil ?_
              refine RoundEnd.next hrec49677 s (i := 0) rfl ?_
              clear s
              intro w52378 s k52379
              replace e52284 := e52284.st k52379
              replace e51948 := e51948.st k52379
              replace e26296 := e26296.st k52379
              replace e26292 := e26292.st k52379
              replace e26300 := e26300.st k52379
              replace kk := kk.trans k52379
              refine hR52287 _ _ ?_
              refine RW.seg hT 1 [] [] [.bool false] [] (by kernel_rfl) (trivial) ?_
              refine RW.nil ?_
              refine WPK.condF (by kernel_rfl) ?_
              refine WPK.skip ?_
              refine WPK.region ?_
              refine RW.seg hT 2 [] [] [.int .i64 (IntKind.i64.wrap (x51943 + 1)), .int .i64 (IntKind.i64.wrap (x51943 + 1))] [] (by kernel_rfl) (trivial) ?_
              refine RW.nil ?_
              subst hrec52165
              obtain ⟨h52380, hf⟩ := iteS hf
              exact ⟨n52164, Nat.le_refl _, fun X h => kc (by kernel_rfl) rfl (h I52366 (IntKind.i64.wrap (x51943 + 1)) x52272 false [(D51942.getD 0 undef), (D51942.getD 1 undef), (D51942.getD 2 undef), (D51942.getD 3 undef), (D51942.getD 4 undef), .slice A52280 x52272.length c52281, (D51942.getD 6 undef), (D51942.getD 7 undef), (D51942.getD 8 undef), (D51942.getD 9 undef), (D51942.getD 10 undef), (D51942.getD 11 undef), (D51942.getD 12 undef), (D51942.getD 13 undef), (D51942.getD 14 undef), (D51942.getD 15 undef), (D51942.getD 16 undef), (D51942.getD 17 undef), (D51942.getD 18 undef), (D51942.getD 19 undef), .bool (decide (x51943 < (p0.Keys.length : Int))), .pointer (some ⟨b52275, o52276 + x51943.toNat * 1, none⟩), .slice A52280 x52272.length c52281, .func (.yield l49674) #[] #[], .slice A52280 x52272.length c52281, .bool true, .bool false, .int .i64 (IntKind.i64.wrap (x51943 + 1))] A52280 c52281 _ hf s kk e26296 hc52285 e52284 (some_pos e52284 h52380) e26292 e26300)⟩
          · have hf := iteF h52359 hf
            refine RW.seg hT 7 [] [(13, .bool false)] [.bool false, undef, undef, undef, undef, .bool false, .bool false] [.veq (.bool ((!z51949))) (.bool false)] (by kernel_rfl) (b_f h52359) ?_
            refine RW.nil ?_
            refine WPK.condF (by kernel_rfl) ?_
            refine WPK.skip ?_
            refine WPK.region ?_
            refine RW.seg hT 1 [] [] [.slice A52280 x52272.length c52281] [] (by kernel_rfl) (trivial) ?_
            refine RW.op (by kernel_rfl) (OK.store hT (i := 2) (b := b46962) (off := 0) (n := 1) (vs := [.slice A52280 x52272.length c52281]) (cs := [.slice A51945 x51944.length c51946]) (e := 27) s (by kernel_rfl) rfl rfl (flat_ok rfl) (Nat.le_of_ble_eq_true rfl) ?_)
            clear s
            rintro w52381 s k52382 -
            replace e52284 := e52284.st k52382
            replace e51948 := e51948.st k52382
            replace e26296 := e26296.st k52382
            replace e26292 := e26292.st k52382
            replace e26300 := e26300.st k52382
            replace kk := kk.trans k52382
            refine RW.nil ?_
            refine RoundEnd.next hrec49677 s (i := 0) rfl ?_
            clear s
            intro w52383 s k52384
            replace e52284 := e52284.st k52384
            replace e51948 := e51948.st k52384
            replace e26296 := e26296.st k52384
            replace e26292 := e26292.st k52384
            replace e26300 := e26300.st k52384
            replace kk := kk.trans k52384
            refine hR52287 _ _ ?_
            refine RW.seg hT 1 [] [] [.bool false] [] (by kernel_rfl) (trivial) ?_
            refine RW.nil ?_
            refine WPK.condF (by kernel_rfl) ?_
            refine WPK.skip ?_
            refine WPK.region ?_
            refine RW.seg hT 2 [] [] [.int .i64 (IntKind.i64.wrap (x51943 + 1)), .int .i64 (IntKind.i64.wrap (x51943 + 1))] [] (by kernel_rfl) (trivial) ?_
            refine RW.nil ?_
            subst hrec52165
            obtain ⟨h52385, hf⟩ := iteS hf
            exact ⟨n52164, Nat.le_refl _, fun X h => kc (by kernel_rfl) rfl (h I52349 (IntKind.i64.wrap (x51943 + 1)) x52272 false [(D51942.getD 0 undef), (D51942.getD 1 undef), (D51942.getD 2 undef), (D51942.getD 3 undef), (D51942.getD 4 undef), .slice A52280 x52272.length c52281, (D51942.getD 6 undef), (D51942.getD 7 undef), (D51942.getD 8 undef), (D51942.getD 9 undef), (D51942.getD 10 undef), (D51942.getD 11 undef), (D51942.getD 12 undef), (D51942.getD 13 undef), (D51942.getD 14 undef), (D51942.getD 15 undef), (D51942.getD 16 undef), (D51942.getD 17 undef), (D51942.getD 18 undef), (D51942.getD 19 undef), .bool (decide (x51943 < (p0.Keys.length : Int))), .pointer (some ⟨b52275, o52276 + x51943.toNat * 1, none⟩), .slice A52280 x52272.length c52281, .func (.yield l49674) #[] #[], .slice A52280 x52272.length c52281, .bool true, .bool false, .int .i64 (IntKind.i64.wrap (x51943 + 1))] A52280 c52281 _ hf s kk e26296 hc52285 e52284 (some_pos e52284 h52385) e26292 e26300)⟩
      · have hf := iteF h52167 hf
        refine WPK.condF (Eq.trans (b := .bool (decide (x51943 < (p0.Keys.length : Int)))) (by kernel_rfl) (bo_f h52167)) ?_
        refine WPK.exit (blockQ.same ?_)
        refine Fin.of (rs := []) hT [] (.tuple #[]) [] rfl (by kernel_rfl) (trivial) ?_
        refine hR49681 _ _ (RangeEnd.done hrec49677 s (i := 0) rfl ?_)
        clear s
        intro w52386 s k52387
        replace e51948 := e51948.st k52387
        replace e26292 := e26292.st k52387
        replace e26296 := e26296.st k52387
        replace e26300 := e26300.st k52387
        replace kk := kk.trans k52387
        refine WPK.seq ?_
        refine WPK.region ?_
        refine RW.op (by kernel_rfl) (OK.store hT (i := 2) (b := b46959) (off := 0) (n := 1) (vs := [.bool true]) (cs := [.bool false]) (e := 4) s (by kernel_rfl) rfl rfl (flat_ok rfl) (Nat.le_of_ble_eq_true rfl) ?_)
        clear s
        rintro w52388 s k52389 -
        replace e51948 := e51948.st k52389
        replace e26292 := e26292.st k52389
        replace e26296 := e26296.st k52389
        replace e26300 := e26300.st k52389
        replace kk := kk.trans k52389
        refine RW.nil ?_
        refine WPK.ret (?_)
        refine Fin.mark (i := 0) s rfl ?_
        clear s
        intro w52390 s k52391
        replace e51948 := e51948.st k52391
        replace e26292 := e26292.st k52391
        replace e26296 := e26296.st k52391
        replace e26300 := e26300.st k52391
        replace kk := kk.trans k52391
        refine Fin.of (rs := [.cell 2 4]) hT [.bool true] (.bool true) [.cell ⟨b46959, 0, none⟩ (.bool true)] rfl (by kernel_rfl) (s.cell (i := 1) (off := 0) rfl rfl) ?_
        replace s := s.pick [2] 3 rfl
        exact fun X h => vc rfl (h I51952 true _ hf s kk e26292 e26296 e26300)
theorem c14 {w0 w : World} {M I : Nat → Prop} {F : List It} (p0 : T_api_Node) (A52439 : Option Addr) (c52440 : Nat) (A52443 : Option Addr) (c52444 : Nat) (A52447 : Option Addr) (c52448 : Nat) (hc52441 : (p0.Pairs.length ≤ c52440 ∧ c52440 ≤ 9223372036854775807)) (e52442 : Elems rp_T_api_Pair I w A52439 p0.Pairs) (hc52445 : (p0.Keys.length ≤ c52444 ∧ c52444 ≤ 9223372036854775807)) (e52446 : Elems (Rp.slice (Rp.int .u8)) I w A52443 p0.Keys) (hc52449 : (p0.Kids.length ≤ c52448 ∧ c52448 ≤ 9223372036854775807)) (e52450 : Elems (Rp.int .i64) I w A52447 p0.Kids) (s : St w0 M I (F) w) {r : Int} (hf : g14 p0 = some r) :
    Ret Tryd.prog 14 [.agg #[.bool p0.Leaf, .slice A52439 p0.Pairs.length c52440, .slice A52443 p0.Keys.length c52444, .slice A52447 p0.Kids.length c52448]] w fun v wz => ∀ X : Value → World → Prop, (∀ (I' : Nat → Prop) (w' : World), St w0 M I' (F) w' → Kp I w I' w' → X (.int .i64 r) w') → X v wz := by
  have kk : Kp I w I w := Kp.refl
  unfold g14 at hf
  refine Ret.of Tryd.func14 rfl ?_
  refine WPK.seq ?_
  refine WPK.region ?_
  refine RW.op (by kernel_rfl) (OK.new hT (f := fun b => .pointer (some ⟨b, 0, none⟩)) (cs := [.bool p0.Leaf, .slice A52439 p0.Pairs.length c52440, .slice A52443 p0.Keys.length c52444, .slice A52447 p0.Kids.length c52448]) (e := 26) (c := .tt) s (by kernel_rfl) trivial ?_)
  clear s
  rintro w52451 b52452 s k52453 -
  replace e52442 := e52442.st k52453
  replace e52446 := e52446.st k52453
  replace e52450 := e52450.st k52453
  replace kk := kk.trans k52453
  refine RW.seg hT 1 [] [] [.int .i64 0] [] (by kernel_rfl) (trivial) ?_
  refine RW.nil ?_
  refine WPK.seq ?_
  refine WPK.region ?_
  obtain ⟨x52454, hx52455, hf⟩ := bindS hf
  refine RW.seg hT 8 [.slice A52439 p0.Pairs.length c52440, .slice A52443 p0.Keys.length c52444] [(9, .int .i64 x52454)] [.pointer (some ⟨b52452, 1, none⟩), .slice A52439 p0.Pairs.length c52440, .int .i64 (p0.Pairs.length : Int), .pointer (some ⟨b52452, 2, none⟩), .slice A52443 p0.Keys.length c52444, .int .i64 (p0.Keys.length : Int), .int .i64 x52454, .int .i64 x52454] [.cell ⟨b52452, 1, none⟩ (.slice A52439 p0.Pairs.length c52440), .cell ⟨b52452, 2, none⟩ (.slice A52443 p0.Keys.length c52444), .veq (.int .i64 (IntKind.i64.wrap ((p0.Pairs.length : Int) + (p0.Keys.length : Int)))) (.int .i64 x52454)] (by kernel_rfl) (⟨s.cell (i := 0) (off := 1) rfl rfl, s.cell (i := 0) (off := 2) rfl rfl, int_v (someS hx52455)⟩) ?_
  refine RW.nil ?_
  refine WPK.ret (?_)
  obtain rfl := someS hf
  refine Fin.of (rs := [.tmp 2]) hT [] (.int .i64 x52454) [] rfl (by kernel_rfl) (trivial) ?_
  replace s := s.pick [] 1 rfl
  exact fun X h => vc rfl (h I _ s kk)
theorem c48 {w0 w : World} {M I : Nat → Prop} {F : List It} (p0 : T_api_Node) (p1 : Int) (A52611 : Option Addr) (c52612 : Nat) (A52615 : Option Addr) (c52616 : Nat) (A52619 : Option Addr) (c52620 : Nat) (hc52613 : (p0.Pairs.length ≤ c52612 ∧ c52612 ≤ 9223372036854775807)) (e52614 : Elems rp_T_api_Pair I w A52611 p0.Pairs) (hc52617 : (p0.Keys.length ≤ c52616 ∧ c52616 ≤ 9223372036854775807)) (e52618 : Elems (Rp.slice (Rp.int .u8)) I w A52615 p0.Keys) (hc52621 : (p0.Kids.length ≤ c52620 ∧ c52620 ≤ 9223372036854775807)) (e52622 : Elems (Rp.int .i64) I w A52619 p0.Kids) (s : St w0 M I (F) w) {r : Int} (hf : g48 p0 p1 = some r) :
    Ret Tryd.prog 48 [.agg #[.bool p0.Leaf, .slice A52611 p0.Pairs.length c52612, .slice A52615 p0.Keys.length c52616, .slice A52619 p0.Kids.length c52620], .int .i64 p1] w fun v wz => ∀ X : Value → World → Prop, (∀ (I' : Nat → Prop) (w' : World), St w0 M I' (F) w' → Kp I w I' w' → X (.int .i64 r) w') → X v wz := by
  have kk : Kp I w I w := Kp.refl
  unfold g48 at hf
  refine Ret.of Tryd.func48 rfl ?_
  refine WPK.seq ?_
  refine WPK.region ?_
  refine RW.op (by kernel_rfl) (OK.new hT (f := fun b => .pointer (some ⟨b, 0, none⟩)) (cs := [.bool p0.Leaf, .slice A52611 p0.Pairs.length c52612, .slice A52615 p0.Keys.length c52616, .slice A52619 p0.Kids.length c52620]) (e := 26) (c := .tt) s (by kernel_rfl) trivial ?_)
  clear s
  rintro w52623 b52624 s k52625 -
  replace e52614 := e52614.st k52625
  replace e52618 := e52618.st k52625
  replace e52622 := e52622.st k52625
  replace kk := kk.trans k52625
  refine RW.seg hT 1 [] [] [.int .i64 0] [] (by kernel_rfl) (trivial) ?_
  refine RW.nil ?_
  refine WPK.seq ?_
  refine WPK.seq ?_
  refine WPK.region ?_
  refine RW.seg hT 2 [.bool p0.Leaf] [] [.pointer (some ⟨b52624, 0, none⟩), .bool p0.Leaf] [.cell ⟨b52624, 0, none⟩ (.bool p0.Leaf)] (by kernel_rfl) (s.cell (i := 0) (off := 0) rfl rfl) ?_
  refine RW.nil ?_
  by_cases h52684 : p0.Leaf = true
  · have hf := iteT h52684 hf
    refine WPK.condT (Eq.trans (b := .bool p0.Leaf) (by kernel_rfl) (b_t h52684)) ?_
    refine WPK.seq ?_
    have e52614S52685 := e52614
    have e52618S52685 := e52618
    have e52622S52685 := e52622
    have kS52689 : Kp I w52623 I w52623 := Kp.refl
    refine WPK.draw (fun w' => ∃ I' : Nat → Prop, St w0 M I' ((.blk b52624 (.cells #[.bool p0.Leaf, .slice A52611 p0.Pairs.length c52612, .slice A52615 p0.Keys.length c52616, .slice A52619 p0.Kids.length c52620] 26 (0, 0))) :: F) w' ∧ Kp I w52623 I' w') 17 (by kernel_rfl) ?_
    intro w52686 hd52687
    have k52688 := Kp.dr s hd52687
    replace s := s.dr hd52687
    replace e52614 := e52614.st k52688
    replace e52618 := e52618.st k52688
    replace e52622 := e52622.st k52688
    replace kk := kk.trans k52688
    replace kS52689 := kS52689.trans k52688
    obtain ⟨x52690, hx52691, hf⟩ := bindS hf
    obtain ⟨h52692, hx52691⟩ := getS hx52691
    obtain ⟨b52693, o52694, rfl⟩ := Elems.opn e52614 hx52691
    obtain ⟨cs52695, hr52696, ha52697, hb52698⟩ := Elems.getI e52614S52685 hx52691
    obtain ⟨cs52699, cs52700, rfl, hr52701, hr52702⟩ := hr52696
    obtain ⟨A52703, c52704, rfl, q52705, q52706, e52707⟩ := hr52701
    have hc52708 := And.intro q52705 q52706
    obtain ⟨A52709, c52710, rfl, q52711, q52712, e52713⟩ := hr52702
    have hc52714 := And.intro q52711 q52712
    have e52707S52685 := e52707
    replace e52707 := e52707.st kS52689
    have e52713S52685 := e52713
    replace e52713 := e52713.st kS52689
    obtain ⟨x52715, hx52716, hf⟩ := bindS hf
    obtain ⟨h52717, hx52716⟩ := getS hx52716
    obtain ⟨cs52720, hr52721, ha52722, hb52723⟩ := Elems.getI e52614S52685 hx52716
    obtain ⟨cs52724, cs52725, rfl, hr52726, hr52727⟩ := hr52721
    obtain ⟨A52728, c52729, rfl, q52730, q52731, e52732⟩ := hr52726
    have hc52733 := And.intro q52730 q52731
    obtain ⟨A52734, c52735, rfl, q52736, q52737, e52738⟩ := hr52727
    have hc52739 := And.intro q52736 q52737
    have e52732S52685 := e52732
    replace e52732 := e52732.st kS52689
    have e52738S52685 := e52738
    replace e52738 := e52738.st kS52689
    obtain ⟨x52740, hx52741, hf⟩ := bindS hf
    refine RD.seg hT (by kernel_rfl) [0, 1, 2, 3, 4, 5, 6, 7, 8, 9, 10, 11, 12, 13, 14, 15, 16] [.slice (some ⟨b52693, o52694, none⟩) p0.Pairs.length c52612, .slice A52703 x52690.Key.length c52704, .slice (some ⟨b52693, o52694, none⟩) p0.Pairs.length c52612, .slice A52734 x52715.Val.length c52735] [(22, .int .i64 x52740)] [.pointer (some ⟨b52624, 1, none⟩), .slice (some ⟨b52693, o52694, none⟩) p0.Pairs.length c52612, .int .i64 p1, .pointer (some ⟨b52693, o52694 + p1.toNat * 2, none⟩), .pointer (some ⟨b52693, o52694 + p1.toNat * 2, none⟩), .slice A52703 x52690.Key.length c52704, .int .i64 (x52690.Key.length : Int), .int .i64 (IntKind.i64.wrap (2 + (x52690.Key.length : Int))), .pointer (some ⟨b52624, 1, none⟩), .slice (some ⟨b52693, o52694, none⟩) p0.Pairs.length c52612, .int .i64 p1, .pointer (some ⟨b52693, o52694 + p1.toNat * 2, none⟩), .pointer (some ⟨b52693, o52694 + p1.toNat * 2 + 1, none⟩), .slice A52734 x52715.Val.length c52735, .int .i64 (x52715.Val.length : Int), .int .i64 x52740, .int .i64 x52740] [.cell ⟨b52624, 1, none⟩ (.slice (some ⟨b52693, o52694, none⟩) p0.Pairs.length c52612), .idx p1 p0.Pairs.length, .cell ⟨b52693, o52694 + p1.toNat * 2, none⟩ (.slice A52703 x52690.Key.length c52704), .cell ⟨b52624, 1, none⟩ (.slice (some ⟨b52693, o52694, none⟩) p0.Pairs.length c52612), .idx p1 p0.Pairs.length, .cell ⟨b52693, o52694 + p1.toNat * 2 + 1, none⟩ (.slice A52734 x52715.Val.length c52735), .veq (.int .i64 (IntKind.i64.wrap ((IntKind.i64.wrap (2 + (x52690.Key.length : Int))) + (x52715.Val.length : Int)))) (.int .i64 x52740)] (by kernel_rfl) (by rintro w' ⟨I', s, k⟩; have e52614 := e52614S52685.st k; have e52618 := e52618S52685.st k; have e52622 := e52622S52685.st k; have e52707 := e52707S52685.st k; have e52713 := e52713S52685.st k; have e52732 := e52732S52685.st k; have e52738 := e52738S52685.st k; have ha52697 := ha52697.st k hb52698; have ha52722 := ha52722.st k hb52723; exact ⟨s.cell (i := 0) (off := 1) rfl rfl, h52692, ha52697 0 _ rfl, s.cell (i := 0) (off := 1) rfl rfl, h52717, ha52722 1 _ rfl, int_v (someS hx52741)⟩) ⟨_, s.pick [0] 1 rfl, kS52689⟩ ?_
    refine RD.done (by kernel_rfl) ?_
    refine WPK.ret (?_)
    obtain rfl := someS hf
    refine Fin.of (rs := [.tmp 4]) hT [] (.int .i64 x52740) [] rfl (by kernel_rfl) (trivial) ?_
    replace s := s.pick [] 1 rfl
    exact fun X h => vc rfl (h I _ s kk)
  · have hf := iteF h52684 hf
    refine WPK.condF (Eq.trans (b := .bool p0.Leaf) (by kernel_rfl) (b_f h52684)) ?_
    refine WPK.skip ?_
    refine WPK.seq ?_
    refine WPK.region ?_
    obtain ⟨x52742, hx52743, hf⟩ := bindS hf
    obtain ⟨h52744, hx52743⟩ := getS hx52743
    obtain ⟨b52745, o52746, rfl⟩ := Elems.opn e52618 hx52743
    obtain ⟨cs52747, hr52748, ha52749⟩ := Elems.get e52618 hx52743
    obtain ⟨A52750, c52751, rfl, q52752, q52753, e52754⟩ := hr52748
    have hc52755 := And.intro q52752 q52753
    refine RW.seg hT 8 [.slice (some ⟨b52745, o52746, none⟩) p0.Keys.length c52616, .slice A52750 x52742.length c52751] [] [.pointer (some ⟨b52624, 2, none⟩), .slice (some ⟨b52745, o52746, none⟩) p0.Keys.length c52616, .int .i64 p1, .pointer (some ⟨b52745, o52746 + p1.toNat * 1, none⟩), .slice A52750 x52742.length c52751, .int .i64 (x52742.length : Int), .int .i64 (IntKind.i64.wrap (3 + (x52742.length : Int))), .int .i64 (IntKind.i64.wrap (3 + (x52742.length : Int)))] [.cell ⟨b52624, 2, none⟩ (.slice (some ⟨b52745, o52746, none⟩) p0.Keys.length c52616), .idx p1 p0.Keys.length, .cell ⟨b52745, o52746 + p1.toNat * 1, none⟩ (.slice A52750 x52742.length c52751)] (by kernel_rfl) (⟨s.cell (i := 0) (off := 2) rfl rfl, h52744, ha52749 0 _ rfl⟩) ?_
    refine RW.nil ?_
    refine WPK.ret (?_)
    obtain rfl := someS hf
    refine Fin.of (rs := [.tmp 4]) hT [] (.int .i64 (IntKind.i64.wrap (3 + (x52742.length : Int)))) [] rfl (by kernel_rfl) (trivial) ?_
    replace s := s.pick [] 1 rfl
    exact fun X h => vc rfl (h I _ s kk)
theorem c30 {w0 w : World} {M I : Nat → Prop} {F : List It} (p0 : T_api_Node) (A52839 : Option Addr) (c52840 : Nat) (A52843 : Option Addr) (c52844 : Nat) (A52847 : Option Addr) (c52848 : Nat) (hc52841 : (p0.Pairs.length ≤ c52840 ∧ c52840 ≤ 9223372036854775807)) (e52842 : Elems rp_T_api_Pair I w A52839 p0.Pairs) (hc52845 : (p0.Keys.length ≤ c52844 ∧ c52844 ≤ 9223372036854775807)) (e52846 : Elems (Rp.slice (Rp.int .u8)) I w A52843 p0.Keys) (hc52849 : (p0.Kids.length ≤ c52848 ∧ c52848 ≤ 9223372036854775807)) (e52850 : Elems (Rp.int .i64) I w A52847 p0.Kids) (s : St w0 M I (F) w) {r : Int} (hf : g30 p0 = some r) :
    Ret Tryd.prog 30 [.agg #[.bool p0.Leaf, .slice A52839 p0.Pairs.length c52840, .slice A52843 p0.Keys.length c52844, .slice A52847 p0.Kids.length c52848]] w fun v wz => ∀ X : Value → World → Prop, (∀ (I' : Nat → Prop) (w' : World), St w0 M I' (F) w' → Kp I w I' w' → X (.int .i64 r) w') → X v wz := by
  have kk : Kp I w I w := Kp.refl
  unfold g30 at hf
  refine Ret.of Tryd.func30 rfl ?_
  refine WPK.seq ?_
  refine WPK.region ?_
  refine RW.op (by kernel_rfl) (OK.new hT (f := fun b => .pointer (some ⟨b, 0, none⟩)) (cs := [.bool p0.Leaf, .slice A52839 p0.Pairs.length c52840, .slice A52843 p0.Keys.length c52844, .slice A52847 p0.Kids.length c52848]) (e := 26) (c := .tt) s (by kernel_rfl) trivial ?_)
  clear s
  rintro w52851 b52852 s k52853 -
  replace e52842 := e52842.st k52853
  replace e52846 := e52846.st k52853
  replace e52850 := e52850.st k52853
  replace kk := kk.trans k52853
  refine RW.seg hT 1 [] [] [.int .i64 0] [] (by kernel_rfl) (trivial) ?_
  refine RW.nil ?_
  refine WPK.seq ?_
  refine WPK.region ?_
  refine RW.seg hT 1 [] [] [.int .i64 1] [] (by kernel_rfl) (trivial) ?_
  refine RW.nil ?_
  refine WPK.seq ?_
  refine WPK.cut' (Kn fun E ds wz => ∀ X : Kont, (∀ (x52856 : Int) (D52855 : List Value), g30_j1 p0 x52856 = some r → X [(D52855.getD 0 undef), .pointer (some ⟨b52852, 0, none⟩), .int .i64 0, .int .i64 x52856, undef, (D52855.getD 1 undef), (D52855.getD 2 undef), (D52855.getD 3 undef), (D52855.getD 4 undef), (D52855.getD 5 undef), undef, undef, undef, undef, undef, undef, undef, undef, undef, undef, undef, undef] [] w52851) → X E ds wz) ?_ ?_
  · intro X52947 hX52948
    refine fun _ _ _ hJ => hJ X52947 ?_
    intro x52856 D52855 hf
    refine hX52948 _ _ _ ?_
    unfold g30_j1 at hf
    refine WPK.seq ?_
    refine WPK.seq ?_
    refine WPK.region ?_
    refine RW.seg hT 1 [.agg #[.bool p0.Leaf, .slice A52839 p0.Pairs.length c52840, .slice A52843 p0.Keys.length c52844, .slice A52847 p0.Kids.length c52848]] [] [.agg #[.bool p0.Leaf, .slice A52839 p0.Pairs.length c52840, .slice A52843 p0.Keys.length c52844, .slice A52847 p0.Kids.length c52848]] [.cells ⟨b52852, 0, none⟩ [.bool p0.Leaf, .slice A52839 p0.Pairs.length c52840, .slice A52843 p0.Keys.length c52844, .slice A52847 p0.Kids.length c52848] 4] (by kernel_rfl) (s.cells (i := 0) rfl rfl rfl) ?_
    obtain ⟨x52902, hx52903, hf⟩ := bindS hf
    refine RW.op (by kernel_rfl) (OK.call' en14 (by kernel_rfl) (c14 (F := (.blk b52852 (.cells #[.bool p0.Leaf, .slice A52839 p0.Pairs.length c52840, .slice A52843 p0.Keys.length c52844, .slice A52847 p0.Kids.length c52848] 26 (0, 0))) :: F) p0 A52839 c52840 A52843 c52844 A52847 c52848 hc52841 e52842 hc52845 e52846 hc52849 e52850 s hx52903) ?_)
    intro X52906 hX52907
    refine fun _ _ hJ => hJ X52906 ?_
    clear s
    intro I52908 w52904 s k52905
    refine hX52907 _ _ ?_
    replace e52842 := e52842.st k52905
    replace e52846 := e52846.st k52905
    replace e52850 := e52850.st k52905
    replace kk := kk.trans k52905
    refine RW.seg hT 1 [] [] [.int .i64 0] [] (by kernel_rfl) (trivial) ?_
    refine RW.nil ?_
    refine WPK.block ?_
    refine WPK.loop' (J := fun n52934 E ds wz => ∀ X : Kont, (∀ (I52923 : Nat → Prop) (x52920 : Int) (x52921 : Int) (D52919 : List Value) (w' : World), g30_l2 p0 x52902 n52934 x52920 x52921 = some r → St w0 M I52923 ((.blk b52852 (.cells #[.bool p0.Leaf, .slice A52839 p0.Pairs.length c52840, .slice A52843 p0.Keys.length c52844, .slice A52847 p0.Kids.length c52848] 26 (0, 0))) :: F) w' → Kp I w I52923 w' → Elems rp_T_api_Pair I52923 w' A52839 p0.Pairs → Elems (Rp.slice (Rp.int .u8)) I52923 w' A52843 p0.Keys → Elems (Rp.int .i64) I52923 w' A52847 p0.Kids → X [(D52919.getD 0 undef), .pointer (some ⟨b52852, 0, none⟩), .int .i64 0, .int .i64 x52920, (D52919.getD 1 undef), (D52919.getD 2 undef), (D52919.getD 3 undef), (D52919.getD 4 undef), (D52919.getD 5 undef), (D52919.getD 6 undef), (D52919.getD 7 undef), .int .i64 x52902, .int .i64 x52921, (D52919.getD 8 undef), (D52919.getD 9 undef), (D52919.getD 10 undef), (D52919.getD 11 undef), (D52919.getD 12 undef), (D52919.getD 13 undef), (D52919.getD 14 undef), (D52919.getD 15 undef), undef] [] w') → X E ds wz) FUEL (fun X h => kc (by kernel_rfl) rfl (h I52908 x52856 0 [(D52855.getD 0 undef), undef, (D52855.getD 1 undef), (D52855.getD 2 undef), (D52855.getD 3 undef), (D52855.getD 4 undef), (D52855.getD 5 undef), .agg #[.bool p0.Leaf, .slice A52839 p0.Pairs.length c52840, .slice A52843 p0.Keys.length c52844, .slice A52847 p0.Kids.length c52848], undef, undef, undef, undef, undef, undef, undef, undef] _ hf s kk e52842 e52846 e52850)) (fun _ _ _ hJ => hJ (fun _ _ _ => False) (by intro I52923 x52920 x52921 D52919 w52922 hf s kk e52842 e52846 e52850; exact noneS hf)) ?_
    intro X52945 hX52946
    refine fun n52934 _ _ _ hJ => hJ (X52945 n52934) ?_
    clear s
    intro I52923 x52920 x52921 D52919 w52922 hf s kk e52842 e52846 e52850
    refine hX52946 _ _ _ _ ?_
    replace hf : g30_l2B p0 x52902 (g30_l2 p0 x52902 n52934) x52920 x52921 = some r := hf
    generalize hrec52935 : g30_l2 p0 x52902 n52934 = rec52933 at hf
    unfold g30_l2B at hf
    refine WPK.seq ?_
    refine WPK.region ?_
    refine RW.seg hT 1 [] [] [.bool (decide (x52921 < x52902))] [] (by kernel_rfl) (trivial) ?_
    refine RW.nil ?_
    refine WPK.seq ?_
    by_cases h52937 : x52921 < x52902
    · have hf := iteT h52937 hf
      refine WPK.condT (Eq.trans (b := .bool (decide (x52921 < x52902))) (by kernel_rfl) (bo_t h52937)) ?_
      refine WPK.skip ?_
      refine WPK.seq ?_
      refine WPK.block ?_
      refine WPK.seq ?_
      refine WPK.region ?_
      refine RW.seg hT 2 [] [] [.int .i64 x52921, .int .i64 x52921] [] (by kernel_rfl) (trivial) ?_
      refine RW.nil ?_
      refine WPK.region ?_
      refine RW.seg hT 3 [.agg #[.bool p0.Leaf, .slice A52839 p0.Pairs.length c52840, .slice A52843 p0.Keys.length c52844, .slice A52847 p0.Kids.length c52848]] [] [.int .i64 x52920, .agg #[.bool p0.Leaf, .slice A52839 p0.Pairs.length c52840, .slice A52843 p0.Keys.length c52844, .slice A52847 p0.Kids.length c52848], .int .i64 x52921] [.cells ⟨b52852, 0, none⟩ [.bool p0.Leaf, .slice A52839 p0.Pairs.length c52840, .slice A52843 p0.Keys.length c52844, .slice A52847 p0.Kids.length c52848] 4] (by kernel_rfl) (s.cells (i := 0) rfl rfl rfl) ?_
      obtain ⟨x52938, hx52939, hf⟩ := bindS hf
      refine RW.op (by kernel_rfl) (OK.call' en48 (by kernel_rfl) (c48 (F := (.blk b52852 (.cells #[.bool p0.Leaf, .slice A52839 p0.Pairs.length c52840, .slice A52843 p0.Keys.length c52844, .slice A52847 p0.Kids.length c52848] 26 (0, 0))) :: F) p0 x52921 A52839 c52840 A52843 c52844 A52847 c52848 hc52841 e52842 hc52845 e52846 hc52849 e52850 s hx52939) ?_)
      intro X52942 hX52943
      refine fun _ _ hJ => hJ X52942 ?_
      clear s
      intro I52944 w52940 s k52941
      refine hX52943 _ _ ?_
      replace e52842 := e52842.st k52941
      replace e52846 := e52846.st k52941
      replace e52850 := e52850.st k52941
      replace kk := kk.trans k52941
      refine RW.seg hT 2 [] [] [.int .i64 (IntKind.i64.wrap (x52920 + x52938)), .int .i64 (IntKind.i64.wrap (x52920 + x52938))] [] (by kernel_rfl) (trivial) ?_
      refine RW.nil ?_
      refine WPK.region ?_
      refine RW.seg hT 2 [] [] [.int .i64 (IntKind.i64.wrap (x52921 + 1)), .int .i64 (IntKind.i64.wrap (x52921 + 1))] [] (by kernel_rfl) (trivial) ?_
      refine RW.nil ?_
      subst hrec52935
      exact ⟨n52934, Nat.le_refl _, fun X h => kc (by kernel_rfl) rfl (h I52944 (IntKind.i64.wrap (x52920 + x52938)) (IntKind.i64.wrap (x52921 + 1)) [(D52919.getD 0 undef), .int .i64 x52921, (D52919.getD 2 undef), (D52919.getD 3 undef), (D52919.getD 4 undef), (D52919.getD 5 undef), (D52919.getD 6 undef), (D52919.getD 7 undef), .bool (decide (x52921 < x52902)), .int .i64 x52921, .int .i64 x52920, .agg #[.bool p0.Leaf, .slice A52839 p0.Pairs.length c52840, .slice A52843 p0.Keys.length c52844, .slice A52847 p0.Kids.length c52848], .int .i64 x52921, .int .i64 x52938, .int .i64 (IntKind.i64.wrap (x52920 + x52938)), .int .i64 (IntKind.i64.wrap (x52921 + 1))] _ hf s kk e52842 e52846 e52850)⟩
    · have hf := iteF h52937 hf
      refine WPK.condF (Eq.trans (b := .bool (decide (x52921 < x52902))) (by kernel_rfl) (bo_f h52937)) ?_
      refine WPK.exit (blockQ.same ?_)
      refine WPK.seq ?_
      refine WPK.region ?_
      refine RW.seg hT 2 [] [] [.int .i64 x52920, .int .i64 x52920] [] (by kernel_rfl) (trivial) ?_
      refine RW.nil ?_
      refine WPK.ret (?_)
      obtain rfl := someS hf
      refine Fin.of (rs := [.tmp 2]) hT [] (.int .i64 x52920) [] rfl (by kernel_rfl) (trivial) ?_
      replace s := s.pick [] 1 rfl
      exact fun X h => vc rfl (h I52923 _ s kk)
  · refine WPK.seq ?_
    refine WPK.region ?_
    refine RW.seg hT 3 [.bool p0.Leaf] [(7, .bool (decide (¬ (p0.Leaf = true))))] [.pointer (some ⟨b52852, 0, none⟩), .bool p0.Leaf, .bool (decide (¬ (p0.Leaf = true)))] [.cell ⟨b52852, 0, none⟩ (.bool p0.Leaf), .veq (.bool (!p0.Leaf)) (.bool (decide (¬ (p0.Leaf = true))))] (by kernel_rfl) (⟨s.cell (i := 0) (off := 0) rfl rfl, not_b⟩) ?_
    refine RW.nil ?_
    by_cases h52949 : ¬ (p0.Leaf = true)
    · have hf := iteT h52949 hf
      refine WPK.condT (Eq.trans (b := .bool (decide (¬ (p0.Leaf = true)))) (by kernel_rfl) (bo_t h52949)) ?_
      refine WPK.region ?_
      refine RW.seg hT 3 [] [] [.int .i64 1, .int .i64 3, .int .i64 3] [] (by kernel_rfl) (trivial) ?_
      refine RW.nil ?_
      exact fun X h => kc (by kernel_rfl) rfl (h 3 [.agg #[.bool p0.Leaf, .slice A52839 p0.Pairs.length c52840, .slice A52843 p0.Keys.length c52844, .slice A52847 p0.Kids.length c52848], .pointer (some ⟨b52852, 0, none⟩), .bool p0.Leaf, .bool (decide (¬ (p0.Leaf = true))), .int .i64 1, .int .i64 3] hf)
    · have hf := iteF h52949 hf
      refine WPK.condF (Eq.trans (b := .bool (decide (¬ (p0.Leaf = true)))) (by kernel_rfl) (bo_f h52949)) ?_
      refine WPK.skip ?_
      exact fun X h => kc (by kernel_rfl) rfl (h 1 [.agg #[.bool p0.Leaf, .slice A52839 p0.Pairs.length c52840, .slice A52843 p0.Keys.length c52844, .slice A52847 p0.Kids.length c52848], .pointer (some ⟨b52852, 0, none⟩), .bool p0.Leaf, .bool (decide (¬ (p0.Leaf = true))), undef, undef] hf)
theorem c13 {w0 w : World} {M I : Nat → Prop} {F : List It} (p0 : T_api_Node) (A52974 : Option Addr) (c52975 : Nat) (A52978 : Option Addr) (c52979 : Nat) (A52982 : Option Addr) (c52983 : Nat) (hc52976 : (p0.Pairs.length ≤ c52975 ∧ c52975 ≤ 9223372036854775807)) (e52977 : Elems rp_T_api_Pair I w A52974 p0.Pairs) (hc52980 : (p0.Keys.length ≤ c52979 ∧ c52979 ≤ 9223372036854775807)) (e52981 : Elems (Rp.slice (Rp.int .u8)) I w A52978 p0.Keys) (hc52984 : (p0.Kids.length ≤ c52983 ∧ c52983 ≤ 9223372036854775807)) (e52985 : Elems (Rp.int .i64) I w A52982 p0.Kids) (s : St w0 M I (F) w) {r : Int} (hf : g13 p0 = some r) :
    Ret Tryd.prog 13 [.agg #[.bool p0.Leaf, .slice A52974 p0.Pairs.length c52975, .slice A52978 p0.Keys.length c52979, .slice A52982 p0.Kids.length c52983]] w fun v wz => ∀ X : Value → World → Prop, (∀ (I' : Nat → Prop) (w' : World), St w0 M I' (F) w' → Kp I w I' w' → X (.int .i64 r) w') → X v wz := by
  have kk : Kp I w I w := Kp.refl
  unfold g13 at hf
  refine Ret.of Tryd.func13 rfl ?_
  refine WPK.seq ?_
  refine WPK.region ?_
  refine RW.op (by kernel_rfl) (OK.new hT (f := fun b => .pointer (some ⟨b, 0, none⟩)) (cs := [.bool p0.Leaf, .slice A52974 p0.Pairs.length c52975, .slice A52978 p0.Keys.length c52979, .slice A52982 p0.Kids.length c52983]) (e := 26) (c := .tt) s (by kernel_rfl) trivial ?_)
  clear s
  rintro w52986 b52987 s k52988 -
  replace e52977 := e52977.st k52988
  replace e52981 := e52981.st k52988
  replace e52985 := e52985.st k52988
  replace kk := kk.trans k52988
  refine RW.seg hT 1 [] [] [.int .i64 0] [] (by kernel_rfl) (trivial) ?_
  refine RW.nil ?_
  refine WPK.seq ?_
  refine WPK.block ?_
  refine WPK.seq ?_
  refine WPK.region ?_
  refine RW.seg hT 1 [.agg #[.bool p0.Leaf, .slice A52974 p0.Pairs.length c52975, .slice A52978 p0.Keys.length c52979, .slice A52982 p0.Kids.length c52983]] [] [.agg #[.bool p0.Leaf, .slice A52974 p0.Pairs.length c52975, .slice A52978 p0.Keys.length c52979, .slice A52982 p0.Kids.length c52983]] [.cells ⟨b52987, 0, none⟩ [.bool p0.Leaf, .slice A52974 p0.Pairs.length c52975, .slice A52978 p0.Keys.length c52979, .slice A52982 p0.Kids.length c52983] 4] (by kernel_rfl) (s.cells (i := 0) rfl rfl rfl) ?_
  obtain ⟨x53005, hx53006, hf⟩ := bindS hf
  refine RW.op (by kernel_rfl) (OK.call' en29 (by kernel_rfl) (c29 (F := (.blk b52987 (.cells #[.bool p0.Leaf, .slice A52974 p0.Pairs.length c52975, .slice A52978 p0.Keys.length c52979, .slice A52982 p0.Kids.length c52983] 26 (0, 0))) :: F) p0 A52974 c52975 A52978 c52979 A52982 c52983 hc52976 e52977 hc52980 e52981 hc52984 e52985 s hx53006) ?_)
  intro X53009 hX53010
  refine fun _ _ hJ => hJ X53009 ?_
  clear s
  intro I53011 w53007 s k53008
  refine hX53010 _ _ ?_
  replace e52977 := e52977.st k53008
  replace e52981 := e52981.st k53008
  replace e52985 := e52985.st k53008
  replace kk := kk.trans k53008
  refine RW.seg hT 2 [] [(6, .bool (decide (¬ (x53005 = true))))] [.bool (decide (¬ (x53005 = true))), .bool (decide (¬ (x53005 = true)))] [.veq (.bool (!x53005)) (.bool (decide (¬ (x53005 = true))))] (by kernel_rfl) (not_b) ?_
  refine RW.nil ?_
  by_cases h53012 : ¬ (x53005 = true)
  · have hf := iteT h53012 hf
    refine WPK.condT (Eq.trans (b := .bool (decide (¬ (x53005 = true)))) (by kernel_rfl) (bo_t h53012)) ?_
    refine WPK.seq ?_
    refine WPK.region ?_
    refine RW.seg hT 1 [] [] [.int .i64 100] [] (by kernel_rfl) (trivial) ?_
    refine RW.nil ?_
    refine WPK.ret (blockQ.ret (?_))
    obtain rfl := someS hf
    refine Fin.of (rs := [.tmp 2]) hT [] (.int .i64 100) [] rfl (by kernel_rfl) (trivial) ?_
    replace s := s.pick [] 1 rfl
    exact fun X h => vc rfl (h I53011 _ s kk)
  · have hf := iteF h53012 hf
    refine WPK.condF (Eq.trans (b := .bool (decide (¬ (x53005 = true)))) (by kernel_rfl) (bo_f h53012)) ?_
    refine WPK.seq ?_
    refine WPK.region ?_
    refine RW.seg hT 1 [.agg #[.bool p0.Leaf, .slice A52974 p0.Pairs.length c52975, .slice A52978 p0.Keys.length c52979, .slice A52982 p0.Kids.length c52983]] [] [.agg #[.bool p0.Leaf, .slice A52974 p0.Pairs.length c52975, .slice A52978 p0.Keys.length c52979, .slice A52982 p0.Kids.length c52983]] [.cells ⟨b52987, 0, none⟩ [.bool p0.Leaf, .slice A52974 p0.Pairs.length c52975, .slice A52978 p0.Keys.length c52979, .slice A52982 p0.Kids.length c52983] 4] (by kernel_rfl) (s.cells (i := 0) rfl rfl rfl) ?_
    obtain ⟨x53013, hx53014, hf⟩ := bindS hf
    refine RW.op (by kernel_rfl) (OK.call' en30 (by kernel_rfl) (c30 (F := (.blk b52987 (.cells #[.bool p0.Leaf, .slice A52974 p0.Pairs.length c52975, .slice A52978 p0.Keys.length c52979, .slice A52982 p0.Kids.length c52983] 26 (0, 0))) :: F) p0 A52974 c52975 A52978 c52979 A52982 c52983 hc52976 e52977 hc52980 e52981 hc52984 e52985 s hx53014) ?_)
    intro X53017 hX53018
    refine fun _ _ hJ => hJ X53017 ?_
    clear s
    intro I53019 w53015 s k53016
    refine hX53018 _ _ ?_
    replace e52977 := e52977.st k53016
    replace e52981 := e52981.st k53016
    replace e52985 := e52985.st k53016
    replace kk := kk.trans k53016
    refine RW.seg hT 2 [] [] [.bool (decide (x53013 > 240)), .bool (decide (x53013 > 240))] [] (by kernel_rfl) (trivial) ?_
    refine RW.nil ?_
    by_cases h53020 : x53013 > 240
    · have hf := iteT h53020 hf
      refine WPK.condT (Eq.trans (b := .bool (decide (x53013 > 240))) (by kernel_rfl) (bo_t h53020)) ?_
      refine WPK.seq ?_
      refine WPK.region ?_
      refine RW.seg hT 1 [] [] [.int .i64 3] [] (by kernel_rfl) (trivial) ?_
      refine RW.nil ?_
      refine WPK.ret (blockQ.ret (?_))
      obtain rfl := someS hf
      refine Fin.of (rs := [.tmp 2]) hT [] (.int .i64 3) [] rfl (by kernel_rfl) (trivial) ?_
      replace s := s.pick [] 1 rfl
      exact fun X h => vc rfl (h I53019 _ s kk)
    · have hf := iteF h53020 hf
      refine WPK.condF (Eq.trans (b := .bool (decide (x53013 > 240))) (by kernel_rfl) (bo_f h53020)) ?_
      refine WPK.skip ?_
      refine WPK.seq ?_
      refine WPK.region ?_
      refine RW.seg hT 1 [] [] [.int .i64 0] [] (by kernel_rfl) (trivial) ?_
      refine RW.nil ?_
      refine WPK.ret (?_)
      obtain rfl := someS hf
      refine Fin.of (rs := [.tmp 2]) hT [] (.int .i64 0) [] rfl (by kernel_rfl) (trivial) ?_
      replace s := s.pick [] 1 rfl
      exact fun X h => vc rfl (h I53019 _ s kk)
theorem c32 {w0 w : World} {M I : Nat → Prop} {F : List It} (p0 : (List Int)) (p1 : (List Int)) (A53381 : Option Addr) (c53382 : Nat) (A53385 : Option Addr) (c53386 : Nat) (hc53383 : (p0.length ≤ c53382 ∧ c53382 ≤ 9223372036854775807)) (e53384 : Elems (Rp.int .u8) I w A53381 p0) (hc53387 : (p1.length ≤ c53386 ∧ c53386 ≤ 9223372036854775807)) (e53388 : Elems (Rp.int .u8) I w A53385 p1) (s : St w0 M I (F) w) {r : ((List Int) × Int)} (hf : g32 p0 p1 = some r) :
    Ret Tryd.prog 32 [.slice A53381 p0.length c53382, .slice A53385 p1.length c53386] w fun v wz => ∀ X : Value → World → Prop, (∀ (I' : Nat → Prop) (A53500 : Option Addr) (n53501 : Nat) (c53502 : Nat) (cl53503 : List Value) (w' : World), St w0 M I' ((.sl (.slice A53500 n53501 c53502) 5 1 n53501 cl53503) :: F) w' → Kp I w I' w' → n53501 = r.1.length → RepL (Rp.int .u8) I' w' cl53503 r.1 → X (.tuple #[.slice A53500 n53501 c53502, .int .i64 r.2]) w') → X v wz := by
  have kk : Kp I w I w := Kp.refl
  unfold g32 at hf
  refine Ret.of Tryd.func32 rfl ?_
  refine WPK.seq ?_
  refine WPK.region ?_
  refine RW.seg hT 2 [] [] [.slice none 0 0, .int .i64 0] [] (by kernel_rfl) (trivial) ?_
  refine RW.nil ?_
  refine WPK.seq ?_
  refine WPK.seq ?_
  refine WPK.region ?_
  refine RW.seg hT 3 [] [] [.slice A53385 p1.length c53386, .int .i64 (p1.length : Int), .bool (decide ((p1.length : Int) > 255))] [] (by kernel_rfl) (trivial) ?_
  refine RW.nil ?_
  by_cases h53391 : (p1.length : Int) > 255
  · have hf := iteT h53391 hf
    refine WPK.condT (Eq.trans (b := .bool (decide ((p1.length : Int) > 255))) (by kernel_rfl) (bo_t h53391)) ?_
    refine WPK.seq ?_
    refine WPK.region ?_
    refine RW.seg hT 2 [] [] [.slice none 0 0, .int .i64 3] [] (by kernel_rfl) (trivial) ?_
    refine RW.nil ?_
    refine WPK.ret (?_)
    obtain rfl := someS hf
    refine Fin.of (rs := [.tmp 4, .tmp 5]) hT [] (.tuple #[.slice none 0 0, .int .i64 3]) [] rfl (by kernel_rfl) (trivial) ?_
    replace s := s.pushNil 5 1
    exact fun X h => vc rfl (h I none 0 0 [] _ s kk rfl (RepL.nil (r := (Rp.int .u8))))
  · have hf := iteF h53391 hf
    refine WPK.condF (Eq.trans (b := .bool (decide ((p1.length : Int) > 255))) (by kernel_rfl) (bo_f h53391)) ?_
    refine WPK.skip ?_
    refine WPK.seq ?_
    refine WPK.region ?_
    refine RW.seg hT 4 [] [] [.slice A53381 p0.length c53382, .slice A53385 p1.length c53386, .int .i64 (p1.length : Int), .int .i64 (IntKind.i64.wrap (1 + (p1.length : Int)))] [] (by kernel_rfl) (trivial) ?_
    refine RW.op (by kernel_rfl) (OK.inl (args := [.slice A53381 p0.length c53382, .int .i64 (IntKind.i64.wrap (1 + (p1.length : Int)))]) en34 (by kernel_rfl) ?_)
    intro R53393 hR53394
    refine Ret.of Tryd.func34 rfl ?_
    refine WPK.seq ?_
    refine WPK.region ?_
    refine RW.seg hT 2 [] [] [.slice none 0 0, .slice none 0 0] [] (by kernel_rfl) (trivial) ?_
    refine RW.nil ?_
    refine WPK.seq ?_
    refine WPK.region ?_
    obtain ⟨x53431, hx53432, hf⟩ := bindS hf
    refine RW.seg hT 4 [] [(10, .int .i64 x53431)] [.slice A53381 p0.length c53382, .int .i64 (p0.length : Int), .int .i64 (IntKind.i64.wrap (1 + (p1.length : Int))), .int .i64 x53431] [.veq (.int .i64 (IntKind.i64.wrap ((p0.length : Int) + (IntKind.i64.wrap (1 + (p1.length : Int)))))) (.int .i64 x53431)] (by kernel_rfl) (int_v (someS hx53432)) ?_
    obtain ⟨x53433, hx53434, hf⟩ := bindS hf
    refine RW.op (by kernel_rfl) (OK.make hT (r := (Rp.int .u8)) (n := x53431) (z := .int .u8 0) (x := 0) (e := 5) (bytes := 1) s (by kernel_rfl) hx53434 (fun _ _ => rfl) ?_)
    clear s
    rintro w53435 b53436 cl53437 s k53438 rp53439
    replace e53384 := e53384.st k53438
    replace e53388 := e53388.st k53438
    replace kk := kk.trans k53438
    refine RW.seg hT 1 [] [] [.slice (some ⟨b53436, 0, none⟩) x53433.length x53433.length] [] (by kernel_rfl) (trivial) ?_
    refine RW.nil ?_
    refine WPK.seq ?_
    refine WPK.region ?_
    refine RW.seg hT 2 [] [] [.slice (some ⟨b53436, 0, none⟩) x53433.length x53433.length, .slice A53381 p0.length c53382] [] (by kernel_rfl) (trivial) ?_
    have pt53441 : Pt 0 x53433.length x53433.length 1 0 (x53433.length : Int) x53433.length := by have h0 := Pt.whole (size := 1) (row_hc (s.at (i := 0) rfl)).1; exact h0
    obtain ⟨nw53442, hs53443, rq53444⟩ := Elems.src e53384
    obtain ⟨x53450, hx53451, hf⟩ := bindS hf
    replace hx53451 := someS hx53451
    refine RW.op (by kernel_rfl) (OK.copy hT (r := (Rp.int .u8)) (xs := x53433) (ys := p0) (i := 0) (c := x53433.length) (e := 5) (size := 1) (t := 27) (t' := 27) (et := 5) (l := 0) (h := (x53433.length : Int)) s (by kernel_rfl) rfl rfl rfl rfl rfl flat_int rfl rfl rfl rp53439 pt53441 rfl hs53443 rq53444 ?_)
    clear s
    rintro w53445 cl53446 s k53447 rp53448 hn53449
    replace e53384 := e53384.st k53447
    replace e53388 := e53388.st k53447
    replace rp53439 := rp53439.st k53447
    replace kk := kk.trans k53447
    rw [hx53451] at rp53448 hn53449
    refine RW.nil ?_
    refine WPK.seq ?_
    have e53384S53452 := e53384
    have e53388S53452 := e53388
    have rp53448S53452 := rp53448
    have kS53456 : Kp I w53445 I w53445 := Kp.refl
    refine WPK.draw (fun w' => ∃ I' : Nat → Prop, St w0 M I' ((.sl (.slice (some ⟨b53436, 0, none⟩) x53433.length x53433.length) 5 1 x53433.length cl53446) :: F) w' ∧ Kp I w53445 I' w') 7 (by kernel_rfl) ?_
    intro w53453 hd53454
    have k53455 := Kp.dr s hd53454
    replace s := s.dr hd53454
    replace e53384 := e53384.st k53455
    replace e53388 := e53388.st k53455
    replace rp53448 := rp53448.st k53455
    replace kk := kk.trans k53455
    replace kS53456 := kS53456.trans k53455
    obtain ⟨h53466, hf⟩ := iteS hf
    replace h53466 : (0 : Int) ≤ (p0.length : Int) ∧ (p0.length : Int) ≤ (x53450.length : Int) ∧ (x53450.length : Int) ≤ ((x53433.length : Nat) : Int) - 0 := by have hnn := hn53449; omega
    obtain ⟨o53457, n53458, c53459, q53460, q53461, q53462, q53463, q53464, pt53465⟩ := partS (b := b53436) (c := x53433.length) (Pt.whole (size := 1) (row_hc (s.at (i := 0) rfl)).1) (Nat.le_refl _) h53466
    rw [Int.zero_add, Int.zero_add] at pt53465
    replace q53461 : x53433.length - (p0.length : Int).toNat = n53458 := by rw [← q53461]; have hnn := hn53449; omega
    refine RD.seg hT (by kernel_rfl) [0, 1, 2, 3, 4, 5, 6] [] [(19, .slice (some ⟨b53436, o53457, none⟩) n53458 c53459)] [.slice (some ⟨b53436, 0, none⟩) x53433.length x53433.length, .slice (some ⟨b53436, 0, none⟩) x53433.length x53433.length, .slice A53381 p0.length c53382, .int .i64 (p0.length : Int), .slice (some ⟨b53436, o53457, none⟩) n53458 c53459, .slice (some ⟨b53436, 0, none⟩) x53433.length x53433.length, .slice (some ⟨b53436, o53457, none⟩) n53458 c53459] [.both (.cut (p0.length : Int) (x53433.length : Nat) x53433.length x53433.length) (.veq (.slice (cutA (some ⟨b53436, 0, none⟩) (p0.length : Int).toNat x53433.length 1) (x53433.length - (p0.length : Int).toNat) (x53433.length - (p0.length : Int).toNat)) (.slice (some ⟨b53436, o53457, none⟩) n53458 c53459))] (by kernel_rfl) (by rintro w' ⟨I', s, k⟩; have e53384 := e53384S53452.st k; have e53388 := e53388S53452.st k; have rp53448 := rp53448S53452.st k; exact ⟨⟨(q53464).1, by have h1 := (q53464).2.1; have h2 := (q53464).2.2.1; omega, by have := (q53464).2.2.2; omega, by omega⟩, sl_eq q53460 q53461 q53462⟩) ⟨_, s.pick [0] 1 rfl, kS53456⟩ ?_
    refine RD.done (by kernel_rfl) ?_
    refine WPK.ret (?_)
    refine Fin.of (rs := [.tmp 4, .tmp 5]) hT [] (.tuple #[.slice (some ⟨b53436, 0, none⟩) x53433.length x53433.length, .slice (some ⟨b53436, o53457, none⟩) n53458 c53459]) [] rfl (by kernel_rfl) (trivial) ?_
    refine hR53394 _ _ ?_
    refine RW.seg hT 5 [] [] [.tuple #[.slice (some ⟨b53436, 0, none⟩) x53433.length x53433.length, .slice (some ⟨b53436, o53457, none⟩) n53458 c53459], .slice (some ⟨b53436, 0, none⟩) x53433.length x53433.length, .slice (some ⟨b53436, o53457, none⟩) n53458 c53459, .slice (some ⟨b53436, 0, none⟩) x53433.length x53433.length, .slice (some ⟨b53436, o53457, none⟩) n53458 c53459] [] (by kernel_rfl) (trivial) ?_
    refine RW.nil ?_
    refine WPK.seq ?_
    refine WPK.region ?_
    obtain ⟨h53469, hf⟩ := iteS hf
    obtain ⟨x53467, hx53468, hf⟩ := bindS hf
    obtain ⟨-, hx53468⟩ := getS hx53468
    refine RW.seg hT 5 [undef] [(23, .pointer (some ⟨b53436, 0 + ((p0.length : Int) + 0).toNat * 1, none⟩))] [.slice (some ⟨b53436, o53457, none⟩) n53458 c53459, .slice A53385 p1.length c53386, .int .i64 (p1.length : Int), .int .u8 (IntKind.u8.wrap (p1.length : Int)), .pointer (some ⟨b53436, 0 + ((p0.length : Int) + 0).toNat * 1, none⟩)] [.both (.idx 0 n53458) (.veq (.pointer (some ⟨b53436, o53457 + (0 : Int).toNat * 1, none⟩)) (.pointer (some ⟨b53436, 0 + ((p0.length : Int) + 0).toNat * 1, none⟩)))] (by kernel_rfl) (⟨(Pt.idx (b := b53436) pt53465 h53469).1, (Pt.idx (b := b53436) pt53465 h53469).2⟩) ?_
    obtain ⟨y53472, hy53473, hf⟩ := bindS hf
    obtain ⟨h53474, hq53475⟩ := setS hy53473
    obtain ⟨cl53476, hcl53477⟩ : ∃ q, setL cl53446 (0 + ((p0.length : Int) + 0).toNat * 1) [.int .u8 (IntKind.u8.wrap (p1.length : Int))] = q := ⟨_, rfl⟩
    have rp53478 : RepL (Rp.int .u8) I w53453 cl53476 y53472 := by rw [hq53475, ← hcl53477, Nat.zero_add]; exact RepL.set rp53448 (by omega) (rfl)
    have hn53479 : x53433.length = y53472.length := by rw [hq53475, List.length_set]; exact hn53449
    refine RW.op (by kernel_rfl) (OK.storeSl hT (i := 0) (b := b53436) (off := 0 + ((p0.length : Int) + 0).toNat * 1) (m := 1) (vs := [.int .u8 (IntKind.u8.wrap (p1.length : Int))]) (c := x53433.length) (e := 5) (size := 1) (n := x53433.length) (cl := cl53446) (cl' := cl53476) s (by kernel_rfl) rfl rfl (flat_ok rfl) (by have h1 := RepL.length rp53448; simp only [List.length_cons, List.length_nil, h1]; exact row_bd (n := 1) h53474 rfl) hcl53477 ?_)
    clear s
    rintro w53470 s k53471
    replace e53388 := e53388.st k53471
    replace rp53478 := rp53478.st k53471
    replace kk := kk.trans k53471
    refine RW.nil ?_
    refine WPK.seq ?_
    refine WPK.region ?_
    obtain ⟨h53489, hf⟩ := iteS hf
    obtain ⟨o53480, n53481, c53482, q53483, q53484, q53485, q53486, q53487, pt53488⟩ := partS (b := b53436) (c := x53433.length) pt53465 q53463 h53489
    replace q53484 : n53458 - (1 : Int).toNat = n53481 := by rw [← q53484]; have := (pt53465).len; omega
    refine RW.seg hT 3 [] [(25, .slice (some ⟨b53436, o53480, none⟩) n53481 c53482)] [.slice (some ⟨b53436, o53457, none⟩) n53458 c53459, .slice (some ⟨b53436, o53480, none⟩) n53481 c53482, .slice A53385 p1.length c53386] [.both (.cut 1 (n53458 : Nat) c53459 c53459) (.veq (.slice (cutA (some ⟨b53436, o53457, none⟩) (1 : Int).toNat c53459 1) (n53458 - (1 : Int).toNat) (c53459 - (1 : Int).toNat)) (.slice (some ⟨b53436, o53480, none⟩) n53481 c53482))] (by kernel_rfl) (⟨⟨(q53487).1, by have h1 := (q53487).2.1; have h2 := (q53487).2.2.1; omega, by have := (q53487).2.2.2; omega, by omega⟩, sl_eq q53483 q53484 q53485⟩) ?_
    obtain ⟨nw53490, hs53491, rq53492⟩ := Elems.src e53388
    obtain ⟨x53498, hx53499, hf⟩ := bindS hf
    replace hx53499 := someS hx53499
    refine RW.op (by kernel_rfl) (OK.copy hT (r := (Rp.int .u8)) (xs := y53472) (ys := p1) (i := 0) (c := x53433.length) (e := 5) (size := 1) (t := 27) (t' := 27) (et := 5) (l := ((p0.length : Int) + 1)) (h := ((p0.length : Int) + ((x53450.length : Int) - (p0.length : Int)))) s (by kernel_rfl) rfl rfl rfl rfl rfl flat_int rfl rfl hn53479 rp53478 pt53488 rfl hs53491 rq53492 ?_)
    clear s
    rintro w53493 cl53494 s k53495 rp53496 hn53497
    replace e53388 := e53388.st k53495
    replace rp53478 := rp53478.st k53495
    replace kk := kk.trans k53495
    rw [hx53499] at rp53496 hn53497
    refine RW.nil ?_
    refine WPK.seq ?_
    refine WPK.region ?_
    refine RW.seg hT 3 [] [] [.slice (some ⟨b53436, 0, none⟩) x53433.length x53433.length, .slice (some ⟨b53436, 0, none⟩) x53433.length x53433.length, .int .i64 0] [] (by kernel_rfl) (trivial) ?_
    refine RW.nil ?_
    refine WPK.ret (?_)
    obtain rfl := someS hf
    refine Fin.of (rs := [.tmp 4, .tmp 5]) hT [] (.tuple #[.slice (some ⟨b53436, 0, none⟩) x53433.length x53433.length, .int .i64 0]) [] rfl (by kernel_rfl) (trivial) ?_
    exact fun X h => vc rfl (h I (some ⟨b53436, 0, none⟩) x53433.length x53433.length cl53494 _ s kk hn53497 rp53496)
theorem c15 {w0 w : World} {M I : Nat → Prop} {F : List It} (p0 : (List Int)) (p1 : (List Int)) (A53521 : Option Addr) (c53522 : Nat) (A53525 : Option Addr) (c53526 : Nat) (hc53523 : (p0.length ≤ c53522 ∧ c53522 ≤ 9223372036854775807)) (e53524 : Elems (Rp.int .u8) I w A53521 p0) (hc53527 : (p1.length ≤ c53526 ∧ c53526 ≤ 9223372036854775807)) (e53528 : Elems (Rp.int .u8) I w A53525 p1) (s : St w0 M I (F) w) {r : (List Int)} (hf : g15 p0 p1 = some r) :
    Ret Tryd.prog 15 [.slice A53521 p0.length c53522, .slice A53525 p1.length c53526] w fun v wz => ∀ X : Value → World → Prop, (∀ (I' : Nat → Prop) (A53543 : Option Addr) (n53544 : Nat) (c53545 : Nat) (cl53546 : List Value) (w' : World), St w0 M I' ((.sl (.slice A53543 n53544 c53545) 5 1 n53544 cl53546) :: F) w' → Kp I w I' w' → n53544 = r.length → RepL (Rp.int .u8) I' w' cl53546 r → X (.slice A53543 n53544 c53545) w') → X v wz := by
  have kk : Kp I w I w := Kp.refl
  unfold g15 at hf
  refine Ret.of Tryd.func15 rfl ?_
  refine WPK.seq ?_
  refine WPK.region ?_
  refine RW.seg hT 1 [] [] [.slice none 0 0] [] (by kernel_rfl) (trivial) ?_
  refine RW.nil ?_
  refine WPK.seq ?_
  refine WPK.region ?_
  refine RW.seg hT 2 [] [] [.slice A53521 p0.length c53522, .slice A53525 p1.length c53526] [] (by kernel_rfl) (trivial) ?_
  obtain ⟨x53529, hx53530, hf⟩ := bindS hf
  refine RW.op (by kernel_rfl) (OK.call' en32 (by kernel_rfl) (c32 (F := F) p0 p1 A53521 c53522 A53525 c53526 hc53523 e53524 hc53527 e53528 s hx53530) ?_)
  intro X53533 hX53534
  refine fun _ _ hJ => hJ X53533 ?_
  clear s
  intro I53535 A53536 n53537 c53538 cl53539 w53531 s k53532 hn53540 rp53541
  refine hX53534 _ _ ?_
  replace e53524 := e53524.st k53532
  replace e53528 := e53528.st k53532
  replace kk := kk.trans k53532
  refine RW.seg hT 4 [] [] [.tuple #[.slice A53536 n53537 c53538, .int .i64 x53529.2], .slice A53536 n53537 c53538, .int .i64 x53529.2, .slice A53536 n53537 c53538] [] (by kernel_rfl) (trivial) ?_
  refine RW.nil ?_
  refine WPK.seq ?_
  refine WPK.region ?_
  refine RW.seg hT 2 [] [] [.slice A53536 n53537 c53538, .slice A53536 n53537 c53538] [] (by kernel_rfl) (trivial) ?_
  refine RW.nil ?_
  refine WPK.ret (?_)
  obtain rfl := someS hf
  refine Fin.of (rs := [.tmp 4]) hT [] (.slice A53536 n53537 c53538) [] rfl (by kernel_rfl) (trivial) ?_
  exact fun X h => vc rfl (h I53535 A53536 n53537 c53538 cl53539 _ s kk hn53540 rp53541)
end Go.Proofs.YtefjbhogpgihaaaDoor
