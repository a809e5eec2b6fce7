/- PRINTED BY sy.py: each call computes what the plain function of its number tells. -/
import Derived.Test.YtefjbhogpgihaaaTab
import Derived.Test.YtefjbhogpgihaaaSXaa
import Derived.Test.YtefjbhogpgihaaaG
namespace Go.Proofs.Ytefjbhogpgihaaa
open Go Go.SX Go.RowKit
set_option maxRecDepth 100000
set_option linter.unusedVariables false
def rp_T_api_Pair : Rp T_api_Pair := Rp.iso (fun x => (x.Key, x.Val)) (Rp.pair (Rp.slice (Rp.int .u8)) (Rp.slice (Rp.int .u8)))
def rp_T_api_Node : Rp T_api_Node := Rp.iso (fun x => (x.Leaf, x.Pairs, x.Keys, x.Kids)) (Rp.pair Rp.bool (Rp.pair (Rp.slice rp_T_api_Pair) (Rp.pair (Rp.slice (Rp.slice (Rp.int .u8))) (Rp.slice (Rp.int .i64)))))
attribute [local irreducible] WPK RW RD Ret SX.Fin SX.Any opK RoundBeg RoundEnd RangeEnd Rounds
theorem en89 : Proofs.Enters Try.prog 89 := Proofs.enters_of Try.func89 (by kernel_rfl) rfl
theorem en88 : Proofs.Enters Try.prog 88 := Proofs.enters_of Try.func88 (by kernel_rfl) rfl
theorem en108 : Proofs.Enters Try.prog 108 := Proofs.enters_of Try.func108 (by kernel_rfl) rfl
theorem en78 : Proofs.Enters Try.prog 78 := Proofs.enters_of Try.func78 (by kernel_rfl) rfl
theorem en15 : Proofs.Enters Try.prog 15 := Proofs.enters_of Try.func15 (by kernel_rfl) rfl
theorem en90 : Proofs.Enters Try.prog 90 := Proofs.enters_of Try.func90 (by kernel_rfl) rfl
theorem en109 : Proofs.Enters Try.prog 109 := Proofs.enters_of Try.func109 (by kernel_rfl) rfl
theorem en91 : Proofs.Enters Try.prog 91 := Proofs.enters_of Try.func91 (by kernel_rfl) rfl
theorem en92 : Proofs.Enters Try.prog 92 := Proofs.enters_of Try.func92 (by kernel_rfl) rfl
theorem en110 : Proofs.Enters Try.prog 110 := Proofs.enters_of Try.func110 (by kernel_rfl) rfl
theorem en83 : Proofs.Enters Try.prog 83 := Proofs.enters_of Try.func83 (by kernel_rfl) rfl
theorem en93 : Proofs.Enters Try.prog 93 := Proofs.enters_of Try.func93 (by kernel_rfl) rfl
theorem en50 : Proofs.Enters Try.prog 50 := Proofs.enters_of Try.func50 (by kernel_rfl) rfl
theorem en66 : Proofs.Enters Try.prog 66 := Proofs.enters_of Try.func66 (by kernel_rfl) rfl
theorem en94 : Proofs.Enters Try.prog 94 := Proofs.enters_of Try.func94 (by kernel_rfl) rfl
theorem en52 : Proofs.Enters Try.prog 52 := Proofs.enters_of Try.func52 (by kernel_rfl) rfl
theorem en26 : Proofs.Enters Try.prog 26 := Proofs.enters_of Try.func26 (by kernel_rfl) rfl
theorem en98 : Proofs.Enters Try.prog 98 := Proofs.enters_of Try.func98 (by kernel_rfl) rfl
theorem en96 : Proofs.Enters Try.prog 96 := Proofs.enters_of Try.func96 (by kernel_rfl) rfl
theorem en67 : Proofs.Enters Try.prog 67 := Proofs.enters_of Try.func67 (by kernel_rfl) rfl
theorem en97 : Proofs.Enters Try.prog 97 := Proofs.enters_of Try.func97 (by kernel_rfl) rfl
theorem en68 : Proofs.Enters Try.prog 68 := Proofs.enters_of Try.func68 (by kernel_rfl) rfl
theorem en30 : Proofs.Enters Try.prog 30 := Proofs.enters_of Try.func30 (by kernel_rfl) rfl
theorem en34 : Proofs.Enters Try.prog 34 := Proofs.enters_of Try.func34 (by kernel_rfl) rfl
theorem en51 : Proofs.Enters Try.prog 51 := Proofs.enters_of Try.func51 (by kernel_rfl) rfl
theorem en13 : Proofs.Enters Try.prog 13 := Proofs.enters_of Try.func13 (by kernel_rfl) rfl
theorem en11 : Proofs.Enters Try.prog 11 := Proofs.enters_of Try.func11 (by kernel_rfl) rfl
theorem en12 : Proofs.Enters Try.prog 12 := Proofs.enters_of Try.func12 (by kernel_rfl) rfl
theorem en75 : Proofs.Enters Try.prog 75 := Proofs.enters_of Try.func75 (by kernel_rfl) rfl
theorem en76 : Proofs.Enters Try.prog 76 := Proofs.enters_of Try.func76 (by kernel_rfl) rfl
theorem en59 : Proofs.Enters Try.prog 59 := Proofs.enters_of Try.func59 (by kernel_rfl) rfl
theorem en111 : Proofs.Enters Try.prog 111 := Proofs.enters_of Try.func111 (by kernel_rfl) rfl
theorem en95 : Proofs.Enters Try.prog 95 := Proofs.enters_of Try.func95 (by kernel_rfl) rfl
theorem en60 : Proofs.Enters Try.prog 60 := Proofs.enters_of Try.func60 (by kernel_rfl) rfl
theorem en57 : Proofs.Enters Try.prog 57 := Proofs.enters_of Try.func57 (by kernel_rfl) rfl
theorem en25 : Proofs.Enters Try.prog 25 := Proofs.enters_of Try.func25 (by kernel_rfl) rfl
theorem en35 : Proofs.Enters Try.prog 35 := Proofs.enters_of Try.func35 (by kernel_rfl) rfl
theorem en54 : Proofs.Enters Try.prog 54 := Proofs.enters_of Try.func54 (by kernel_rfl) rfl
theorem en55 : Proofs.Enters Try.prog 55 := Proofs.enters_of Try.func55 (by kernel_rfl) rfl
theorem en18 : Proofs.Enters Try.prog 18 := Proofs.enters_of Try.func18 (by kernel_rfl) rfl
theorem en77 : Proofs.Enters Try.prog 77 := Proofs.enters_of Try.func77 (by kernel_rfl) rfl
theorem en61 : Proofs.Enters Try.prog 61 := Proofs.enters_of Try.func61 (by kernel_rfl) rfl
theorem en28 : Proofs.Enters Try.prog 28 := Proofs.enters_of Try.func28 (by kernel_rfl) rfl
theorem en58 : Proofs.Enters Try.prog 58 := Proofs.enters_of Try.func58 (by kernel_rfl) rfl
theorem en24 : Proofs.Enters Try.prog 24 := Proofs.enters_of Try.func24 (by kernel_rfl) rfl
theorem en36 : Proofs.Enters Try.prog 36 := Proofs.enters_of Try.func36 (by kernel_rfl) rfl
theorem en79 : Proofs.Enters Try.prog 79 := Proofs.enters_of Try.func79 (by kernel_rfl) rfl
theorem en37 : Proofs.Enters Try.prog 37 := Proofs.enters_of Try.func37 (by kernel_rfl) rfl
theorem en80 : Proofs.Enters Try.prog 80 := Proofs.enters_of Try.func80 (by kernel_rfl) rfl
theorem en38 : Proofs.Enters Try.prog 38 := Proofs.enters_of Try.func38 (by kernel_rfl) rfl
theorem en20 : Proofs.Enters Try.prog 20 := Proofs.enters_of Try.func20 (by kernel_rfl) rfl
theorem en7 : Proofs.Enters Try.prog 7 := Proofs.enters_of Try.func7 (by kernel_rfl) rfl
theorem c78 {w1 w : World} {M I : Nat → Prop} {F : List It} (p0 : (List Int)) (A1 : Option Addr) (c226 : Nat) (hc1 : (p0.length ≤ c226 ∧ c226 ≤ 9223372036854775807)) (e1 : Elems (Rp.int .u8) I w A1 p0) (s : St w1 M I (F) w) {r : Bool} (hf : g78 p0 = some r) :
   Ret Try.prog 78 [.slice A1 p0.length c226] w fun v wz => ∀ X : Value → World → Prop, (∀ (I' : Nat → Prop) (w' : World), St w1 M I' (F) w' → Kp I w I' w' → X (.bool r) w') → X v wz := by
 have kk : Kp I w I w := Kp.refl
 unfold g78 at hf
 refine Ret.of Try.func78 rfl ?_
 refine WPK.seq ?_
 refine WPK.region ?_
 refine RW.seg hT 1 [] [] [.bool false] [] (by kernel_rfl) (trivial) ?_
 refine RW.nil ?_
 refine WPK.seq ?_
 refine WPK.region ?_
 refine RW.seg hT 3 [] [] [.slice A1 p0.length c226, .int .i64 (p0.length : Int), .bool (decide ((p0.length : Int) > 0))] [] (by kernel_rfl) (trivial) ?_
 by_cases h1 : (p0.length : Int) > 0
 have hf := iteT h1 hf
 refine RW.seg hT 6 [] [(6, .bool true)] [.bool true, .slice A1 p0.length c226, .int .i64 (p0.length : Int), .bool (decide ((p0.length : Int) ≤ 25)), .bool (decide ((p0.length : Int) ≤ 25)), .bool (decide ((p0.length : Int) ≤ 25))] [.veq (.bool (decide ((p0.length : Int) > 0))) (.bool true)] (by kernel_rfl) (bo_t h1) ?_
 refine RW.nil ?_
 refine WPK.ret (?_)
 obtain rfl := someS hf
 refine Fin.of (rs := [.tmp 2]) hT [] (.bool (decide ((p0.length : Int) ≤ 25))) [] rfl (by kernel_rfl) (trivial) ?_
 exact fun X h => vc rfl (h I _ s kk)
 have hf := iteF h1 hf
 refine RW.seg hT 6 [] [(6, .bool false)] [.bool false, undef, undef, undef, .bool false, .bool false] [.veq (.bool (decide ((p0.length : Int) > 0))) (.bool false)] (by kernel_rfl) (bo_f h1) ?_
 refine RW.nil ?_
 refine WPK.ret (?_)
 obtain rfl := someS hf
 refine Fin.of (rs := [.tmp 2]) hT [] (.bool false) [] rfl (by kernel_rfl) (trivial) ?_
 exact fun X h => vc rfl (h I _ s kk)
theorem c15 {w1 w : World} {M I : Nat → Prop} {F : List It} (p0 : (List Int)) (p1 : (List Int)) (A1 : Option Addr) (c411 : Nat) (A2 : Option Addr) (c415 : Nat) (hc1 : (p0.length ≤ c411 ∧ c411 ≤ 9223372036854775807)) (e1 : Elems (Rp.int .u8) I w A1 p0) (hc2 : (p1.length ≤ c415 ∧ c415 ≤ 9223372036854775807)) (e2 : Elems (Rp.int .u8) I w A2 p1) (s : St w1 M I (F) w) {r : Int} (hf : g15 p0 p1 = some r) :
   Ret Try.prog 15 [.slice A1 p0.length c411, .slice A2 p1.length c415] w fun v wz => ∀ X : Value → World → Prop, (∀ (I' : Nat → Prop) (w' : World), St w1 M I' (F) w' → Kp I w I' w' → X (.int .i64 r) w') → X v wz := by
 have kk : Kp I w I w := Kp.refl
 unfold g15 at hf
 refine Ret.of Try.func15 rfl ?_
 refine WPK.seq ?_
 refine WPK.region ?_
 refine RW.seg hT 1 [] [] [.int .i64 0] [] (by kernel_rfl) (trivial) ?_
 refine RW.nil ?_
 refine WPK.seq ?_
 refine WPK.region ?_
 refine RW.seg hT 2 [] [] [.slice A1 p0.length c411, .slice A2 p1.length c415] [] (by kernel_rfl) (trivial) ?_
 refine RW.op (by kernel_rfl) (OK.compare (c := c411) (d := c415) Try.func53 (by kernel_rfl) (by kernel_rfl) (by kernel_rfl) (by kernel_rfl) rfl e1 rfl e2 (by kernel_rfl) ?_)
 refine RW.seg hT 1 [] [] [.int .i64 (cmpB p0 p1)] [] (by kernel_rfl) (trivial) ?_
 refine RW.nil ?_
 refine WPK.ret (?_)
 obtain rfl := someS hf
 refine Fin.of (rs := [.tmp 4]) hT [] (.int .i64 (cmpB p0 p1)) [] rfl (by kernel_rfl) (trivial) ?_
 exact fun X h => vc rfl (h I _ s kk)
theorem c91 {w1 w : World} {M I : Nat → Prop} {F : List It} (p0 : T_api_Pair) (A1 : Option Addr) (u1 : Nat) (A2 : Option Addr) (u2 : Nat) (hc1 : (p0.Key.length ≤ u1 ∧ u1 ≤ 9223372036854775807)) (e1 : Elems (Rp.int .u8) I w A1 p0.Key) (hc2 : (p0.Val.length ≤ u2 ∧ u2 ≤ 9223372036854775807)) (e2 : Elems (Rp.int .u8) I w A2 p0.Val) (s : St w1 M I (F) w) {r : Bool} (hf : g91 p0 = some r) :
   Ret Try.prog 91 [.agg #[.slice A1 p0.Key.length u1, .slice A2 p0.Val.length u2]] w fun v wz => ∀ X : Value → World → Prop, (∀ (I' : Nat → Prop) (w' : World), St w1 M I' (F) w' → Kp I w I' w' → X (.bool r) w') → X v wz := by
 have kk : Kp I w I w := Kp.refl
 unfold g91 at hf
 refine Ret.of Try.func91 rfl ?_
 refine WPK.seq ?_
 refine WPK.region ?_
 refine RW.op (by kernel_rfl) (OK.new hT (f := fun b => .pointer (some ⟨b, 0, none⟩)) (cs := [.slice A1 p0.Key.length u1, .slice A2 p0.Val.length u2]) (e := 48) (c := .tt) s (by kernel_rfl) trivial ?_)
 clear s
 rintro w2 b1 s k1 -
 replace e1 := e1.st k1
 replace e2 := e2.st k1
 replace kk := kk.trans k1
 refine RW.seg hT 1 [] [] [.bool false] [] (by kernel_rfl) (trivial) ?_
 refine RW.nil ?_
 refine WPK.seq ?_
 refine WPK.region ?_
 refine RW.seg hT 5 [.slice A2 p0.Val.length u2] [] [.pointer (some ⟨b1, 1, none⟩), .slice A2 p0.Val.length u2, .int .i64 (p0.Val.length : Int), .bool (decide ((p0.Val.length : Int) > 24)), .bool (decide ((p0.Val.length : Int) > 24))] [.cell ⟨b1, 1, none⟩ (.slice A2 p0.Val.length u2)] (by kernel_rfl) (s.cell (i := 0) (off := 1) rfl rfl) ?_
 refine RW.nil ?_
 refine WPK.ret (?_)
 obtain rfl := someS hf
 refine Fin.of (rs := [.tmp 2]) hT [] (.bool (decide ((p0.Val.length : Int) > 24))) [] rfl (by kernel_rfl) (trivial) ?_
 replace s := s.pick [] 1 rfl
 exact fun X h => vc rfl (h I _ s kk)
theorem c83 {w1 w : World} {M I : Nat → Prop} {F : List It} (p0 : Int) (s : St w1 M I (F) w) {r : Bool} (hf : g83 p0 = some r) :
   Ret Try.prog 83 [.int .i64 p0] w fun v wz => ∀ X : Value → World → Prop, (∀ (I' : Nat → Prop) (w' : World), St w1 M I' (F) w' → Kp I w I' w' → X (.bool r) w') → X v wz := by
 have kk : Kp I w I w := Kp.refl
 unfold g83 at hf
 refine Ret.of Try.func83 rfl ?_
 refine WPK.seq ?_
 refine WPK.region ?_
 refine RW.seg hT 1 [] [] [.bool false] [] (by kernel_rfl) (trivial) ?_
 refine RW.nil ?_
 refine WPK.seq ?_
 refine WPK.region ?_
 refine RW.seg hT 2 [] [] [.int .i64 p0, .bool (decide (p0 ≥ 2))] [] (by kernel_rfl) (trivial) ?_
 by_cases h1 : p0 ≥ 2
 have hf := iteT h1 hf
 refine RW.seg hT 5 [] [(5, .bool true)] [.bool true, .int .i64 p0, .bool (decide (p0 < 2048)), .bool (decide (p0 < 2048)), .bool (decide (p0 < 2048))] [.veq (.bool (decide (p0 ≥ 2))) (.bool true)] (by kernel_rfl) (bo_t h1) ?_
 refine RW.nil ?_
 refine WPK.ret (?_)
 obtain rfl := someS hf
 refine Fin.of (rs := [.tmp 2]) hT [] (.bool (decide (p0 < 2048))) [] rfl (by kernel_rfl) (trivial) ?_
 exact fun X h => vc rfl (h I _ s kk)
 have hf := iteF h1 hf
 refine RW.seg hT 5 [] [(5, .bool false)] [.bool false, undef, undef, .bool false, .bool false] [.veq (.bool (decide (p0 ≥ 2))) (.bool false)] (by kernel_rfl) (bo_f h1) ?_
 refine RW.nil ?_
 refine WPK.ret (?_)
 obtain rfl := someS hf
 refine Fin.of (rs := [.tmp 2]) hT [] (.bool false) [] rfl (by kernel_rfl) (trivial) ?_
 exact fun X h => vc rfl (h I _ s kk)
theorem c93 {w1 w : World} {M I : Nat → Prop} {F : List It} (p0 : Int) (s : St w1 M I (F) w) {r : Bool} (hf : g93 p0 = some r) :
   Ret Try.prog 93 [.int .i64 p0] w fun v wz => ∀ X : Value → World → Prop, (∀ (I' : Nat → Prop) (w' : World), St w1 M I' (F) w' → Kp I w I' w' → X (.bool r) w') → X v wz := by
 have kk : Kp I w I w := Kp.refl
 unfold g93 at hf
 refine Ret.of Try.func93 rfl ?_
 refine WPK.seq ?_
 refine WPK.region ?_
 refine RW.seg hT 1 [] [] [.bool false] [] (by kernel_rfl) (trivial) ?_
 refine RW.nil ?_
 refine WPK.seq ?_
 refine WPK.region ?_
 refine RW.seg hT 1 [] [] [.int .i64 p0] [] (by kernel_rfl) (trivial) ?_
 obtain ⟨x1, hx1, hf⟩ := bindS hf
 refine RW.op (by kernel_rfl) (OK.call' en83 (by kernel_rfl) (c83 (F := F) p0 s hx1) ?_)
 intro X1 hX1
 refine fun _ _ hJ => hJ X1 ?_
 clear s
 intro I1 w2 s k1
 refine hX1 _ _ ?_
 replace kk := kk.trans k1
 refine RW.seg hT 2 [] [(5, .bool (decide (¬ (x1 = true))))] [.bool (decide (¬ (x1 = true))), .bool (decide (¬ (x1 = true)))] [.veq (.bool (!x1)) (.bool (decide (¬ (x1 = true))))] (by kernel_rfl) (not_b) ?_
 refine RW.nil ?_
 refine WPK.ret (?_)
 obtain rfl := someS hf
 refine Fin.of (rs := [.tmp 2]) hT [] (.bool (decide (¬ (x1 = true)))) [] rfl (by kernel_rfl) (trivial) ?_
 exact fun X h => vc rfl (h I1 _ s kk)
theorem c50 {w1 w : World} {M I : Nat → Prop} {F : List It} (p0 : T_api_Node) (A1 : Option Addr) (u1 : Nat) (A2 : Option Addr) (u2 : Nat) (A3 : Option Addr) (u3 : Nat) (hc1 : (p0.Pairs.length ≤ u1 ∧ u1 ≤ 9223372036854775807)) (e1 : Elems rp_T_api_Pair I w A1 p0.Pairs) (hc2 : (p0.Keys.length ≤ u2 ∧ u2 ≤ 9223372036854775807)) (e2 : Elems (Rp.slice (Rp.int .u8)) I w A2 p0.Keys) (hc3 : (p0.Kids.length ≤ u3 ∧ u3 ≤ 9223372036854775807)) (e3 : Elems (Rp.int .i64) I w A3 p0.Kids) (s : St w1 M I (F) w) {r : Bool} (hf : g50 p0 = some r) :
   Ret Try.prog 50 [.agg #[.bool p0.Leaf, .slice A1 p0.Pairs.length u1, .slice A2 p0.Keys.length u2, .slice A3 p0.Kids.length u3]] w fun v wz => ∀ X : Value → World → Prop, (∀ (I' : Nat → Prop) (w' : World), St w1 M I' (F) w' → Kp I w I' w' → X (.bool r) w') → X v wz := by
 have kk : Kp I w I w := Kp.refl
 unfold g50 at hf
 refine Ret.of Try.func50 rfl ?_
 refine WPK.seq ?_
 refine WPK.region ?_
 refine RW.op (by kernel_rfl) (OK.new hT (f := fun b => .pointer (some ⟨b, 0, none⟩)) (cs := [.bool p0.Leaf, .slice A1 p0.Pairs.length u1, .slice A2 p0.Keys.length u2, .slice A3 p0.Kids.length u3]) (e := 26) (c := .tt) s (by kernel_rfl) trivial ?_)
 clear s
 rintro w2 b1 s k1 -
 replace e1 := e1.st k1
 replace e2 := e2.st k1
 replace e3 := e3.st k1
 replace kk := kk.trans k1
 refine RW.seg hT 1 [] [] [.bool false] [] (by kernel_rfl) (trivial) ?_
 refine RW.nil ?_
 refine WPK.seq ?_
 refine WPK.seq ?_
 refine WPK.region ?_
 refine RW.seg hT 1 [.agg #[.bool p0.Leaf, .slice A1 p0.Pairs.length u1, .slice A2 p0.Keys.length u2, .slice A3 p0.Kids.length u3]] [] [.agg #[.bool p0.Leaf, .slice A1 p0.Pairs.length u1, .slice A2 p0.Keys.length u2, .slice A3 p0.Kids.length u3]] [.cells ⟨b1, 0, none⟩ [.bool p0.Leaf, .slice A1 p0.Pairs.length u1, .slice A2 p0.Keys.length u2, .slice A3 p0.Kids.length u3] 4] (by kernel_rfl) (s.cells (i := 0) rfl rfl rfl) ?_
 refine RW.op (by kernel_rfl) (OK.inl (args := [.agg #[.bool p0.Leaf, .slice A1 p0.Pairs.length u1, .slice A2 p0.Keys.length u2, .slice A3 p0.Kids.length u3]]) en89 (by kernel_rfl) ?_)
 intro R1 hR1
 refine Ret.of Try.func89 rfl ?_
 refine WPK.seq ?_
 refine WPK.region ?_
 refine RW.op (by kernel_rfl) (OK.new hT (f := fun b => .pointer (some ⟨b, 0, none⟩)) (cs := [.bool p0.Leaf, .slice A1 p0.Pairs.length u1, .slice A2 p0.Keys.length u2, .slice A3 p0.Kids.length u3]) (e := 26) (c := .tt) s (by kernel_rfl) trivial ?_)
 clear s
 rintro w3 b2 s k2 -
 replace e1 := e1.st k2
 replace e2 := e2.st k2
 replace e3 := e3.st k2
 replace kk := kk.trans k2
 refine RW.seg hT 1 [] [] [.nilFunc] [] (by kernel_rfl) (trivial) ?_
 refine RW.nil ?_
 refine WPK.seq ?_
 refine WPK.region ?_
 refine RW.seg hT 2 [] [] [.func (.func 108) #[] #[.pointer (some ⟨b2, 0, none⟩)], .func (.func 108) #[] #[.pointer (some ⟨b2, 0, none⟩)]] [] (by kernel_rfl) (trivial) ?_
 refine RW.nil ?_
 refine WPK.ret (?_)
 refine Fin.of (rs := [.tmp 2]) hT [] (.func (.func 108) #[] #[.pointer (some ⟨b2, 0, none⟩)]) [] rfl (by kernel_rfl) (trivial) ?_
 refine hR1 _ _ ?_
 refine RW.op (by kernel_rfl) (OK.inl (args := [.func (.func 108) #[] #[.pointer (some ⟨b2, 0, none⟩)]]) en88 (by kernel_rfl) ?_)
 intro R2 hR2
 refine Ret.cut (fun v wz => ∀ X : Value → World → Prop, (∀ (I1 : Nat → Prop) (x1 : Bool) (w' : World), g50_j1 p0 x1 = some r → St w1 M I1 ((.blk b1 (.cells #[.bool p0.Leaf, .slice A1 p0.Pairs.length u1, .slice A2 p0.Keys.length u2, .slice A3 p0.Kids.length u3] 26 (0, 0))) :: F) w' → Kp I w I1 w' → Elems rp_T_api_Pair I1 w' A1 p0.Pairs → Elems (Rp.slice (Rp.int .u8)) I1 w' A2 p0.Keys → Elems (Rp.int .i64) I1 w' A3 p0.Kids → X (.bool x1) w') → X v wz) ?_ ?_
 refine fun _ _ hJ => hJ R2 ?_
 clear s
 intro I1 x1 w4 hf s kk e1 e2 e3
 refine hR2 _ _ ?_
 unfold g50_j1 at hf
 refine RW.seg hT 1 [] [(8, .bool (decide (¬ (x1 = true))))] [.bool (decide (¬ (x1 = true)))] [.veq (.bool (!x1)) (.bool (decide (¬ (x1 = true))))] (by kernel_rfl) (not_b) ?_
 refine RW.nil ?_
 by_cases h1 : ¬ (x1 = true)
 have hf := iteT h1 hf
 refine WPK.condT (Eq.trans (b := .bool (decide (¬ (x1 = true)))) (by kernel_rfl) (bo_t h1)) ?_
 refine WPK.seq ?_
 refine WPK.region ?_
 refine RW.seg hT 1 [] [] [.bool false] [] (by kernel_rfl) (trivial) ?_
 refine RW.nil ?_
 refine WPK.ret (?_)
 obtain rfl := someS hf
 refine Fin.of (rs := [.tmp 2]) hT [] (.bool false) [] rfl (by kernel_rfl) (trivial) ?_
 replace s := s.pick [] 1 rfl
 exact fun X h => vc rfl (h I1 _ s kk)
 have hf := iteF h1 hf
 refine WPK.condF (Eq.trans (b := .bool (decide (¬ (x1 = true)))) (by kernel_rfl) (bo_f h1)) ?_
 refine WPK.skip ?_
 refine WPK.seq ?_
 refine WPK.seq ?_
 refine WPK.region ?_
 refine RW.seg hT 2 [.bool p0.Leaf] [] [.pointer (some ⟨b1, 0, none⟩), .bool p0.Leaf] [.cell ⟨b1, 0, none⟩ (.bool p0.Leaf)] (by kernel_rfl) (s.cell (i := 0) (off := 0) rfl rfl) ?_
 refine RW.nil ?_
 by_cases h2 : p0.Leaf = true
 have hf := iteT h2 hf
 refine WPK.condT (Eq.trans (b := .bool p0.Leaf) (by kernel_rfl) (b_t h2)) ?_
 refine WPK.seq ?_
 refine WPK.region ?_
 refine RW.seg hT 2 [.slice A1 p0.Pairs.length u1] [] [.pointer (some ⟨b1, 1, none⟩), .slice A1 p0.Pairs.length u1] [.cell ⟨b1, 1, none⟩ (.slice A1 p0.Pairs.length u1)] (by kernel_rfl) (s.cell (i := 0) (off := 1) rfl rfl) ?_
 refine RW.op (by kernel_rfl) (OK.inl (args := [.slice A1 p0.Pairs.length u1, .func (.func 91) #[] #[]]) en90 (by kernel_rfl) ?_)
 intro R3 hR3
 refine Ret.of Try.func90 rfl ?_
 refine WPK.seq ?_
 refine WPK.region ?_
 refine RW.seg hT 1 [] [] [.bool false] [] (by kernel_rfl) (trivial) ?_
 refine RW.nil ?_
 refine WPK.seq ?_
 refine WPK.region ?_
 refine RW.seg hT 2 [] [] [.slice A1 p0.Pairs.length u1, .func (.func 91) #[] #[]] [] (by kernel_rfl) (trivial) ?_
 refine RW.op (by kernel_rfl) (OK.inl (args := [.slice A1 p0.Pairs.length u1, .func (.func 91) #[] #[]]) en109 (by kernel_rfl) ?_)
 intro R4 hR4
 refine Ret.cut (fun v wz => ∀ X : Value → World → Prop, (∀ (I2 : Nat → Prop) (x2 : Int) (w' : World), g50_j2 p0 x2 = some r → St w1 M I2 ((.blk b1 (.cells #[.bool p0.Leaf, .slice A1 p0.Pairs.length u1, .slice A2 p0.Keys.length u2, .slice A3 p0.Kids.length u3] 26 (0, 0))) :: F) w' → Kp I w I2 w' → Elems rp_T_api_Pair I2 w' A1 p0.Pairs → Elems (Rp.slice (Rp.int .u8)) I2 w' A2 p0.Keys → Elems (Rp.int .i64) I2 w' A3 p0.Kids → X (.int .i64 x2) w') → X v wz) ?_ ?_
 refine fun _ _ hJ => hJ R4 ?_
 clear s
 intro I2 x2 w5 hf s kk e1 e2 e3
 refine hR4 _ _ ?_
 unfold g50_j2 at hf
 refine RW.seg hT 2 [] [] [.bool (decide (x2 ≥ 0)), .bool (decide (x2 ≥ 0))] [] (by kernel_rfl) (trivial) ?_
 refine RW.nil ?_
 refine WPK.ret (?_)
 refine Fin.of (rs := [.tmp 4]) hT [] (.bool (decide (x2 ≥ 0))) [] rfl (by kernel_rfl) (trivial) ?_
 refine hR3 _ _ ?_
 refine RW.seg hT 1 [] [] [.bool (decide (x2 ≥ 0))] [] (by kernel_rfl) (trivial) ?_
 refine RW.nil ?_
 refine WPK.seq ?_
 refine WPK.cut' (Kn fun D1 ds wz => ∀ X : Kont, (∀ (x3 : Bool), g50_j3 x3 = some r → X [(gd D1 0), .pointer (some ⟨b1, 0, none⟩), .bool x3, (gd D1 3), undef, (gd D1 5), (gd D1 6), (gd D1 7), (gd D1 8), (gd D1 9), (gd D1 10), (gd D1 11), (gd D1 12), (gd D1 13), (gd D1 14), (gd D1 15), (gd D1 16), (gd D1 17), (gd D1 18), (gd D1 19), (gd D1 20), (gd D1 21), (gd D1 22), (gd D1 23), (gd D1 24), (gd D1 25), (gd D1 26), (gd D1 27), (gd D1 28), (gd D1 29), (gd D1 30), (gd D1 31), undef, undef, undef, undef, undef, undef, undef, undef, undef, undef, undef, undef, undef, undef, undef, undef, undef, undef, undef, undef, undef, undef, undef, undef, undef, undef, undef, undef, undef, undef, undef, undef, undef] [] w5) → X D1 ds wz) ?_ ?_
 intro X1 hX1
 refine fun D1 _ _ hJ => hJ X1 ?_
 intro x3 hf
 refine hX1 _ _ _ ?_
 unfold g50_j3 at hf
 refine WPK.ret (?_)
 obtain rfl := someS hf
 refine Fin.of (rs := [.tmp 2]) hT [] (.bool x3) [] rfl (by kernel_rfl) (trivial) ?_
 replace s := s.pick [] 1 rfl
 exact fun X h => vc rfl (h I2 _ s kk)
 refine WPK.region ?_
 refine RW.seg hT 2 [] [(15, .bool (decide (¬ (x2 ≥ 0))))] [.bool (decide (x2 ≥ 0)), .bool (decide (¬ (x2 ≥ 0)))] [.veq (.bool (!(decide (x2 ≥ 0)))) (.bool (decide (¬ (x2 ≥ 0))))] (by kernel_rfl) (not_v) ?_
 by_cases h3 : ¬ (x2 ≥ 0)
 have hf := iteT h3 hf
 refine RW.seg hT 6 [.slice A1 p0.Pairs.length u1] [(16, .bool true)] [.bool true, .pointer (some ⟨b1, 1, none⟩), .slice A1 p0.Pairs.length u1, .int .i64 (p0.Pairs.length : Int), .bool (decide ((p0.Pairs.length : Int) ≤ 255)), .bool (decide ((p0.Pairs.length : Int) ≤ 255))] [.veq (.bool (decide (¬ (x2 ≥ 0)))) (.bool true), .cell ⟨b1, 1, none⟩ (.slice A1 p0.Pairs.length u1)] (by kernel_rfl) (⟨bo_t h3, s.cell (i := 0) (off := 1) rfl rfl⟩) ?_
 by_cases h4 : (p0.Pairs.length : Int) ≤ 255
 have hf := iteT h4 hf
 obtain ⟨x4, hx1, hf⟩ := bindS hf
 refine RW.seg hT 11 [.slice A2 p0.Keys.length u2, .slice A3 p0.Kids.length u3] [(22, .bool true), (29, .int .i64 x4), (30, .bool (decide (x4 = 0)))] [.bool true, .pointer (some ⟨b1, 2, none⟩), .slice A2 p0.Keys.length u2, .int .i64 (p0.Keys.length : Int), .pointer (some ⟨b1, 3, none⟩), .slice A3 p0.Kids.length u3, .int .i64 (p0.Kids.length : Int), .int .i64 x4, .bool (decide (x4 = 0)), .bool (decide (x4 = 0)), .bool (decide (x4 = 0))] [.veq (.bool (decide ((p0.Pairs.length : Int) ≤ 255))) (.bool true), .cell ⟨b1, 2, none⟩ (.slice A2 p0.Keys.length u2), .cell ⟨b1, 3, none⟩ (.slice A3 p0.Kids.length u3), .veq (.int .i64 (IntKind.i64.wrap ((p0.Keys.length : Int) + (p0.Kids.length : Int)))) (.int .i64 x4), .veq (.bool (x4 == 0)) (.bool (decide (x4 = 0)))] (by kernel_rfl) (⟨bo_t h4, s.cell (i := 0) (off := 2) rfl rfl, s.cell (i := 0) (off := 3) rfl rfl, int_v (someS hx1), eq_v⟩) ?_
 refine RW.nil ?_
 exact fun X h => kc (by kernel_rfl) rfl (h (decide (x4 = 0)) hf)
 have hf := iteF h4 hf
 refine RW.seg hT 11 [] [(22, .bool false)] [.bool false, undef, undef, undef, undef, undef, undef, undef, undef, .bool false, .bool false] [.veq (.bool (decide ((p0.Pairs.length : Int) ≤ 255))) (.bool false)] (by kernel_rfl) (bo_f h4) ?_
 refine RW.nil ?_
 exact fun X h => kc (by kernel_rfl) rfl (h false hf)
 have hf := iteF h3 hf
 refine RW.seg hT 17 [] [(16, .bool false)] [.bool false, undef, undef, undef, undef, .bool false, .bool false, undef, undef, undef, undef, undef, undef, undef, undef, .bool false, .bool false] [.veq (.bool (decide (¬ (x2 ≥ 0)))) (.bool false)] (by kernel_rfl) (bo_f h3) ?_
 refine RW.nil ?_
 exact fun X h => kc (by kernel_rfl) rfl (h false hf)
 refine Ret.of Try.func109 rfl ?_
 refine WPK.seq ?_
 refine WPK.region ?_
 refine RW.seg hT 1 [] [] [.int .i64 0] [] (by kernel_rfl) (trivial) ?_
 refine RW.nil ?_
 refine WPK.seq ?_
 refine WPK.seq ?_
 refine WPK.region ?_
 refine RW.seg hT 3 [] [] [.slice A1 p0.Pairs.length u1, .int .i64 (p0.Pairs.length : Int), .int .i64 0] [] (by kernel_rfl) (trivial) ?_
 refine RW.nil ?_
 refine WPK.block ?_
 refine WPK.loop' (J := fun n1 D2 ds wz => ∀ X : Kont, (∀ (I3 : Nat → Prop) (x5 : Int) (w' : World), g50_l4 p0 n1 x5 = some r → St w1 M I3 ((.blk b1 (.cells #[.bool p0.Leaf, .slice A1 p0.Pairs.length u1, .slice A2 p0.Keys.length u2, .slice A3 p0.Kids.length u3] 26 (0, 0))) :: F) w' → Kp I w I3 w' → Elems rp_T_api_Pair I3 w' A1 p0.Pairs → Elems (Rp.slice (Rp.int .u8)) I3 w' A2 p0.Keys → Elems (Rp.int .i64) I3 w' A3 p0.Kids → X [.slice A1 p0.Pairs.length u1, .func (.func 91) #[] #[], (gd D2 2), (gd D2 3), .int .i64 0, (gd D2 5), (gd D2 6), .int .i64 (p0.Pairs.length : Int), .int .i64 x5, (gd D2 9), (gd D2 10), (gd D2 11), (gd D2 12), (gd D2 13), (gd D2 14), (gd D2 15), (gd D2 16), undef, (gd D2 18)] [] w') → X D2 ds wz) FUEL (fun X h => kc (by kernel_rfl) rfl (h I1 0 _ hf s kk e1 e2 e3)) (fun _ _ _ hJ => hJ (fun _ _ _ => False) (by intro I3 x5 w6 hf s kk e1 e2 e3; exact noneS hf)) ?_
 intro X2 hX2
 refine fun n1 D2 _ _ hJ => hJ (X2 n1) ?_
 clear s
 intro I3 x5 w6 hf s kk e1 e2 e3
 refine hX2 _ _ _ _ ?_
 replace hf : g50_l4B p0 (g50_l4 p0 n1) x5 = some r := hf
 generalize hrec1 : g50_l4 p0 n1 = rec1 at hf
 unfold g50_l4B at hf
 refine WPK.seq ?_
 refine WPK.region ?_
 refine RW.seg hT 1 [] [] [.bool (decide (x5 < (p0.Pairs.length : Int)))] [] (by kernel_rfl) (trivial) ?_
 refine RW.nil ?_
 refine WPK.seq ?_
 by_cases h5 : x5 < (p0.Pairs.length : Int)
 have hf := iteT h5 hf
 refine WPK.condT (Eq.trans (b := .bool (decide (x5 < (p0.Pairs.length : Int)))) (by kernel_rfl) (bo_t h5)) ?_
 refine WPK.skip ?_
 refine WPK.seq ?_
 refine WPK.block ?_
 refine WPK.seq ?_
 refine WPK.region ?_
 refine RW.seg hT 2 [] [] [.int .i64 x5, .int .i64 x5] [] (by kernel_rfl) (trivial) ?_
 refine RW.nil ?_
 refine WPK.seq ?_
 refine WPK.region ?_
 obtain ⟨x6, hx2, hf⟩ := bindS hf
 obtain ⟨h6, hx2⟩ := getS hx2
 obtain ⟨b3, o1, rfl⟩ := Elems.opn e1 hx2
 obtain ⟨cs1, hr1, ha1⟩ := Elems.get e1 hx2
 obtain ⟨cs2, cs3, rfl, hr2, hr3⟩ := hr1
 obtain ⟨A4, u4, rfl, q1, q2, e4⟩ := hr2
 have hc4 := And.intro q1 q2
 obtain ⟨A5, u5, rfl, q3, q4, e5⟩ := hr3
 have hc5 := And.intro q3 q4
 refine RW.seg hT 5 [.agg #[.slice A4 x6.Key.length u4, .slice A5 x6.Val.length u5]] [] [.func (.func 91) #[] #[], .slice (some ⟨b3, o1, none⟩) p0.Pairs.length u1, .int .i64 x5, .pointer (some ⟨b3, o1 + x5.toNat * 2, none⟩), .agg #[.slice A4 x6.Key.length u4, .slice A5 x6.Val.length u5]] [.idx x5 p0.Pairs.length, .cells ⟨b3, o1 + x5.toNat * 2, none⟩ [.slice A4 x6.Key.length u4, .slice A5 x6.Val.length u5] 2] (by kernel_rfl) (⟨h6, at_cells ha1 (off := 0) rfl rfl⟩) ?_
 obtain ⟨x7, hx3, hf⟩ := bindS hf
 refine RW.op (by kernel_rfl) (OK.call' en91 (by kernel_rfl) (c91 (F := (.blk b1 (.cells #[.bool p0.Leaf, .slice (some ⟨b3, o1, none⟩) p0.Pairs.length u1, .slice A2 p0.Keys.length u2, .slice A3 p0.Kids.length u3] 26 (0, 0))) :: F) x6 A4 u4 A5 u5 hc4 e4 hc5 e5 s hx3) ?_)
 intro X3 hX3
 refine fun _ _ hJ => hJ X3 ?_
 clear s
 intro I4 w7 s k3
 refine hX3 _ _ ?_
 replace e1 := e1.st k3
 replace e4 := e4.st k3
 replace e5 := e5.st k3
 replace e2 := e2.st k3
 replace e3 := e3.st k3
 replace kk := kk.trans k3
 refine RW.nil ?_
 by_cases h7 : x7 = true
 have hf := iteT h7 hf
 refine WPK.condT (Eq.trans (b := .bool x7) (by kernel_rfl) (b_t h7)) ?_
 refine WPK.seq ?_
 refine WPK.region ?_
 refine RW.seg hT 2 [] [] [.int .i64 x5, .int .i64 x5] [] (by kernel_rfl) (trivial) ?_
 refine RW.nil ?_
 refine WPK.ret (blockQ.ret (blockQ.ret (?_)))
 refine Fin.of (rs := [.tmp 4]) hT [] (.int .i64 x5) [] rfl (by kernel_rfl) (trivial) ?_
 exact fun X h => vc rfl (h I4 x5 _ hf s kk e1 e2 e3)
 have hf := iteF h7 hf
 refine WPK.condF (Eq.trans (b := .bool x7) (by kernel_rfl) (b_f h7)) ?_
 refine WPK.skip ?_
 refine WPK.region ?_
 refine RW.seg hT 2 [] [] [.int .i64 (IntKind.i64.wrap (x5 + 1)), .int .i64 (IntKind.i64.wrap (x5 + 1))] [] (by kernel_rfl) (trivial) ?_
 refine RW.nil ?_
 subst hrec1
 exact ⟨n1, Nat.le_refl _, fun X h => kc (by kernel_rfl) rfl (h I4 (IntKind.i64.wrap (x5 + 1)) _ hf s kk e1 e2 e3)⟩
 have hf := iteF h5 hf
 refine WPK.condF (Eq.trans (b := .bool (decide (x5 < (p0.Pairs.length : Int)))) (by kernel_rfl) (bo_f h5)) ?_
 refine WPK.exit (blockQ.same ?_)
 refine WPK.seq ?_
 refine WPK.region ?_
 refine RW.seg hT 1 [] [] [.int .i64 (-1)] [] (by kernel_rfl) (trivial) ?_
 refine RW.nil ?_
 refine WPK.ret (?_)
 refine Fin.of (rs := [.tmp 4]) hT [] (.int .i64 (-1)) [] rfl (by kernel_rfl) (trivial) ?_
 exact fun X h => vc rfl (h I3 (-1) _ hf s kk e1 e2 e3)
 have hf := iteF h2 hf
 refine WPK.condF (Eq.trans (b := .bool p0.Leaf) (by kernel_rfl) (b_f h2)) ?_
 refine WPK.skip ?_
 refine WPK.seq ?_
 refine WPK.region ?_
 refine RW.seg hT 2 [.slice A3 p0.Kids.length u3] [] [.pointer (some ⟨b1, 3, none⟩), .slice A3 p0.Kids.length u3] [.cell ⟨b1, 3, none⟩ (.slice A3 p0.Kids.length u3)] (by kernel_rfl) (s.cell (i := 0) (off := 3) rfl rfl) ?_
 refine RW.op (by kernel_rfl) (OK.inl (args := [.slice A3 p0.Kids.length u3, .func (.func 93) #[] #[]]) en92 (by kernel_rfl) ?_)
 intro R5 hR5
 refine Ret.of Try.func92 rfl ?_
 refine WPK.seq ?_
 refine WPK.region ?_
 refine RW.seg hT 1 [] [] [.bool false] [] (by kernel_rfl) (trivial) ?_
 refine RW.nil ?_
 refine WPK.seq ?_
 refine WPK.region ?_
 refine RW.seg hT 2 [] [] [.slice A3 p0.Kids.length u3, .func (.func 93) #[] #[]] [] (by kernel_rfl) (trivial) ?_
 refine RW.op (by kernel_rfl) (OK.inl (args := [.slice A3 p0.Kids.length u3, .func (.func 93) #[] #[]]) en110 (by kernel_rfl) ?_)
 intro R6 hR6
 refine Ret.cut (fun v wz => ∀ X : Value → World → Prop, (∀ (I5 : Nat → Prop) (x8 : Int) (w' : World), g50_j5 p0 x8 = some r → St w1 M I5 ((.blk b1 (.cells #[.bool p0.Leaf, .slice A1 p0.Pairs.length u1, .slice A2 p0.Keys.length u2, .slice A3 p0.Kids.length u3] 26 (0, 0))) :: F) w' → Kp I w I5 w' → Elems rp_T_api_Pair I5 w' A1 p0.Pairs → Elems (Rp.slice (Rp.int .u8)) I5 w' A2 p0.Keys → Elems (Rp.int .i64) I5 w' A3 p0.Kids → X (.int .i64 x8) w') → X v wz) ?_ ?_
 refine fun _ _ hJ => hJ R6 ?_
 clear s
 intro I5 x8 w8 hf s kk e1 e2 e3
 refine hR6 _ _ ?_
 unfold g50_j5 at hf
 refine RW.seg hT 2 [] [] [.bool (decide (x8 ≥ 0)), .bool (decide (x8 ≥ 0))] [] (by kernel_rfl) (trivial) ?_
 refine RW.nil ?_
 refine WPK.ret (?_)
 refine Fin.of (rs := [.tmp 4]) hT [] (.bool (decide (x8 ≥ 0))) [] rfl (by kernel_rfl) (trivial) ?_
 refine hR5 _ _ ?_
 refine RW.seg hT 1 [] [] [.bool (decide (x8 ≥ 0))] [] (by kernel_rfl) (trivial) ?_
 refine RW.nil ?_
 refine WPK.seq ?_
 refine WPK.cut' (Kn fun D3 ds wz => ∀ X : Kont, (∀ (I6 : Nat → Prop) (x9 : Bool) (w' : World), g50_j6 x9 = some r → St w1 M I6 (F) w' → Kp I w I6 w' → X [(gd D3 0), (gd D3 1), .bool x9, (gd D3 3), (gd D3 4), (gd D3 5), (gd D3 6), (gd D3 7), (gd D3 8), (gd D3 9), (gd D3 10), (gd D3 11), (gd D3 12), (gd D3 13), (gd D3 14), (gd D3 15), (gd D3 16), (gd D3 17), (gd D3 18), (gd D3 19), (gd D3 20), (gd D3 21), (gd D3 22), (gd D3 23), (gd D3 24), (gd D3 25), (gd D3 26), (gd D3 27), (gd D3 28), (gd D3 29), (gd D3 30), (gd D3 31), (gd D3 32), (gd D3 33), (gd D3 34), (gd D3 35), (gd D3 36), (gd D3 37), (gd D3 38), (gd D3 39), (gd D3 40), (gd D3 41), (gd D3 42), (gd D3 43), (gd D3 44), (gd D3 45), (gd D3 46), (gd D3 47), (gd D3 48), (gd D3 49), (gd D3 50), (gd D3 51), (gd D3 52), (gd D3 53), (gd D3 54), (gd D3 55), (gd D3 56), (gd D3 57), (gd D3 58), (gd D3 59), (gd D3 60), (gd D3 61), (gd D3 62), (gd D3 63), (gd D3 64)] [] w') → X D3 ds wz) ?_ ?_
 intro X4 hX4
 refine fun D3 _ _ hJ => hJ X4 ?_
 clear s
 intro I6 x9 w9 hf s kk
 refine hX4 _ _ _ ?_
 unfold g50_j6 at hf
 refine WPK.ret (?_)
 obtain rfl := someS hf
 refine Fin.of (rs := [.tmp 2]) hT [] (.bool x9) [] rfl (by kernel_rfl) (trivial) ?_
 exact fun X h => vc rfl (h I6 _ s kk)
 refine WPK.region ?_
 refine RW.seg hT 2 [] [(36, .bool (decide (¬ (x8 ≥ 0))))] [.bool (decide (x8 ≥ 0)), .bool (decide (¬ (x8 ≥ 0)))] [.veq (.bool (!(decide (x8 ≥ 0)))) (.bool (decide (¬ (x8 ≥ 0))))] (by kernel_rfl) (not_v) ?_
 by_cases h8 : ¬ (x8 ≥ 0)
 have hf := iteT h8 hf
 refine RW.seg hT 6 [.slice A1 p0.Pairs.length u1] [(37, .bool true), (41, .bool (decide ((p0.Pairs.length : Int) = 0)))] [.bool true, .pointer (some ⟨b1, 1, none⟩), .slice A1 p0.Pairs.length u1, .int .i64 (p0.Pairs.length : Int), .bool (decide ((p0.Pairs.length : Int) = 0)), .bool (decide ((p0.Pairs.length : Int) = 0))] [.veq (.bool (decide (¬ (x8 ≥ 0)))) (.bool true), .cell ⟨b1, 1, none⟩ (.slice A1 p0.Pairs.length u1), .veq (.bool ((p0.Pairs.length : Int) == 0)) (.bool (decide ((p0.Pairs.length : Int) = 0)))] (by kernel_rfl) (⟨bo_t h8, s.cell (i := 0) (off := 1) rfl rfl, eq_v⟩) ?_
 by_cases h9 : (p0.Pairs.length : Int) = 0
 have hf := iteT h9 hf
 refine RW.seg hT 6 [.slice A2 p0.Keys.length u2] [(43, .bool true)] [.bool true, .pointer (some ⟨b1, 2, none⟩), .slice A2 p0.Keys.length u2, .int .i64 (p0.Keys.length : Int), .bool (decide ((p0.Keys.length : Int) > 0)), .bool (decide ((p0.Keys.length : Int) > 0))] [.veq (.bool (decide ((p0.Pairs.length : Int) = 0))) (.bool true), .cell ⟨b1, 2, none⟩ (.slice A2 p0.Keys.length u2)] (by kernel_rfl) (⟨bo_t h9, s.cell (i := 0) (off := 2) rfl rfl⟩) ?_
 by_cases h10 : (p0.Keys.length : Int) > 0
 have hf := iteT h10 hf
 refine RW.seg hT 6 [.slice A2 p0.Keys.length u2] [(49, .bool true)] [.bool true, .pointer (some ⟨b1, 2, none⟩), .slice A2 p0.Keys.length u2, .int .i64 (p0.Keys.length : Int), .bool (decide ((p0.Keys.length : Int) ≤ 255)), .bool (decide ((p0.Keys.length : Int) ≤ 255))] [.veq (.bool (decide ((p0.Keys.length : Int) > 0))) (.bool true), .cell ⟨b1, 2, none⟩ (.slice A2 p0.Keys.length u2)] (by kernel_rfl) (⟨bo_t h10, s.cell (i := 0) (off := 2) rfl rfl⟩) ?_
 by_cases h11 : (p0.Keys.length : Int) ≤ 255
 have hf := iteT h11 hf
 refine RW.seg hT 11 [.slice A3 p0.Kids.length u3, .slice A2 p0.Keys.length u2] [(55, .bool true), (63, .bool (decide ((p0.Kids.length : Int) = (IntKind.i64.wrap ((p0.Keys.length : Int) + 1)))))] [.bool true, .pointer (some ⟨b1, 3, none⟩), .slice A3 p0.Kids.length u3, .int .i64 (p0.Kids.length : Int), .pointer (some ⟨b1, 2, none⟩), .slice A2 p0.Keys.length u2, .int .i64 (p0.Keys.length : Int), .int .i64 (IntKind.i64.wrap ((p0.Keys.length : Int) + 1)), .bool (decide ((p0.Kids.length : Int) = (IntKind.i64.wrap ((p0.Keys.length : Int) + 1)))), .bool (decide ((p0.Kids.length : Int) = (IntKind.i64.wrap ((p0.Keys.length : Int) + 1)))), .bool (decide ((p0.Kids.length : Int) = (IntKind.i64.wrap ((p0.Keys.length : Int) + 1))))] [.veq (.bool (decide ((p0.Keys.length : Int) ≤ 255))) (.bool true), .cell ⟨b1, 3, none⟩ (.slice A3 p0.Kids.length u3), .cell ⟨b1, 2, none⟩ (.slice A2 p0.Keys.length u2), .veq (.bool ((p0.Kids.length : Int) == (IntKind.i64.wrap ((p0.Keys.length : Int) + 1)))) (.bool (decide ((p0.Kids.length : Int) = (IntKind.i64.wrap ((p0.Keys.length : Int) + 1)))))] (by kernel_rfl) (⟨bo_t h11, s.cell (i := 0) (off := 3) rfl rfl, s.cell (i := 0) (off := 2) rfl rfl, eq_v⟩) ?_
 refine RW.nil ?_
 replace s := s.pick [] 1 rfl
 exact fun X h => kc (by kernel_rfl) rfl (h I5 (decide ((p0.Kids.length : Int) = (IntKind.i64.wrap ((p0.Keys.length : Int) + 1)))) _ hf s kk)
 have hf := iteF h11 hf
 refine RW.seg hT 11 [] [(55, .bool false)] [.bool false, undef, undef, undef, undef, undef, undef, undef, undef, .bool false, .bool false] [.veq (.bool (decide ((p0.Keys.length : Int) ≤ 255))) (.bool false)] (by kernel_rfl) (bo_f h11) ?_
 refine RW.nil ?_
 replace s := s.pick [] 1 rfl
 exact fun X h => kc (by kernel_rfl) rfl (h I5 false _ hf s kk)
 have hf := iteF h10 hf
 refine RW.seg hT 17 [] [(49, .bool false)] [.bool false, undef, undef, undef, undef, .bool false, .bool false, undef, undef, undef, undef, undef, undef, undef, undef, .bool false, .bool false] [.veq (.bool (decide ((p0.Keys.length : Int) > 0))) (.bool false)] (by kernel_rfl) (bo_f h10) ?_
 refine RW.nil ?_
 replace s := s.pick [] 1 rfl
 exact fun X h => kc (by kernel_rfl) rfl (h I5 false _ hf s kk)
 have hf := iteF h9 hf
 refine RW.seg hT 23 [] [(43, .bool false)] [.bool false, undef, undef, undef, undef, .bool false, .bool false, undef, undef, undef, undef, .bool false, .bool false, undef, undef, undef, undef, undef, undef, undef, undef, .bool false, .bool false] [.veq (.bool (decide ((p0.Pairs.length : Int) = 0))) (.bool false)] (by kernel_rfl) (bo_f h9) ?_
 refine RW.nil ?_
 replace s := s.pick [] 1 rfl
 exact fun X h => kc (by kernel_rfl) rfl (h I5 false _ hf s kk)
 have hf := iteF h8 hf
 refine RW.seg hT 29 [] [(37, .bool false)] [.bool false, undef, undef, undef, undef, .bool false, .bool false, undef, undef, undef, undef, .bool false, .bool false, undef, undef, undef, undef, .bool false, .bool false, undef, undef, undef, undef, undef, undef, undef, undef, .bool false, .bool false] [.veq (.bool (decide (¬ (x8 ≥ 0)))) (.bool false)] (by kernel_rfl) (bo_f h8) ?_
 refine RW.nil ?_
 replace s := s.pick [] 1 rfl
 exact fun X h => kc (by kernel_rfl) rfl (h I5 false _ hf s kk)
 refine Ret.of Try.func110 rfl ?_
 refine WPK.seq ?_
 refine WPK.region ?_
 refine RW.seg hT 1 [] [] [.int .i64 0] [] (by kernel_rfl) (trivial) ?_
 refine RW.nil ?_
 refine WPK.seq ?_
 refine WPK.seq ?_
 refine WPK.region ?_
 refine RW.seg hT 3 [] [] [.slice A3 p0.Kids.length u3, .int .i64 (p0.Kids.length : Int), .int .i64 0] [] (by kernel_rfl) (trivial) ?_
 refine RW.nil ?_
 refine WPK.block ?_
 refine WPK.loop' (J := fun n2 D4 ds wz => ∀ X : Kont, (∀ (I7 : Nat → Prop) (x10 : Int) (w' : World), g50_l7 p0 n2 x10 = some r → St w1 M I7 ((.blk b1 (.cells #[.bool p0.Leaf, .slice A1 p0.Pairs.length u1, .slice A2 p0.Keys.length u2, .slice A3 p0.Kids.length u3] 26 (0, 0))) :: F) w' → Kp I w I7 w' → Elems (Rp.int .i64) I7 w' A3 p0.Kids → Elems rp_T_api_Pair I7 w' A1 p0.Pairs → Elems (Rp.slice (Rp.int .u8)) I7 w' A2 p0.Keys → X [.slice A3 p0.Kids.length u3, .func (.func 93) #[] #[], (gd D4 2), (gd D4 3), .int .i64 0, (gd D4 5), (gd D4 6), .int .i64 (p0.Kids.length : Int), .int .i64 x10, (gd D4 9), (gd D4 10), (gd D4 11), (gd D4 12), (gd D4 13), (gd D4 14), (gd D4 15), (gd D4 16), undef, (gd D4 18)] [] w') → X D4 ds wz) FUEL (fun X h => kc (by kernel_rfl) rfl (h I1 0 _ hf s kk e3 e1 e2)) (fun _ _ _ hJ => hJ (fun _ _ _ => False) (by intro I7 x10 w10 hf s kk e3 e1 e2; exact noneS hf)) ?_
 intro X5 hX5
 refine fun n2 D4 _ _ hJ => hJ (X5 n2) ?_
 clear s
 intro I7 x10 w10 hf s kk e3 e1 e2
 refine hX5 _ _ _ _ ?_
 replace hf : g50_l7B p0 (g50_l7 p0 n2) x10 = some r := hf
 generalize hrec2 : g50_l7 p0 n2 = rec2 at hf
 unfold g50_l7B at hf
 refine WPK.seq ?_
 refine WPK.region ?_
 refine RW.seg hT 1 [] [] [.bool (decide (x10 < (p0.Kids.length : Int)))] [] (by kernel_rfl) (trivial) ?_
 refine RW.nil ?_
 refine WPK.seq ?_
 by_cases h12 : x10 < (p0.Kids.length : Int)
 have hf := iteT h12 hf
 refine WPK.condT (Eq.trans (b := .bool (decide (x10 < (p0.Kids.length : Int)))) (by kernel_rfl) (bo_t h12)) ?_
 refine WPK.skip ?_
 refine WPK.seq ?_
 refine WPK.block ?_
 refine WPK.seq ?_
 refine WPK.region ?_
 refine RW.seg hT 2 [] [] [.int .i64 x10, .int .i64 x10] [] (by kernel_rfl) (trivial) ?_
 refine RW.nil ?_
 refine WPK.seq ?_
 refine WPK.region ?_
 obtain ⟨x11, hx4, hf⟩ := bindS hf
 obtain ⟨h13, hx4⟩ := getS hx4
 obtain ⟨b4, o2, rfl⟩ := Elems.opn e3 hx4
 obtain ⟨cs4, hr4, ha2⟩ := Elems.get e3 hx4
 obtain rfl : cs4 = [.int .i64 x11] := hr4
 refine RW.seg hT 5 [.int .i64 x11] [] [.func (.func 93) #[] #[], .slice (some ⟨b4, o2, none⟩) p0.Kids.length u3, .int .i64 x10, .pointer (some ⟨b4, o2 + x10.toNat * 1, none⟩), .int .i64 x11] [.idx x10 p0.Kids.length, .cell ⟨b4, o2 + x10.toNat * 1, none⟩ (.int .i64 x11)] (by kernel_rfl) (⟨h13, ha2 0 _ rfl⟩) ?_
 obtain ⟨x12, hx5, hf⟩ := bindS hf
 refine RW.op (by kernel_rfl) (OK.call' en93 (by kernel_rfl) (c93 (F := (.blk b1 (.cells #[.bool p0.Leaf, .slice A1 p0.Pairs.length u1, .slice A2 p0.Keys.length u2, .slice (some ⟨b4, o2, none⟩) p0.Kids.length u3] 26 (0, 0))) :: F) x11 s hx5) ?_)
 intro X6 hX6
 refine fun _ _ hJ => hJ X6 ?_
 clear s
 intro I8 w11 s k4
 refine hX6 _ _ ?_
 replace e3 := e3.st k4
 replace e1 := e1.st k4
 replace e2 := e2.st k4
 replace kk := kk.trans k4
 refine RW.nil ?_
 by_cases h14 : x12 = true
 have hf := iteT h14 hf
 refine WPK.condT (Eq.trans (b := .bool x12) (by kernel_rfl) (b_t h14)) ?_
 refine WPK.seq ?_
 refine WPK.region ?_
 refine RW.seg hT 2 [] [] [.int .i64 x10, .int .i64 x10] [] (by kernel_rfl) (trivial) ?_
 refine RW.nil ?_
 refine WPK.ret (blockQ.ret (blockQ.ret (?_)))
 refine Fin.of (rs := [.tmp 4]) hT [] (.int .i64 x10) [] rfl (by kernel_rfl) (trivial) ?_
 exact fun X h => vc rfl (h I8 x10 _ hf s kk e1 e2 e3)
 have hf := iteF h14 hf
 refine WPK.condF (Eq.trans (b := .bool x12) (by kernel_rfl) (b_f h14)) ?_
 refine WPK.skip ?_
 refine WPK.region ?_
 refine RW.seg hT 2 [] [] [.int .i64 (IntKind.i64.wrap (x10 + 1)), .int .i64 (IntKind.i64.wrap (x10 + 1))] [] (by kernel_rfl) (trivial) ?_
 refine RW.nil ?_
 subst hrec2
 exact ⟨n2, Nat.le_refl _, fun X h => kc (by kernel_rfl) rfl (h I8 (IntKind.i64.wrap (x10 + 1)) _ hf s kk e3 e1 e2)⟩
 have hf := iteF h12 hf
 refine WPK.condF (Eq.trans (b := .bool (decide (x10 < (p0.Kids.length : Int)))) (by kernel_rfl) (bo_f h12)) ?_
 refine WPK.exit (blockQ.same ?_)
 refine WPK.seq ?_
 refine WPK.region ?_
 refine RW.seg hT 1 [] [] [.int .i64 (-1)] [] (by kernel_rfl) (trivial) ?_
 refine RW.nil ?_
 refine WPK.ret (?_)
 refine Fin.of (rs := [.tmp 4]) hT [] (.int .i64 (-1)) [] rfl (by kernel_rfl) (trivial) ?_
 exact fun X h => vc rfl (h I7 (-1) _ hf s kk e1 e2 e3)
 refine Ret.of Try.func88 rfl ?_
 refine WPK.seq ?_
 refine WPK.region ?_
 refine RW.op (by kernel_rfl) (OK.new hT (f := fun b => .pointer (some ⟨b, 0, none⟩)) (cs := [.bool false]) (e := 4) (c := .tt) s (by kernel_rfl) trivial ?_)
 clear s
 rintro w12 b5 s k5 -
 replace e1 := e1.st k5
 replace e2 := e2.st k5
 replace e3 := e3.st k5
 replace kk := kk.trans k5
 refine RW.nil ?_
 refine WPK.seq ?_
 refine WPK.region ?_
 refine RW.op (by kernel_rfl) (OK.new hT (f := fun b => .pointer (some ⟨b, 0, none⟩)) (cs := [.slice none 0 0]) (e := 27) (c := .tt) s (by kernel_rfl) trivial ?_)
 clear s
 rintro w13 b6 s k6 -
 replace e1 := e1.st k6
 replace e2 := e2.st k6
 replace e3 := e3.st k6
 replace kk := kk.trans k6
 refine RW.nil ?_
 refine WPK.seq ?_
 refine WPK.seq ?_
 refine WPK.region ?_
 refine RW.seg hT 1 [] [] [.func (.func 108) #[] #[.pointer (some ⟨b2, 0, none⟩)]] [] (by kernel_rfl) (trivial) ?_
 refine RW.nil ?_
 refine WPK.block ?_
 refine WPK.range (gf := 108) (first := []) (cap := [.pointer (some ⟨b2, 0, none⟩)]) s (by kernel_rfl) en108 ?_
 clear s
 intro l1 d1 rec3 w14 R7 hrec3 s k7 hR7
 replace e1 := e1.st k7
 replace e2 := e2.st k7
 replace e3 := e3.st k7
 replace kk := kk.trans k7
 refine Ret.of Try.func108 rfl ?_
 refine WPK.seq ?_
 refine WPK.seq ?_
 refine WPK.region ?_
 refine RW.seg hT 4 [.slice A1 p0.Pairs.length u1] [] [.pointer (some ⟨b2, 1, none⟩), .slice A1 p0.Pairs.length u1, .int .i64 (p0.Pairs.length : Int), .int .i64 0] [.cell ⟨b2, 1, none⟩ (.slice A1 p0.Pairs.length u1)] (by kernel_rfl) (s.cell (i := 4) (off := 1) rfl rfl) ?_
 refine RW.nil ?_
 refine WPK.block ?_
 refine WPK.loop' (J := fun n3 D5 ds wz => ∀ X : Kont, (∀ (I9 : Nat → Prop) (x13 : Int) (x14 : (List Int)) (z1 : Bool) (A6 : Option Addr) (u6 : Nat) (w' : World), g50_l8 p0 n3 x13 x14 z1 = some r → St w1 M I9 ((.blk l1 (rec3 .ready none)) :: (.blk d1 (.deferred (some []))) :: (.blk b6 (.cells #[.slice A6 x14.length u6] 27 (0, 0))) :: (.blk b5 (.cells #[.bool false] 4 (0, 0))) :: (.blk b2 (.cells #[.bool p0.Leaf, .slice A1 p0.Pairs.length u1, .slice A2 p0.Keys.length u2, .slice A3 p0.Kids.length u3] 26 (0, 0))) :: (.blk b1 (.cells #[.bool p0.Leaf, .slice A1 p0.Pairs.length u1, .slice A2 p0.Keys.length u2, .slice A3 p0.Kids.length u3] 26 (0, 0))) :: F) w' → Kp I w I9 w' → Elems rp_T_api_Pair I9 w' A1 p0.Pairs → (x14.length ≤ u6 ∧ u6 ≤ 9223372036854775807) → Elems (Rp.int .u8) I9 w' A6 x14 → A6.isNone = z1 → Elems (Rp.slice (Rp.int .u8)) I9 w' A2 p0.Keys → Elems (Rp.int .i64) I9 w' A3 p0.Kids → X [.func (.yield l1) #[] #[], .pointer (some ⟨b2, 0, none⟩), (gd D5 2), (gd D5 3), (gd D5 4), (gd D5 5), undef, (gd D5 7), .slice A1 p0.Pairs.length u1, .int .i64 (p0.Pairs.length : Int), .int .i64 x13, (gd D5 11), (gd D5 12), (gd D5 13), (gd D5 14), (gd D5 15), (gd D5 16), (gd D5 17), (gd D5 18), (gd D5 19), undef, undef, undef, undef, undef, undef, undef, undef, undef, undef, undef, undef] [] w') → X D5 ds wz) FUEL (fun X h => kc (by kernel_rfl) rfl (h I 0 [] true none 0 _ hf s kk e1 nil_hc Elems.nil rfl e2 e3)) (fun _ _ _ hJ => hJ (fun _ _ _ => False) (by intro I9 x13 x14 z1 A6 u6 w15 hf s kk e1 hc6 e6 hz1 e2 e3; exact noneS hf)) ?_
 intro X7 hX7
 refine fun n3 D5 _ _ hJ => hJ (X7 n3) ?_
 clear s
 intro I9 x13 x14 z1 A6 u6 w15 hf s kk e1 hc6 e6 hz1 e2 e3
 refine hX7 _ _ _ _ ?_
 replace hf : g50_l8B p0 (g50_l8 p0 n3) x13 x14 z1 = some r := hf
 generalize hrec4 : g50_l8 p0 n3 = rec4 at hf
 unfold g50_l8B at hf
 refine WPK.seq ?_
 refine WPK.region ?_
 refine RW.seg hT 1 [] [] [.bool (decide (x13 < (p0.Pairs.length : Int)))] [] (by kernel_rfl) (trivial) ?_
 refine RW.nil ?_
 refine WPK.seq ?_
 by_cases h15 : x13 < (p0.Pairs.length : Int)
 have hf := iteT h15 hf
 refine WPK.condT (Eq.trans (b := .bool (decide (x13 < (p0.Pairs.length : Int)))) (by kernel_rfl) (bo_t h15)) ?_
 refine WPK.skip ?_
 refine WPK.seq ?_
 refine WPK.block ?_
 refine WPK.seq ?_
 refine WPK.region ?_
 obtain ⟨x15, hx6, hf⟩ := bindS hf
 obtain ⟨h16, hx6⟩ := getS hx6
 obtain ⟨b7, o3, rfl⟩ := Elems.opn e1 hx6
 obtain ⟨cs5, hr5, ha3⟩ := Elems.get e1 hx6
 obtain ⟨cs6, cs7, rfl, hr6, hr7⟩ := hr5
 obtain ⟨A7, u7, rfl, q5, q6, e7⟩ := hr6
 have hc7 := And.intro q5 q6
 obtain ⟨A8, u8, rfl, q7, q8, e8⟩ := hr7
 have hc8 := And.intro q7 q8
 refine RW.seg hT 2 [.agg #[.slice A7 x15.Key.length u7, .slice A8 x15.Val.length u8]] [] [.pointer (some ⟨b7, o3 + x13.toNat * 2, none⟩), .agg #[.slice A7 x15.Key.length u7, .slice A8 x15.Val.length u8]] [.idx x13 p0.Pairs.length, .cells ⟨b7, o3 + x13.toNat * 2, none⟩ [.slice A7 x15.Key.length u7, .slice A8 x15.Val.length u8] 2] (by kernel_rfl) (⟨h16, at_cells ha3 (off := 0) rfl rfl⟩) ?_
 refine RW.op (by kernel_rfl) (OK.new hT (f := fun b => .pointer (some ⟨b, 0, none⟩)) (cs := [.slice none 0 0, .slice none 0 0]) (e := 48) (c := .tt) s (by kernel_rfl) trivial ?_)
 clear s
 rintro w16 b8 s k8 -
 replace e1 := e1.st k8
 replace e7 := e7.st k8
 replace e8 := e8.st k8
 replace e6 := e6.st k8
 replace e2 := e2.st k8
 replace e3 := e3.st k8
 replace kk := kk.trans k8
 refine RW.op (by kernel_rfl) (OK.store hT (i := 0) (b := b8) (off := 0) (n := 2) (vs := [.slice A7 x15.Key.length u7, .slice A8 x15.Val.length u8]) (cs := [.slice none 0 0, .slice none 0 0]) (e := 48) s (by kernel_rfl) rfl rfl (flat_ok rfl) (Nat.le_of_ble_eq_true rfl) ?_)
 clear s
 rintro w17 s k9 -
 replace e1 := e1.st k9
 replace e7 := e7.st k9
 replace e8 := e8.st k9
 replace e6 := e6.st k9
 replace e2 := e2.st k9
 replace e3 := e3.st k9
 replace kk := kk.trans k9
 refine RW.nil ?_
 refine WPK.seq ?_
 refine WPK.region ?_
 refine RW.seg hT 3 [.slice A7 x15.Key.length u7] [] [.func (.yield l1) #[] #[], .pointer (some ⟨b8, 0, none⟩), .slice A7 x15.Key.length u7] [.cell ⟨b8, 0, none⟩ (.slice A7 x15.Key.length u7)] (by kernel_rfl) (s.cell (i := 0) (off := 0) rfl rfl) ?_
 refine RW.op (by kernel_rfl) (OK.yield (args := [.slice A7 x15.Key.length u7]) hrec3 s (i := 1) rfl (by kernel_rfl) rfl ?_)
 intro R8 hR8
 refine WPK.region ?_
 refine RW.seg hT 1 [] [] [.slice A7 x15.Key.length u7] [] (by kernel_rfl) (trivial) ?_
 refine RW.nil ?_
 refine RoundBeg.of hrec3 s (i := 1) rfl ?_
 clear s
 intro w18 s k10
 replace e7 := e7.st k10
 replace e1 := e1.st k10
 replace e8 := e8.st k10
 replace e6 := e6.st k10
 replace e2 := e2.st k10
 replace e3 := e3.st k10
 replace kk := kk.trans k10
 refine WPK.block ?_
 refine WPK.seq ?_
 refine WPK.seq ?_
 refine WPK.region ?_
 refine RW.seg hT 1 [] [] [.slice A7 x15.Key.length u7] [] (by kernel_rfl) (trivial) ?_
 obtain ⟨x16, hx7, hf⟩ := bindS hf
 refine RW.op (by kernel_rfl) (OK.call' en78 (by kernel_rfl) (c78 (F := (.blk b8 (.cells #[.slice A7 x15.Key.length u7, .slice A8 x15.Val.length u8] 48 (0, 0))) :: (.blk l1 (rec3 .busy none)) :: (.blk d1 (.deferred (some []))) :: (.blk b6 (.cells #[.slice A6 x14.length u6] 27 (0, 0))) :: (.blk b5 (.cells #[.bool false] 4 (0, 0))) :: (.blk b2 (.cells #[.bool p0.Leaf, .slice (some ⟨b7, o3, none⟩) p0.Pairs.length u1, .slice A2 p0.Keys.length u2, .slice A3 p0.Kids.length u3] 26 (0, 0))) :: (.blk b1 (.cells #[.bool p0.Leaf, .slice (some ⟨b7, o3, none⟩) p0.Pairs.length u1, .slice A2 p0.Keys.length u2, .slice A3 p0.Kids.length u3] 26 (0, 0))) :: F) x15.Key A7 u7 hc7 e7 s hx7) ?_)
 intro X8 hX8
 refine fun _ _ hJ => hJ X8 ?_
 clear s
 intro I10 w19 s k11
 refine hX8 _ _ ?_
 replace e7 := e7.st k11
 replace e1 := e1.st k11
 replace e8 := e8.st k11
 replace e6 := e6.st k11
 replace e2 := e2.st k11
 replace e3 := e3.st k11
 replace kk := kk.trans k11
 refine RW.seg hT 1 [] [(9, .bool (decide (¬ (x16 = true))))] [.bool (decide (¬ (x16 = true)))] [.veq (.bool (!x16)) (.bool (decide (¬ (x16 = true))))] (by kernel_rfl) (not_b) ?_
 by_cases h17 : ¬ (x16 = true)
 have hf := iteT h17 hf
 refine RW.seg hT 10 [] [(10, .bool true)] [.bool true, undef, undef, undef, undef, undef, undef, undef, undef, .bool true] [.veq (.bool (decide (¬ (x16 = true)))) (.bool true)] (by kernel_rfl) (bo_t h17) ?_
 refine RW.nil ?_
 refine WPK.condT (by kernel_rfl) ?_
 refine WPK.seq ?_
 refine WPK.region ?_
 refine RW.op (by kernel_rfl) (OK.store hT (i := 4) (b := b5) (off := 0) (n := 1) (vs := [.bool false]) (cs := [.bool false]) (e := 4) s (by kernel_rfl) rfl rfl (flat_ok rfl) (Nat.le_of_ble_eq_true rfl) ?_)
 clear s
 rintro w20 s k12 -
 replace e7 := e7.st k12
 replace e1 := e1.st k12
 replace e8 := e8.st k12
 replace e6 := e6.st k12
 replace e2 := e2.st k12
 replace e3 := e3.st k12
 replace kk := kk.trans k12
 refine RW.nil ?_
 refine WPK.ret (blockQ.ret (?_))
 refine RoundEnd.stop Code.ret hrec3 s (i := 1) rfl ?_
 clear s
 intro w21 s k13
 replace e7 := e7.st k13
 replace e1 := e1.st k13
 replace e8 := e8.st k13
 replace e6 := e6.st k13
 replace e2 := e2.st k13
 replace e3 := e3.st k13
 replace kk := kk.trans k13
 refine hR8 _ _ ?_
 refine RW.seg hT 1 [] [] [.bool true] [] (by kernel_rfl) (trivial) ?_
 refine RW.nil ?_
 refine WPK.condT (by kernel_rfl) ?_
 refine WPK.ret (blockQ.ret (blockQ.ret (?_)))
 refine Fin.of (rs := []) hT [] (.tuple #[]) [] rfl (by kernel_rfl) (trivial) ?_
 refine hR7 _ _ (RangeEnd.jump hrec3 s (i := 1) rfl ?_)
 clear s
 intro w22 s k14
 replace e7 := e7.st k14
 replace e8 := e8.st k14
 replace e6 := e6.st k14
 replace e1 := e1.st k14
 replace e2 := e2.st k14
 replace e3 := e3.st k14
 replace kk := kk.trans k14
 refine WPK.ret (blockQ.ret (?_))
 refine Fin.mark (i := 1) s rfl ?_
 clear s
 intro w23 s k15
 replace e7 := e7.st k15
 replace e8 := e8.st k15
 replace e6 := e6.st k15
 replace e1 := e1.st k15
 replace e2 := e2.st k15
 replace e3 := e3.st k15
 replace kk := kk.trans k15
 refine Fin.of (rs := [.cell 2 4]) hT [.bool false] (.bool false) [.cell ⟨b5, 0, none⟩ (.bool false)] rfl (by kernel_rfl) (s.cell (i := 2) (off := 0) rfl rfl) ?_
 replace s := s.pick [4] 5 rfl
 exact fun X h => vc rfl (h I10 false _ hf s kk e1 e2 e3)
 have hf := iteF h17 hf
 refine RW.seg hT 3 [.slice A6 x14.length u6] [(10, .bool false), (12, .bool (!z1))] [.bool false, .slice A6 x14.length u6, .bool (!z1)] [.veq (.bool (decide (¬ (x16 = true)))) (.bool false), .cell ⟨b6, 0, none⟩ (.slice A6 x14.length u6), .veq (.bool (!A6.isNone)) (.bool ((!z1)))] (by kernel_rfl) (⟨bo_f h17, s.cell (i := 3) (off := 0) rfl rfl, neg_v hz1⟩) ?_
 by_cases h18 : (!z1) = true
 have hf := iteT h18 hf
 refine RW.seg hT 3 [.slice A6 x14.length u6] [(13, .bool true)] [.bool true, .slice A6 x14.length u6, .slice A7 x15.Key.length u7] [.veq (.bool ((!z1))) (.bool true), .cell ⟨b6, 0, none⟩ (.slice A6 x14.length u6)] (by kernel_rfl) (⟨b_t h18, s.cell (i := 3) (off := 0) rfl rfl⟩) ?_
 obtain ⟨x17, hx8, hf⟩ := bindS hf
 refine RW.op (by kernel_rfl) (OK.call' en15 (by kernel_rfl) (c15 (F := (.blk b8 (.cells #[.slice A7 x15.Key.length u7, .slice A8 x15.Val.length u8] 48 (0, 0))) :: (.blk l1 (rec3 .busy none)) :: (.blk d1 (.deferred (some []))) :: (.blk b6 (.cells #[.slice A6 x14.length u6] 27 (0, 0))) :: (.blk b5 (.cells #[.bool false] 4 (0, 0))) :: (.blk b2 (.cells #[.bool p0.Leaf, .slice (some ⟨b7, o3, none⟩) p0.Pairs.length u1, .slice A2 p0.Keys.length u2, .slice A3 p0.Kids.length u3] 26 (0, 0))) :: (.blk b1 (.cells #[.bool p0.Leaf, .slice (some ⟨b7, o3, none⟩) p0.Pairs.length u1, .slice A2 p0.Keys.length u2, .slice A3 p0.Kids.length u3] 26 (0, 0))) :: F) x14 x15.Key A6 u6 A7 u7 hc6 e6 hc7 e7 s hx8) ?_)
 intro X9 hX9
 refine fun _ _ hJ => hJ X9 ?_
 clear s
 intro I11 w24 s k16
 refine hX9 _ _ ?_
 replace e7 := e7.st k16
 replace e6 := e6.st k16
 replace e1 := e1.st k16
 replace e8 := e8.st k16
 replace e2 := e2.st k16
 replace e3 := e3.st k16
 replace kk := kk.trans k16
 refine RW.seg hT 3 [] [] [.bool (decide (x17 ≥ 0)), .bool (decide (x17 ≥ 0)), .bool (decide (x17 ≥ 0))] [] (by kernel_rfl) (trivial) ?_
 refine RW.nil ?_
 by_cases h19 : x17 ≥ 0
 have hf := iteT h19 hf
 refine WPK.condT (Eq.trans (b := .bool (decide (x17 ≥ 0))) (by kernel_rfl) (bo_t h19)) ?_
 refine WPK.seq ?_
 refine WPK.region ?_
 refine RW.op (by kernel_rfl) (OK.store hT (i := 4) (b := b5) (off := 0) (n := 1) (vs := [.bool false]) (cs := [.bool false]) (e := 4) s (by kernel_rfl) rfl rfl (flat_ok rfl) (Nat.le_of_ble_eq_true rfl) ?_)
 clear s
 rintro w25 s k17 -
 replace e7 := e7.st k17
 replace e6 := e6.st k17
 replace e1 := e1.st k17
 replace e8 := e8.st k17
 replace e2 := e2.st k17
 replace e3 := e3.st k17
 replace kk := kk.trans k17
 refine RW.nil ?_
 refine WPK.ret (blockQ.ret (?_))
 refine RoundEnd.stop Code.ret hrec3 s (i := 1) rfl ?_
 clear s
 intro w26 s k18
 replace e7 := e7.st k18
 replace e6 := e6.st k18
 replace e1 := e1.st k18
 replace e8 := e8.st k18
 replace e2 := e2.st k18
 replace e3 := e3.st k18
 replace kk := kk.trans k18
 refine hR8 _ _ ?_
 refine RW.seg hT 1 [] [] [.bool true] [] (by kernel_rfl) (trivial) ?_
 refine RW.nil ?_
 refine WPK.condT (by kernel_rfl) ?_
 refine WPK.ret (blockQ.ret (blockQ.ret (?_)))
 refine Fin.of (rs := []) hT [] (.tuple #[]) [] rfl (by kernel_rfl) (trivial) ?_
 refine hR7 _ _ (RangeEnd.jump hrec3 s (i := 1) rfl ?_)
 clear s
 intro w27 s k19
 replace e7 := e7.st k19
 replace e8 := e8.st k19
 replace e6 := e6.st k19
 replace e1 := e1.st k19
 replace e2 := e2.st k19
 replace e3 := e3.st k19
 replace kk := kk.trans k19
 refine WPK.ret (blockQ.ret (?_))
 refine Fin.mark (i := 1) s rfl ?_
 clear s
 intro w28 s k20
 replace e7 := e7.st k20
 replace e8 := e8.st k20
 replace e6 := e6.st k20
 replace e1 := e1.st k20
 replace e2 := e2.st k20
 replace e3 := e3.st k20
 replace kk := kk.trans k20
 refine Fin.of (rs := [.cell 2 4]) hT [.bool false] (.bool false) [.cell ⟨b5, 0, none⟩ (.bool false)] rfl (by kernel_rfl) (s.cell (i := 2) (off := 0) rfl rfl) ?_
 replace s := s.pick [4] 5 rfl
 exact fun X h => vc rfl (h I11 false _ hf s kk e1 e2 e3)
 have hf := iteF h19 hf
 refine WPK.condF (Eq.trans (b := .bool (decide (x17 ≥ 0))) (by kernel_rfl) (bo_f h19)) ?_
 refine WPK.skip ?_
 refine WPK.region ?_
 refine RW.seg hT 1 [] [] [.slice A7 x15.Key.length u7] [] (by kernel_rfl) (trivial) ?_
 refine RW.op (by kernel_rfl) (OK.store hT (i := 3) (b := b6) (off := 0) (n := 1) (vs := [.slice A7 x15.Key.length u7]) (cs := [.slice A6 x14.length u6]) (e := 27) s (by kernel_rfl) rfl rfl (flat_ok rfl) (Nat.le_of_ble_eq_true rfl) ?_)
 clear s
 rintro w29 s k21 -
 replace e7 := e7.st k21
 replace e6 := e6.st k21
 replace e1 := e1.st k21
 replace e8 := e8.st k21
 replace e2 := e2.st k21
 replace e3 := e3.st k21
 replace kk := kk.trans k21
 refine RW.nil ?_
 refine RoundEnd.next hrec3 s (i := 1) rfl ?_
 clear s
 intro w30 s k22
 replace e7 := e7.st k22
 replace e6 := e6.st k22
 replace e1 := e1.st k22
 replace e8 := e8.st k22
 replace e2 := e2.st k22
 replace e3 := e3.st k22
 replace kk := kk.trans k22
 refine hR8 _ _ ?_
 refine RW.seg hT 1 [] [] [.bool false] [] (by kernel_rfl) (trivial) ?_
 refine RW.nil ?_
 refine WPK.condF (by kernel_rfl) ?_
 refine WPK.skip ?_
 refine WPK.region ?_
 refine RW.seg hT 2 [] [] [.int .i64 (IntKind.i64.wrap (x13 + 1)), .int .i64 (IntKind.i64.wrap (x13 + 1))] [] (by kernel_rfl) (trivial) ?_
 refine RW.nil ?_
 subst hrec4
 obtain ⟨h20, hf⟩ := iteS hf
 replace s := s.pick [1, 2, 3, 4, 5, 6] 7 rfl
 exact ⟨n3, Nat.le_refl _, fun X h => kc (by kernel_rfl) rfl (h I11 (IntKind.i64.wrap (x13 + 1)) x15.Key false A7 u7 _ hf s kk e1 hc7 e7 (some_pos e7 h20) e2 e3)⟩
 have hf := iteF h18 hf
 refine RW.seg hT 7 [] [(13, .bool false)] [.bool false, undef, undef, undef, undef, .bool false, .bool false] [.veq (.bool ((!z1))) (.bool false)] (by kernel_rfl) (b_f h18) ?_
 refine RW.nil ?_
 refine WPK.condF (by kernel_rfl) ?_
 refine WPK.skip ?_
 refine WPK.region ?_
 refine RW.seg hT 1 [] [] [.slice A7 x15.Key.length u7] [] (by kernel_rfl) (trivial) ?_
 refine RW.op (by kernel_rfl) (OK.store hT (i := 3) (b := b6) (off := 0) (n := 1) (vs := [.slice A7 x15.Key.length u7]) (cs := [.slice A6 x14.length u6]) (e := 27) s (by kernel_rfl) rfl rfl (flat_ok rfl) (Nat.le_of_ble_eq_true rfl) ?_)
 clear s
 rintro w31 s k23 -
 replace e7 := e7.st k23
 replace e6 := e6.st k23
 replace e1 := e1.st k23
 replace e8 := e8.st k23
 replace e2 := e2.st k23
 replace e3 := e3.st k23
 replace kk := kk.trans k23
 refine RW.nil ?_
 refine RoundEnd.next hrec3 s (i := 1) rfl ?_
 clear s
 intro w32 s k24
 replace e7 := e7.st k24
 replace e6 := e6.st k24
 replace e1 := e1.st k24
 replace e8 := e8.st k24
 replace e2 := e2.st k24
 replace e3 := e3.st k24
 replace kk := kk.trans k24
 refine hR8 _ _ ?_
 refine RW.seg hT 1 [] [] [.bool false] [] (by kernel_rfl) (trivial) ?_
 refine RW.nil ?_
 refine WPK.condF (by kernel_rfl) ?_
 refine WPK.skip ?_
 refine WPK.region ?_
 refine RW.seg hT 2 [] [] [.int .i64 (IntKind.i64.wrap (x13 + 1)), .int .i64 (IntKind.i64.wrap (x13 + 1))] [] (by kernel_rfl) (trivial) ?_
 refine RW.nil ?_
 subst hrec4
 obtain ⟨h21, hf⟩ := iteS hf
 replace s := s.pick [1, 2, 3, 4, 5, 6] 7 rfl
 exact ⟨n3, Nat.le_refl _, fun X h => kc (by kernel_rfl) rfl (h I10 (IntKind.i64.wrap (x13 + 1)) x15.Key false A7 u7 _ hf s kk e1 hc7 e7 (some_pos e7 h21) e2 e3)⟩
 have hf := iteF h15 hf
 refine WPK.condF (Eq.trans (b := .bool (decide (x13 < (p0.Pairs.length : Int)))) (by kernel_rfl) (bo_f h15)) ?_
 refine WPK.exit (blockQ.same ?_)
 refine WPK.seq ?_
 refine WPK.region ?_
 refine RW.seg hT 4 [.slice A2 p0.Keys.length u2] [] [.pointer (some ⟨b2, 2, none⟩), .slice A2 p0.Keys.length u2, .int .i64 (p0.Keys.length : Int), .int .i64 0] [.cell ⟨b2, 2, none⟩ (.slice A2 p0.Keys.length u2)] (by kernel_rfl) (s.cell (i := 4) (off := 2) rfl rfl) ?_
 refine RW.nil ?_
 refine WPK.block ?_
 replace s := s.pick [0, 1, 2, 3, 5] 6 rfl
 refine WPK.loop' (J := fun n4 D6 ds wz => ∀ X : Kont, (∀ (I12 : Nat → Prop) (x18 : Int) (x19 : (List Int)) (z2 : Bool) (A9 : Option Addr) (u9 : Nat) (w' : World), g50_l9 p0 n4 x18 x19 z2 = some r → St w1 M I12 ((.blk l1 (rec3 .ready none)) :: (.blk d1 (.deferred (some []))) :: (.blk b6 (.cells #[.slice A9 x19.length u9] 27 (0, 0))) :: (.blk b5 (.cells #[.bool false] 4 (0, 0))) :: (.blk b1 (.cells #[.bool p0.Leaf, .slice A1 p0.Pairs.length u1, .slice A2 p0.Keys.length u2, .slice A3 p0.Kids.length u3] 26 (0, 0))) :: F) w' → Kp I w I12 w' → Elems (Rp.slice (Rp.int .u8)) I12 w' A2 p0.Keys → (x19.length ≤ u9 ∧ u9 ≤ 9223372036854775807) → Elems (Rp.int .u8) I12 w' A9 x19 → A9.isNone = z2 → Elems rp_T_api_Pair I12 w' A1 p0.Pairs → Elems (Rp.int .i64) I12 w' A3 p0.Kids → X [.func (.yield l1) #[] #[], (gd D6 1), (gd D6 2), (gd D6 3), (gd D6 4), (gd D6 5), (gd D6 6), (gd D6 7), (gd D6 8), (gd D6 9), (gd D6 10), (gd D6 11), (gd D6 12), (gd D6 13), (gd D6 14), (gd D6 15), (gd D6 16), (gd D6 17), (gd D6 18), (gd D6 19), (gd D6 20), .slice A2 p0.Keys.length u2, .int .i64 (p0.Keys.length : Int), .int .i64 x18, (gd D6 24), (gd D6 25), (gd D6 26), (gd D6 27), (gd D6 28), (gd D6 29), (gd D6 30), (gd D6 31)] [] w') → X D6 ds wz) FUEL (fun X h => kc (by kernel_rfl) rfl (h I9 0 x14 z1 A6 u6 _ hf s kk e2 hc6 e6 hz1 e1 e3)) (fun _ _ _ hJ => hJ (fun _ _ _ => False) (by intro I12 x18 x19 z2 A9 u9 w33 hf s kk e2 hc9 e9 hz2 e1 e3; exact noneS hf)) ?_
 intro X10 hX10
 refine fun n4 D6 _ _ hJ => hJ (X10 n4) ?_
 clear s
 intro I12 x18 x19 z2 A9 u9 w33 hf s kk e2 hc9 e9 hz2 e1 e3
 refine hX10 _ _ _ _ ?_
 replace hf : g50_l9B p0 (g50_l9 p0 n4) x18 x19 z2 = some r := hf
 generalize hrec5 : g50_l9 p0 n4 = rec5 at hf
 unfold g50_l9B at hf
 refine WPK.seq ?_
 refine WPK.region ?_
 refine RW.seg hT 1 [] [] [.bool (decide (x18 < (p0.Keys.length : Int)))] [] (by kernel_rfl) (trivial) ?_
 refine RW.nil ?_
 refine WPK.seq ?_
 by_cases h22 : x18 < (p0.Keys.length : Int)
 have hf := iteT h22 hf
 refine WPK.condT (Eq.trans (b := .bool (decide (x18 < (p0.Keys.length : Int)))) (by kernel_rfl) (bo_t h22)) ?_
 refine WPK.skip ?_
 refine WPK.seq ?_
 refine WPK.block ?_
 refine WPK.seq ?_
 refine WPK.region ?_
 obtain ⟨x20, hx9, hf⟩ := bindS hf
 obtain ⟨h23, hx9⟩ := getS hx9
 obtain ⟨b9, o4, rfl⟩ := Elems.opn e2 hx9
 obtain ⟨cs8, hr8, ha4⟩ := Elems.get e2 hx9
 obtain ⟨A10, u10, rfl, q9, q10, e10⟩ := hr8
 have hc10 := And.intro q9 q10
 refine RW.seg hT 3 [.slice A10 x20.length u10] [] [.pointer (some ⟨b9, o4 + x18.toNat * 1, none⟩), .slice A10 x20.length u10, .slice A10 x20.length u10] [.idx x18 p0.Keys.length, .cell ⟨b9, o4 + x18.toNat * 1, none⟩ (.slice A10 x20.length u10)] (by kernel_rfl) (⟨h23, ha4 0 _ rfl⟩) ?_
 refine RW.nil ?_
 refine WPK.seq ?_
 refine WPK.region ?_
 refine RW.seg hT 2 [] [] [.func (.yield l1) #[] #[], .slice A10 x20.length u10] [] (by kernel_rfl) (trivial) ?_
 refine RW.op (by kernel_rfl) (OK.yield (args := [.slice A10 x20.length u10]) hrec3 s (i := 0) rfl (by kernel_rfl) rfl ?_)
 intro R9 hR9
 refine WPK.region ?_
 refine RW.seg hT 1 [] [] [.slice A10 x20.length u10] [] (by kernel_rfl) (trivial) ?_
 refine RW.nil ?_
 refine RoundBeg.of hrec3 s (i := 0) rfl ?_
 clear s
 intro w34 s k25
 replace e10 := e10.st k25
 replace e2 := e2.st k25
 replace e9 := e9.st k25
 replace e1 := e1.st k25
 replace e3 := e3.st k25
 replace kk := kk.trans k25
 refine WPK.block ?_
 refine WPK.seq ?_
 refine WPK.seq ?_
 refine WPK.region ?_
 refine RW.seg hT 1 [] [] [.slice A10 x20.length u10] [] (by kernel_rfl) (trivial) ?_
 obtain ⟨x21, hx10, hf⟩ := bindS hf
 refine RW.op (by kernel_rfl) (OK.call' en78 (by kernel_rfl) (c78 (F := (.blk l1 (rec3 .busy none)) :: (.blk d1 (.deferred (some []))) :: (.blk b6 (.cells #[.slice A9 x19.length u9] 27 (0, 0))) :: (.blk b5 (.cells #[.bool false] 4 (0, 0))) :: (.blk b1 (.cells #[.bool p0.Leaf, .slice A1 p0.Pairs.length u1, .slice (some ⟨b9, o4, none⟩) p0.Keys.length u2, .slice A3 p0.Kids.length u3] 26 (0, 0))) :: F) x20 A10 u10 hc10 e10 s hx10) ?_)
 intro X11 hX11
 refine fun _ _ hJ => hJ X11 ?_
 clear s
 intro I13 w35 s k26
 refine hX11 _ _ ?_
 replace e10 := e10.st k26
 replace e2 := e2.st k26
 replace e9 := e9.st k26
 replace e1 := e1.st k26
 replace e3 := e3.st k26
 replace kk := kk.trans k26
 refine RW.seg hT 1 [] [(9, .bool (decide (¬ (x21 = true))))] [.bool (decide (¬ (x21 = true)))] [.veq (.bool (!x21)) (.bool (decide (¬ (x21 = true))))] (by kernel_rfl) (not_b) ?_
 by_cases h24 : ¬ (x21 = true)
 have hf := iteT h24 hf
 refine RW.seg hT 10 [] [(10, .bool true)] [.bool true, undef, undef, undef, undef, undef, undef, undef, undef, .bool true] [.veq (.bool (decide (¬ (x21 = true)))) (.bool true)] (by kernel_rfl) (bo_t h24) ?_
 refine RW.nil ?_
 refine WPK.condT (by kernel_rfl) ?_
 refine WPK.seq ?_
 refine WPK.region ?_
 refine RW.op (by kernel_rfl) (OK.store hT (i := 3) (b := b5) (off := 0) (n := 1) (vs := [.bool false]) (cs := [.bool false]) (e := 4) s (by kernel_rfl) rfl rfl (flat_ok rfl) (Nat.le_of_ble_eq_true rfl) ?_)
 clear s
 rintro w36 s k27 -
 replace e10 := e10.st k27
 replace e2 := e2.st k27
 replace e9 := e9.st k27
 replace e1 := e1.st k27
 replace e3 := e3.st k27
 replace kk := kk.trans k27
 refine RW.nil ?_
 refine WPK.ret (blockQ.ret (?_))
 refine RoundEnd.stop Code.ret hrec3 s (i := 0) rfl ?_
 clear s
 intro w37 s k28
 replace e10 := e10.st k28
 replace e2 := e2.st k28
 replace e9 := e9.st k28
 replace e1 := e1.st k28
 replace e3 := e3.st k28
 replace kk := kk.trans k28
 refine hR9 _ _ ?_
 refine RW.seg hT 1 [] [] [.bool true] [] (by kernel_rfl) (trivial) ?_
 refine RW.nil ?_
 refine WPK.condT (by kernel_rfl) ?_
 refine WPK.ret (blockQ.ret (blockQ.ret (?_)))
 refine Fin.of (rs := []) hT [] (.tuple #[]) [] rfl (by kernel_rfl) (trivial) ?_
 refine hR7 _ _ (RangeEnd.jump hrec3 s (i := 0) rfl ?_)
 clear s
 intro w38 s k29
 replace e9 := e9.st k29
 replace e1 := e1.st k29
 replace e2 := e2.st k29
 replace e3 := e3.st k29
 replace kk := kk.trans k29
 refine WPK.ret (blockQ.ret (?_))
 refine Fin.mark (i := 0) s rfl ?_
 clear s
 intro w39 s k30
 replace e9 := e9.st k30
 replace e1 := e1.st k30
 replace e2 := e2.st k30
 replace e3 := e3.st k30
 replace kk := kk.trans k30
 refine Fin.of (rs := [.cell 2 4]) hT [.bool false] (.bool false) [.cell ⟨b5, 0, none⟩ (.bool false)] rfl (by kernel_rfl) (s.cell (i := 1) (off := 0) rfl rfl) ?_
 replace s := s.pick [2] 3 rfl
 exact fun X h => vc rfl (h I13 false _ hf s kk e1 e2 e3)
 have hf := iteF h24 hf
 refine RW.seg hT 3 [.slice A9 x19.length u9] [(10, .bool false), (12, .bool (!z2))] [.bool false, .slice A9 x19.length u9, .bool (!z2)] [.veq (.bool (decide (¬ (x21 = true)))) (.bool false), .cell ⟨b6, 0, none⟩ (.slice A9 x19.length u9), .veq (.bool (!A9.isNone)) (.bool ((!z2)))] (by kernel_rfl) (⟨bo_f h24, s.cell (i := 2) (off := 0) rfl rfl, neg_v hz2⟩) ?_
 by_cases h25 : (!z2) = true
 have hf := iteT h25 hf
 refine RW.seg hT 3 [.slice A9 x19.length u9] [(13, .bool true)] [.bool true, .slice A9 x19.length u9, .slice A10 x20.length u10] [.veq (.bool ((!z2))) (.bool true), .cell ⟨b6, 0, none⟩ (.slice A9 x19.length u9)] (by kernel_rfl) (⟨b_t h25, s.cell (i := 2) (off := 0) rfl rfl⟩) ?_
 obtain ⟨x22, hx11, hf⟩ := bindS hf
 refine RW.op (by kernel_rfl) (OK.call' en15 (by kernel_rfl) (c15 (F := (.blk l1 (rec3 .busy none)) :: (.blk d1 (.deferred (some []))) :: (.blk b6 (.cells #[.slice A9 x19.length u9] 27 (0, 0))) :: (.blk b5 (.cells #[.bool false] 4 (0, 0))) :: (.blk b1 (.cells #[.bool p0.Leaf, .slice A1 p0.Pairs.length u1, .slice (some ⟨b9, o4, none⟩) p0.Keys.length u2, .slice A3 p0.Kids.length u3] 26 (0, 0))) :: F) x19 x20 A9 u9 A10 u10 hc9 e9 hc10 e10 s hx11) ?_)
 intro X12 hX12
 refine fun _ _ hJ => hJ X12 ?_
 clear s
 intro I14 w40 s k31
 refine hX12 _ _ ?_
 replace e10 := e10.st k31
 replace e9 := e9.st k31
 replace e2 := e2.st k31
 replace e1 := e1.st k31
 replace e3 := e3.st k31
 replace kk := kk.trans k31
 refine RW.seg hT 3 [] [] [.bool (decide (x22 ≥ 0)), .bool (decide (x22 ≥ 0)), .bool (decide (x22 ≥ 0))] [] (by kernel_rfl) (trivial) ?_
 refine RW.nil ?_
 by_cases h26 : x22 ≥ 0
 have hf := iteT h26 hf
 refine WPK.condT (Eq.trans (b := .bool (decide (x22 ≥ 0))) (by kernel_rfl) (bo_t h26)) ?_
 refine WPK.seq ?_
 refine WPK.region ?_
 refine RW.op (by kernel_rfl) (OK.store hT (i := 3) (b := b5) (off := 0) (n := 1) (vs := [.bool false]) (cs := [.bool false]) (e := 4) s (by kernel_rfl) rfl rfl (flat_ok rfl) (Nat.le_of_ble_eq_true rfl) ?_)
 clear s
 rintro w41 s k32 -
 replace e10 := e10.st k32
 replace e9 := e9.st k32
 replace e2 := e2.st k32
 replace e1 := e1.st k32
 replace e3 := e3.st k32
 replace kk := kk.trans k32
 refine RW.nil ?_
 refine WPK.ret (blockQ.ret (?_))
 refine RoundEnd.stop Code.ret hrec3 s (i := 0) rfl ?_
 clear s
 intro w42 s k33
 replace e10 := e10.st k33
 replace e9 := e9.st k33
 replace e2 := e2.st k33
 replace e1 := e1.st k33
 replace e3 := e3.st k33
 replace kk := kk.trans k33
 refine hR9 _ _ ?_
 refine RW.seg hT 1 [] [] [.bool true] [] (by kernel_rfl) (trivial) ?_
 refine RW.nil ?_
 refine WPK.condT (by kernel_rfl) ?_
 refine WPK.ret (blockQ.ret (blockQ.ret (?_)))
 refine Fin.of (rs := []) hT [] (.tuple #[]) [] rfl (by kernel_rfl) (trivial) ?_
 refine hR7 _ _ (RangeEnd.jump hrec3 s (i := 0) rfl ?_)
 clear s
 intro w43 s k34
 replace e9 := e9.st k34
 replace e1 := e1.st k34
 replace e2 := e2.st k34
 replace e3 := e3.st k34
 replace kk := kk.trans k34
 refine WPK.ret (blockQ.ret (?_))
 refine Fin.mark (i := 0) s rfl ?_
 clear s
 intro w44 s k35
 replace e9 := e9.st k35
 replace e1 := e1.st k35
 replace e2 := e2.st k35
 replace e3 := e3.st k35
 replace kk := kk.trans k35
 refine Fin.of (rs := [.cell 2 4]) hT [.bool false] (.bool false) [.cell ⟨b5, 0, none⟩ (.bool false)] rfl (by kernel_rfl) (s.cell (i := 1) (off := 0) rfl rfl) ?_
 replace s := s.pick [2] 3 rfl
 exact fun X h => vc rfl (h I14 false _ hf s kk e1 e2 e3)
 have hf := iteF h26 hf
 refine WPK.condF (Eq.trans (b := .bool (decide (x22 ≥ 0))) (by kernel_rfl) (bo_f h26)) ?_
 refine WPK.skip ?_
 refine WPK.region ?_
 refine RW.seg hT 1 [] [] [.slice A10 x20.length u10] [] (by kernel_rfl) (trivial) ?_
 refine RW.op (by kernel_rfl) (OK.store hT (i := 2) (b := b6) (off := 0) (n := 1) (vs := [.slice A10 x20.length u10]) (cs := [.slice A9 x19.length u9]) (e := 27) s (by kernel_rfl) rfl rfl (flat_ok rfl) (Nat.le_of_ble_eq_true rfl) ?_)
 clear s
 rintro w45 s k36 -
 replace e10 := e10.st k36
 replace e9 := e9.st k36
 replace e2 := e2.st k36
 replace e1 := e1.st k36
 replace e3 := e3.st k36
 replace kk := kk.trans k36
 refine RW.nil ?_
 refine RoundEnd.next hrec3 s (i := 0) rfl ?_
 clear s
 intro w46 s k37
 replace e10 := e10.st k37
 replace e9 := e9.st k37
 replace e2 := e2.st k37
 replace e1 := e1.st k37
 replace e3 := e3.st k37
 replace kk := kk.trans k37
 refine hR9 _ _ ?_
 refine RW.seg hT 1 [] [] [.bool false] [] (by kernel_rfl) (trivial) ?_
 refine RW.nil ?_
 refine WPK.condF (by kernel_rfl) ?_
 refine WPK.skip ?_
 refine WPK.region ?_
 refine RW.seg hT 2 [] [] [.int .i64 (IntKind.i64.wrap (x18 + 1)), .int .i64 (IntKind.i64.wrap (x18 + 1))] [] (by kernel_rfl) (trivial) ?_
 refine RW.nil ?_
 subst hrec5
 obtain ⟨h27, hf⟩ := iteS hf
 exact ⟨n4, Nat.le_refl _, fun X h => kc (by kernel_rfl) rfl (h I14 (IntKind.i64.wrap (x18 + 1)) x20 false A10 u10 _ hf s kk e2 hc10 e10 (some_pos e10 h27) e1 e3)⟩
 have hf := iteF h25 hf
 refine RW.seg hT 7 [] [(13, .bool false)] [.bool false, undef, undef, undef, undef, .bool false, .bool false] [.veq (.bool ((!z2))) (.bool false)] (by kernel_rfl) (b_f h25) ?_
 refine RW.nil ?_
 refine WPK.condF (by kernel_rfl) ?_
 refine WPK.skip ?_
 refine WPK.region ?_
 refine RW.seg hT 1 [] [] [.slice A10 x20.length u10] [] (by kernel_rfl) (trivial) ?_
 refine RW.op (by kernel_rfl) (OK.store hT (i := 2) (b := b6) (off := 0) (n := 1) (vs := [.slice A10 x20.length u10]) (cs := [.slice A9 x19.length u9]) (e := 27) s (by kernel_rfl) rfl rfl (flat_ok rfl) (Nat.le_of_ble_eq_true rfl) ?_)
 clear s
 rintro w47 s k38 -
 replace e10 := e10.st k38
 replace e9 := e9.st k38
 replace e2 := e2.st k38
 replace e1 := e1.st k38
 replace e3 := e3.st k38
 replace kk := kk.trans k38
 refine RW.nil ?_
 refine RoundEnd.next hrec3 s (i := 0) rfl ?_
 clear s
 intro w48 s k39
 replace e10 := e10.st k39
 replace e9 := e9.st k39
 replace e2 := e2.st k39
 replace e1 := e1.st k39
 replace e3 := e3.st k39
 replace kk := kk.trans k39
 refine hR9 _ _ ?_
 refine RW.seg hT 1 [] [] [.bool false] [] (by kernel_rfl) (trivial) ?_
 refine RW.nil ?_
 refine WPK.condF (by kernel_rfl) ?_
 refine WPK.skip ?_
 refine WPK.region ?_
 refine RW.seg hT 2 [] [] [.int .i64 (IntKind.i64.wrap (x18 + 1)), .int .i64 (IntKind.i64.wrap (x18 + 1))] [] (by kernel_rfl) (trivial) ?_
 refine RW.nil ?_
 subst hrec5
 obtain ⟨h28, hf⟩ := iteS hf
 exact ⟨n4, Nat.le_refl _, fun X h => kc (by kernel_rfl) rfl (h I13 (IntKind.i64.wrap (x18 + 1)) x20 false A10 u10 _ hf s kk e2 hc10 e10 (some_pos e10 h28) e1 e3)⟩
 have hf := iteF h22 hf
 refine WPK.condF (Eq.trans (b := .bool (decide (x18 < (p0.Keys.length : Int)))) (by kernel_rfl) (bo_f h22)) ?_
 refine WPK.exit (blockQ.same ?_)
 refine Fin.of (rs := []) hT [] (.tuple #[]) [] rfl (by kernel_rfl) (trivial) ?_
 refine hR7 _ _ (RangeEnd.done hrec3 s (i := 0) rfl ?_)
 clear s
 intro w49 s k40
 replace e9 := e9.st k40
 replace e1 := e1.st k40
 replace e2 := e2.st k40
 replace e3 := e3.st k40
 replace kk := kk.trans k40
 refine WPK.seq ?_
 refine WPK.region ?_
 refine RW.op (by kernel_rfl) (OK.store hT (i := 2) (b := b5) (off := 0) (n := 1) (vs := [.bool true]) (cs := [.bool false]) (e := 4) s (by kernel_rfl) rfl rfl (flat_ok rfl) (Nat.le_of_ble_eq_true rfl) ?_)
 clear s
 rintro w50 s k41 -
 replace e9 := e9.st k41
 replace e1 := e1.st k41
 replace e2 := e2.st k41
 replace e3 := e3.st k41
 replace kk := kk.trans k41
 refine RW.nil ?_
 refine WPK.ret (?_)
 refine Fin.mark (i := 0) s rfl ?_
 clear s
 intro w51 s k42
 replace e9 := e9.st k42
 replace e1 := e1.st k42
 replace e2 := e2.st k42
 replace e3 := e3.st k42
 replace kk := kk.trans k42
 refine Fin.of (rs := [.cell 2 4]) hT [.bool true] (.bool true) [.cell ⟨b5, 0, none⟩ (.bool true)] rfl (by kernel_rfl) (s.cell (i := 1) (off := 0) rfl rfl) ?_
 replace s := s.pick [2] 3 rfl
 exact fun X h => vc rfl (h I12 true _ hf s kk e1 e2 e3)
theorem c66 {w1 w : World} {M I : Nat → Prop} {F : List It} (p0 : T_api_Node) (A1 : Option Addr) (u1 : Nat) (A2 : Option Addr) (u2 : Nat) (A3 : Option Addr) (u3 : Nat) (hc1 : (p0.Pairs.length ≤ u1 ∧ u1 ≤ 9223372036854775807)) (e1 : Elems rp_T_api_Pair I w A1 p0.Pairs) (hc2 : (p0.Keys.length ≤ u2 ∧ u2 ≤ 9223372036854775807)) (e2 : Elems (Rp.slice (Rp.int .u8)) I w A2 p0.Keys) (hc3 : (p0.Kids.length ≤ u3 ∧ u3 ≤ 9223372036854775807)) (e3 : Elems (Rp.int .i64) I w A3 p0.Kids) (s : St w1 M I (F) w) {r : Int} (hf : g66 p0 = some r) :
   Ret Try.prog 66 [.agg #[.bool p0.Leaf, .slice A1 p0.Pairs.length u1, .slice A2 p0.Keys.length u2, .slice A3 p0.Kids.length u3]] w fun v wz => ∀ X : Value → World → Prop, (∀ (I' : Nat → Prop) (w' : World), St w1 M I' (F) w' → Kp I w I' w' → X (.int .i64 r) w') → X v wz := by
 have kk : Kp I w I w := Kp.refl
 unfold g66 at hf
 refine Ret.of Try.func66 rfl ?_
 refine WPK.seq ?_
 refine WPK.region ?_
 refine RW.op (by kernel_rfl) (OK.new hT (f := fun b => .pointer (some ⟨b, 0, none⟩)) (cs := [.bool p0.Leaf, .slice A1 p0.Pairs.length u1, .slice A2 p0.Keys.length u2, .slice A3 p0.Kids.length u3]) (e := 26) (c := .tt) s (by kernel_rfl) trivial ?_)
 clear s
 rintro w2 b1 s k1 -
 replace e1 := e1.st k1
 replace e2 := e2.st k1
 replace e3 := e3.st k1
 replace kk := kk.trans k1
 refine RW.seg hT 1 [] [] [.int .i64 0] [] (by kernel_rfl) (trivial) ?_
 refine RW.nil ?_
 refine WPK.seq ?_
 refine WPK.region ?_
 obtain ⟨x1, hx1, hf⟩ := bindS hf
 refine RW.seg hT 8 [.slice A1 p0.Pairs.length u1, .slice A2 p0.Keys.length u2] [(9, .int .i64 x1)] [.pointer (some ⟨b1, 1, none⟩), .slice A1 p0.Pairs.length u1, .int .i64 (p0.Pairs.length : Int), .pointer (some ⟨b1, 2, none⟩), .slice A2 p0.Keys.length u2, .int .i64 (p0.Keys.length : Int), .int .i64 x1, .int .i64 x1] [.cell ⟨b1, 1, none⟩ (.slice A1 p0.Pairs.length u1), .cell ⟨b1, 2, none⟩ (.slice A2 p0.Keys.length u2), .veq (.int .i64 (IntKind.i64.wrap ((p0.Pairs.length : Int) + (p0.Keys.length : Int)))) (.int .i64 x1)] (by kernel_rfl) (⟨s.cell (i := 0) (off := 1) rfl rfl, s.cell (i := 0) (off := 2) rfl rfl, int_v (someS hx1)⟩) ?_
 refine RW.nil ?_
 refine WPK.ret (?_)
 obtain rfl := someS hf
 refine Fin.of (rs := [.tmp 2]) hT [] (.int .i64 x1) [] rfl (by kernel_rfl) (trivial) ?_
 replace s := s.pick [] 1 rfl
 exact fun X h => vc rfl (h I _ s kk)
theorem c94 {w1 w : World} {M I : Nat → Prop} {F : List It} (p0 : T_api_Node) (p1 : Int) (A1 : Option Addr) (u1 : Nat) (A2 : Option Addr) (u2 : Nat) (A3 : Option Addr) (u3 : Nat) (hc1 : (p0.Pairs.length ≤ u1 ∧ u1 ≤ 9223372036854775807)) (e1 : Elems rp_T_api_Pair I w A1 p0.Pairs) (hc2 : (p0.Keys.length ≤ u2 ∧ u2 ≤ 9223372036854775807)) (e2 : Elems (Rp.slice (Rp.int .u8)) I w A2 p0.Keys) (hc3 : (p0.Kids.length ≤ u3 ∧ u3 ≤ 9223372036854775807)) (e3 : Elems (Rp.int .i64) I w A3 p0.Kids) (s : St w1 M I (F) w) {r : Int} (hf : g94 p0 p1 = some r) :
   Ret Try.prog 94 [.agg #[.bool p0.Leaf, .slice A1 p0.Pairs.length u1, .slice A2 p0.Keys.length u2, .slice A3 p0.Kids.length u3], .int .i64 p1] w fun v wz => ∀ X : Value → World → Prop, (∀ (I' : Nat → Prop) (w' : World), St w1 M I' (F) w' → Kp I w I' w' → X (.int .i64 r) w') → X v wz := by
 have kk : Kp I w I w := Kp.refl
 unfold g94 at hf
 refine Ret.of Try.func94 rfl ?_
 refine WPK.seq ?_
 refine WPK.region ?_
 refine RW.op (by kernel_rfl) (OK.new hT (f := fun b => .pointer (some ⟨b, 0, none⟩)) (cs := [.bool p0.Leaf, .slice A1 p0.Pairs.length u1, .slice A2 p0.Keys.length u2, .slice A3 p0.Kids.length u3]) (e := 26) (c := .tt) s (by kernel_rfl) trivial ?_)
 clear s
 rintro w2 b1 s k1 -
 replace e1 := e1.st k1
 replace e2 := e2.st k1
 replace e3 := e3.st k1
 replace kk := kk.trans k1
 refine RW.seg hT 1 [] [] [.int .i64 0] [] (by kernel_rfl) (trivial) ?_
 refine RW.nil ?_
 refine WPK.seq ?_
 refine WPK.seq ?_
 refine WPK.region ?_
 refine RW.seg hT 2 [.bool p0.Leaf] [] [.pointer (some ⟨b1, 0, none⟩), .bool p0.Leaf] [.cell ⟨b1, 0, none⟩ (.bool p0.Leaf)] (by kernel_rfl) (s.cell (i := 0) (off := 0) rfl rfl) ?_
 refine RW.nil ?_
 by_cases h1 : p0.Leaf = true
 have hf := iteT h1 hf
 refine WPK.condT (Eq.trans (b := .bool p0.Leaf) (by kernel_rfl) (b_t h1)) ?_
 refine WPK.seq ?_
 have e1S1 := e1
 have e2S1 := e2
 have e3S1 := e3
 have kS1 : Kp I w2 I w2 := Kp.refl
 refine WPK.drawM (fun w' => ∃ I' : Nat → Prop, St w1 M I' ((.blk b1 (.cells #[.bool p0.Leaf, .slice A1 p0.Pairs.length u1, .slice A2 p0.Keys.length u2, .slice A3 p0.Kids.length u3] 26 (0, 0))) :: F) w' ∧ Kp I w2 I' w') 17 [0, 1, 0, 7, 15, 31, 63, 127, 0, 256, 0, 1792, 3840, 7936, 16128, 32767, 65535] (by kernel_rfl) (by kernel_rfl) ?_
 intro ht1 w3 hd1
 have k2 := Kp.dr s hd1
 replace s := s.dr hd1
 replace e1 := e1.st k2
 replace e2 := e2.st k2
 replace e3 := e3.st k2
 replace kk := kk.trans k2
 replace kS1 := kS1.trans k2
 obtain ⟨x1, hx1, hf⟩ := bindS hf
 obtain ⟨h2, hx1⟩ := getS hx1
 obtain ⟨b2, o1, rfl⟩ := Elems.opn e1 hx1
 obtain ⟨cs1, hr1, ha1, hb1⟩ := Elems.getI e1S1 hx1
 obtain ⟨cs2, cs3, rfl, hr2, hr3⟩ := hr1
 obtain ⟨A4, u4, rfl, q1, q2, e4⟩ := hr2
 have hc4 := And.intro q1 q2
 obtain ⟨A5, u5, rfl, q3, q4, e5⟩ := hr3
 have hc5 := And.intro q3 q4
 have e4S1 := e4
 replace e4 := e4.st kS1
 have e5S1 := e5
 replace e5 := e5.st kS1
 obtain ⟨x2, hx2, hf⟩ := bindS hf
 obtain ⟨h3, hx2⟩ := getS hx2
 obtain ⟨cs4, hr4, ha2, hb2⟩ := Elems.getI e1S1 hx2
 obtain ⟨cs5, cs6, rfl, hr5, hr6⟩ := hr4
 obtain ⟨A6, u6, rfl, q5, q6, e6⟩ := hr5
 have hc6 := And.intro q5 q6
 obtain ⟨A7, u7, rfl, q7, q8, e7⟩ := hr6
 have hc7 := And.intro q7 q8
 have e6S1 := e6
 replace e6 := e6.st kS1
 have e7S1 := e7
 replace e7 := e7.st kS1
 obtain ⟨x3, hx3, hf⟩ := bindS hf
 refine RD.segM hT ht1 (by kernel_rfl) [0, 1, 2, 3, 4, 5, 6, 7, 8, 9, 10, 11, 12, 13, 14, 15, 16] [.slice (some ⟨b2, o1, none⟩) p0.Pairs.length u1, .slice A4 x1.Key.length u4, .slice (some ⟨b2, o1, none⟩) p0.Pairs.length u1, .slice A7 x2.Val.length u7] [(22, .int .i64 x3)] [.pointer (some ⟨b1, 1, none⟩), .slice (some ⟨b2, o1, none⟩) p0.Pairs.length u1, .int .i64 p1, .pointer (some ⟨b2, o1 + p1.toNat * 2, none⟩), .pointer (some ⟨b2, o1 + p1.toNat * 2, none⟩), .slice A4 x1.Key.length u4, .int .i64 (x1.Key.length : Int), .int .i64 (IntKind.i64.wrap (2 + (x1.Key.length : Int))), .pointer (some ⟨b1, 1, none⟩), .slice (some ⟨b2, o1, none⟩) p0.Pairs.length u1, .int .i64 p1, .pointer (some ⟨b2, o1 + p1.toNat * 2, none⟩), .pointer (some ⟨b2, o1 + p1.toNat * 2 + 1, none⟩), .slice A7 x2.Val.length u7, .int .i64 (x2.Val.length : Int), .int .i64 x3, .int .i64 x3] [.cell ⟨b1, 1, none⟩ (.slice (some ⟨b2, o1, none⟩) p0.Pairs.length u1), .idx p1 p0.Pairs.length, .cell ⟨b2, o1 + p1.toNat * 2, none⟩ (.slice A4 x1.Key.length u4), .cell ⟨b1, 1, none⟩ (.slice (some ⟨b2, o1, none⟩) p0.Pairs.length u1), .idx p1 p0.Pairs.length, .cell ⟨b2, o1 + p1.toNat * 2 + 1, none⟩ (.slice A7 x2.Val.length u7), .veq (.int .i64 (IntKind.i64.wrap ((IntKind.i64.wrap (2 + (x1.Key.length : Int))) + (x2.Val.length : Int)))) (.int .i64 x3)] (by kernel_rfl) (by rintro w' ⟨I', s, k⟩; have e1 := e1S1.st k; have e2 := e2S1.st k; have e3 := e3S1.st k; have e4 := e4S1.st k; have e5 := e5S1.st k; have e6 := e6S1.st k; have e7 := e7S1.st k; have ha1 := ha1.st k hb1; have ha2 := ha2.st k hb2; exact ⟨s.cell (i := 0) (off := 1) rfl rfl, h2, ha1 0 _ rfl, s.cell (i := 0) (off := 1) rfl rfl, h3, ha2 1 _ rfl, int_v (someS hx3)⟩) ⟨_, s.pick [0] 1 rfl, kS1⟩ ?_
 refine RD.done (by kernel_rfl) ?_
 refine WPK.ret (?_)
 obtain rfl := someS hf
 refine Fin.of (rs := [.tmp 4]) hT [] (.int .i64 x3) [] rfl (by kernel_rfl) (trivial) ?_
 replace s := s.pick [] 1 rfl
 exact fun X h => vc rfl (h I _ s kk)
 have hf := iteF h1 hf
 refine WPK.condF (Eq.trans (b := .bool p0.Leaf) (by kernel_rfl) (b_f h1)) ?_
 refine WPK.skip ?_
 refine WPK.seq ?_
 refine WPK.region ?_
 obtain ⟨x4, hx4, hf⟩ := bindS hf
 obtain ⟨h4, hx4⟩ := getS hx4
 obtain ⟨b3, o2, rfl⟩ := Elems.opn e2 hx4
 obtain ⟨cs7, hr7, ha3⟩ := Elems.get e2 hx4
 obtain ⟨A8, u8, rfl, q9, q10, e8⟩ := hr7
 have hc8 := And.intro q9 q10
 refine RW.seg hT 8 [.slice (some ⟨b3, o2, none⟩) p0.Keys.length u2, .slice A8 x4.length u8] [] [.pointer (some ⟨b1, 2, none⟩), .slice (some ⟨b3, o2, none⟩) p0.Keys.length u2, .int .i64 p1, .pointer (some ⟨b3, o2 + p1.toNat * 1, none⟩), .slice A8 x4.length u8, .int .i64 (x4.length : Int), .int .i64 (IntKind.i64.wrap (3 + (x4.length : Int))), .int .i64 (IntKind.i64.wrap (3 + (x4.length : Int)))] [.cell ⟨b1, 2, none⟩ (.slice (some ⟨b3, o2, none⟩) p0.Keys.length u2), .idx p1 p0.Keys.length, .cell ⟨b3, o2 + p1.toNat * 1, none⟩ (.slice A8 x4.length u8)] (by kernel_rfl) (⟨s.cell (i := 0) (off := 2) rfl rfl, h4, ha3 0 _ rfl⟩) ?_
 refine RW.nil ?_
 refine WPK.ret (?_)
 obtain rfl := someS hf
 refine Fin.of (rs := [.tmp 4]) hT [] (.int .i64 (IntKind.i64.wrap (3 + (x4.length : Int)))) [] rfl (by kernel_rfl) (trivial) ?_
 replace s := s.pick [] 1 rfl
 exact fun X h => vc rfl (h I _ s kk)
theorem c52 {w1 w : World} {M I : Nat → Prop} {F : List It} (p0 : T_api_Node) (A1 : Option Addr) (u1 : Nat) (A2 : Option Addr) (u2 : Nat) (A3 : Option Addr) (u3 : Nat) (hc1 : (p0.Pairs.length ≤ u1 ∧ u1 ≤ 9223372036854775807)) (e1 : Elems rp_T_api_Pair I w A1 p0.Pairs) (hc2 : (p0.Keys.length ≤ u2 ∧ u2 ≤ 9223372036854775807)) (e2 : Elems (Rp.slice (Rp.int .u8)) I w A2 p0.Keys) (hc3 : (p0.Kids.length ≤ u3 ∧ u3 ≤ 9223372036854775807)) (e3 : Elems (Rp.int .i64) I w A3 p0.Kids) (s : St w1 M I (F) w) {r : Int} (hf : g52 p0 = some r) :
   Ret Try.prog 52 [.agg #[.bool p0.Leaf, .slice A1 p0.Pairs.length u1, .slice A2 p0.Keys.length u2, .slice A3 p0.Kids.length u3]] w fun v wz => ∀ X : Value → World → Prop, (∀ (I' : Nat → Prop) (w' : World), St w1 M I' (F) w' → Kp I w I' w' → X (.int .i64 r) w') → X v wz := by
 have kk : Kp I w I w := Kp.refl
 unfold g52 at hf
 refine Ret.of Try.func52 rfl ?_
 refine WPK.seq ?_
 refine WPK.region ?_
 refine RW.op (by kernel_rfl) (OK.new hT (f := fun b => .pointer (some ⟨b, 0, none⟩)) (cs := [.bool p0.Leaf, .slice A1 p0.Pairs.length u1, .slice A2 p0.Keys.length u2, .slice A3 p0.Kids.length u3]) (e := 26) (c := .tt) s (by kernel_rfl) trivial ?_)
 clear s
 rintro w2 b1 s k1 -
 replace e1 := e1.st k1
 replace e2 := e2.st k1
 replace e3 := e3.st k1
 replace kk := kk.trans k1
 refine RW.seg hT 1 [] [] [.int .i64 0] [] (by kernel_rfl) (trivial) ?_
 refine RW.nil ?_
 refine WPK.seq ?_
 refine WPK.region ?_
 refine RW.seg hT 1 [] [] [.int .i64 1] [] (by kernel_rfl) (trivial) ?_
 refine RW.nil ?_
 refine WPK.seq ?_
 refine WPK.cut' (Kn fun D1 ds wz => ∀ X : Kont, (∀ (x1 : Int), g52_j1 p0 x1 = some r → X [(gd D1 0), .pointer (some ⟨b1, 0, none⟩), .int .i64 0, .int .i64 x1, undef, (gd D1 5), (gd D1 6), (gd D1 7), (gd D1 8), (gd D1 9), undef, undef, undef, undef, undef, undef, undef, undef, undef, undef, undef, undef] [] w2) → X D1 ds wz) ?_ ?_
 intro X1 hX1
 refine fun D1 _ _ hJ => hJ X1 ?_
 intro x1 hf
 refine hX1 _ _ _ ?_
 unfold g52_j1 at hf
 refine WPK.seq ?_
 refine WPK.seq ?_
 refine WPK.region ?_
 refine RW.seg hT 1 [.agg #[.bool p0.Leaf, .slice A1 p0.Pairs.length u1, .slice A2 p0.Keys.length u2, .slice A3 p0.Kids.length u3]] [] [.agg #[.bool p0.Leaf, .slice A1 p0.Pairs.length u1, .slice A2 p0.Keys.length u2, .slice A3 p0.Kids.length u3]] [.cells ⟨b1, 0, none⟩ [.bool p0.Leaf, .slice A1 p0.Pairs.length u1, .slice A2 p0.Keys.length u2, .slice A3 p0.Kids.length u3] 4] (by kernel_rfl) (s.cells (i := 0) rfl rfl rfl) ?_
 obtain ⟨x2, hx1, hf⟩ := bindS hf
 refine RW.op (by kernel_rfl) (OK.call' en66 (by kernel_rfl) (c66 (F := (.blk b1 (.cells #[.bool p0.Leaf, .slice A1 p0.Pairs.length u1, .slice A2 p0.Keys.length u2, .slice A3 p0.Kids.length u3] 26 (0, 0))) :: F) p0 A1 u1 A2 u2 A3 u3 hc1 e1 hc2 e2 hc3 e3 s hx1) ?_)
 intro X2 hX2
 refine fun _ _ hJ => hJ X2 ?_
 clear s
 intro I1 w3 s k2
 refine hX2 _ _ ?_
 replace e1 := e1.st k2
 replace e2 := e2.st k2
 replace e3 := e3.st k2
 replace kk := kk.trans k2
 refine RW.seg hT 1 [] [] [.int .i64 0] [] (by kernel_rfl) (trivial) ?_
 refine RW.nil ?_
 refine WPK.block ?_
 refine WPK.loop' (J := fun n1 D2 ds wz => ∀ X : Kont, (∀ (I2 : Nat → Prop) (x3 : Int) (x4 : Int) (w' : World), g52_l2 p0 x2 n1 x3 x4 = some r → St w1 M I2 ((.blk b1 (.cells #[.bool p0.Leaf, .slice A1 p0.Pairs.length u1, .slice A2 p0.Keys.length u2, .slice A3 p0.Kids.length u3] 26 (0, 0))) :: F) w' → Kp I w I2 w' → Elems rp_T_api_Pair I2 w' A1 p0.Pairs → Elems (Rp.slice (Rp.int .u8)) I2 w' A2 p0.Keys → Elems (Rp.int .i64) I2 w' A3 p0.Kids → X [(gd D2 0), .pointer (some ⟨b1, 0, none⟩), .int .i64 0, .int .i64 x3, (gd D2 4), (gd D2 5), (gd D2 6), (gd D2 7), (gd D2 8), (gd D2 9), (gd D2 10), .int .i64 x2, .int .i64 x4, (gd D2 13), (gd D2 14), (gd D2 15), (gd D2 16), (gd D2 17), (gd D2 18), (gd D2 19), (gd D2 20), undef] [] w') → X D2 ds wz) FUEL (fun X h => kc (by kernel_rfl) rfl (h I1 x1 0 _ hf s kk e1 e2 e3)) (fun _ _ _ hJ => hJ (fun _ _ _ => False) (by intro I2 x3 x4 w4 hf s kk e1 e2 e3; exact noneS hf)) ?_
 intro X3 hX3
 refine fun n1 D2 _ _ hJ => hJ (X3 n1) ?_
 clear s
 intro I2 x3 x4 w4 hf s kk e1 e2 e3
 refine hX3 _ _ _ _ ?_
 replace hf : g52_l2B p0 x2 (g52_l2 p0 x2 n1) x3 x4 = some r := hf
 generalize hrec1 : g52_l2 p0 x2 n1 = rec1 at hf
 unfold g52_l2B at hf
 refine WPK.seq ?_
 refine WPK.region ?_
 refine RW.seg hT 1 [] [] [.bool (decide (x4 < x2))] [] (by kernel_rfl) (trivial) ?_
 refine RW.nil ?_
 refine WPK.seq ?_
 by_cases h1 : x4 < x2
 have hf := iteT h1 hf
 refine WPK.condT (Eq.trans (b := .bool (decide (x4 < x2))) (by kernel_rfl) (bo_t h1)) ?_
 refine WPK.skip ?_
 refine WPK.seq ?_
 refine WPK.block ?_
 refine WPK.seq ?_
 refine WPK.region ?_
 refine RW.seg hT 2 [] [] [.int .i64 x4, .int .i64 x4] [] (by kernel_rfl) (trivial) ?_
 refine RW.nil ?_
 refine WPK.region ?_
 refine RW.seg hT 3 [.agg #[.bool p0.Leaf, .slice A1 p0.Pairs.length u1, .slice A2 p0.Keys.length u2, .slice A3 p0.Kids.length u3]] [] [.int .i64 x3, .agg #[.bool p0.Leaf, .slice A1 p0.Pairs.length u1, .slice A2 p0.Keys.length u2, .slice A3 p0.Kids.length u3], .int .i64 x4] [.cells ⟨b1, 0, none⟩ [.bool p0.Leaf, .slice A1 p0.Pairs.length u1, .slice A2 p0.Keys.length u2, .slice A3 p0.Kids.length u3] 4] (by kernel_rfl) (s.cells (i := 0) rfl rfl rfl) ?_
 obtain ⟨x5, hx2, hf⟩ := bindS hf
 refine RW.op (by kernel_rfl) (OK.call' en94 (by kernel_rfl) (c94 (F := (.blk b1 (.cells #[.bool p0.Leaf, .slice A1 p0.Pairs.length u1, .slice A2 p0.Keys.length u2, .slice A3 p0.Kids.length u3] 26 (0, 0))) :: F) p0 x4 A1 u1 A2 u2 A3 u3 hc1 e1 hc2 e2 hc3 e3 s hx2) ?_)
 intro X4 hX4
 refine fun _ _ hJ => hJ X4 ?_
 clear s
 intro I3 w5 s k3
 refine hX4 _ _ ?_
 replace e1 := e1.st k3
 replace e2 := e2.st k3
 replace e3 := e3.st k3
 replace kk := kk.trans k3
 refine RW.seg hT 2 [] [] [.int .i64 (IntKind.i64.wrap (x3 + x5)), .int .i64 (IntKind.i64.wrap (x3 + x5))] [] (by kernel_rfl) (trivial) ?_
 refine RW.nil ?_
 refine WPK.region ?_
 refine RW.seg hT 2 [] [] [.int .i64 (IntKind.i64.wrap (x4 + 1)), .int .i64 (IntKind.i64.wrap (x4 + 1))] [] (by kernel_rfl) (trivial) ?_
 refine RW.nil ?_
 subst hrec1
 exact ⟨n1, Nat.le_refl _, fun X h => kc (by kernel_rfl) rfl (h I3 (IntKind.i64.wrap (x3 + x5)) (IntKind.i64.wrap (x4 + 1)) _ hf s kk e1 e2 e3)⟩
 have hf := iteF h1 hf
 refine WPK.condF (Eq.trans (b := .bool (decide (x4 < x2))) (by kernel_rfl) (bo_f h1)) ?_
 refine WPK.exit (blockQ.same ?_)
 refine WPK.seq ?_
 refine WPK.region ?_
 refine RW.seg hT 2 [] [] [.int .i64 x3, .int .i64 x3] [] (by kernel_rfl) (trivial) ?_
 refine RW.nil ?_
 refine WPK.ret (?_)
 obtain rfl := someS hf
 refine Fin.of (rs := [.tmp 2]) hT [] (.int .i64 x3) [] rfl (by kernel_rfl) (trivial) ?_
 replace s := s.pick [] 1 rfl
 exact fun X h => vc rfl (h I2 _ s kk)
 refine WPK.seq ?_
 refine WPK.region ?_
 refine RW.seg hT 3 [.bool p0.Leaf] [(7, .bool (decide (¬ (p0.Leaf = true))))] [.pointer (some ⟨b1, 0, none⟩), .bool p0.Leaf, .bool (decide (¬ (p0.Leaf = true)))] [.cell ⟨b1, 0, none⟩ (.bool p0.Leaf), .veq (.bool (!p0.Leaf)) (.bool (decide (¬ (p0.Leaf = true))))] (by kernel_rfl) (⟨s.cell (i := 0) (off := 0) rfl rfl, not_b⟩) ?_
 refine RW.nil ?_
 by_cases h2 : ¬ (p0.Leaf = true)
 have hf := iteT h2 hf
 refine WPK.condT (Eq.trans (b := .bool (decide (¬ (p0.Leaf = true)))) (by kernel_rfl) (bo_t h2)) ?_
 refine WPK.region ?_
 refine RW.seg hT 3 [] [] [.int .i64 1, .int .i64 3, .int .i64 3] [] (by kernel_rfl) (trivial) ?_
 refine RW.nil ?_
 exact fun X h => kc (by kernel_rfl) rfl (h 3 hf)
 have hf := iteF h2 hf
 refine WPK.condF (Eq.trans (b := .bool (decide (¬ (p0.Leaf = true)))) (by kernel_rfl) (bo_f h2)) ?_
 refine WPK.skip ?_
 exact fun X h => kc (by kernel_rfl) rfl (h 1 hf)
theorem c26 {w1 w : World} {M I : Nat → Prop} {F : List It} (p0 : T_api_Node) (A1 : Option Addr) (u1 : Nat) (A2 : Option Addr) (u2 : Nat) (A3 : Option Addr) (u3 : Nat) (hc1 : (p0.Pairs.length ≤ u1 ∧ u1 ≤ 9223372036854775807)) (e1 : Elems rp_T_api_Pair I w A1 p0.Pairs) (hc2 : (p0.Keys.length ≤ u2 ∧ u2 ≤ 9223372036854775807)) (e2 : Elems (Rp.slice (Rp.int .u8)) I w A2 p0.Keys) (hc3 : (p0.Kids.length ≤ u3 ∧ u3 ≤ 9223372036854775807)) (e3 : Elems (Rp.int .i64) I w A3 p0.Kids) (s : St w1 M I (F) w) {r : Int} (hf : g26 p0 = some r) :
   Ret Try.prog 26 [.agg #[.bool p0.Leaf, .slice A1 p0.Pairs.length u1, .slice A2 p0.Keys.length u2, .slice A3 p0.Kids.length u3]] w fun v wz => ∀ X : Value → World → Prop, (∀ (I' : Nat → Prop) (w' : World), St w1 M I' (F) w' → Kp I w I' w' → X (.int .i64 r) w') → X v wz := by
 have kk : Kp I w I w := Kp.refl
 unfold g26 at hf
 refine Ret.of Try.func26 rfl ?_
 refine WPK.seq ?_
 refine WPK.region ?_
 refine RW.op (by kernel_rfl) (OK.new hT (f := fun b => .pointer (some ⟨b, 0, none⟩)) (cs := [.bool p0.Leaf, .slice A1 p0.Pairs.length u1, .slice A2 p0.Keys.length u2, .slice A3 p0.Kids.length u3]) (e := 26) (c := .tt) s (by kernel_rfl) trivial ?_)
 clear s
 rintro w2 b1 s k1 -
 replace e1 := e1.st k1
 replace e2 := e2.st k1
 replace e3 := e3.st k1
 replace kk := kk.trans k1
 refine RW.seg hT 1 [] [] [.int .i64 0] [] (by kernel_rfl) (trivial) ?_
 refine RW.nil ?_
 refine WPK.seq ?_
 refine WPK.block ?_
 refine WPK.seq ?_
 refine WPK.region ?_
 refine RW.seg hT 1 [.agg #[.bool p0.Leaf, .slice A1 p0.Pairs.length u1, .slice A2 p0.Keys.length u2, .slice A3 p0.Kids.length u3]] [] [.agg #[.bool p0.Leaf, .slice A1 p0.Pairs.length u1, .slice A2 p0.Keys.length u2, .slice A3 p0.Kids.length u3]] [.cells ⟨b1, 0, none⟩ [.bool p0.Leaf, .slice A1 p0.Pairs.length u1, .slice A2 p0.Keys.length u2, .slice A3 p0.Kids.length u3] 4] (by kernel_rfl) (s.cells (i := 0) rfl rfl rfl) ?_
 obtain ⟨x1, hx1, hf⟩ := bindS hf
 refine RW.op (by kernel_rfl) (OK.call' en50 (by kernel_rfl) (c50 (F := (.blk b1 (.cells #[.bool p0.Leaf, .slice A1 p0.Pairs.length u1, .slice A2 p0.Keys.length u2, .slice A3 p0.Kids.length u3] 26 (0, 0))) :: F) p0 A1 u1 A2 u2 A3 u3 hc1 e1 hc2 e2 hc3 e3 s hx1) ?_)
 intro X1 hX1
 refine fun _ _ hJ => hJ X1 ?_
 clear s
 intro I1 w3 s k2
 refine hX1 _ _ ?_
 replace e1 := e1.st k2
 replace e2 := e2.st k2
 replace e3 := e3.st k2
 replace kk := kk.trans k2
 refine RW.seg hT 2 [] [(6, .bool (decide (¬ (x1 = true))))] [.bool (decide (¬ (x1 = true))), .bool (decide (¬ (x1 = true)))] [.veq (.bool (!x1)) (.bool (decide (¬ (x1 = true))))] (by kernel_rfl) (not_b) ?_
 refine RW.nil ?_
 by_cases h1 : ¬ (x1 = true)
 have hf := iteT h1 hf
 refine WPK.condT (Eq.trans (b := .bool (decide (¬ (x1 = true)))) (by kernel_rfl) (bo_t h1)) ?_
 refine WPK.seq ?_
 refine WPK.region ?_
 refine RW.seg hT 1 [] [] [.int .i64 100] [] (by kernel_rfl) (trivial) ?_
 refine RW.nil ?_
 refine WPK.ret (blockQ.ret (?_))
 obtain rfl := someS hf
 refine Fin.of (rs := [.tmp 2]) hT [] (.int .i64 100) [] rfl (by kernel_rfl) (trivial) ?_
 replace s := s.pick [] 1 rfl
 exact fun X h => vc rfl (h I1 _ s kk)
 have hf := iteF h1 hf
 refine WPK.condF (Eq.trans (b := .bool (decide (¬ (x1 = true)))) (by kernel_rfl) (bo_f h1)) ?_
 refine WPK.seq ?_
 refine WPK.region ?_
 refine RW.seg hT 1 [.agg #[.bool p0.Leaf, .slice A1 p0.Pairs.length u1, .slice A2 p0.Keys.length u2, .slice A3 p0.Kids.length u3]] [] [.agg #[.bool p0.Leaf, .slice A1 p0.Pairs.length u1, .slice A2 p0.Keys.length u2, .slice A3 p0.Kids.length u3]] [.cells ⟨b1, 0, none⟩ [.bool p0.Leaf, .slice A1 p0.Pairs.length u1, .slice A2 p0.Keys.length u2, .slice A3 p0.Kids.length u3] 4] (by kernel_rfl) (s.cells (i := 0) rfl rfl rfl) ?_
 obtain ⟨x2, hx2, hf⟩ := bindS hf
 refine RW.op (by kernel_rfl) (OK.call' en52 (by kernel_rfl) (c52 (F := (.blk b1 (.cells #[.bool p0.Leaf, .slice A1 p0.Pairs.length u1, .slice A2 p0.Keys.length u2, .slice A3 p0.Kids.length u3] 26 (0, 0))) :: F) p0 A1 u1 A2 u2 A3 u3 hc1 e1 hc2 e2 hc3 e3 s hx2) ?_)
 intro X2 hX2
 refine fun _ _ hJ => hJ X2 ?_
 clear s
 intro I2 w4 s k3
 refine hX2 _ _ ?_
 replace e1 := e1.st k3
 replace e2 := e2.st k3
 replace e3 := e3.st k3
 replace kk := kk.trans k3
 refine RW.seg hT 2 [] [] [.bool (decide (x2 > 240)), .bool (decide (x2 > 240))] [] (by kernel_rfl) (trivial) ?_
 refine RW.nil ?_
 by_cases h2 : x2 > 240
 have hf := iteT h2 hf
 refine WPK.condT (Eq.trans (b := .bool (decide (x2 > 240))) (by kernel_rfl) (bo_t h2)) ?_
 refine WPK.seq ?_
 refine WPK.region ?_
 refine RW.seg hT 1 [] [] [.int .i64 3] [] (by kernel_rfl) (trivial) ?_
 refine RW.nil ?_
 refine WPK.ret (blockQ.ret (?_))
 obtain rfl := someS hf
 refine Fin.of (rs := [.tmp 2]) hT [] (.int .i64 3) [] rfl (by kernel_rfl) (trivial) ?_
 replace s := s.pick [] 1 rfl
 exact fun X h => vc rfl (h I2 _ s kk)
 have hf := iteF h2 hf
 refine WPK.condF (Eq.trans (b := .bool (decide (x2 > 240))) (by kernel_rfl) (bo_f h2)) ?_
 refine WPK.skip ?_
 refine WPK.seq ?_
 refine WPK.region ?_
 refine RW.seg hT 1 [] [] [.int .i64 0] [] (by kernel_rfl) (trivial) ?_
 refine RW.nil ?_
 refine WPK.ret (?_)
 obtain rfl := someS hf
 refine Fin.of (rs := [.tmp 2]) hT [] (.int .i64 0) [] rfl (by kernel_rfl) (trivial) ?_
 replace s := s.pick [] 1 rfl
 exact fun X h => vc rfl (h I2 _ s kk)
theorem c96 {w1 w : World} {M I : Nat → Prop} {F : List It} (p0 : (List Int)) (p1 : (List Int)) (A1 : Option Addr) (u1 : Nat) (A2 : Option Addr) (u2 : Nat) (hc1 : (p0.length ≤ u1 ∧ u1 ≤ 9223372036854775807)) (e1 : Elems (Rp.int .u8) I w A1 p0) (hc2 : (p1.length ≤ u2 ∧ u2 ≤ 9223372036854775807)) (e2 : Elems (Rp.int .u8) I w A2 p1) (s : St w1 M I (F) w) {r : ((List Int) × Int)} (hf : g96 p0 p1 = some r) :
   Ret Try.prog 96 [.slice A1 p0.length u1, .slice A2 p1.length u2] w fun v wz => ∀ X : Value → World → Prop, (∀ (I' : Nat → Prop) (A3 : Option Addr) (n1 : Nat) (u3 : Nat) (cl1 : List Value) (w' : World), St w1 M I' ((.sl (.slice A3 n1 u3) 5 1 n1 cl1) :: F) w' → Kp I w I' w' → n1 = r.1.length → RepL (Rp.int .u8) I' w' cl1 r.1 → X (.tuple #[.slice A3 n1 u3, .int .i64 r.2]) w') → X v wz := by
 have kk : Kp I w I w := Kp.refl
 unfold g96 at hf
 refine Ret.of Try.func96 rfl ?_
 refine WPK.seq ?_
 refine WPK.region ?_
 refine RW.seg hT 2 [] [] [.slice none 0 0, .int .i64 0] [] (by kernel_rfl) (trivial) ?_
 refine RW.nil ?_
 refine WPK.seq ?_
 refine WPK.seq ?_
 refine WPK.region ?_
 refine RW.seg hT 3 [] [] [.slice A2 p1.length u2, .int .i64 (p1.length : Int), .bool (decide ((p1.length : Int) > 255))] [] (by kernel_rfl) (trivial) ?_
 refine RW.nil ?_
 by_cases h1 : (p1.length : Int) > 255
 have hf := iteT h1 hf
 refine WPK.condT (Eq.trans (b := .bool (decide ((p1.length : Int) > 255))) (by kernel_rfl) (bo_t h1)) ?_
 refine WPK.seq ?_
 refine WPK.region ?_
 refine RW.seg hT 2 [] [] [.slice none 0 0, .int .i64 3] [] (by kernel_rfl) (trivial) ?_
 refine RW.nil ?_
 refine WPK.ret (?_)
 obtain rfl := someS hf
 refine Fin.of (rs := [.tmp 4, .tmp 5]) hT [] (.tuple #[.slice none 0 0, .int .i64 3]) [] rfl (by kernel_rfl) (trivial) ?_
 replace s := s.pushNil 5 1
 exact fun X h => vc rfl (h I none 0 0 [] _ s kk rfl (RepL.nil (r := (Rp.int .u8))))
 have hf := iteF h1 hf
 refine WPK.condF (Eq.trans (b := .bool (decide ((p1.length : Int) > 255))) (by kernel_rfl) (bo_f h1)) ?_
 refine WPK.skip ?_
 refine WPK.seq ?_
 refine WPK.region ?_
 refine RW.seg hT 4 [] [] [.slice A1 p0.length u1, .slice A2 p1.length u2, .int .i64 (p1.length : Int), .int .i64 (IntKind.i64.wrap (1 + (p1.length : Int)))] [] (by kernel_rfl) (trivial) ?_
 refine RW.op (by kernel_rfl) (OK.inl (args := [.slice A1 p0.length u1, .int .i64 (IntKind.i64.wrap (1 + (p1.length : Int)))]) en98 (by kernel_rfl) ?_)
 intro R1 hR1
 refine Ret.of Try.func98 rfl ?_
 refine WPK.seq ?_
 refine WPK.region ?_
 refine RW.seg hT 2 [] [] [.slice none 0 0, .slice none 0 0] [] (by kernel_rfl) (trivial) ?_
 refine RW.nil ?_
 refine WPK.seq ?_
 refine WPK.region ?_
 obtain ⟨x1, hx1, hf⟩ := bindS hf
 refine RW.seg hT 4 [] [(10, .int .i64 x1)] [.slice A1 p0.length u1, .int .i64 (p0.length : Int), .int .i64 (IntKind.i64.wrap (1 + (p1.length : Int))), .int .i64 x1] [.veq (.int .i64 (IntKind.i64.wrap ((p0.length : Int) + (IntKind.i64.wrap (1 + (p1.length : Int)))))) (.int .i64 x1)] (by kernel_rfl) (int_v (someS hx1)) ?_
 obtain ⟨x2, hx2, hf⟩ := bindS hf
 refine RW.op (by kernel_rfl) (OK.make hT (r := (Rp.int .u8)) (n := x1) (z := .int .u8 0) (x := 0) (e := 5) (bytes := 1) s (by kernel_rfl) hx2 (fun _ _ => rfl) ?_)
 clear s
 rintro w2 b1 cl2 s k1 rp1
 replace e1 := e1.st k1
 replace e2 := e2.st k1
 replace kk := kk.trans k1
 refine RW.seg hT 1 [] [] [.slice (some ⟨b1, 0, none⟩) x2.length x2.length] [] (by kernel_rfl) (trivial) ?_
 refine RW.nil ?_
 refine WPK.seq ?_
 refine WPK.region ?_
 refine RW.seg hT 2 [] [] [.slice (some ⟨b1, 0, none⟩) x2.length x2.length, .slice A1 p0.length u1] [] (by kernel_rfl) (trivial) ?_
 have pt1 : Pt 0 x2.length x2.length 1 0 (x2.length : Int) x2.length := by have h2 := Pt.whole (size := 1) (row_hc (s.at (i := 0) rfl)).1; exact h2
 obtain ⟨nw1, hs1, rq1⟩ := Elems.src e1
 obtain ⟨x3, hx3, hf⟩ := bindS hf
 replace hx3 := someS hx3
 refine RW.op (by kernel_rfl) (OK.copy hT (r := (Rp.int .u8)) (xs := x2) (ys := p0) (i := 0) (c := x2.length) (e := 5) (size := 1) (t := 27) (t' := 27) (et := 5) (l := 0) (h := (x2.length : Int)) s (by kernel_rfl) rfl rfl rfl rfl rfl flat_int rfl rfl rfl rp1 pt1 rfl hs1 rq1 ?_)
 clear s
 rintro w3 cl3 s k2 rp2 hn1
 replace e1 := e1.st k2
 replace e2 := e2.st k2
 replace rp1 := rp1.st k2
 replace kk := kk.trans k2
 rw [hx3] at rp2 hn1
 refine RW.nil ?_
 refine WPK.seq ?_
 have e1S1 := e1
 have e2S1 := e2
 have rp2S1 := rp2
 have kS1 : Kp I w3 I w3 := Kp.refl
 refine WPK.drawM (fun w' => ∃ I' : Nat → Prop, St w1 M I' ((.sl (.slice (some ⟨b1, 0, none⟩) x2.length x2.length) 5 1 x2.length cl3) :: F) w' ∧ Kp I w3 I' w') 7 [0, 0, 0, 4, 14, 1, 63] (by kernel_rfl) (by kernel_rfl) ?_
 intro ht1 w4 hd1
 have k3 := Kp.dr s hd1
 replace s := s.dr hd1
 replace e1 := e1.st k3
 replace e2 := e2.st k3
 replace rp2 := rp2.st k3
 replace kk := kk.trans k3
 replace kS1 := kS1.trans k3
 obtain ⟨h3, hf⟩ := iteS hf
 replace h3 : (0 : Int) ≤ (p0.length : Int) ∧ (p0.length : Int) ≤ (x3.length : Int) ∧ (x3.length : Int) ≤ ((x2.length : Nat) : Int) - 0 := by have hnn := hn1; omega
 obtain ⟨o1, n2, u4, q1, q2, q3, q4, q5, pt2⟩ := partS (b := b1) (c := x2.length) (Pt.whole (size := 1) (row_hc (s.at (i := 0) rfl)).1) (Nat.le_refl _) h3
 rw [Int.zero_add, Int.zero_add] at pt2
 replace q2 : x2.length - (p0.length : Int).toNat = n2 := by rw [← q2]; have hnn := hn1; omega
 refine RD.segM hT ht1 (by kernel_rfl) [0, 1, 2, 3, 4, 5, 6] [] [(19, .slice (some ⟨b1, o1, none⟩) n2 u4)] [.slice (some ⟨b1, 0, none⟩) x2.length x2.length, .slice (some ⟨b1, 0, none⟩) x2.length x2.length, .slice A1 p0.length u1, .int .i64 (p0.length : Int), .slice (some ⟨b1, o1, none⟩) n2 u4, .slice (some ⟨b1, 0, none⟩) x2.length x2.length, .slice (some ⟨b1, o1, none⟩) n2 u4] [.both (.cut (p0.length : Int) (x2.length : Nat) x2.length x2.length) (.veq (.slice (cutA (some ⟨b1, 0, none⟩) (p0.length : Int).toNat x2.length 1) (x2.length - (p0.length : Int).toNat) (x2.length - (p0.length : Int).toNat)) (.slice (some ⟨b1, o1, none⟩) n2 u4))] (by kernel_rfl) (by rintro w' ⟨I', s, k⟩; have e1 := e1S1.st k; have e2 := e2S1.st k; have rp2 := rp2S1.st k; exact ⟨⟨(q5).1, by have h4 := (q5).2.1; have h5 := (q5).2.2.1; omega, by have := (q5).2.2.2; omega, by omega⟩, sl_eq q1 q2 q3⟩) ⟨_, s.pick [0] 1 rfl, kS1⟩ ?_
 refine RD.done (by kernel_rfl) ?_
 refine WPK.ret (?_)
 refine Fin.of (rs := [.tmp 4, .tmp 5]) hT [] (.tuple #[.slice (some ⟨b1, 0, none⟩) x2.length x2.length, .slice (some ⟨b1, o1, none⟩) n2 u4]) [] rfl (by kernel_rfl) (trivial) ?_
 refine hR1 _ _ ?_
 refine RW.seg hT 5 [] [] [.tuple #[.slice (some ⟨b1, 0, none⟩) x2.length x2.length, .slice (some ⟨b1, o1, none⟩) n2 u4], .slice (some ⟨b1, 0, none⟩) x2.length x2.length, .slice (some ⟨b1, o1, none⟩) n2 u4, .slice (some ⟨b1, 0, none⟩) x2.length x2.length, .slice (some ⟨b1, o1, none⟩) n2 u4] [] (by kernel_rfl) (trivial) ?_
 refine RW.nil ?_
 refine WPK.seq ?_
 refine WPK.region ?_
 obtain ⟨h6, hf⟩ := iteS hf
 obtain ⟨x4, hx4, hf⟩ := bindS hf
 obtain ⟨-, hx4⟩ := getS hx4
 refine RW.seg hT 5 [undef] [(23, .pointer (some ⟨b1, 0 + ((p0.length : Int) + 0).toNat * 1, none⟩))] [.slice (some ⟨b1, o1, none⟩) n2 u4, .slice A2 p1.length u2, .int .i64 (p1.length : Int), .int .u8 (IntKind.u8.wrap (p1.length : Int)), .pointer (some ⟨b1, 0 + ((p0.length : Int) + 0).toNat * 1, none⟩)] [.both (.idx 0 n2) (.veq (.pointer (some ⟨b1, o1 + (0 : Int).toNat * 1, none⟩)) (.pointer (some ⟨b1, 0 + ((p0.length : Int) + 0).toNat * 1, none⟩)))] (by kernel_rfl) (⟨(Pt.idx (b := b1) pt2 h6).1, (Pt.idx (b := b1) pt2 h6).2⟩) ?_
 obtain ⟨y1, hy1, hf⟩ := bindS hf
 obtain ⟨h7, hq1⟩ := setS hy1
 obtain ⟨cl4, hcl1⟩ : ∃ q, setL cl3 (0 + ((p0.length : Int) + 0).toNat * 1) [.int .u8 (IntKind.u8.wrap (p1.length : Int))] = q := ⟨_, rfl⟩
 have rp3 : RepL (Rp.int .u8) I w4 cl4 y1 := by rw [hq1, ← hcl1, Nat.zero_add]; exact RepL.set rp2 (by omega) (rfl)
 have hn2 : x2.length = y1.length := by rw [hq1, List.length_set]; exact hn1
 refine RW.op (by kernel_rfl) (OK.storeSl hT (i := 0) (b := b1) (off := 0 + ((p0.length : Int) + 0).toNat * 1) (m := 1) (vs := [.int .u8 (IntKind.u8.wrap (p1.length : Int))]) (c := x2.length) (e := 5) (size := 1) (n := x2.length) (cl := cl3) (cl' := cl4) s (by kernel_rfl) rfl rfl (flat_ok rfl) (by have h4 := RepL.length rp2; simp only [List.length_cons, List.length_nil, h4]; exact row_bd (n := 1) h7 rfl) hcl1 ?_)
 clear s
 rintro w5 s k4
 replace e2 := e2.st k4
 replace rp3 := rp3.st k4
 replace kk := kk.trans k4
 refine RW.nil ?_
 refine WPK.seq ?_
 refine WPK.region ?_
 obtain ⟨h8, hf⟩ := iteS hf
 obtain ⟨o2, n3, u5, q6, q7, q8, q9, q10, pt3⟩ := partS (b := b1) (c := x2.length) pt2 q4 h8
 replace q7 : n2 - (1 : Int).toNat = n3 := by rw [← q7]; have := (pt2).len; omega
 refine RW.seg hT 3 [] [(25, .slice (some ⟨b1, o2, none⟩) n3 u5)] [.slice (some ⟨b1, o1, none⟩) n2 u4, .slice (some ⟨b1, o2, none⟩) n3 u5, .slice A2 p1.length u2] [.both (.cut 1 (n2 : Nat) u4 u4) (.veq (.slice (cutA (some ⟨b1, o1, none⟩) (1 : Int).toNat u4 1) (n2 - (1 : Int).toNat) (u4 - (1 : Int).toNat)) (.slice (some ⟨b1, o2, none⟩) n3 u5))] (by kernel_rfl) (⟨⟨(q10).1, by have h4 := (q10).2.1; have h5 := (q10).2.2.1; omega, by have := (q10).2.2.2; omega, by omega⟩, sl_eq q6 q7 q8⟩) ?_
 obtain ⟨nw2, hs2, rq2⟩ := Elems.src e2
 obtain ⟨x5, hx5, hf⟩ := bindS hf
 replace hx5 := someS hx5
 refine RW.op (by kernel_rfl) (OK.copy hT (r := (Rp.int .u8)) (xs := y1) (ys := p1) (i := 0) (c := x2.length) (e := 5) (size := 1) (t := 27) (t' := 27) (et := 5) (l := ((p0.length : Int) + 1)) (h := ((p0.length : Int) + ((x3.length : Int) - (p0.length : Int)))) s (by kernel_rfl) rfl rfl rfl rfl rfl flat_int rfl rfl hn2 rp3 pt3 rfl hs2 rq2 ?_)
 clear s
 rintro w6 cl5 s k5 rp4 hn3
 replace e2 := e2.st k5
 replace rp3 := rp3.st k5
 replace kk := kk.trans k5
 rw [hx5] at rp4 hn3
 refine RW.nil ?_
 refine WPK.seq ?_
 refine WPK.region ?_
 refine RW.seg hT 3 [] [] [.slice (some ⟨b1, 0, none⟩) x2.length x2.length, .slice (some ⟨b1, 0, none⟩) x2.length x2.length, .int .i64 0] [] (by kernel_rfl) (trivial) ?_
 refine RW.nil ?_
 refine WPK.ret (?_)
 obtain rfl := someS hf
 refine Fin.of (rs := [.tmp 4, .tmp 5]) hT [] (.tuple #[.slice (some ⟨b1, 0, none⟩) x2.length x2.length, .int .i64 0]) [] rfl (by kernel_rfl) (trivial) ?_
 exact fun X h => vc rfl (h I (some ⟨b1, 0, none⟩) x2.length x2.length cl5 _ s kk hn3 rp4)
theorem c67 {w1 w : World} {M I : Nat → Prop} {F : List It} (p0 : (List Int)) (p1 : (List Int)) (A1 : Option Addr) (u1 : Nat) (A2 : Option Addr) (u2 : Nat) (hc1 : (p0.length ≤ u1 ∧ u1 ≤ 9223372036854775807)) (e1 : Elems (Rp.int .u8) I w A1 p0) (hc2 : (p1.length ≤ u2 ∧ u2 ≤ 9223372036854775807)) (e2 : Elems (Rp.int .u8) I w A2 p1) (s : St w1 M I (F) w) {r : (List Int)} (hf : g67 p0 p1 = some r) :
   Ret Try.prog 67 [.slice A1 p0.length u1, .slice A2 p1.length u2] w fun v wz => ∀ X : Value → World → Prop, (∀ (I' : Nat → Prop) (A3 : Option Addr) (n1 : Nat) (u3 : Nat) (cl1 : List Value) (w' : World), St w1 M I' ((.sl (.slice A3 n1 u3) 5 1 n1 cl1) :: F) w' → Kp I w I' w' → n1 = r.length → RepL (Rp.int .u8) I' w' cl1 r → X (.slice A3 n1 u3) w') → X v wz := by
 have kk : Kp I w I w := Kp.refl
 unfold g67 at hf
 refine Ret.of Try.func67 rfl ?_
 refine WPK.seq ?_
 refine WPK.region ?_
 refine RW.seg hT 1 [] [] [.slice none 0 0] [] (by kernel_rfl) (trivial) ?_
 refine RW.nil ?_
 refine WPK.seq ?_
 refine WPK.region ?_
 refine RW.seg hT 2 [] [] [.slice A1 p0.length u1, .slice A2 p1.length u2] [] (by kernel_rfl) (trivial) ?_
 obtain ⟨x1, hx1, hf⟩ := bindS hf
 refine RW.op (by kernel_rfl) (OK.call' en96 (by kernel_rfl) (c96 (F := F) p0 p1 A1 u1 A2 u2 hc1 e1 hc2 e2 s hx1) ?_)
 intro X1 hX1
 refine fun _ _ hJ => hJ X1 ?_
 clear s
 intro I1 A4 n2 u4 cl2 w2 s k1 hn1 rp1
 refine hX1 _ _ ?_
 replace e1 := e1.st k1
 replace e2 := e2.st k1
 replace kk := kk.trans k1
 refine RW.seg hT 4 [] [] [.tuple #[.slice A4 n2 u4, .int .i64 x1.2], .slice A4 n2 u4, .int .i64 x1.2, .slice A4 n2 u4] [] (by kernel_rfl) (trivial) ?_
 refine RW.nil ?_
 refine WPK.seq ?_
 refine WPK.region ?_
 refine RW.seg hT 2 [] [] [.slice A4 n2 u4, .slice A4 n2 u4] [] (by kernel_rfl) (trivial) ?_
 refine RW.nil ?_
 refine WPK.ret (?_)
 obtain rfl := someS hf
 refine Fin.of (rs := [.tmp 4]) hT [] (.slice A4 n2 u4) [] rfl (by kernel_rfl) (trivial) ?_
 exact fun X h => vc rfl (h I1 A4 n2 u4 cl2 _ s kk hn1 rp1)
theorem c97 {w1 w : World} {M I : Nat → Prop} {F : List It} (p0 : (List Int)) (p1 : Int) (p2 : Int) (A1 : Option Addr) (u1 : Nat) (hc1 : (p0.length ≤ u1 ∧ u1 ≤ 9223372036854775807)) (e1 : Elems (Rp.int .u8) I w A1 p0) (s : St w1 M I (F) w) {r : (List Int)} (hf : g97 p0 p1 p2 = some r) :
   Ret Try.prog 97 [.slice A1 p0.length u1, .int .u64 p1, .int .i64 p2] w fun v wz => ∀ X : Value → World → Prop, (∀ (I' : Nat → Prop) (A2 : Option Addr) (n1 : Nat) (u2 : Nat) (cl1 : List Value) (w' : World), St w1 M I' ((.sl (.slice A2 n1 u2) 5 1 n1 cl1) :: F) w' → Kp I w I' w' → n1 = r.length → RepL (Rp.int .u8) I' w' cl1 r → X (.slice A2 n1 u2) w') → X v wz := by
 have kk : Kp I w I w := Kp.refl
 unfold g97 at hf
 refine Ret.of Try.func97 rfl ?_
 refine WPK.seq ?_
 refine WPK.region ?_
 refine RW.seg hT 1 [] [] [.slice none 0 0] [] (by kernel_rfl) (trivial) ?_
 refine RW.nil ?_
 refine WPK.seq ?_
 refine WPK.region ?_
 refine RW.seg hT 2 [] [] [.slice A1 p0.length u1, .int .i64 p2] [] (by kernel_rfl) (trivial) ?_
 refine RW.op (by kernel_rfl) (OK.inl (args := [.slice A1 p0.length u1, .int .i64 p2]) en98 (by kernel_rfl) ?_)
 intro R1 hR1
 refine Ret.of Try.func98 rfl ?_
 refine WPK.seq ?_
 refine WPK.region ?_
 refine RW.seg hT 2 [] [] [.slice none 0 0, .slice none 0 0] [] (by kernel_rfl) (trivial) ?_
 refine RW.nil ?_
 refine WPK.seq ?_
 refine WPK.region ?_
 refine RW.seg hT 4 [] [] [.slice A1 p0.length u1, .int .i64 (p0.length : Int), .int .i64 p2, .int .i64 (IntKind.i64.wrap ((p0.length : Int) + p2))] [] (by kernel_rfl) (trivial) ?_
 obtain ⟨x1, hx1, hf⟩ := bindS hf
 refine RW.op (by kernel_rfl) (OK.make hT (r := (Rp.int .u8)) (n := IntKind.i64.wrap ((p0.length : Int) + p2)) (z := .int .u8 0) (x := 0) (e := 5) (bytes := 1) s (by kernel_rfl) hx1 (fun _ _ => rfl) ?_)
 clear s
 rintro w2 b1 cl2 s k1 rp1
 replace e1 := e1.st k1
 replace kk := kk.trans k1
 refine RW.seg hT 1 [] [] [.slice (some ⟨b1, 0, none⟩) x1.length x1.length] [] (by kernel_rfl) (trivial) ?_
 refine RW.nil ?_
 refine WPK.seq ?_
 refine WPK.region ?_
 refine RW.seg hT 2 [] [] [.slice (some ⟨b1, 0, none⟩) x1.length x1.length, .slice A1 p0.length u1] [] (by kernel_rfl) (trivial) ?_
 have pt1 : Pt 0 x1.length x1.length 1 0 (x1.length : Int) x1.length := by have h1 := Pt.whole (size := 1) (row_hc (s.at (i := 0) rfl)).1; exact h1
 obtain ⟨nw1, hs1, rq1⟩ := Elems.src e1
 obtain ⟨x2, hx2, hf⟩ := bindS hf
 replace hx2 := someS hx2
 refine RW.op (by kernel_rfl) (OK.copy hT (r := (Rp.int .u8)) (xs := x1) (ys := p0) (i := 0) (c := x1.length) (e := 5) (size := 1) (t := 27) (t' := 27) (et := 5) (l := 0) (h := (x1.length : Int)) s (by kernel_rfl) rfl rfl rfl rfl rfl flat_int rfl rfl rfl rp1 pt1 rfl hs1 rq1 ?_)
 clear s
 rintro w3 cl3 s k2 rp2 hn1
 replace e1 := e1.st k2
 replace rp1 := rp1.st k2
 replace kk := kk.trans k2
 rw [hx2] at rp2 hn1
 refine RW.nil ?_
 refine WPK.seq ?_
 have e1S1 := e1
 have rp2S1 := rp2
 have kS1 : Kp I w3 I w3 := Kp.refl
 refine WPK.drawM (fun w' => ∃ I' : Nat → Prop, St w1 M I' ((.sl (.slice (some ⟨b1, 0, none⟩) x1.length x1.length) 5 1 x1.length cl3) :: F) w' ∧ Kp I w3 I' w') 7 [0, 0, 0, 4, 14, 1, 63] (by kernel_rfl) (by kernel_rfl) ?_
 intro ht1 w4 hd1
 have k3 := Kp.dr s hd1
 replace s := s.dr hd1
 replace e1 := e1.st k3
 replace rp2 := rp2.st k3
 replace kk := kk.trans k3
 replace kS1 := kS1.trans k3
 obtain ⟨h2, hf⟩ := iteS hf
 replace h2 : (0 : Int) ≤ (p0.length : Int) ∧ (p0.length : Int) ≤ (x2.length : Int) ∧ (x2.length : Int) ≤ ((x1.length : Nat) : Int) - 0 := by have hnn := hn1; omega
 obtain ⟨o1, n2, u3, q1, q2, q3, q4, q5, pt2⟩ := partS (b := b1) (c := x1.length) (Pt.whole (size := 1) (row_hc (s.at (i := 0) rfl)).1) (Nat.le_refl _) h2
 rw [Int.zero_add, Int.zero_add] at pt2
 replace q2 : x1.length - (p0.length : Int).toNat = n2 := by rw [← q2]; have hnn := hn1; omega
 refine RD.segM hT ht1 (by kernel_rfl) [0, 1, 2, 3, 4, 5, 6] [] [(19, .slice (some ⟨b1, o1, none⟩) n2 u3)] [.slice (some ⟨b1, 0, none⟩) x1.length x1.length, .slice (some ⟨b1, 0, none⟩) x1.length x1.length, .slice A1 p0.length u1, .int .i64 (p0.length : Int), .slice (some ⟨b1, o1, none⟩) n2 u3, .slice (some ⟨b1, 0, none⟩) x1.length x1.length, .slice (some ⟨b1, o1, none⟩) n2 u3] [.both (.cut (p0.length : Int) (x1.length : Nat) x1.length x1.length) (.veq (.slice (cutA (some ⟨b1, 0, none⟩) (p0.length : Int).toNat x1.length 1) (x1.length - (p0.length : Int).toNat) (x1.length - (p0.length : Int).toNat)) (.slice (some ⟨b1, o1, none⟩) n2 u3))] (by kernel_rfl) (by rintro w' ⟨I', s, k⟩; have e1 := e1S1.st k; have rp2 := rp2S1.st k; exact ⟨⟨(q5).1, by have h3 := (q5).2.1; have h4 := (q5).2.2.1; omega, by have := (q5).2.2.2; omega, by omega⟩, sl_eq q1 q2 q3⟩) ⟨_, s.pick [0] 1 rfl, kS1⟩ ?_
 refine RD.done (by kernel_rfl) ?_
 refine WPK.ret (?_)
 refine Fin.of (rs := [.tmp 4, .tmp 5]) hT [] (.tuple #[.slice (some ⟨b1, 0, none⟩) x1.length x1.length, .slice (some ⟨b1, o1, none⟩) n2 u3]) [] rfl (by kernel_rfl) (trivial) ?_
 refine hR1 _ _ ?_
 refine RW.seg hT 5 [] [] [.tuple #[.slice (some ⟨b1, 0, none⟩) x1.length x1.length, .slice (some ⟨b1, o1, none⟩) n2 u3], .slice (some ⟨b1, 0, none⟩) x1.length x1.length, .slice (some ⟨b1, o1, none⟩) n2 u3, .slice (some ⟨b1, 0, none⟩) x1.length x1.length, .slice (some ⟨b1, o1, none⟩) n2 u3] [] (by kernel_rfl) (trivial) ?_
 refine RW.nil ?_
 refine WPK.seq ?_
 refine WPK.seq ?_
 refine WPK.region ?_
 refine RW.seg hT 2 [] [] [.int .i64 p2, .int .i64 0] [] (by kernel_rfl) (trivial) ?_
 refine RW.nil ?_
 refine WPK.block ?_
 refine WPK.loop' (J := fun n3 D1 ds wz => ∀ X : Kont, (∀ (I1 : Nat → Prop) (x3 : Int) (x4 : (List Int)) (cl4 : List Value) (w' : World), g97_l1 p0 p1 p2 x2 n3 x3 x4 = some r → St w1 M I1 ((.sl (.slice (some ⟨b1, 0, none⟩) x1.length x1.length) 5 1 x1.length cl4) :: F) w' → Kp I w I1 w' → x1.length = x4.length → RepL (Rp.int .u8) I1 w' cl4 x4 → X [(gd D1 0), .int .u64 p1, .int .i64 p2, (gd D1 3), (gd D1 4), (gd D1 5), .slice none 0 0, .slice (some ⟨b1, 0, none⟩) x1.length x1.length, .slice (some ⟨b1, o1, none⟩) n2 u3, (gd D1 9), (gd D1 10), (gd D1 11), (gd D1 12), (gd D1 13), (gd D1 14), (gd D1 15), .int .i64 p2, .int .i64 x3, (gd D1 18), (gd D1 19), (gd D1 20), (gd D1 21), (gd D1 22), (gd D1 23), (gd D1 24), (gd D1 25), (gd D1 26), (gd D1 27), (gd D1 28), (gd D1 29), (gd D1 30), (gd D1 31), (gd D1 32), undef] [] w') → X D1 ds wz) FUEL (fun X h => kc (by kernel_rfl) rfl (h I 0 x2 cl3 _ hf s kk hn1 rp2)) (fun _ _ _ hJ => hJ (fun _ _ _ => False) (by intro I1 x3 x4 cl4 w5 hf s kk hn2 rp3; exact noneS hf)) ?_
 intro X1 hX1
 refine fun n3 D1 _ _ hJ => hJ (X1 n3) ?_
 clear s
 intro I1 x3 x4 cl4 w5 hf s kk hn2 rp3
 refine hX1 _ _ _ _ ?_
 replace hf : g97_l1B p0 p1 p2 x2 (g97_l1 p0 p1 p2 x2 n3) x3 x4 = some r := hf
 generalize hrec1 : g97_l1 p0 p1 p2 x2 n3 = rec1 at hf
 unfold g97_l1B at hf
 refine WPK.seq ?_
 refine WPK.region ?_
 refine RW.seg hT 1 [] [] [.bool (decide (x3 < p2))] [] (by kernel_rfl) (trivial) ?_
 refine RW.nil ?_
 refine WPK.seq ?_
 by_cases h5 : x3 < p2
 have hf := iteT h5 hf
 refine WPK.condT (Eq.trans (b := .bool (decide (x3 < p2))) (by kernel_rfl) (bo_t h5)) ?_
 refine WPK.skip ?_
 refine WPK.seq ?_
 refine WPK.block ?_
 refine WPK.seq ?_
 refine WPK.region ?_
 refine RW.seg hT 2 [] [] [.int .i64 x3, .int .i64 x3] [] (by kernel_rfl) (trivial) ?_
 refine RW.nil ?_
 refine WPK.region ?_
 obtain ⟨h6, hf⟩ := iteS hf
 obtain ⟨x5, hx3, hf⟩ := bindS hf
 obtain ⟨h7, hf⟩ := iteS hf
 obtain ⟨x6, hx4, hf⟩ := bindS hf
 obtain ⟨-, hx4⟩ := getS hx4
 refine RW.seg hT 12 [undef, undef] [(29, .int .u64 x5), (31, .pointer (some ⟨b1, 0 + ((p0.length : Int) + (IntKind.i64.wrap ((IntKind.i64.wrap (p2 - 1)) - x3))).toNat * 1, none⟩))] [.slice (some ⟨b1, o1, none⟩) n2 u3, .int .i64 p2, .int .i64 (IntKind.i64.wrap (p2 - 1)), .int .i64 x3, .int .i64 (IntKind.i64.wrap ((IntKind.i64.wrap (p2 - 1)) - x3)), .int .u64 p1, .int .i64 x3, .int .i64 (IntKind.i64.wrap (8 * x3)), .int .u64 (IntKind.u64.wrap (IntKind.i64.wrap (8 * x3))), .int .u64 x5, .int .u8 (IntKind.u8.wrap x5), .pointer (some ⟨b1, 0 + ((p0.length : Int) + (IntKind.i64.wrap ((IntKind.i64.wrap (p2 - 1)) - x3))).toNat * 1, none⟩)] [.both (.nn (IntKind.u64.wrap (IntKind.i64.wrap (8 * x3)))) (.veq (.int .u64 (shrI .u64 p1 (IntKind.u64.wrap (IntKind.i64.wrap (8 * x3))))) (.int .u64 x5)), .both (.idx (IntKind.i64.wrap ((IntKind.i64.wrap (p2 - 1)) - x3)) n2) (.veq (.pointer (some ⟨b1, o1 + (IntKind.i64.wrap ((IntKind.i64.wrap (p2 - 1)) - x3)).toNat * 1, none⟩)) (.pointer (some ⟨b1, 0 + ((p0.length : Int) + (IntKind.i64.wrap ((IntKind.i64.wrap (p2 - 1)) - x3))).toNat * 1, none⟩)))] (by kernel_rfl) (⟨⟨h6, int_v (someS hx3)⟩, ⟨(Pt.idx (b := b1) pt2 h7).1, (Pt.idx (b := b1) pt2 h7).2⟩⟩) ?_
 obtain ⟨y1, hy1, hf⟩ := bindS hf
 obtain ⟨h8, hq1⟩ := setS hy1
 obtain ⟨cl5, hcl1⟩ : ∃ q, setL cl4 (0 + ((p0.length : Int) + (IntKind.i64.wrap ((IntKind.i64.wrap (p2 - 1)) - x3))).toNat * 1) [.int .u8 (IntKind.u8.wrap x5)] = q := ⟨_, rfl⟩
 have rp4 : RepL (Rp.int .u8) I1 w5 cl5 y1 := by rw [hq1, ← hcl1, Nat.zero_add]; exact RepL.set rp3 (by omega) (rfl)
 have hn3 : x1.length = y1.length := by rw [hq1, List.length_set]; exact hn2
 refine RW.op (by kernel_rfl) (OK.storeSl hT (i := 0) (b := b1) (off := 0 + ((p0.length : Int) + (IntKind.i64.wrap ((IntKind.i64.wrap (p2 - 1)) - x3))).toNat * 1) (m := 1) (vs := [.int .u8 (IntKind.u8.wrap x5)]) (c := x1.length) (e := 5) (size := 1) (n := x1.length) (cl := cl4) (cl' := cl5) s (by kernel_rfl) rfl rfl (flat_ok rfl) (by have h3 := RepL.length rp3; simp only [List.length_cons, List.length_nil, h3]; exact row_bd (n := 1) h8 rfl) hcl1 ?_)
 clear s
 rintro w6 s k4
 replace rp4 := rp4.st k4
 replace kk := kk.trans k4
 refine RW.nil ?_
 refine WPK.region ?_
 refine RW.seg hT 2 [] [] [.int .i64 (IntKind.i64.wrap (x3 + 1)), .int .i64 (IntKind.i64.wrap (x3 + 1))] [] (by kernel_rfl) (trivial) ?_
 refine RW.nil ?_
 subst hrec1
 exact ⟨n3, Nat.le_refl _, fun X h => kc (by kernel_rfl) rfl (h I1 (IntKind.i64.wrap (x3 + 1)) y1 cl5 _ hf s kk hn3 rp4)⟩
 have hf := iteF h5 hf
 refine WPK.condF (Eq.trans (b := .bool (decide (x3 < p2))) (by kernel_rfl) (bo_f h5)) ?_
 refine WPK.exit (blockQ.same ?_)
 refine WPK.seq ?_
 refine WPK.region ?_
 refine RW.seg hT 2 [] [] [.slice (some ⟨b1, 0, none⟩) x1.length x1.length, .slice (some ⟨b1, 0, none⟩) x1.length x1.length] [] (by kernel_rfl) (trivial) ?_
 refine RW.nil ?_
 refine WPK.ret (?_)
 obtain rfl := someS hf
 refine Fin.of (rs := [.tmp 6]) hT [] (.slice (some ⟨b1, 0, none⟩) x1.length x1.length) [] rfl (by kernel_rfl) (trivial) ?_
 exact fun X h => vc rfl (h I1 (some ⟨b1, 0, none⟩) x1.length x1.length cl4 _ s kk hn2 rp3)
theorem c68 {w1 w : World} {M I : Nat → Prop} {F : List It} (p0 : (List Int)) (p1 : Int) (A1 : Option Addr) (u1 : Nat) (hc1 : (p0.length ≤ u1 ∧ u1 ≤ 9223372036854775807)) (e1 : Elems (Rp.int .u8) I w A1 p0) (s : St w1 M I (F) w) {r : (List Int)} (hf : g68 p0 p1 = some r) :
   Ret Try.prog 68 [.slice A1 p0.length u1, .int .u16 p1] w fun v wz => ∀ X : Value → World → Prop, (∀ (I' : Nat → Prop) (A2 : Option Addr) (n1 : Nat) (u2 : Nat) (cl1 : List Value) (w' : World), St w1 M I' ((.sl (.slice A2 n1 u2) 5 1 n1 cl1) :: F) w' → Kp I w I' w' → n1 = r.length → RepL (Rp.int .u8) I' w' cl1 r → X (.slice A2 n1 u2) w') → X v wz := by
 have kk : Kp I w I w := Kp.refl
 unfold g68 at hf
 refine Ret.of Try.func68 rfl ?_
 refine WPK.seq ?_
 refine WPK.region ?_
 refine RW.seg hT 1 [] [] [.slice none 0 0] [] (by kernel_rfl) (trivial) ?_
 refine RW.nil ?_
 refine WPK.seq ?_
 refine WPK.region ?_
 refine RW.seg hT 3 [undef] [] [.slice A1 p0.length u1, .int .u16 p1, .int .u64 (IntKind.u64.wrap p1)] [] (by kernel_rfl) (trivial) ?_
 obtain ⟨x1, hx1, hf⟩ := bindS hf
 refine RW.op (by kernel_rfl) (OK.call' en97 (by kernel_rfl) (c97 (F := F) p0 (IntKind.u64.wrap p1) 2 A1 u1 hc1 e1 s hx1) ?_)
 intro X1 hX1
 refine fun _ _ hJ => hJ X1 ?_
 clear s
 intro I1 A3 n2 u3 cl2 w2 s k1 hn1 rp1
 refine hX1 _ _ ?_
 replace e1 := e1.st k1
 replace kk := kk.trans k1
 refine RW.seg hT 1 [] [] [.slice A3 n2 u3] [] (by kernel_rfl) (trivial) ?_
 refine RW.nil ?_
 refine WPK.ret (?_)
 obtain rfl := someS hf
 refine Fin.of (rs := [.tmp 4]) hT [] (.slice A3 n2 u3) [] rfl (by kernel_rfl) (trivial) ?_
 exact fun X h => vc rfl (h I1 A3 n2 u3 cl2 _ s kk hn1 rp1)
end Go.Proofs.Ytefjbhogpgihaaa
