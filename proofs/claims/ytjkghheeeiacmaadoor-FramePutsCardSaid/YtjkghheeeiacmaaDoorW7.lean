/- PRINTED BY sy.py: each call computes what the plain function of its number tells. -/
import Derived.Test.YtjkghheeeiacmaaDoorW6
namespace Go.Proofs.YtjkghheeeiacmaaDoor
open Go Go.SX Go.RowKit
set_option maxRecDepth 100000
set_option linter.unusedVariables false
attribute [local irreducible] WPK RW RD Ret SX.Fin SX.Any opK RoundBeg RoundEnd RangeEnd Rounds
theorem c54 {w0 w : World} {M I : Nat → Prop} {F : List It} (p0 : (List Int)) (p1 : Int) (A59070 : Option Addr) (c59071 : Nat) (hc59072 : (p0.length ≤ c59071 ∧ c59071 ≤ 9223372036854775807)) (e59073 : Elems (Rp.int .u8) I w A59070 p0) (s : St w0 M I (F) w) {r : (List Int)} (hf : g54 p0 p1 = some r) :
    Ret Tryd.prog 54 [.slice A59070 p0.length c59071, .int .u8 p1] w fun v wz => ∀ X : Value → World → Prop, (∀ (I' : Nat → Prop) (A59386 : Option Addr) (c59387 : Nat) (w' : World), St w0 M I' (F) w' → Kp I w I' w' → (r.length ≤ c59387 ∧ c59387 ≤ 9223372036854775807) → Elems (Rp.int .u8) I' w' A59386 r → X (.slice A59386 r.length c59387) w') → X v wz := by
  have kk : Kp I w I w := Kp.refl
  unfold g54 at hf
  refine Ret.of Tryd.func54 rfl ?_
  refine WPK.seq ?_
  refine WPK.region ?_
  refine RW.seg hT 1 [] [] [.slice none 0 0] [] (by kernel_rfl) (trivial) ?_
  refine RW.nil ?_
  refine WPK.seq ?_
  refine WPK.block ?_
  refine WPK.loop' (J := fun n59334 E ds wz => ∀ X : Kont, (∀ (x59280 : (List Int)) (D59279 : List Value) (A59281 : Option Addr) (c59282 : Nat), g54_l1 p1 n59334 x59280 = some r → (x59280.length ≤ c59282 ∧ c59282 ≤ 9223372036854775807) → Elems (Rp.int .u8) I w A59281 x59280 → X [.slice A59281 x59280.length c59282, .int .u8 p1, (D59279.getD 0 undef), (D59279.getD 1 undef), .slice none 0 0, (D59279.getD 2 undef), (D59279.getD 3 undef), (D59279.getD 4 undef), (D59279.getD 5 undef), (D59279.getD 6 undef), (D59279.getD 7 undef), (D59279.getD 8 undef), (D59279.getD 9 undef), (D59279.getD 10 undef), (D59279.getD 11 undef), (D59279.getD 12 undef), (D59279.getD 13 undef), (D59279.getD 14 undef), (D59279.getD 15 undef), (D59279.getD 16 undef), (D59279.getD 17 undef), (D59279.getD 18 undef), (D59279.getD 19 undef), undef] [] w) → X E ds wz) FUEL (fun X h => kc (by kernel_rfl) rfl (h p0 [undef, undef, undef, undef, undef, undef, undef, undef, undef, undef, undef, undef, undef, undef, undef, undef, undef, undef, undef, undef] A59070 c59071 hf hc59072 e59073)) (fun _ _ _ hJ => hJ (fun _ _ _ => False) (by intro x59280 D59279 A59281 c59282 hf hc59283 e59284; exact noneS hf)) ?_
  intro X59384 hX59385
  refine fun n59334 _ _ _ hJ => hJ (X59384 n59334) ?_
  intro x59280 D59279 A59281 c59282 hf hc59283 e59284
  refine hX59385 _ _ _ _ ?_
  replace hf : g54_l1B p1 (g54_l1 p1 n59334) x59280 = some r := hf
  generalize hrec59335 : g54_l1 p1 n59334 = rec59333 at hf
  unfold g54_l1B at hf
  refine WPK.seq ?_
  refine WPK.seq ?_
  refine WPK.region ?_
  refine RW.seg hT 3 [] [] [.slice A59281 x59280.length c59282, .int .i64 (x59280.length : Int), .bool (decide ((x59280.length : Int) > 0))] [] (by kernel_rfl) (trivial) ?_
  by_cases h59364 : (x59280.length : Int) > 0
  · have hf := iteT h59364 hf
    obtain ⟨x59365, hx59366, hf⟩ := bindS hf
    obtain ⟨h59367, hx59366⟩ := getS hx59366
    obtain ⟨b59368, o59369, rfl⟩ := Elems.opn e59284 hx59366
    obtain ⟨cs59370, hr59371, ha59372⟩ := Elems.get e59284 hx59366
    obtain rfl : cs59370 = [.int .u8 x59365] := hr59371
    refine RW.seg hT 10 [.int .u8 x59365] [(8, .bool true), (16, .bool (decide (x59365 = p1)))] [.bool true, .slice (some ⟨b59368, o59369, none⟩) x59280.length c59282, .slice (some ⟨b59368, o59369, none⟩) x59280.length c59282, .int .i64 (x59280.length : Int), .int .i64 (IntKind.i64.wrap ((x59280.length : Int) - 1)), .pointer (some ⟨b59368, o59369 + (IntKind.i64.wrap ((x59280.length : Int) - 1)).toNat * 1, none⟩), .int .u8 x59365, .int .u8 p1, .bool (decide (x59365 = p1)), .bool (decide (x59365 = p1))] [.veq (.bool (decide ((x59280.length : Int) > 0))) (.bool true), .idx (IntKind.i64.wrap ((x59280.length : Int) - 1)) x59280.length, .cell ⟨b59368, o59369 + (IntKind.i64.wrap ((x59280.length : Int) - 1)).toNat * 1, none⟩ (.int .u8 x59365), .veq (.bool (x59365 == p1)) (.bool (decide (x59365 = p1)))] (by kernel_rfl) (⟨bo_t h59364, h59367, ha59372 0 _ rfl, eq_v⟩) ?_
    refine RW.nil ?_
    by_cases h59373 : x59365 = p1
    · have hf := iteT h59373 hf
      refine WPK.condT (Eq.trans (b := .bool (decide (x59365 = p1))) (by kernel_rfl) (bo_t h59373)) ?_
      refine WPK.skip ?_
      refine WPK.block ?_
      refine WPK.region ?_
      obtain ⟨y59374, hy59375, hf⟩ := bindS hf
      obtain ⟨h59378, hc59379, e59380, q59381⟩ := slS0 hc59283 e59284 hy59375
      refine RW.seg hT 6 [] [(22, .slice (some ⟨b59368, o59369, none⟩) y59374.length c59282)] [.slice (some ⟨b59368, o59369, none⟩) x59280.length c59282, .slice (some ⟨b59368, o59369, none⟩) x59280.length c59282, .int .i64 (x59280.length : Int), .int .i64 (IntKind.i64.wrap ((x59280.length : Int) - 1)), .slice (some ⟨b59368, o59369, none⟩) y59374.length c59282, .slice (some ⟨b59368, o59369, none⟩) y59374.length c59282] [.both (.cut 0 (IntKind.i64.wrap ((x59280.length : Int) - 1)) c59282 c59282) (.veq (.slice (some ⟨b59368, o59369, none⟩) (IntKind.i64.wrap ((x59280.length : Int) - 1)).toNat c59282) (.slice (some ⟨b59368, o59369, none⟩) y59374.length c59282))] (by kernel_rfl) (⟨⟨by omega, by omega, by omega, by omega⟩, sl_eq rfl q59381 rfl⟩) ?_
      refine RW.nil ?_
      subst hrec59335
      exact ⟨n59334, Nat.le_refl _, fun X h => kc (by kernel_rfl) rfl (h y59374 [(D59279.getD 0 undef), (D59279.getD 1 undef), .slice (some ⟨b59368, o59369, none⟩) x59280.length c59282, .int .i64 (x59280.length : Int), .bool (decide ((x59280.length : Int) > 0)), .bool true, .slice (some ⟨b59368, o59369, none⟩) x59280.length c59282, .slice (some ⟨b59368, o59369, none⟩) x59280.length c59282, .int .i64 (x59280.length : Int), .int .i64 (IntKind.i64.wrap ((x59280.length : Int) - 1)), .pointer (some ⟨b59368, o59369 + (IntKind.i64.wrap ((x59280.length : Int) - 1)).toNat * 1, none⟩), .int .u8 x59365, .int .u8 p1, .bool (decide (x59365 = p1)), .bool (decide (x59365 = p1)), .slice (some ⟨b59368, o59369, none⟩) x59280.length c59282, .slice (some ⟨b59368, o59369, none⟩) x59280.length c59282, .int .i64 (x59280.length : Int), .int .i64 (IntKind.i64.wrap ((x59280.length : Int) - 1)), .slice (some ⟨b59368, o59369, none⟩) y59374.length c59282] (some ⟨b59368, o59369, none⟩) c59282 hf hc59379 e59380)⟩
    · have hf := iteF h59373 hf
      refine WPK.condF (Eq.trans (b := .bool (decide (x59365 = p1))) (by kernel_rfl) (bo_f h59373)) ?_
      refine WPK.exit (blockQ.same ?_)
      refine WPK.seq ?_
      refine WPK.region ?_
      refine RW.seg hT 2 [] [] [.slice (some ⟨b59368, o59369, none⟩) x59280.length c59282, .slice (some ⟨b59368, o59369, none⟩) x59280.length c59282] [] (by kernel_rfl) (trivial) ?_
      refine RW.nil ?_
      refine WPK.ret (?_)
      obtain rfl := someS hf
      refine Fin.of (rs := [.tmp 4]) hT [] (.slice (some ⟨b59368, o59369, none⟩) x59280.length c59282) [] rfl (by kernel_rfl) (trivial) ?_
      exact fun X h => vc rfl (h I (some ⟨b59368, o59369, none⟩) c59282 _ s kk hc59283 e59284)
  · have hf := iteF h59364 hf
    refine RW.seg hT 10 [] [(8, .bool false)] [.bool false, undef, undef, undef, undef, undef, undef, undef, undef, .bool false] [.veq (.bool (decide ((x59280.length : Int) > 0))) (.bool false)] (by kernel_rfl) (bo_f h59364) ?_
    refine RW.nil ?_
    refine WPK.condF (by kernel_rfl) ?_
    refine WPK.exit (blockQ.same ?_)
    refine WPK.seq ?_
    refine WPK.region ?_
    refine RW.seg hT 2 [] [] [.slice A59281 x59280.length c59282, .slice A59281 x59280.length c59282] [] (by kernel_rfl) (trivial) ?_
    refine RW.nil ?_
    refine WPK.ret (?_)
    obtain rfl := someS hf
    refine Fin.of (rs := [.tmp 4]) hT [] (.slice A59281 x59280.length c59282) [] rfl (by kernel_rfl) (trivial) ?_
    exact fun X h => vc rfl (h I A59281 c59282 _ s kk hc59283 e59284)
theorem c31 {w0 w : World} {M I : Nat → Prop} {F : List It} (p0 : (List Int)) (A59474 : Option Addr) (c59475 : Nat) (hc59476 : (p0.length ≤ c59475 ∧ c59475 ≤ 9223372036854775807)) (e59477 : Elems (Rp.int .u8) I w A59474 p0) (s : St w0 M I (F) w) {r : (List Int)} (hf : g31 p0 = some r) :
    Ret Tryd.prog 31 [.slice A59474 p0.length c59475] w fun v wz => ∀ X : Value → World → Prop, (∀ (I' : Nat → Prop) (A59542 : Option Addr) (c59543 : Nat) (w' : World), St w0 M I' (F) w' → Kp I w I' w' → (r.length ≤ c59543 ∧ c59543 ≤ 9223372036854775807) → Elems (Rp.int .u8) I' w' A59542 r → X (.slice A59542 r.length c59543) w') → X v wz := by
  have kk : Kp I w I w := Kp.refl
  unfold g31 at hf
  refine Ret.of Tryd.func31 rfl ?_
  refine WPK.seq ?_
  refine WPK.region ?_
  refine RW.seg hT 1 [] [] [.slice none 0 0] [] (by kernel_rfl) (trivial) ?_
  refine RW.nil ?_
  refine WPK.seq ?_
  refine WPK.region ?_
  refine RW.seg hT 1 [] [] [.slice A59474 p0.length c59475] [] (by kernel_rfl) (trivial) ?_
  refine RW.op (by kernel_rfl) (OK.inl (args := [.slice A59474 p0.length c59475, .string (⟨#[0]⟩ : ByteArray)]) en45 (by kernel_rfl) ?_)
  intro R59478 hR59479
  refine Ret.of Tryd.func45 rfl ?_
  refine WPK.seq ?_
  refine WPK.region ?_
  refine RW.seg hT 1 [] [] [.slice none 0 0] [] (by kernel_rfl) (trivial) ?_
  refine RW.nil ?_
  refine WPK.seq ?_
  refine WPK.seq ?_
  refine WPK.cut' (Kn fun E ds wz => ∀ X : Kont, (∀ (x59515 : Bool) (D59514 : List Value), g31_j1 p0 x59515 = some r → X [.slice A59474 p0.length c59475, .string (⟨#[0]⟩ : ByteArray), (D59514.getD 0 undef), (D59514.getD 1 undef), .slice none 0 0, undef, undef, (D59514.getD 2 undef), (D59514.getD 3 undef), (D59514.getD 4 undef), (D59514.getD 5 undef), (D59514.getD 6 undef), (D59514.getD 7 undef), .bool x59515, undef, (D59514.getD 8 undef), undef, undef, undef, undef, undef, undef, undef, (D59514.getD 9 undef), undef, (D59514.getD 10 undef), undef, undef, (D59514.getD 11 undef), undef, undef, undef, undef, (D59514.getD 12 undef), undef, (D59514.getD 13 undef), (D59514.getD 14 undef), undef] [] w) → X E ds wz) ?_ ?_
  · intro X59539 hX59540
    refine fun _ _ _ hJ => hJ X59539 ?_
    intro x59515 D59514 hf
    refine hX59540 _ _ _ ?_
    unfold g31_j1 at hf
    by_cases h59516 : x59515 = true
    · have hf := iteT h59516 hf
      refine WPK.condT (Eq.trans (b := .bool x59515) (by kernel_rfl) (b_t h59516)) ?_
      refine WPK.seq ?_
      refine WPK.region ?_
      refine RW.seg hT 2 [] [] [.slice A59474 p0.length c59475, .slice A59474 p0.length c59475] [] (by kernel_rfl) (trivial) ?_
      refine RW.nil ?_
      refine WPK.ret (?_)
      refine Fin.of (rs := [.tmp 4]) hT [] (.slice A59474 p0.length c59475) [] rfl (by kernel_rfl) (trivial) ?_
      refine hR59479 _ _ ?_
      refine RW.seg hT 1 [] [] [.slice A59474 p0.length c59475] [] (by kernel_rfl) (trivial) ?_
      refine RW.nil ?_
      refine WPK.ret (?_)
      obtain rfl := someS hf
      refine Fin.of (rs := [.tmp 2]) hT [] (.slice A59474 p0.length c59475) [] rfl (by kernel_rfl) (trivial) ?_
      exact fun X h => vc rfl (h I A59474 c59475 _ s kk hc59476 e59477)
    · have hf := iteF h59516 hf
      refine WPK.condF (Eq.trans (b := .bool x59515) (by kernel_rfl) (b_f h59516)) ?_
      refine WPK.skip ?_
      refine WPK.seq ?_
      refine WPK.seq ?_
      refine WPK.region ?_
      refine RW.seg hT 8 [] [] [.string (⟨#[0]⟩ : ByteArray), .int .i64 1, .bool true, .bool true, .string (⟨#[0]⟩ : ByteArray), .int .u8 0, .bool true, .bool true] [.idx 0 (⟨#[0]⟩ : ByteArray).size] (by kernel_rfl) (⟨by decide, by decide⟩) ?_
      refine RW.nil ?_
      refine WPK.condT (by kernel_rfl) ?_
      refine WPK.seq ?_
      refine WPK.region ?_
      refine RW.seg hT 3 [] [] [.slice A59474 p0.length c59475, .string (⟨#[0]⟩ : ByteArray), .int .u8 0] [.idx 0 (⟨#[0]⟩ : ByteArray).size] (by kernel_rfl) (⟨by decide, by decide⟩) ?_
      obtain ⟨x59528, hx59529, hf⟩ := bindS hf
      refine RW.op (by kernel_rfl) (OK.call' en54 (by kernel_rfl) (c54 (F := F) p0 0 A59474 c59475 hc59476 e59477 s hx59529) ?_)
      intro X59532 hX59533
      refine fun _ _ hJ => hJ X59532 ?_
      intro I59534 A59535 c59536 w59530 s k59531 hc59537 e59538
      refine hX59533 _ _ ?_
      replace e59477 := e59477.st k59531
      replace kk := kk.trans k59531
      refine RW.seg hT 1 [] [] [.slice A59535 x59528.length c59536] [] (by kernel_rfl) (trivial) ?_
      refine RW.nil ?_
      refine WPK.ret (?_)
      refine Fin.of (rs := [.tmp 4]) hT [] (.slice A59535 x59528.length c59536) [] rfl (by kernel_rfl) (trivial) ?_
      refine hR59479 _ _ ?_
      refine RW.seg hT 1 [] [] [.slice A59535 x59528.length c59536] [] (by kernel_rfl) (trivial) ?_
      refine RW.nil ?_
      refine WPK.ret (?_)
      obtain rfl := someS hf
      refine Fin.of (rs := [.tmp 2]) hT [] (.slice A59535 x59528.length c59536) [] rfl (by kernel_rfl) (trivial) ?_
      exact fun X h => vc rfl (h I59534 A59535 c59536 _ s kk hc59537 e59538)
  · refine WPK.region ?_
    refine RW.seg hT 3 [] [(9, .bool (decide ((p0.length : Int) = 0)))] [.slice A59474 p0.length c59475, .int .i64 (p0.length : Int), .bool (decide ((p0.length : Int) = 0))] [.veq (.bool ((p0.length : Int) == 0)) (.bool (decide ((p0.length : Int) = 0)))] (by kernel_rfl) (eq_v) ?_
    by_cases h59541 : (p0.length : Int) = 0
    · have hf := iteT h59541 hf
      refine RW.seg hT 4 [] [(10, .bool true)] [.bool true, undef, undef, .bool true] [.veq (.bool (decide ((p0.length : Int) = 0))) (.bool true)] (by kernel_rfl) (bo_t h59541) ?_
      refine RW.nil ?_
      exact fun X h => kc (by kernel_rfl) rfl (h true [undef, undef, .slice A59474 p0.length c59475, .int .i64 (p0.length : Int), .bool (decide ((p0.length : Int) = 0)), .bool true, undef, undef, undef, undef, undef, undef, undef, undef, undef] hf)
    · have hf := iteF h59541 hf
      refine RW.seg hT 4 [] [(10, .bool false)] [.bool false, .string (⟨#[0]⟩ : ByteArray), .bool false, .bool false] [.veq (.bool (decide ((p0.length : Int) = 0))) (.bool false)] (by kernel_rfl) (bo_f h59541) ?_
      refine RW.nil ?_
      exact fun X h => kc (by kernel_rfl) rfl (h false [undef, undef, .slice A59474 p0.length c59475, .int .i64 (p0.length : Int), .bool (decide ((p0.length : Int) = 0)), .bool false, .string (⟨#[0]⟩ : ByteArray), .bool false, undef, undef, undef, undef, undef, undef, undef] hf)
theorem c19 {w0 w : World} {M I : Nat → Prop} {F : List It} (p0 : T_api_Frame) (p1 : T_api_Frame) (A59618 : Option Addr) (c59619 : Nat) (A59622 : Option Addr) (c59623 : Nat) (hc59620 : (p0.Data.length ≤ c59619 ∧ c59619 ≤ 9223372036854775807)) (e59621 : Elems (Rp.int .u8) I w A59618 p0.Data) (hc59624 : (p1.Data.length ≤ c59623 ∧ c59623 ≤ 9223372036854775807)) (e59625 : Elems (Rp.int .u8) I w A59622 p1.Data) (s : St w0 M I (F) w) {r : Bool} (hf : g19 p0 p1 = some r) :
    Ret Tryd.prog 19 [.agg #[.int .i64 p0.Kind, .int .i64 p0.Page, .int .u64 p0.Epoch, .slice A59618 p0.Data.length c59619], .agg #[.int .i64 p1.Kind, .int .i64 p1.Page, .int .u64 p1.Epoch, .slice A59622 p1.Data.length c59623]] w fun v wz => ∀ X : Value → World → Prop, (∀ (I' : Nat → Prop) (w' : World), St w0 M I' (F) w' → Kp I w I' w' → X (.bool r) w') → X v wz := by
  have kk : Kp I w I w := Kp.refl
  unfold g19 at hf
  refine Ret.of Tryd.func19 rfl ?_
  refine WPK.seq ?_
  refine WPK.region ?_
  refine RW.op (by kernel_rfl) (OK.new hT (f := fun b => .pointer (some ⟨b, 0, none⟩)) (cs := [.int .i64 p0.Kind, .int .i64 p0.Page, .int .u64 p0.Epoch, .slice A59618 p0.Data.length c59619]) (e := 25) (c := .tt) s (by kernel_rfl) trivial ?_)
  rintro w59626 b59627 s k59628 -
  replace e59621 := e59621.st k59628
  replace e59625 := e59625.st k59628
  replace kk := kk.trans k59628
  refine RW.op (by kernel_rfl) (OK.new hT (f := fun b => .pointer (some ⟨b, 0, none⟩)) (cs := [.int .i64 p1.Kind, .int .i64 p1.Page, .int .u64 p1.Epoch, .slice A59622 p1.Data.length c59623]) (e := 25) (c := .tt) s (by kernel_rfl) trivial ?_)
  rintro w59629 b59630 s k59631 -
  replace e59621 := e59621.st k59631
  replace e59625 := e59625.st k59631
  replace kk := kk.trans k59631
  refine RW.seg hT 1 [] [] [.bool false] [] (by kernel_rfl) (trivial) ?_
  refine RW.nil ?_
  refine WPK.seq ?_
  refine WPK.cut' (Kn fun E ds wz => ∀ X : Kont, (∀ (I59672 : Nat → Prop) (x59670 : Bool) (D59669 : List Value) (w' : World), g19_j1 x59670 = some r → St w0 M I59672 (F) w' → Kp I w I59672 w' → X [(D59669.getD 0 undef), (D59669.getD 1 undef), (D59669.getD 2 undef), (D59669.getD 3 undef), .bool x59670, (D59669.getD 4 undef), (D59669.getD 5 undef), (D59669.getD 6 undef), (D59669.getD 7 undef), (D59669.getD 8 undef), (D59669.getD 9 undef), (D59669.getD 10 undef), (D59669.getD 11 undef), (D59669.getD 12 undef), (D59669.getD 13 undef), (D59669.getD 14 undef), (D59669.getD 15 undef), (D59669.getD 16 undef), (D59669.getD 17 undef), (D59669.getD 18 undef), (D59669.getD 19 undef), (D59669.getD 20 undef), (D59669.getD 21 undef), (D59669.getD 22 undef), (D59669.getD 23 undef), (D59669.getD 24 undef), (D59669.getD 25 undef), (D59669.getD 26 undef), (D59669.getD 27 undef), (D59669.getD 28 undef), (D59669.getD 29 undef), (D59669.getD 30 undef), (D59669.getD 31 undef)] [] w') → X E ds wz) ?_ ?_
  · intro X59673 hX59674
    refine fun _ _ _ hJ => hJ X59673 ?_
    intro I59672 x59670 D59669 w59671 hf s kk
    refine hX59674 _ _ _ ?_
    unfold g19_j1 at hf
    refine WPK.ret (?_)
    obtain rfl := someS hf
    refine Fin.of (rs := [.tmp 4]) hT [] (.bool x59670) [] rfl (by kernel_rfl) (trivial) ?_
    exact fun X h => vc rfl (h I59672 _ s kk)
  · have e59621S59675 := e59621
    have e59625S59675 := e59625
    have kS59679 : Kp I w59629 I w59629 := Kp.refl
    refine WPK.draw (fun w' => ∃ I' : Nat → Prop, St w0 M I' ((.blk b59630 (.cells #[.int .i64 p1.Kind, .int .i64 p1.Page, .int .u64 p1.Epoch, .slice A59622 p1.Data.length c59623] 25 (0, 0))) :: (.blk b59627 (.cells #[.int .i64 p0.Kind, .int .i64 p0.Page, .int .u64 p0.Epoch, .slice A59618 p0.Data.length c59619] 25 (0, 0))) :: F) w' ∧ Kp I w59629 I' w') 29 (by kernel_rfl) ?_
    intro w59676 hd59677
    have k59678 := Kp.dr s hd59677
    replace s := s.dr hd59677
    replace e59621 := e59621.st k59678
    replace e59625 := e59625.st k59678
    replace kk := kk.trans k59678
    replace kS59679 := kS59679.trans k59678
    refine RD.seg hT (by kernel_rfl) [0, 1, 2, 3, 4] [.int .i64 p0.Kind, .int .i64 p1.Kind] [(9, .bool (decide (p0.Kind = p1.Kind)))] [.pointer (some ⟨b59627, 0, none⟩), .int .i64 p0.Kind, .pointer (some ⟨b59630, 0, none⟩), .int .i64 p1.Kind, .bool (decide (p0.Kind = p1.Kind))] [.cell ⟨b59627, 0, none⟩ (.int .i64 p0.Kind), .cell ⟨b59630, 0, none⟩ (.int .i64 p1.Kind), .veq (.bool (p0.Kind == p1.Kind)) (.bool (decide (p0.Kind = p1.Kind)))] (by kernel_rfl) (by rintro w' ⟨I', s, k⟩; have e59621 := e59621S59675.st k; have e59625 := e59625S59675.st k; exact ⟨s.cell (i := 1) (off := 0) rfl rfl, s.cell (i := 0) (off := 0) rfl rfl, eq_v⟩) ⟨_, s.pick [0, 1] 2 rfl, kS59679⟩ ?_
    by_cases h59680 : p0.Kind = p1.Kind
    · have hf := iteT h59680 hf
      refine RD.seg hT (by kernel_rfl) [5, 6, 7, 8, 9, 10, 11] [.int .i64 p0.Page, .int .i64 p1.Page] [(10, .bool true), (15, .bool (decide (p0.Page = p1.Page)))] [.bool true, .pointer (some ⟨b59627, 1, none⟩), .int .i64 p0.Page, .pointer (some ⟨b59630, 1, none⟩), .int .i64 p1.Page, .bool (decide (p0.Page = p1.Page)), .bool (decide (p0.Page = p1.Page))] [.veq (.bool (decide (p0.Kind = p1.Kind))) (.bool true), .cell ⟨b59627, 1, none⟩ (.int .i64 p0.Page), .cell ⟨b59630, 1, none⟩ (.int .i64 p1.Page), .veq (.bool (p0.Page == p1.Page)) (.bool (decide (p0.Page = p1.Page)))] (by kernel_rfl) (by rintro w' ⟨I', s, k⟩; have e59621 := e59621S59675.st k; have e59625 := e59625S59675.st k; exact ⟨bo_t h59680, s.cell (i := 1) (off := 1) rfl rfl, s.cell (i := 0) (off := 1) rfl rfl, eq_v⟩) ⟨_, s.pick [0, 1] 2 rfl, kS59679⟩ ?_
      by_cases h59681 : p0.Page = p1.Page
      · have hf := iteT h59681 hf
        refine RD.seg hT (by kernel_rfl) [12, 13, 14, 15, 16, 17, 18] [.int .u64 p0.Epoch, .int .u64 p1.Epoch] [(17, .bool true), (22, .bool (decide (p0.Epoch = p1.Epoch)))] [.bool true, .pointer (some ⟨b59627, 2, none⟩), .int .u64 p0.Epoch, .pointer (some ⟨b59630, 2, none⟩), .int .u64 p1.Epoch, .bool (decide (p0.Epoch = p1.Epoch)), .bool (decide (p0.Epoch = p1.Epoch))] [.veq (.bool (decide (p0.Page = p1.Page))) (.bool true), .cell ⟨b59627, 2, none⟩ (.int .u64 p0.Epoch), .cell ⟨b59630, 2, none⟩ (.int .u64 p1.Epoch), .veq (.bool (p0.Epoch == p1.Epoch)) (.bool (decide (p0.Epoch = p1.Epoch)))] (by kernel_rfl) (by rintro w' ⟨I', s, k⟩; have e59621 := e59621S59675.st k; have e59625 := e59625S59675.st k; exact ⟨bo_t h59681, s.cell (i := 1) (off := 2) rfl rfl, s.cell (i := 0) (off := 2) rfl rfl, eq_v⟩) ⟨_, s.pick [0, 1] 2 rfl, kS59679⟩ ?_
        by_cases h59682 : p0.Epoch = p1.Epoch
        · have hf := iteT h59682 hf
          refine RD.seg hT (by kernel_rfl) [19, 20, 21, 23, 24] [.slice A59618 p0.Data.length c59619, .slice A59622 p1.Data.length c59623] [(24, .bool true)] [.bool true, .pointer (some ⟨b59627, 3, none⟩), .slice A59618 p0.Data.length c59619, .pointer (some ⟨b59630, 3, none⟩), .slice A59622 p1.Data.length c59623] [.veq (.bool (decide (p0.Epoch = p1.Epoch))) (.bool true), .cell ⟨b59627, 3, none⟩ (.slice A59618 p0.Data.length c59619), .cell ⟨b59630, 3, none⟩ (.slice A59622 p1.Data.length c59623)] (by kernel_rfl) (by rintro w' ⟨I', s, k⟩; have e59621 := e59621S59675.st k; have e59625 := e59625S59675.st k; exact ⟨bo_t h59682, s.cell (i := 1) (off := 3) rfl rfl, s.cell (i := 0) (off := 3) rfl rfl⟩) ⟨_, s.pick [0, 1] 2 rfl, kS59679⟩ ?_
          obtain ⟨x59683, hx59684, hf⟩ := bindS hf
          refine RD.op (i := 22) rfl (by kernel_rfl) (by kernel_rfl) (OK.call' en31 (by kernel_rfl) (c31 (F := (.blk b59630 (.cells #[.int .i64 p1.Kind, .int .i64 p1.Page, .int .u64 p1.Epoch, .slice A59622 p1.Data.length c59623] 25 (0, 0))) :: (.blk b59627 (.cells #[.int .i64 p0.Kind, .int .i64 p0.Page, .int .u64 p0.Epoch, .slice A59618 p0.Data.length c59619] 25 (0, 0))) :: F) p0.Data A59618 c59619 hc59620 e59621 s hx59684) ?_)
          intro X59687 hX59688
          refine fun _ _ hJ => hJ X59687 ?_
          intro I59689 A59690 c59691 w59685 s k59686 hc59692 e59693
          refine hX59688 _ _ ?_
          replace e59621 := e59621.st k59686
          replace e59625 := e59625.st k59686
          replace kk := kk.trans k59686
          replace kS59679 := kS59679.trans k59686
          refine ⟨fun _ => ⟨_, s.pick [0, 1] 2 rfl, kS59679⟩, RD.fold ?_⟩
          obtain ⟨x59694, hx59695, hf⟩ := bindS hf
          refine RD.op (i := 25) rfl (by kernel_rfl) (by kernel_rfl) (OK.call' en31 (by kernel_rfl) (c31 (F := (.blk b59630 (.cells #[.int .i64 p1.Kind, .int .i64 p1.Page, .int .u64 p1.Epoch, .slice A59622 p1.Data.length c59623] 25 (0, 0))) :: (.blk b59627 (.cells #[.int .i64 p0.Kind, .int .i64 p0.Page, .int .u64 p0.Epoch, .slice A59618 p0.Data.length c59619] 25 (0, 0))) :: F) p1.Data A59622 c59623 hc59624 e59625 s hx59695) ?_)
          intro X59698 hX59699
          refine fun _ _ hJ => hJ X59698 ?_
          intro I59700 A59701 c59702 w59696 s k59697 hc59703 e59704
          refine hX59699 _ _ ?_
          replace e59621 := e59621.st k59697
          replace e59625 := e59625.st k59697
          replace e59693 := e59693.st k59697
          replace kk := kk.trans k59697
          replace kS59679 := kS59679.trans k59697
          refine ⟨fun _ => ⟨_, s.pick [0, 1] 2 rfl, kS59679⟩, RD.fold ?_⟩
          obtain ⟨x59705, hx59706, hf⟩ := bindS hf
          refine RD.op (i := 26) rfl (by kernel_rfl) (by kernel_rfl) (OK.call' en20 (by kernel_rfl) (c20 (F := (.blk b59630 (.cells #[.int .i64 p1.Kind, .int .i64 p1.Page, .int .u64 p1.Epoch, .slice A59622 p1.Data.length c59623] 25 (0, 0))) :: (.blk b59627 (.cells #[.int .i64 p0.Kind, .int .i64 p0.Page, .int .u64 p0.Epoch, .slice A59618 p0.Data.length c59619] 25 (0, 0))) :: F) x59683 x59694 A59690 c59691 A59701 c59702 hc59692 e59693 hc59703 e59704 s hx59706) ?_)
          intro X59709 hX59710
          refine fun _ _ hJ => hJ X59709 ?_
          intro I59711 w59707 s k59708
          refine hX59710 _ _ ?_
          replace e59621 := e59621.st k59708
          replace e59625 := e59625.st k59708
          replace e59693 := e59693.st k59708
          replace e59704 := e59704.st k59708
          replace kk := kk.trans k59708
          replace kS59679 := kS59679.trans k59708
          refine ⟨fun _ => ⟨_, s.pick [0, 1] 2 rfl, kS59679⟩, RD.fold ?_⟩
          refine RD.seg hT (by kernel_rfl) [27, 28] [] [] [.bool x59705, .bool x59705] [] (by kernel_rfl) (fun _ _ => trivial) ⟨_, s.pick [0, 1] 2 rfl, kS59679⟩ ?_
          refine RD.done (by kernel_rfl) ?_
          replace s := s.pick [] 2 rfl
          exact fun X h => kc (by kernel_rfl) rfl (h I59711 x59705 [.agg #[.int .i64 p0.Kind, .int .i64 p0.Page, .int .u64 p0.Epoch, .slice A59618 p0.Data.length c59619], .agg #[.int .i64 p1.Kind, .int .i64 p1.Page, .int .u64 p1.Epoch, .slice A59622 p1.Data.length c59623], .pointer (some ⟨b59627, 0, none⟩), .pointer (some ⟨b59630, 0, none⟩), .pointer (some ⟨b59627, 0, none⟩), .int .i64 p0.Kind, .pointer (some ⟨b59630, 0, none⟩), .int .i64 p1.Kind, .bool (decide (p0.Kind = p1.Kind)), .bool true, .pointer (some ⟨b59627, 1, none⟩), .int .i64 p0.Page, .pointer (some ⟨b59630, 1, none⟩), .int .i64 p1.Page, .bool (decide (p0.Page = p1.Page)), .bool (decide (p0.Page = p1.Page)), .bool true, .pointer (some ⟨b59627, 2, none⟩), .int .u64 p0.Epoch, .pointer (some ⟨b59630, 2, none⟩), .int .u64 p1.Epoch, .bool (decide (p0.Epoch = p1.Epoch)), .bool (decide (p0.Epoch = p1.Epoch)), .bool true, .pointer (some ⟨b59627, 3, none⟩), .slice A59618 p0.Data.length c59619, .slice A59690 x59683.length c59691, .pointer (some ⟨b59630, 3, none⟩), .slice A59622 p1.Data.length c59623, .slice A59701 x59694.length c59702, .bool x59705, .bool x59705] _ hf s kk)
        · have hf := iteF h59682 hf
          refine RD.seg hT (by kernel_rfl) [19, 20, 21, 23, 24] [] [(24, .bool false)] [.bool false, undef, undef, undef, undef] [.veq (.bool (decide (p0.Epoch = p1.Epoch))) (.bool false)] (by kernel_rfl) (by rintro w' ⟨I', s, k⟩; have e59621 := e59621S59675.st k; have e59625 := e59625S59675.st k; exact bo_f h59682) ⟨_, s.pick [0, 1] 2 rfl, kS59679⟩ ?_
          refine RD.skip (i := 22) rfl (by kernel_rfl) (by kernel_rfl) ?_
          refine ⟨fun _ => ⟨_, s.pick [0, 1] 2 rfl, kS59679⟩, ?_⟩
          refine RD.skip (i := 25) rfl (by kernel_rfl) (by kernel_rfl) ?_
          refine ⟨fun _ => ⟨_, s.pick [0, 1] 2 rfl, kS59679⟩, ?_⟩
          refine RD.skip (i := 26) rfl (by kernel_rfl) (by kernel_rfl) ?_
          refine ⟨fun _ => ⟨_, s.pick [0, 1] 2 rfl, kS59679⟩, ?_⟩
          refine RD.seg hT (by kernel_rfl) [27, 28] [] [] [.bool false, .bool false] [] (by kernel_rfl) (fun _ _ => trivial) ⟨_, s.pick [0, 1] 2 rfl, kS59679⟩ ?_
          refine RD.done (by kernel_rfl) ?_
          replace s := s.pick [] 2 rfl
          exact fun X h => kc (by kernel_rfl) rfl (h I false [.agg #[.int .i64 p0.Kind, .int .i64 p0.Page, .int .u64 p0.Epoch, .slice A59618 p0.Data.length c59619], .agg #[.int .i64 p1.Kind, .int .i64 p1.Page, .int .u64 p1.Epoch, .slice A59622 p1.Data.length c59623], .pointer (some ⟨b59627, 0, none⟩), .pointer (some ⟨b59630, 0, none⟩), .pointer (some ⟨b59627, 0, none⟩), .int .i64 p0.Kind, .pointer (some ⟨b59630, 0, none⟩), .int .i64 p1.Kind, .bool (decide (p0.Kind = p1.Kind)), .bool true, .pointer (some ⟨b59627, 1, none⟩), .int .i64 p0.Page, .pointer (some ⟨b59630, 1, none⟩), .int .i64 p1.Page, .bool (decide (p0.Page = p1.Page)), .bool (decide (p0.Page = p1.Page)), .bool true, .pointer (some ⟨b59627, 2, none⟩), .int .u64 p0.Epoch, .pointer (some ⟨b59630, 2, none⟩), .int .u64 p1.Epoch, .bool (decide (p0.Epoch = p1.Epoch)), .bool (decide (p0.Epoch = p1.Epoch)), .bool false, undef, undef, undef, undef, undef, undef, undef, .bool false] _ hf s kk)
      · have hf := iteF h59681 hf
        refine RD.seg hT (by kernel_rfl) [12, 13, 14, 15, 16, 17, 18, 19, 20, 21, 23, 24] [] [(17, .bool false)] [.bool false, undef, undef, undef, undef, undef, .bool false, .bool false, undef, undef, undef, undef] [.veq (.bool (decide (p0.Page = p1.Page))) (.bool false)] (by kernel_rfl) (by rintro w' ⟨I', s, k⟩; have e59621 := e59621S59675.st k; have e59625 := e59625S59675.st k; exact bo_f h59681) ⟨_, s.pick [0, 1] 2 rfl, kS59679⟩ ?_
        refine RD.skip (i := 22) rfl (by kernel_rfl) (by kernel_rfl) ?_
        refine ⟨fun _ => ⟨_, s.pick [0, 1] 2 rfl, kS59679⟩, ?_⟩
        refine RD.skip (i := 25) rfl (by kernel_rfl) (by kernel_rfl) ?_
        refine ⟨fun _ => ⟨_, s.pick [0, 1] 2 rfl, kS59679⟩, ?_⟩
        refine RD.skip (i := 26) rfl (by kernel_rfl) (by kernel_rfl) ?_
        refine ⟨fun _ => ⟨_, s.pick [0, 1] 2 rfl, kS59679⟩, ?_⟩
        refine RD.seg hT (by kernel_rfl) [27, 28] [] [] [.bool false, .bool false] [] (by kernel_rfl) (fun _ _ => trivial) ⟨_, s.pick [0, 1] 2 rfl, kS59679⟩ ?_
        refine RD.done (by kernel_rfl) ?_
        replace s := s.pick [] 2 rfl
        exact fun X h => kc (by kernel_rfl) rfl (h I false [.agg #[.int .i64 p0.Kind, .int .i64 p0.Page, .int .u64 p0.Epoch, .slice A59618 p0.Data.length c59619], .agg #[.int .i64 p1.Kind, .int .i64 p1.Page, .int .u64 p1.Epoch, .slice A59622 p1.Data.length c59623], .pointer (some ⟨b59627, 0, none⟩), .pointer (some ⟨b59630, 0, none⟩), .pointer (some ⟨b59627, 0, none⟩), .int .i64 p0.Kind, .pointer (some ⟨b59630, 0, none⟩), .int .i64 p1.Kind, .bool (decide (p0.Kind = p1.Kind)), .bool true, .pointer (some ⟨b59627, 1, none⟩), .int .i64 p0.Page, .pointer (some ⟨b59630, 1, none⟩), .int .i64 p1.Page, .bool (decide (p0.Page = p1.Page)), .bool (decide (p0.Page = p1.Page)), .bool false, undef, undef, undef, undef, undef, .bool false, .bool false, undef, undef, undef, undef, undef, undef, undef, .bool false] _ hf s kk)
    · have hf := iteF h59680 hf
      refine RD.seg hT (by kernel_rfl) [5, 6, 7, 8, 9, 10, 11, 12, 13, 14, 15, 16, 17, 18, 19, 20, 21, 23, 24] [] [(10, .bool false)] [.bool false, undef, undef, undef, undef, undef, .bool false, .bool false, undef, undef, undef, undef, undef, .bool false, .bool false, undef, undef, undef, undef] [.veq (.bool (decide (p0.Kind = p1.Kind))) (.bool false)] (by kernel_rfl) (by rintro w' ⟨I', s, k⟩; have e59621 := e59621S59675.st k; have e59625 := e59625S59675.st k; exact bo_f h59680) ⟨_, s.pick [0, 1] 2 rfl, kS59679⟩ ?_
      refine RD.skip (i := 22) rfl (by kernel_rfl) (by kernel_rfl) ?_
      refine ⟨fun _ => ⟨_, s.pick [0, 1] 2 rfl, kS59679⟩, ?_⟩
      refine RD.skip (i := 25) rfl (by kernel_rfl) (by kernel_rfl) ?_
      refine ⟨fun _ => ⟨_, s.pick [0, 1] 2 rfl, kS59679⟩, ?_⟩
      refine RD.skip (i := 26) rfl (by kernel_rfl) (by kernel_rfl) ?_
      refine ⟨fun _ => ⟨_, s.pick [0, 1] 2 rfl, kS59679⟩, ?_⟩
      refine RD.seg hT (by kernel_rfl) [27, 28] [] [] [.bool false, .bool false] [] (by kernel_rfl) (fun _ _ => trivial) ⟨_, s.pick [0, 1] 2 rfl, kS59679⟩ ?_
      refine RD.done (by kernel_rfl) ?_
      replace s := s.pick [] 2 rfl
      exact fun X h => kc (by kernel_rfl) rfl (h I false [.agg #[.int .i64 p0.Kind, .int .i64 p0.Page, .int .u64 p0.Epoch, .slice A59618 p0.Data.length c59619], .agg #[.int .i64 p1.Kind, .int .i64 p1.Page, .int .u64 p1.Epoch, .slice A59622 p1.Data.length c59623], .pointer (some ⟨b59627, 0, none⟩), .pointer (some ⟨b59630, 0, none⟩), .pointer (some ⟨b59627, 0, none⟩), .int .i64 p0.Kind, .pointer (some ⟨b59630, 0, none⟩), .int .i64 p1.Kind, .bool (decide (p0.Kind = p1.Kind)), .bool false, undef, undef, undef, undef, undef, .bool false, .bool false, undef, undef, undef, undef, undef, .bool false, .bool false, undef, undef, undef, undef, undef, undef, undef, .bool false] _ hf s kk)
theorem c6 {w0 w : World} {M I : Nat → Prop} {F : List It} (p0 : T_api_Frame) (p1 : (List Int)) (p2 : Int) (A65494 : Option Addr) (c65495 : Nat) (A65498 : Option Addr) (c65499 : Nat) (hc65496 : (p0.Data.length ≤ c65495 ∧ c65495 ≤ 9223372036854775807)) (e65497 : Elems (Rp.int .u8) I w A65494 p0.Data) (hc65500 : (p1.length ≤ c65499 ∧ c65499 ≤ 9223372036854775807)) (e65501 : Elems (Rp.int .u8) I w A65498 p1) (eg0 : Elems (Rp.int .u32) I w (some ⟨0, 0, none⟩) TAB0) (s : St w0 M I (F) w) {r : Bool} (hf : g6 p0 p1 p2 = some r) :
    Ret Tryd.prog 6 [.agg #[.int .i64 p0.Kind, .int .i64 p0.Page, .int .u64 p0.Epoch, .slice A65494 p0.Data.length c65495], .slice A65498 p1.length c65499, .int .i64 p2] w fun v wz => ∀ X : Value → World → Prop, (∀ (I' : Nat → Prop) (w' : World), St w0 M I' (F) w' → Kp I w I' w' → X (.bool r) w') → X v wz := by
  have kk : Kp I w I w := Kp.refl
  unfold g6 at hf
  refine Ret.of Tryd.func6 rfl ?_
  refine WPK.seq ?_
  refine WPK.region ?_
  refine RW.op (by kernel_rfl) (OK.new hT (f := fun b => .pointer (some ⟨b, 0, none⟩)) (cs := [.int .i64 p0.Kind, .int .i64 p0.Page, .int .u64 p0.Epoch, .slice A65494 p0.Data.length c65495]) (e := 25) (c := .tt) s (by kernel_rfl) trivial ?_)
  rintro w65502 b65503 s k65504 -
  replace e65497 := e65497.st k65504
  replace e65501 := e65501.st k65504
  replace eg0 := eg0.st k65504
  replace kk := kk.trans k65504
  refine RW.seg hT 1 [] [] [.bool false] [] (by kernel_rfl) (trivial) ?_
  refine RW.nil ?_
  refine WPK.seq ?_
  refine WPK.seq ?_
  refine WPK.cut' (Kn fun E ds wz => ∀ X : Kont, (∀ (I65611 : Nat → Prop) (x65609 : Bool) (D65608 : List Value) (w' : World), g6_j1 p0 p1 p2 x65609 = some r → St w0 M I65611 ((.blk b65503 (.cells #[.int .i64 p0.Kind, .int .i64 p0.Page, .int .u64 p0.Epoch, .slice A65494 p0.Data.length c65495] 25 (0, 0))) :: F) w' → Kp I w I65611 w' → Elems (Rp.int .u8) I65611 w' A65498 p1 → Elems (Rp.int .u8) I65611 w' A65494 p0.Data → Elems (Rp.int .u32) I65611 w' (some ⟨0, 0, none⟩) TAB0 → X [(D65608.getD 0 undef), .slice A65498 p1.length c65499, .int .i64 p2, .pointer (some ⟨b65503, 0, none⟩), (D65608.getD 1 undef), (D65608.getD 2 undef), .bool false, undef, undef, undef, undef, undef, undef, undef, (D65608.getD 3 undef), (D65608.getD 4 undef), (D65608.getD 5 undef), (D65608.getD 6 undef), (D65608.getD 7 undef), (D65608.getD 8 undef), (D65608.getD 9 undef), (D65608.getD 10 undef), (D65608.getD 11 undef), (D65608.getD 12 undef), (D65608.getD 13 undef), (D65608.getD 14 undef), .bool x65609, undef, undef, (D65608.getD 15 undef), undef, undef, undef, undef, undef, undef, (D65608.getD 16 undef), undef, (D65608.getD 17 undef), undef, undef, undef, undef, undef, undef, (D65608.getD 18 undef), (D65608.getD 19 undef), undef, undef, undef, undef, (D65608.getD 20 undef), undef, undef, undef, undef, undef, (D65608.getD 21 undef), undef, undef, undef, undef, (D65608.getD 22 undef), (D65608.getD 23 undef), undef, undef, undef, undef, undef, (D65608.getD 24 undef), (D65608.getD 25 undef), undef, undef, (D65608.getD 26 undef), undef, undef, undef, undef, undef, undef, (D65608.getD 27 undef), (D65608.getD 28 undef), undef, undef] [] w') → X E ds wz) ?_ ?_
  · intro X73281 hX73282
    refine fun _ _ _ hJ => hJ X73281 ?_
    intro I65611 x65609 D65608 w65610 hf s kk e65501 e65497 eg0
    refine hX73282 _ _ _ ?_
    unfold g6_j1 at hf
    by_cases h65612 : x65609 = true
    · have hf := iteT h65612 hf
      refine WPK.condT (Eq.trans (b := .bool x65609) (by kernel_rfl) (b_t h65612)) ?_
      refine WPK.seq ?_
      refine WPK.region ?_
      obtain ⟨x65613, hx65614, hf⟩ := bindS hf
      refine RW.op (by kernel_rfl) (OK.call' en9 (by kernel_rfl) (c9 (F := (.blk b65503 (.cells #[.int .i64 p0.Kind, .int .i64 p0.Page, .int .u64 p0.Epoch, .slice A65494 p0.Data.length c65495] 25 (0, 0))) :: F) eg0 s hx65614) ?_)
      intro X65617 hX65618
      refine fun _ _ hJ => hJ X65617 ?_
      intro I65619 w65615 s k65616
      refine hX65618 _ _ ?_
      replace e65501 := e65501.st k65616
      replace e65497 := e65497.st k65616
      replace eg0 := eg0.st k65616
      replace kk := kk.trans k65616
      refine RW.seg hT 1 [] [] [.bool x65613] [] (by kernel_rfl) (trivial) ?_
      refine RW.nil ?_
      refine WPK.ret (?_)
      obtain rfl := someS hf
      refine Fin.of (rs := [.tmp 6]) hT [] (.bool x65613) [] rfl (by kernel_rfl) (trivial) ?_
      replace s := s.pick [] 1 rfl
      exact fun X h => vc rfl (h I65619 _ s kk)
    · have hf := iteF h65612 hf
      refine WPK.condF (Eq.trans (b := .bool x65609) (by kernel_rfl) (b_f h65612)) ?_
      refine WPK.skip ?_
      refine WPK.seq ?_
      refine WPK.cut' (Kn fun E ds wz => ∀ X : Kont, (∀ (I69412 : Nat → Prop) (D69410 : List Value) (w' : World), g6_j2 p1 p2 = some r → St w0 M I69412 (F) w' → Kp I w I69412 w' → Elems (Rp.int .u8) I69412 w' A65498 p1 → Elems (Rp.int .u32) I69412 w' (some ⟨0, 0, none⟩) TAB0 → X [(D69410.getD 0 undef), .slice A65498 p1.length c65499, .int .i64 p2, (D69410.getD 1 undef), (D69410.getD 2 undef), (D69410.getD 3 undef), .bool false, (D69410.getD 4 undef), (D69410.getD 5 undef), (D69410.getD 6 undef), (D69410.getD 7 undef), undef, undef, undef, (D69410.getD 8 undef), (D69410.getD 9 undef), (D69410.getD 10 undef), (D69410.getD 11 undef), (D69410.getD 12 undef), (D69410.getD 13 undef), (D69410.getD 14 undef), (D69410.getD 15 undef), (D69410.getD 16 undef), (D69410.getD 17 undef), (D69410.getD 18 undef), (D69410.getD 19 undef), (D69410.getD 20 undef), (D69410.getD 21 undef), (D69410.getD 22 undef), (D69410.getD 23 undef), (D69410.getD 24 undef), (D69410.getD 25 undef), (D69410.getD 26 undef), (D69410.getD 27 undef), (D69410.getD 28 undef), (D69410.getD 29 undef), (D69410.getD 30 undef), (D69410.getD 31 undef), (D69410.getD 32 undef), (D69410.getD 33 undef), (D69410.getD 34 undef), (D69410.getD 35 undef), (D69410.getD 36 undef), (D69410.getD 37 undef), (D69410.getD 38 undef), (D69410.getD 39 undef), (D69410.getD 40 undef), (D69410.getD 41 undef), (D69410.getD 42 undef), (D69410.getD 43 undef), (D69410.getD 44 undef), (D69410.getD 45 undef), (D69410.getD 46 undef), (D69410.getD 47 undef), (D69410.getD 48 undef), (D69410.getD 49 undef), (D69410.getD 50 undef), (D69410.getD 51 undef), (D69410.getD 52 undef), (D69410.getD 53 undef), (D69410.getD 54 undef), undef, (D69410.getD 55 undef), (D69410.getD 56 undef), undef, undef, undef, undef, undef, (D69410.getD 57 undef), (D69410.getD 58 undef), undef, undef, (D69410.getD 59 undef), undef, undef, undef, undef, undef, undef, (D69410.getD 60 undef), (D69410.getD 61 undef), undef, undef] [] w') → X E ds wz) ?_ ?_
      · intro X69489 hX69490
        refine fun _ _ _ hJ => hJ X69489 ?_
        intro I69412 D69410 w69411 hf s kk e65501 eg0
        refine hX69490 _ _ _ ?_
        unfold g6_j2 at hf
        refine WPK.seq ?_
        refine WPK.region ?_
        refine RW.seg hT 2 [] [] [.slice A65498 p1.length c65499, .int .i64 p2] [] (by kernel_rfl) (trivial) ?_
        obtain ⟨x69413, hx69414, hf⟩ := bindS hf
        refine RW.op (by kernel_rfl) (OK.call' en8 (by kernel_rfl) (c8 (F := F) p1 p2 A65498 c65499 hc65500 e65501 eg0 s hx69414) ?_)
        intro X69417 hX69418
        refine fun _ _ hJ => hJ X69417 ?_
        intro I69419 A69420 c69421 w69415 s k69416 hc69422 e69423
        refine hX69418 _ _ ?_
        replace e65501 := e65501.st k69416
        replace eg0 := eg0.st k69416
        replace kk := kk.trans k69416
        refine RW.seg hT 3 [] [] [.tuple #[.agg #[.int .i64 x69413.1.Kind, .int .i64 x69413.1.Page, .int .u64 x69413.1.Epoch, .slice A69420 x69413.1.Data.length c69421], .int .i64 x69413.2], .agg #[.int .i64 x69413.1.Kind, .int .i64 x69413.1.Page, .int .u64 x69413.1.Epoch, .slice A69420 x69413.1.Data.length c69421], .int .i64 x69413.2] [] (by kernel_rfl) (trivial) ?_
        refine RW.op (by kernel_rfl) (OK.new hT (f := fun b => .pointer (some ⟨b, 0, none⟩)) (cs := [.int .i64 0, .int .i64 0, .int .u64 0, .slice none 0 0]) (e := 25) (c := .tt) s (by kernel_rfl) trivial ?_)
        rintro w69424 b69425 s k69426 -
        replace e65501 := e65501.st k69426
        replace e69423 := e69423.st k69426
        replace eg0 := eg0.st k69426
        replace kk := kk.trans k69426
        refine RW.op (by kernel_rfl) (OK.store hT (i := 0) (b := b69425) (off := 0) (n := 4) (vs := [.int .i64 x69413.1.Kind, .int .i64 x69413.1.Page, .int .u64 x69413.1.Epoch, .slice A69420 x69413.1.Data.length c69421]) (cs := [.int .i64 0, .int .i64 0, .int .u64 0, .slice none 0 0]) (e := 25) s (by kernel_rfl) rfl rfl (flat_ok rfl) (Nat.le_of_ble_eq_true rfl) ?_)
        rintro w69427 s k69428 -
        replace e65501 := e65501.st k69428
        replace e69423 := e69423.st k69428
        replace eg0 := eg0.st k69428
        replace kk := kk.trans k69428
        refine RW.seg hT 1 [] [] [.int .i64 x69413.2] [] (by kernel_rfl) (trivial) ?_
        refine RW.nil ?_
        refine WPK.seq ?_
        refine WPK.seq ?_
        refine WPK.region ?_
        refine RW.seg hT 2 [] [(68, .bool (decide (x69413.2 ≠ 0)))] [.int .i64 x69413.2, .bool (decide (x69413.2 ≠ 0))] [.veq (.bool (x69413.2 != 0)) (.bool (decide (x69413.2 ≠ 0)))] (by kernel_rfl) (ne_v) ?_
        refine RW.nil ?_
        by_cases h69437 : x69413.2 ≠ 0
        · have hf := iteT h69437 hf
          refine WPK.condT (Eq.trans (b := .bool (decide (x69413.2 ≠ 0))) (by kernel_rfl) (bo_t h69437)) ?_
          refine WPK.seq ?_
          refine WPK.region ?_
          refine RW.seg hT 2 [.agg #[.int .i64 x69413.1.Kind, .int .i64 x69413.1.Page, .int .u64 x69413.1.Epoch, .slice A69420 x69413.1.Data.length c69421]] [] [.agg #[.int .i64 x69413.1.Kind, .int .i64 x69413.1.Page, .int .u64 x69413.1.Epoch, .slice A69420 x69413.1.Data.length c69421], .agg #[.int .i64 0, .int .i64 0, .int .u64 0, .slice none 0 0]] [.cells ⟨b69425, 0, none⟩ [.int .i64 x69413.1.Kind, .int .i64 x69413.1.Page, .int .u64 x69413.1.Epoch, .slice A69420 x69413.1.Data.length c69421] 4] (by kernel_rfl) (s.cells (i := 0) rfl rfl rfl) ?_
          obtain ⟨x69438, hx69439, hf⟩ := bindS hf
          refine RW.op (by kernel_rfl) (OK.call' en12 (by kernel_rfl) (c12 (F := (.blk b69425 (.cells #[.int .i64 x69413.1.Kind, .int .i64 x69413.1.Page, .int .u64 x69413.1.Epoch, .slice A69420 x69413.1.Data.length c69421] 25 (0, 0))) :: F) x69413.1 (T_api_Frame.mk 0 0 0 []) A69420 c69421 none 0 hc69422 e69423 nil_hc Elems.nil s hx69439) ?_)
          intro X69442 hX69443
          refine fun _ _ hJ => hJ X69442 ?_
          intro I69444 w69440 s k69441
          refine hX69443 _ _ ?_
          replace e65501 := e65501.st k69441
          replace e69423 := e69423.st k69441
          replace eg0 := eg0.st k69441
          replace kk := kk.trans k69441
          refine RW.seg hT 1 [] [] [.bool x69438] [] (by kernel_rfl) (trivial) ?_
          refine RW.nil ?_
          refine WPK.ret (?_)
          obtain rfl := someS hf
          refine Fin.of (rs := [.tmp 6]) hT [] (.bool x69438) [] rfl (by kernel_rfl) (trivial) ?_
          replace s := s.pick [] 1 rfl
          exact fun X h => vc rfl (h I69444 _ s kk)
        · have hf := iteF h69437 hf
          refine WPK.condF (Eq.trans (b := .bool (decide (x69413.2 ≠ 0))) (by kernel_rfl) (bo_f h69437)) ?_
          refine WPK.skip ?_
          refine WPK.seq ?_
          refine WPK.region ?_
          refine RW.seg hT 1 [.agg #[.int .i64 x69413.1.Kind, .int .i64 x69413.1.Page, .int .u64 x69413.1.Epoch, .slice A69420 x69413.1.Data.length c69421]] [] [.agg #[.int .i64 x69413.1.Kind, .int .i64 x69413.1.Page, .int .u64 x69413.1.Epoch, .slice A69420 x69413.1.Data.length c69421]] [.cells ⟨b69425, 0, none⟩ [.int .i64 x69413.1.Kind, .int .i64 x69413.1.Page, .int .u64 x69413.1.Epoch, .slice A69420 x69413.1.Data.length c69421] 4] (by kernel_rfl) (s.cells (i := 0) rfl rfl rfl) ?_
          obtain ⟨x69445, hx69446, hf⟩ := bindS hf
          refine RW.op (by kernel_rfl) (OK.call' en11 (by kernel_rfl) (c11 (F := (.blk b69425 (.cells #[.int .i64 x69413.1.Kind, .int .i64 x69413.1.Page, .int .u64 x69413.1.Epoch, .slice A69420 x69413.1.Data.length c69421] 25 (0, 0))) :: F) x69413.1 A69420 c69421 hc69422 e69423 eg0 s hx69446) ?_)
          intro X69449 hX69450
          refine fun _ _ hJ => hJ X69449 ?_
          intro I69451 A69452 n69453 c69454 cl69455 w69447 s k69448 hn69456 rp69457
          refine hX69450 _ _ ?_
          replace e65501 := e65501.st k69448
          replace e69423 := e69423.st k69448
          replace eg0 := eg0.st k69448
          replace kk := kk.trans k69448
          refine RW.seg hT 5 [] [] [.tuple #[.slice A69452 n69453 c69454, .int .i64 x69445.2], .slice A69452 n69453 c69454, .int .i64 x69445.2, .slice A69452 n69453 c69454, .int .i64 x69445.2] [] (by kernel_rfl) (trivial) ?_
          refine RW.nil ?_
          refine WPK.seq ?_
          refine WPK.region ?_
          refine RW.seg hT 2 [] [(78, .bool (decide (x69445.2 = 0)))] [.int .i64 x69445.2, .bool (decide (x69445.2 = 0))] [.veq (.bool (x69445.2 == 0)) (.bool (decide (x69445.2 = 0)))] (by kernel_rfl) (eq_v) ?_
          by_cases h69474 : x69445.2 = 0
          · have hf := iteT h69474 hf
            refine RW.seg hT 3 [] [(79, .bool true)] [.bool true, .slice A69452 n69453 c69454, .slice A65498 p1.length c65499] [.veq (.bool (decide (x69445.2 = 0))) (.bool true)] (by kernel_rfl) (bo_t h69474) ?_
            have sa69475 := s
            obtain ⟨hc69476, e69477⟩ := St.lend s (i := 0) rfl hn69456 rp69457
            have k69478 := Kp.shut (I := I69451) (w := w69447) (p := .sl (.slice A69452 n69453 c69454) 49 1 n69453 cl69455)
            replace s := s.shut 0 rfl
            obtain ⟨x69479, hx69480, hf⟩ := bindS hf
            have hc69483 := c20 (F := (.blk b69425 (.cells #[.int .i64 x69413.1.Kind, .int .i64 x69413.1.Page, .int .u64 x69413.1.Epoch, .slice A69420 x69413.1.Data.length c69421] 25 (0, 0))) :: F) x69445.1 p1 A69452 c69454 A65498 c65499 hc69476 e69477 hc65500 (e65501.st k69478) s hx69480
            rw [← hn69456] at hc69483
            refine RW.op (by kernel_rfl) (OK.call' en20 (by kernel_rfl) (hc69483) ?_)
            intro X69484 hX69485
            refine fun _ _ hJ => hJ X69484 ?_
            intro I69486 w69481 s k69482
            refine hX69485 _ _ ?_
            have s' := St.back sa69475 (i := 0) rfl s k69482
            replace k69482 := Kp.back sa69475 (i := 0) rfl k69482
            replace s := s'; clear s'
            obtain ⟨I69488, s, k69482⟩ : ∃ I : Nat → Prop, St w0 M I ((.sl (.slice A69452 n69453 c69454) 49 1 n69453 cl69455) :: (.blk b69425 (.cells #[.int .i64 x69413.1.Kind, .int .i64 x69413.1.Page, .int .u64 x69413.1.Epoch, .slice A69420 x69413.1.Data.length c69421] 25 (0, 0))) :: F) w69481 ∧ Kp _ _ I _ := ⟨_, s, k69482⟩
            replace e65501 := e65501.st k69482
            replace e69423 := e69423.st k69482
            replace eg0 := eg0.st k69482
            replace rp69457 := rp69457.st k69482
            replace kk := kk.trans k69482
            refine RW.seg hT 2 [] [] [.bool x69479, .bool x69479] [] (by kernel_rfl) (trivial) ?_
            refine RW.nil ?_
            refine WPK.ret (?_)
            obtain rfl := someS hf
            refine Fin.of (rs := [.tmp 6]) hT [] (.bool x69479) [] rfl (by kernel_rfl) (trivial) ?_
            replace s := s.pick [] 2 rfl
            exact fun X h => vc rfl (h I69488 _ s kk)
          · have hf := iteF h69474 hf
            refine RW.seg hT 6 [] [(79, .bool false)] [.bool false, undef, undef, undef, .bool false, .bool false] [.veq (.bool (decide (x69445.2 = 0))) (.bool false)] (by kernel_rfl) (bo_f h69474) ?_
            refine RW.nil ?_
            refine WPK.ret (?_)
            obtain rfl := someS hf
            refine Fin.of (rs := [.tmp 6]) hT [] (.bool false) [] rfl (by kernel_rfl) (trivial) ?_
            replace s := s.pick [] 2 rfl
            exact fun X h => vc rfl (h I69451 _ s kk)
      · refine WPK.seq ?_
        refine WPK.region ?_
        refine RW.seg hT 1 [.agg #[.int .i64 p0.Kind, .int .i64 p0.Page, .int .u64 p0.Epoch, .slice A65494 p0.Data.length c65495]] [] [.agg #[.int .i64 p0.Kind, .int .i64 p0.Page, .int .u64 p0.Epoch, .slice A65494 p0.Data.length c65495]] [.cells ⟨b65503, 0, none⟩ [.int .i64 p0.Kind, .int .i64 p0.Page, .int .u64 p0.Epoch, .slice A65494 p0.Data.length c65495] 4] (by kernel_rfl) (s.cells (i := 0) rfl rfl rfl) ?_
        obtain ⟨x69491, hx69492, hf⟩ := bindS hf
        refine RW.op (by kernel_rfl) (OK.call' en11 (by kernel_rfl) (c11 (F := (.blk b65503 (.cells #[.int .i64 p0.Kind, .int .i64 p0.Page, .int .u64 p0.Epoch, .slice A65494 p0.Data.length c65495] 25 (0, 0))) :: F) p0 A65494 c65495 hc65496 e65497 eg0 s hx69492) ?_)
        intro X69495 hX69496
        refine fun _ _ hJ => hJ X69495 ?_
        intro I69497 A69498 n69499 c69500 cl69501 w69493 s k69494 hn69502 rp69503
        refine hX69496 _ _ ?_
        replace e65501 := e65501.st k69494
        replace e65497 := e65497.st k69494
        replace eg0 := eg0.st k69494
        replace kk := kk.trans k69494
        refine RW.seg hT 5 [] [] [.tuple #[.slice A69498 n69499 c69500, .int .i64 x69491.2], .slice A69498 n69499 c69500, .int .i64 x69491.2, .slice A69498 n69499 c69500, .int .i64 x69491.2] [] (by kernel_rfl) (trivial) ?_
        refine RW.nil ?_
        refine WPK.seq ?_
        refine WPK.region ?_
        refine RW.seg hT 2 [] [(34, .bool (decide (x69491.2 = 0)))] [.int .i64 x69491.2, .bool (decide (x69491.2 = 0))] [.veq (.bool (x69491.2 == 0)) (.bool (decide (x69491.2 = 0)))] (by kernel_rfl) (eq_v) ?_
        refine RW.nil ?_
        by_cases h69505 : x69491.2 = 0
        · have hf := iteT h69505 hf
          refine WPK.condT (Eq.trans (b := .bool (decide (x69491.2 = 0))) (by kernel_rfl) (bo_t h69505)) ?_
          refine WPK.seq ?_
          refine WPK.region ?_
          refine RW.seg hT 3 [.int .i64 p0.Page] [] [.slice A69498 n69499 c69500, .pointer (some ⟨b65503, 1, none⟩), .int .i64 p0.Page] [.cell ⟨b65503, 1, none⟩ (.int .i64 p0.Page)] (by kernel_rfl) (s.cell (i := 1) (off := 1) rfl rfl) ?_
          refine RW.op (by kernel_rfl) (OK.inl (args := [.slice A69498 n69499 c69500, .int .i64 p0.Page]) en8 (by kernel_rfl) ?_)
          intro R69523 hR69524
          refine Ret.cut (fun v wz => ∀ X : Value → World → Prop, (∀ (I71392 : Nat → Prop) (x71382 : Int) (x71383 : Int) (x71384 : Int) (x71385 : (List Int)) (x71390 : Int) (A71386 : Option Addr) (c71387 : Nat) (w' : World), g6_j3 p0 p1 p2 x69491 x71382 x71383 x71384 x71385 x71390 = some r → St w0 M I71392 ((.sl (.slice A69498 n69499 c69500) 49 1 n69499 cl69501) :: (.blk b65503 (.cells #[.int .i64 p0.Kind, .int .i64 p0.Page, .int .u64 p0.Epoch, .slice A65494 p0.Data.length c65495] 25 (0, 0))) :: F) w' → Kp I w I71392 w' → Elems (Rp.int .u8) I71392 w' A65498 p1 → (x71385.length ≤ c71387 ∧ c71387 ≤ 9223372036854775807) → Elems (Rp.int .u8) I71392 w' A71386 x71385 → Elems (Rp.int .u8) I71392 w' A65494 p0.Data → RepL (Rp.int .u8) I71392 w' cl69501 x69491.1 → Elems (Rp.int .u32) I71392 w' (some ⟨0, 0, none⟩) TAB0 → X (.tuple #[.agg #[.int .i64 x71382, .int .i64 x71383, .int .u64 x71384, .slice A71386 x71385.length c71387], .int .i64 x71390]) w') → X v wz) ?_ ?_
          · refine fun _ _ hJ => hJ R69523 ?_
            intro I71392 x71382 x71383 x71384 x71385 x71390 A71386 c71387 w71391 hf s kk e65501 hc71388 e71389 e65497 rp69503 eg0
            refine hR69524 _ _ ?_
            unfold g6_j3 at hf
            refine RW.seg hT 3 [] [] [.tuple #[.agg #[.int .i64 x71382, .int .i64 x71383, .int .u64 x71384, .slice A71386 x71385.length c71387], .int .i64 x71390], .agg #[.int .i64 x71382, .int .i64 x71383, .int .u64 x71384, .slice A71386 x71385.length c71387], .int .i64 x71390] [] (by kernel_rfl) (trivial) ?_
            refine RW.op (by kernel_rfl) (OK.new hT (f := fun b => .pointer (some ⟨b, 0, none⟩)) (cs := [.int .i64 0, .int .i64 0, .int .u64 0, .slice none 0 0]) (e := 25) (c := .tt) s (by kernel_rfl) trivial ?_)
            rintro w71393 b71394 s k71395 -
            replace e65501 := e65501.st k71395
            replace e71389 := e71389.st k71395
            replace e65497 := e65497.st k71395
            replace rp69503 := rp69503.st k71395
            replace eg0 := eg0.st k71395
            replace kk := kk.trans k71395
            refine RW.op (by kernel_rfl) (OK.store hT (i := 0) (b := b71394) (off := 0) (n := 4) (vs := [.int .i64 x71382, .int .i64 x71383, .int .u64 x71384, .slice A71386 x71385.length c71387]) (cs := [.int .i64 0, .int .i64 0, .int .u64 0, .slice none 0 0]) (e := 25) s (by kernel_rfl) rfl rfl (flat_ok rfl) (Nat.le_of_ble_eq_true rfl) ?_)
            rintro w71396 s k71397 -
            replace e65501 := e65501.st k71397
            replace e71389 := e71389.st k71397
            replace e65497 := e65497.st k71397
            replace rp69503 := rp69503.st k71397
            replace eg0 := eg0.st k71397
            replace kk := kk.trans k71397
            refine RW.seg hT 1 [] [] [.int .i64 x71390] [] (by kernel_rfl) (trivial) ?_
            refine RW.nil ?_
            refine WPK.seq ?_
            refine WPK.cut' (Kn fun E ds wz => ∀ X : Kont, (∀ (I71411 : Nat → Prop) (x71409 : Bool) (D71408 : List Value) (w' : World), g6_j4 p1 p2 x71409 = some r → St w0 M I71411 (F) w' → Kp I w I71411 w' → Elems (Rp.int .u8) I71411 w' A65498 p1 → Elems (Rp.int .u32) I71411 w' (some ⟨0, 0, none⟩) TAB0 → X [(D71408.getD 0 undef), .slice A65498 p1.length c65499, .int .i64 p2, (D71408.getD 1 undef), (D71408.getD 2 undef), (D71408.getD 3 undef), .bool false, (D71408.getD 4 undef), (D71408.getD 5 undef), (D71408.getD 6 undef), (D71408.getD 7 undef), undef, undef, undef, (D71408.getD 8 undef), (D71408.getD 9 undef), (D71408.getD 10 undef), (D71408.getD 11 undef), (D71408.getD 12 undef), (D71408.getD 13 undef), (D71408.getD 14 undef), (D71408.getD 15 undef), (D71408.getD 16 undef), (D71408.getD 17 undef), (D71408.getD 18 undef), (D71408.getD 19 undef), (D71408.getD 20 undef), (D71408.getD 21 undef), (D71408.getD 22 undef), (D71408.getD 23 undef), (D71408.getD 24 undef), (D71408.getD 25 undef), (D71408.getD 26 undef), (D71408.getD 27 undef), (D71408.getD 28 undef), (D71408.getD 29 undef), (D71408.getD 30 undef), (D71408.getD 31 undef), (D71408.getD 32 undef), (D71408.getD 33 undef), (D71408.getD 34 undef), (D71408.getD 35 undef), (D71408.getD 36 undef), (D71408.getD 37 undef), (D71408.getD 38 undef), (D71408.getD 39 undef), (D71408.getD 40 undef), (D71408.getD 41 undef), (D71408.getD 42 undef), (D71408.getD 43 undef), (D71408.getD 44 undef), (D71408.getD 45 undef), (D71408.getD 46 undef), (D71408.getD 47 undef), (D71408.getD 48 undef), (D71408.getD 49 undef), (D71408.getD 50 undef), (D71408.getD 51 undef), (D71408.getD 52 undef), (D71408.getD 53 undef), .bool x71409, undef, (D71408.getD 54 undef), (D71408.getD 55 undef), undef, undef, undef, undef, undef, (D71408.getD 56 undef), (D71408.getD 57 undef), undef, undef, (D71408.getD 58 undef), undef, undef, undef, undef, undef, undef, (D71408.getD 59 undef), (D71408.getD 60 undef), undef, undef] [] w') → X E ds wz) ?_ ?_
            · intro X71413 hX71414
              refine fun _ _ _ hJ => hJ X71413 ?_
              intro I71411 x71409 D71408 w71410 hf s kk e65501 eg0
              refine hX71414 _ _ _ ?_
              unfold g6_j4 at hf
              by_cases h71412 : x71409 = true
              · have hf := iteT h71412 hf
                refine WPK.condT (Eq.trans (b := .bool x71409) (by kernel_rfl) (b_t h71412)) ?_
                refine WPK.seq ?_
                refine WPK.region ?_
                refine RW.seg hT 1 [] [] [.bool false] [] (by kernel_rfl) (trivial) ?_
                refine RW.nil ?_
                refine WPK.ret (?_)
                obtain rfl := someS hf
                refine Fin.of (rs := [.tmp 6]) hT [] (.bool false) [] rfl (by kernel_rfl) (trivial) ?_
                exact fun X h => vc rfl (h I71411 _ s kk)
              · have hf := iteF h71412 hf
                refine WPK.condF (Eq.trans (b := .bool x71409) (by kernel_rfl) (b_f h71412)) ?_
                refine WPK.skip ?_
                exact fun X h => kc (by kernel_rfl) rfl (h I71411 [(D71408.getD 0 undef), (D71408.getD 1 undef), (D71408.getD 2 undef), (D71408.getD 3 undef), (D71408.getD 4 undef), (D71408.getD 5 undef), (D71408.getD 6 undef), (D71408.getD 7 undef), (D71408.getD 8 undef), (D71408.getD 9 undef), (D71408.getD 10 undef), (D71408.getD 11 undef), (D71408.getD 12 undef), (D71408.getD 13 undef), (D71408.getD 14 undef), (D71408.getD 15 undef), (D71408.getD 16 undef), (D71408.getD 17 undef), (D71408.getD 18 undef), (D71408.getD 19 undef), (D71408.getD 20 undef), (D71408.getD 21 undef), (D71408.getD 22 undef), (D71408.getD 23 undef), (D71408.getD 24 undef), (D71408.getD 25 undef), (D71408.getD 26 undef), (D71408.getD 27 undef), (D71408.getD 28 undef), (D71408.getD 29 undef), (D71408.getD 30 undef), (D71408.getD 31 undef), (D71408.getD 32 undef), (D71408.getD 33 undef), (D71408.getD 34 undef), (D71408.getD 35 undef), (D71408.getD 36 undef), (D71408.getD 37 undef), (D71408.getD 38 undef), (D71408.getD 39 undef), (D71408.getD 40 undef), (D71408.getD 41 undef), (D71408.getD 42 undef), (D71408.getD 43 undef), (D71408.getD 44 undef), (D71408.getD 45 undef), (D71408.getD 46 undef), (D71408.getD 47 undef), (D71408.getD 48 undef), (D71408.getD 49 undef), (D71408.getD 50 undef), (D71408.getD 51 undef), (D71408.getD 52 undef), (D71408.getD 53 undef), .bool x71409, (D71408.getD 54 undef), (D71408.getD 55 undef), (D71408.getD 56 undef), (D71408.getD 57 undef), (D71408.getD 58 undef), (D71408.getD 59 undef), (D71408.getD 60 undef)] _ hf s kk e65501 eg0)
            · refine WPK.region ?_
              refine RW.seg hT 2 [] [(43, .bool (decide (x71390 ≠ 0)))] [.int .i64 x71390, .bool (decide (x71390 ≠ 0))] [.veq (.bool (x71390 != 0)) (.bool (decide (x71390 ≠ 0)))] (by kernel_rfl) (ne_v) ?_
              by_cases h71415 : x71390 ≠ 0
              · have hf := iteT h71415 hf
                refine RW.seg hT 17 [] [(44, .bool true)] [.bool true, undef, undef, undef, undef, .bool true, .bool true, undef, undef, undef, .bool true, .bool true, undef, undef, undef, undef, .bool true] [.veq (.bool (decide (x71390 ≠ 0))) (.bool true)] (by kernel_rfl) (bo_t h71415) ?_
                refine RW.nil ?_
                replace s := s.pick [] 3 rfl
                exact fun X h => kc (by kernel_rfl) rfl (h I71392 true [((D65608.getD 0 undef)), .pointer (some ⟨b65503, 0, none⟩), ((D65608.getD 1 undef)), ((D65608.getD 2 undef)), .slice A69498 n69499 c69500, (.int .i64 x69491.2), .pointer (some ⟨b71394, 0, none⟩), .int .i64 x71390, ((D65608.getD 3 undef)), ((D65608.getD 4 undef)), ((D65608.getD 5 undef)), ((D65608.getD 6 undef)), ((D65608.getD 7 undef)), ((D65608.getD 8 undef)), ((D65608.getD 9 undef)), ((D65608.getD 10 undef)), ((D65608.getD 11 undef)), ((D65608.getD 12 undef)), ((D65608.getD 13 undef)), ((D65608.getD 14 undef)), (.bool x65609), (undef), (.tuple #[.slice A69498 n69499 c69500, .int .i64 x69491.2]), (.agg #[.int .i64 p0.Kind, .int .i64 p0.Page, .int .u64 p0.Epoch, .slice A65494 p0.Data.length c65495]), (.tuple #[.slice A69498 n69499 c69500, .int .i64 x69491.2]), (.slice A69498 n69499 c69500), (.int .i64 x69491.2), (.int .i64 x69491.2), (.bool (decide (x69491.2 = 0))), .tuple #[.agg #[.int .i64 x71382, .int .i64 x71383, .int .u64 x71384, .slice A71386 x71385.length c71387], .int .i64 x71390], (.slice A69498 n69499 c69500), (.pointer (some ⟨b65503, 1, none⟩)), (.int .i64 p0.Page), .tuple #[.agg #[.int .i64 x71382, .int .i64 x71383, .int .u64 x71384, .slice A71386 x71385.length c71387], .int .i64 x71390], .agg #[.int .i64 x71382, .int .i64 x71383, .int .u64 x71384, .slice A71386 x71385.length c71387], .int .i64 x71390, .int .i64 x71390, .bool (decide (x71390 ≠ 0)), .bool true, undef, undef, undef, undef, .bool true, .bool true, undef, undef, undef, .bool true, .bool true, undef, undef, undef, undef, ((D65608.getD 22 undef)), ((D65608.getD 23 undef)), ((D65608.getD 24 undef)), ((D65608.getD 25 undef)), ((D65608.getD 26 undef)), ((D65608.getD 27 undef)), ((D65608.getD 28 undef))] _ hf s kk e65501 eg0)
              · have hf := iteF h71415 hf
                refine RW.seg hT 3 [.agg #[.int .i64 x71382, .int .i64 x71383, .int .u64 x71384, .slice A71386 x71385.length c71387], .agg #[.int .i64 p0.Kind, .int .i64 p0.Page, .int .u64 p0.Epoch, .slice A65494 p0.Data.length c65495]] [(44, .bool false)] [.bool false, .agg #[.int .i64 x71382, .int .i64 x71383, .int .u64 x71384, .slice A71386 x71385.length c71387], .agg #[.int .i64 p0.Kind, .int .i64 p0.Page, .int .u64 p0.Epoch, .slice A65494 p0.Data.length c65495]] [.veq (.bool (decide (x71390 ≠ 0))) (.bool false), .cells ⟨b71394, 0, none⟩ [.int .i64 x71382, .int .i64 x71383, .int .u64 x71384, .slice A71386 x71385.length c71387] 4, .cells ⟨b65503, 0, none⟩ [.int .i64 p0.Kind, .int .i64 p0.Page, .int .u64 p0.Epoch, .slice A65494 p0.Data.length c65495] 4] (by kernel_rfl) (⟨bo_f h71415, s.cells (i := 0) rfl rfl rfl, s.cells (i := 2) rfl rfl rfl⟩) ?_
                obtain ⟨x71416, hx71417, hf⟩ := bindS hf
                refine RW.op (by kernel_rfl) (OK.call' en19 (by kernel_rfl) (c19 (F := (.blk b71394 (.cells #[.int .i64 x71382, .int .i64 x71383, .int .u64 x71384, .slice A71386 x71385.length c71387] 25 (0, 0))) :: (.sl (.slice A69498 n69499 c69500) 49 1 n69499 cl69501) :: (.blk b65503 (.cells #[.int .i64 p0.Kind, .int .i64 p0.Page, .int .u64 p0.Epoch, .slice A65494 p0.Data.length c65495] 25 (0, 0))) :: F) (T_api_Frame.mk x71382 x71383 x71384 x71385) p0 A71386 c71387 A65494 c65495 hc71388 e71389 hc65496 e65497 s hx71417) ?_)
                intro X71420 hX71421
                refine fun _ _ hJ => hJ X71420 ?_
                intro I71422 w71418 s k71419
                refine hX71421 _ _ ?_
                replace e65501 := e65501.st k71419
                replace e71389 := e71389.st k71419
                replace e65497 := e65497.st k71419
                replace rp69503 := rp69503.st k71419
                replace eg0 := eg0.st k71419
                replace kk := kk.trans k71419
                refine RW.seg hT 2 [] [(48, .bool (decide (¬ (x71416 = true))))] [.bool (decide (¬ (x71416 = true))), .bool (decide (¬ (x71416 = true)))] [.veq (.bool (!x71416)) (.bool (decide (¬ (x71416 = true))))] (by kernel_rfl) (not_b) ?_
                by_cases h71423 : ¬ (x71416 = true)
                · have hf := iteT h71423 hf
                  refine RW.seg hT 11 [] [(50, .bool true)] [.bool true, undef, undef, undef, .bool true, .bool true, undef, undef, undef, undef, .bool true] [.veq (.bool (decide (¬ (x71416 = true)))) (.bool true)] (by kernel_rfl) (bo_t h71423) ?_
                  refine RW.nil ?_
                  replace s := s.pick [] 3 rfl
                  exact fun X h => kc (by kernel_rfl) rfl (h I71422 true [((D65608.getD 0 undef)), .pointer (some ⟨b65503, 0, none⟩), ((D65608.getD 1 undef)), ((D65608.getD 2 undef)), .slice A69498 n69499 c69500, (.int .i64 x69491.2), .pointer (some ⟨b71394, 0, none⟩), .int .i64 x71390, ((D65608.getD 3 undef)), ((D65608.getD 4 undef)), ((D65608.getD 5 undef)), ((D65608.getD 6 undef)), ((D65608.getD 7 undef)), ((D65608.getD 8 undef)), ((D65608.getD 9 undef)), ((D65608.getD 10 undef)), ((D65608.getD 11 undef)), ((D65608.getD 12 undef)), ((D65608.getD 13 undef)), ((D65608.getD 14 undef)), (.bool x65609), (undef), (.tuple #[.slice A69498 n69499 c69500, .int .i64 x69491.2]), (.agg #[.int .i64 p0.Kind, .int .i64 p0.Page, .int .u64 p0.Epoch, .slice A65494 p0.Data.length c65495]), (.tuple #[.slice A69498 n69499 c69500, .int .i64 x69491.2]), (.slice A69498 n69499 c69500), (.int .i64 x69491.2), (.int .i64 x69491.2), (.bool (decide (x69491.2 = 0))), .tuple #[.agg #[.int .i64 x71382, .int .i64 x71383, .int .u64 x71384, .slice A71386 x71385.length c71387], .int .i64 x71390], (.slice A69498 n69499 c69500), (.pointer (some ⟨b65503, 1, none⟩)), (.int .i64 p0.Page), .tuple #[.agg #[.int .i64 x71382, .int .i64 x71383, .int .u64 x71384, .slice A71386 x71385.length c71387], .int .i64 x71390], .agg #[.int .i64 x71382, .int .i64 x71383, .int .u64 x71384, .slice A71386 x71385.length c71387], .int .i64 x71390, .int .i64 x71390, .bool (decide (x71390 ≠ 0)), .bool false, .agg #[.int .i64 x71382, .int .i64 x71383, .int .u64 x71384, .slice A71386 x71385.length c71387], .agg #[.int .i64 p0.Kind, .int .i64 p0.Page, .int .u64 p0.Epoch, .slice A65494 p0.Data.length c65495], .bool x71416, .bool (decide (¬ (x71416 = true))), .bool (decide (¬ (x71416 = true))), .bool true, undef, undef, undef, .bool true, .bool true, undef, undef, undef, undef, ((D65608.getD 22 undef)), ((D65608.getD 23 undef)), ((D65608.getD 24 undef)), ((D65608.getD 25 undef)), ((D65608.getD 26 undef)), ((D65608.getD 27 undef)), ((D65608.getD 28 undef))] _ hf s kk e65501 eg0)
                · have hf := iteF h71423 hf
                  refine RW.seg hT 5 [] [(50, .bool false), (52, .int .i64 (x69491.1.length : Int)), (53, .bool (decide ((x69491.1.length : Int) ≠ 256)))] [.bool false, .slice A69498 n69499 c69500, .int .i64 (x69491.1.length : Int), .bool (decide ((x69491.1.length : Int) ≠ 256)), .bool (decide ((x69491.1.length : Int) ≠ 256))] [.veq (.bool (decide (¬ (x71416 = true)))) (.bool false), .veq (.int .i64 (n69499 : Nat)) (.int .i64 (x69491.1.length : Int)), .veq (.bool ((x69491.1.length : Int) != 256)) (.bool (decide ((x69491.1.length : Int) ≠ 256)))] (by kernel_rfl) (⟨bo_f h71423, len_v hn69502, ne_v⟩) ?_
                  by_cases h71424 : (x69491.1.length : Int) ≠ 256
                  · have hf := iteT h71424 hf
                    refine RW.seg hT 6 [] [(55, .bool true)] [.bool true, undef, undef, undef, undef, .bool true] [.veq (.bool (decide ((x69491.1.length : Int) ≠ 256))) (.bool true)] (by kernel_rfl) (bo_t h71424) ?_
                    refine RW.nil ?_
                    replace s := s.pick [] 3 rfl
                    exact fun X h => kc (by kernel_rfl) rfl (h I71422 true [((D65608.getD 0 undef)), .pointer (some ⟨b65503, 0, none⟩), ((D65608.getD 1 undef)), ((D65608.getD 2 undef)), .slice A69498 n69499 c69500, (.int .i64 x69491.2), .pointer (some ⟨b71394, 0, none⟩), .int .i64 x71390, ((D65608.getD 3 undef)), ((D65608.getD 4 undef)), ((D65608.getD 5 undef)), ((D65608.getD 6 undef)), ((D65608.getD 7 undef)), ((D65608.getD 8 undef)), ((D65608.getD 9 undef)), ((D65608.getD 10 undef)), ((D65608.getD 11 undef)), ((D65608.getD 12 undef)), ((D65608.getD 13 undef)), ((D65608.getD 14 undef)), (.bool x65609), (undef), (.tuple #[.slice A69498 n69499 c69500, .int .i64 x69491.2]), (.agg #[.int .i64 p0.Kind, .int .i64 p0.Page, .int .u64 p0.Epoch, .slice A65494 p0.Data.length c65495]), (.tuple #[.slice A69498 n69499 c69500, .int .i64 x69491.2]), (.slice A69498 n69499 c69500), (.int .i64 x69491.2), (.int .i64 x69491.2), (.bool (decide (x69491.2 = 0))), .tuple #[.agg #[.int .i64 x71382, .int .i64 x71383, .int .u64 x71384, .slice A71386 x71385.length c71387], .int .i64 x71390], (.slice A69498 n69499 c69500), (.pointer (some ⟨b65503, 1, none⟩)), (.int .i64 p0.Page), .tuple #[.agg #[.int .i64 x71382, .int .i64 x71383, .int .u64 x71384, .slice A71386 x71385.length c71387], .int .i64 x71390], .agg #[.int .i64 x71382, .int .i64 x71383, .int .u64 x71384, .slice A71386 x71385.length c71387], .int .i64 x71390, .int .i64 x71390, .bool (decide (x71390 ≠ 0)), .bool false, .agg #[.int .i64 x71382, .int .i64 x71383, .int .u64 x71384, .slice A71386 x71385.length c71387], .agg #[.int .i64 p0.Kind, .int .i64 p0.Page, .int .u64 p0.Epoch, .slice A65494 p0.Data.length c65495], .bool x71416, .bool (decide (¬ (x71416 = true))), .bool (decide (¬ (x71416 = true))), .bool false, .slice A69498 n69499 c69500, .int .i64 (x69491.1.length : Int), .bool (decide ((x69491.1.length : Int) ≠ 256)), .bool (decide ((x69491.1.length : Int) ≠ 256)), .bool true, undef, undef, undef, undef, ((D65608.getD 22 undef)), ((D65608.getD 23 undef)), ((D65608.getD 24 undef)), ((D65608.getD 25 undef)), ((D65608.getD 26 undef)), ((D65608.getD 27 undef)), ((D65608.getD 28 undef))] _ hf s kk e65501 eg0)
                  · have hf := iteF h71424 hf
                    refine RW.seg hT 6 [.slice A71386 x71385.length c71387] [(55, .bool false), (59, .bool (decide ((x71385.length : Int) ≠ 240)))] [.bool false, .pointer (some ⟨b71394, 3, none⟩), .slice A71386 x71385.length c71387, .int .i64 (x71385.length : Int), .bool (decide ((x71385.length : Int) ≠ 240)), .bool (decide ((x71385.length : Int) ≠ 240))] [.veq (.bool (decide ((x69491.1.length : Int) ≠ 256))) (.bool false), .cell ⟨b71394, 3, none⟩ (.slice A71386 x71385.length c71387), .veq (.bool ((x71385.length : Int) != 240)) (.bool (decide ((x71385.length : Int) ≠ 240)))] (by kernel_rfl) (⟨bo_f h71424, s.cell (i := 0) (off := 3) rfl rfl, ne_v⟩) ?_
                    refine RW.nil ?_
                    replace s := s.pick [] 3 rfl
                    exact fun X h => kc (by kernel_rfl) rfl (h I71422 (decide ((x71385.length : Int) ≠ 240)) [((D65608.getD 0 undef)), .pointer (some ⟨b65503, 0, none⟩), ((D65608.getD 1 undef)), ((D65608.getD 2 undef)), .slice A69498 n69499 c69500, (.int .i64 x69491.2), .pointer (some ⟨b71394, 0, none⟩), .int .i64 x71390, ((D65608.getD 3 undef)), ((D65608.getD 4 undef)), ((D65608.getD 5 undef)), ((D65608.getD 6 undef)), ((D65608.getD 7 undef)), ((D65608.getD 8 undef)), ((D65608.getD 9 undef)), ((D65608.getD 10 undef)), ((D65608.getD 11 undef)), ((D65608.getD 12 undef)), ((D65608.getD 13 undef)), ((D65608.getD 14 undef)), (.bool x65609), (undef), (.tuple #[.slice A69498 n69499 c69500, .int .i64 x69491.2]), (.agg #[.int .i64 p0.Kind, .int .i64 p0.Page, .int .u64 p0.Epoch, .slice A65494 p0.Data.length c65495]), (.tuple #[.slice A69498 n69499 c69500, .int .i64 x69491.2]), (.slice A69498 n69499 c69500), (.int .i64 x69491.2), (.int .i64 x69491.2), (.bool (decide (x69491.2 = 0))), .tuple #[.agg #[.int .i64 x71382, .int .i64 x71383, .int .u64 x71384, .slice A71386 x71385.length c71387], .int .i64 x71390], (.slice A69498 n69499 c69500), (.pointer (some ⟨b65503, 1, none⟩)), (.int .i64 p0.Page), .tuple #[.agg #[.int .i64 x71382, .int .i64 x71383, .int .u64 x71384, .slice A71386 x71385.length c71387], .int .i64 x71390], .agg #[.int .i64 x71382, .int .i64 x71383, .int .u64 x71384, .slice A71386 x71385.length c71387], .int .i64 x71390, .int .i64 x71390, .bool (decide (x71390 ≠ 0)), .bool false, .agg #[.int .i64 x71382, .int .i64 x71383, .int .u64 x71384, .slice A71386 x71385.length c71387], .agg #[.int .i64 p0.Kind, .int .i64 p0.Page, .int .u64 p0.Epoch, .slice A65494 p0.Data.length c65495], .bool x71416, .bool (decide (¬ (x71416 = true))), .bool (decide (¬ (x71416 = true))), .bool false, .slice A69498 n69499 c69500, .int .i64 (x69491.1.length : Int), .bool (decide ((x69491.1.length : Int) ≠ 256)), .bool (decide ((x69491.1.length : Int) ≠ 256)), .bool false, .pointer (some ⟨b71394, 3, none⟩), .slice A71386 x71385.length c71387, .int .i64 (x71385.length : Int), .bool (decide ((x71385.length : Int) ≠ 240)), ((D65608.getD 22 undef)), ((D65608.getD 23 undef)), ((D65608.getD 24 undef)), ((D65608.getD 25 undef)), ((D65608.getD 26 undef)), ((D65608.getD 27 undef)), ((D65608.getD 28 undef))] _ hf s kk e65501 eg0)
          · refine Ret.of Tryd.func8 rfl ?_
            refine WPK.seq ?_
            refine WPK.region ?_
            refine RW.op (by kernel_rfl) (OK.new hT (f := fun b => .pointer (some ⟨b, 0, none⟩)) (cs := [.int .i64 0, .int .i64 0, .int .u64 0, .slice none 0 0]) (e := 25) (c := .tt) s (by kernel_rfl) trivial ?_)
            rintro w71425 b71426 s k71427 -
            replace e65501 := e65501.st k71427
            replace e65497 := e65497.st k71427
            replace rp69503 := rp69503.st k71427
            replace eg0 := eg0.st k71427
            replace kk := kk.trans k71427
            refine RW.seg hT 1 [] [] [.int .i64 0] [] (by kernel_rfl) (trivial) ?_
            refine RW.nil ?_
            refine WPK.seq ?_
            refine WPK.seq ?_
            refine WPK.region ?_
            refine RW.seg hT 3 [] [(10, .int .i64 (x69491.1.length : Int)), (11, .bool (decide ((x69491.1.length : Int) ≠ 256)))] [.slice A69498 n69499 c69500, .int .i64 (x69491.1.length : Int), .bool (decide ((x69491.1.length : Int) ≠ 256))] [.veq (.int .i64 (n69499 : Nat)) (.int .i64 (x69491.1.length : Int)), .veq (.bool ((x69491.1.length : Int) != 256)) (.bool (decide ((x69491.1.length : Int) ≠ 256)))] (by kernel_rfl) (⟨len_v hn69502, ne_v⟩) ?_
            refine RW.nil ?_
            by_cases h71431 : (x69491.1.length : Int) ≠ 256
            · have hf := iteT h71431 hf
              refine WPK.condT (Eq.trans (b := .bool (decide ((x69491.1.length : Int) ≠ 256))) (by kernel_rfl) (bo_t h71431)) ?_
              refine WPK.seq ?_
              refine WPK.region ?_
              refine RW.seg hT 1 [] [] [.agg #[.int .i64 0, .int .i64 0, .int .u64 0, .slice none 0 0]] [] (by kernel_rfl) (trivial) ?_
              refine RW.op (by kernel_rfl) (OK.store hT (i := 0) (b := b71426) (off := 0) (n := 4) (vs := [.int .i64 0, .int .i64 0, .int .u64 0, .slice none 0 0]) (cs := [.int .i64 0, .int .i64 0, .int .u64 0, .slice none 0 0]) (e := 25) s (by kernel_rfl) rfl rfl (flat_ok rfl) (Nat.le_of_ble_eq_true rfl) ?_)
              rintro w71432 s k71433 -
              replace e65501 := e65501.st k71433
              replace e65497 := e65497.st k71433
              replace rp69503 := rp69503.st k71433
              replace eg0 := eg0.st k71433
              replace kk := kk.trans k71433
              refine RW.seg hT 1 [] [] [.int .i64 1] [] (by kernel_rfl) (trivial) ?_
              refine RW.nil ?_
              refine WPK.ret (?_)
              refine Fin.of (rs := [.cell 4 25, .tmp 5]) hT [.agg #[.int .i64 0, .int .i64 0, .int .u64 0, .slice none 0 0]] (.tuple #[.agg #[.int .i64 0, .int .i64 0, .int .u64 0, .slice none 0 0], .int .i64 1]) [.cells ⟨b71426, 0, none⟩ [.int .i64 0, .int .i64 0, .int .u64 0, .slice none 0 0] 4] rfl (by kernel_rfl) (s.cells (i := 0) rfl rfl rfl) ?_
              replace s := s.pick [1, 2] 3 rfl
              exact fun X h => vc rfl (h I69497 0 0 0 [] 1 none 0 _ hf s kk e65501 nil_hc Elems.nil e65497 rp69503 eg0)
            · have hf := iteF h71431 hf
              refine WPK.condF (Eq.trans (b := .bool (decide ((x69491.1.length : Int) ≠ 256))) (by kernel_rfl) (bo_f h71431)) ?_
              refine WPK.skip ?_
              refine WPK.seq ?_
              refine WPK.region ?_
              refine RW.seg hT 1 [] [] [.slice A69498 n69499 c69500] [] (by kernel_rfl) (trivial) ?_
              obtain ⟨h71435, hf⟩ := iteS hf
              obtain ⟨b71436, rfl⟩ := row_addr (s.at (i := 1) rfl) (by have hnn := hn69502; omega)
              have pt71437 := Pt.whole (size := 1) (row_hc (s.at (i := 1) rfl)).1
              obtain ⟨y71438, hy71439, hf⟩ := bindS hf
              rw [← hn69502] at hy71439
              obtain ⟨h71434, hf⟩ := iteS hf
              have h71440 : 256 ≤ n69499 := by have e1 := (cutS hy71439).2.2; have e2 := (pt71437).len; omega
              refine RW.op (by kernel_rfl) (OK.head hT (t := 49) (N := 256) (e := 5) (A := (some ⟨b71436, 0, none⟩)) (n := n69499) (c := c69500) (by kernel_rfl) rfl rfl h71440 ?_)
              have hl71441 : 256 = ((List.take 256 y71438)).length := by rw [List.length_take]; omega
              refine RW.seg hT 1 [.agg (List.map (Value.int .u8) (List.take 256 y71438)).toArray] [] [.agg (List.map (Value.int .u8) (List.take 256 y71438)).toArray] [.cells ⟨b71436, 0, none⟩ (List.map (Value.int .u8) (List.take 256 y71438)) 256] (by kernel_rfl) (St.arrPt s (i := 1) rfl rfl rp69503 pt71437 hy71439 h71434 (by decide)) ?_
              refine RW.op (by kernel_rfl) (OK.new hT (f := fun b => .pointer (some ⟨b, 0, none⟩)) (cs := (List.replicate 256 (Value.int .u8 0))) (e := 49) (c := .tt) s (by kernel_rfl) trivial ?_)
              rintro w71442 b71443 s k71444 -
              have hn71448 : 256 = ((List.replicate 256 (0 : Int))).length := by simp
              obtain ⟨cl71445, hcl71446⟩ : ∃ q, q = (List.replicate 256 (Value.int .u8 0)) := ⟨_, rfl⟩
              replace s := s.blkSl (i := 0) (n := 256) (c := 256) (size := 1) rfl (by simp) (Nat.le_refl _) (by decide)
              rw [List.take_of_length_le (by simp), ← hcl71446] at s
              replace e65501 := e65501.st k71444
              replace e65497 := e65497.st k71444
              replace rp69503 := rp69503.st k71444
              replace eg0 := eg0.st k71444
              replace kk := kk.trans k71444
              have rp71447 : RepL (Rp.int .u8) I69497 w71442 cl71445 (List.replicate 256 (0 : Int)) := by rw [hcl71446]; exact RepL.rep rfl _
              obtain ⟨cl71451, hcl71452⟩ : ∃ q, q = List.map (Value.int .u8) (List.take 256 y71438) := ⟨_, rfl⟩
              have rp71453 : RepL (Rp.int .u8) I69497 w71442 cl71451 (List.take 256 y71438) := by rw [hcl71452]; exact repl_map
              have hn71454 := hl71441
              refine RW.op (by kernel_rfl) (OK.storeAt hT (i := 0) (b := b71443) (off := 0) (m := 256) (vs := (List.map (Value.int .u8) (List.take 256 y71438))) (c := 256) (e := 49) (size := 1) (n := 256) (cl := cl71445) (cl' := cl71451) s (by kernel_rfl) rfl (by rw [List.length_map]; exact (hl71441).symm) (RepL.flat flat_int (repl_map (I := I69497) (w := w71442))) (by have h1 := RepL.length rp71447; have h2 := (hn71448).symm.trans hl71441; have h3 : (Rp.int .u8).n = 1 := rfl; rw [h3] at h1; simp only [List.length_map]; omega) (by rw [hcl71452]; have h1 := RepL.length rp71447; have h3 : (Rp.int .u8).n = 1 := rfl; rw [h3, Nat.mul_one, ← hn71448] at h1; exact setL_all (by rw [List.length_map, h1]; exact (hl71441).symm)) ?_)
              rintro w71449 s k71450
              replace e65501 := e65501.st k71450
              replace e65497 := e65497.st k71450
              replace rp71453 := rp71453.st k71450
              replace rp69503 := rp69503.st k71450
              replace eg0 := eg0.st k71450
              replace kk := kk.trans k71450
              refine RW.nil ?_
              refine WPK.seq ?_
              refine WPK.region ?_
              refine RW.seg hT 1 [.agg (List.map (Value.int .u8) (List.take 256 y71438)).toArray] [] [.agg (List.map (Value.int .u8) (List.take 256 y71438)).toArray] [.cells ⟨b71443, 0, none⟩ (List.map (Value.int .u8) (List.take 256 y71438)) 256] (by kernel_rfl) (St.arr s (i := 0) rfl rp71453 hn71454) ?_
              obtain ⟨x71455, hx71456, hf⟩ := bindS hf
              refine RW.op (by kernel_rfl) (OK.call' en25 (by kernel_rfl) (c25 (F := (.sl (.slice (some ⟨b71443, 0, none⟩) 256 256) 49 1 256 cl71451) :: (.blk b71426 (.cells #[.int .i64 0, .int .i64 0, .int .u64 0, .slice none 0 0] 25 (0, 0))) :: (.sl (.slice (some ⟨b71436, 0, none⟩) n69499 c69500) 49 1 n69499 cl69501) :: (.blk b65503 (.cells #[.int .i64 p0.Kind, .int .i64 p0.Page, .int .u64 p0.Epoch, .slice A65494 p0.Data.length c65495] 25 (0, 0))) :: F) (List.take 256 y71438) hn71454 s hx71456) ?_)
              intro X71459 hX71460
              refine fun _ _ hJ => hJ X71459 ?_
              intro I71461 A71462 c71463 w71457 s k71458 hc71464 e71465
              refine hX71460 _ _ ?_
              replace e65501 := e65501.st k71458
              replace e65497 := e65497.st k71458
              replace rp71453 := rp71453.st k71458
              replace rp69503 := rp69503.st k71458
              replace eg0 := eg0.st k71458
              replace kk := kk.trans k71458
              refine RW.seg hT 3 [] [] [.tuple #[.agg #[.int .i64 x71455.1.Kind, .int .i64 x71455.1.Page, .int .u64 x71455.1.Epoch, .slice A71462 x71455.1.Data.length c71463], .int .u32 x71455.2], .agg #[.int .i64 x71455.1.Kind, .int .i64 x71455.1.Page, .int .u64 x71455.1.Epoch, .slice A71462 x71455.1.Data.length c71463], .int .u32 x71455.2] [] (by kernel_rfl) (trivial) ?_
              refine RW.op (by kernel_rfl) (OK.new hT (f := fun b => .pointer (some ⟨b, 0, none⟩)) (cs := [.int .i64 0, .int .i64 0, .int .u64 0, .slice none 0 0]) (e := 25) (c := .tt) s (by kernel_rfl) trivial ?_)
              rintro w71466 b71467 s k71468 -
              replace e71465 := e71465.st k71468
              replace e65501 := e65501.st k71468
              replace e65497 := e65497.st k71468
              replace rp71453 := rp71453.st k71468
              replace rp69503 := rp69503.st k71468
              replace eg0 := eg0.st k71468
              replace kk := kk.trans k71468
              refine RW.op (by kernel_rfl) (OK.store hT (i := 0) (b := b71467) (off := 0) (n := 4) (vs := [.int .i64 x71455.1.Kind, .int .i64 x71455.1.Page, .int .u64 x71455.1.Epoch, .slice A71462 x71455.1.Data.length c71463]) (cs := [.int .i64 0, .int .i64 0, .int .u64 0, .slice none 0 0]) (e := 25) s (by kernel_rfl) rfl rfl (flat_ok rfl) (Nat.le_of_ble_eq_true rfl) ?_)
              rintro w71469 s k71470 -
              replace e71465 := e71465.st k71470
              replace e65501 := e65501.st k71470
              replace e65497 := e65497.st k71470
              replace rp71453 := rp71453.st k71470
              replace rp69503 := rp69503.st k71470
              replace eg0 := eg0.st k71470
              replace kk := kk.trans k71470
              refine RW.seg hT 1 [] [] [.int .u32 x71455.2] [] (by kernel_rfl) (trivial) ?_
              refine RW.nil ?_
              refine WPK.seq ?_
              refine WPK.block ?_
              refine WPK.seq ?_
              refine WPK.cut' (Kn fun E ds wz => ∀ X : Kont, (∀ (I72802 : Nat → Prop) (x72800 : Bool) (D72799 : List Value) (w' : World), g6_j5 p0 p1 p2 x69491 y71438 x71455 x72800 = some r → St w0 M I72802 ((.blk b71467 (.cells #[.int .i64 x71455.1.Kind, .int .i64 x71455.1.Page, .int .u64 x71455.1.Epoch, .slice A71462 x71455.1.Data.length c71463] 25 (0, 0))) :: (.sl (.slice (some ⟨b71443, 0, none⟩) 256 256) 49 1 256 cl71451) :: (.blk b71426 (.cells #[.int .i64 0, .int .i64 0, .int .u64 0, .slice none 0 0] 25 (0, 0))) :: (.sl (.slice (some ⟨b71436, 0, none⟩) n69499 c69500) 49 1 n69499 cl69501) :: (.blk b65503 (.cells #[.int .i64 p0.Kind, .int .i64 p0.Page, .int .u64 p0.Epoch, .slice A65494 p0.Data.length c65495] 25 (0, 0))) :: F) w' → Kp I w I72802 w' → Elems (Rp.int .u8) I72802 w' A71462 x71455.1.Data → Elems (Rp.int .u8) I72802 w' A65494 p0.Data → RepL (Rp.int .u8) I72802 w' cl71451 (List.take 256 y71438) → RepL (Rp.int .u8) I72802 w' cl69501 x69491.1 → Elems (Rp.int .u8) I72802 w' A65498 p1 → Elems (Rp.int .u32) I72802 w' (some ⟨0, 0, none⟩) TAB0 → X [(D72799.getD 0 undef), .int .i64 p0.Page, (D72799.getD 1 undef), (D72799.getD 2 undef), .pointer (some ⟨b71426, 0, none⟩), .int .i64 0, .pointer (some ⟨b71443, 0, none⟩), .pointer (some ⟨b71467, 0, none⟩), (D72799.getD 3 undef), (D72799.getD 4 undef), (D72799.getD 5 undef), (D72799.getD 6 undef), (D72799.getD 7 undef), (D72799.getD 8 undef), (D72799.getD 9 undef), (D72799.getD 10 undef), (D72799.getD 11 undef), (D72799.getD 12 undef), (D72799.getD 13 undef), (D72799.getD 14 undef), (D72799.getD 15 undef), .bool x72800, (D72799.getD 16 undef), (D72799.getD 17 undef), (D72799.getD 18 undef), (D72799.getD 19 undef), (D72799.getD 20 undef), (D72799.getD 21 undef), (D72799.getD 22 undef), (D72799.getD 23 undef), undef, undef, undef, (D72799.getD 24 undef), undef, undef, undef, undef, undef, undef, undef, undef, undef, undef, undef, undef, undef, undef, undef, undef, undef, undef, undef, undef] [] w') → X E ds wz) ?_ ?_
              · intro X72854 hX72855
                refine fun _ _ _ hJ => hJ X72854 ?_
                intro I72802 x72800 D72799 w72801 hf s kk e71465 e65497 rp71453 rp69503 e65501 eg0
                refine hX72855 _ _ _ ?_
                unfold g6_j5 at hf
                by_cases h72803 : x72800 = true
                · have hf := iteT h72803 hf
                  refine WPK.condT (Eq.trans (b := .bool x72800) (by kernel_rfl) (b_t h72803)) ?_
                  refine WPK.seq ?_
                  refine WPK.region ?_
                  refine RW.seg hT 1 [] [] [.agg #[.int .i64 0, .int .i64 0, .int .u64 0, .slice none 0 0]] [] (by kernel_rfl) (trivial) ?_
                  refine RW.op (by kernel_rfl) (OK.store hT (i := 2) (b := b71426) (off := 0) (n := 4) (vs := [.int .i64 0, .int .i64 0, .int .u64 0, .slice none 0 0]) (cs := [.int .i64 0, .int .i64 0, .int .u64 0, .slice none 0 0]) (e := 25) s (by kernel_rfl) rfl rfl (flat_ok rfl) (Nat.le_of_ble_eq_true rfl) ?_)
                  rintro w72804 s k72805 -
                  replace e65501 := e65501.st k72805
                  replace e71465 := e71465.st k72805
                  replace e65497 := e65497.st k72805
                  replace rp71453 := rp71453.st k72805
                  replace rp69503 := rp69503.st k72805
                  replace eg0 := eg0.st k72805
                  replace kk := kk.trans k72805
                  refine RW.seg hT 1 [] [] [.int .i64 40] [] (by kernel_rfl) (trivial) ?_
                  refine RW.nil ?_
                  refine WPK.ret (blockQ.ret (?_))
                  refine Fin.of (rs := [.cell 4 25, .tmp 5]) hT [.agg #[.int .i64 0, .int .i64 0, .int .u64 0, .slice none 0 0]] (.tuple #[.agg #[.int .i64 0, .int .i64 0, .int .u64 0, .slice none 0 0], .int .i64 40]) [.cells ⟨b71426, 0, none⟩ [.int .i64 0, .int .i64 0, .int .u64 0, .slice none 0 0] 4] rfl (by kernel_rfl) (s.cells (i := 2) rfl rfl rfl) ?_
                  replace s := s.pick [3, 4] 5 rfl
                  exact fun X h => vc rfl (h I72802 0 0 0 [] 40 none 0 _ hf s kk e65501 nil_hc Elems.nil e65497 rp69503 eg0)
                · have hf := iteF h72803 hf
                  refine WPK.condF (Eq.trans (b := .bool x72800) (by kernel_rfl) (b_f h72803)) ?_
                  refine WPK.seq ?_
                  refine WPK.cut' (Kn fun E ds wz => ∀ X : Kont, (∀ (I72823 : Nat → Prop) (x72821 : Bool) (D72820 : List Value) (w' : World), g6_j6 p0 p1 p2 x69491 x71455 x72821 = some r → St w0 M I72823 ((.blk b71467 (.cells #[.int .i64 x71455.1.Kind, .int .i64 x71455.1.Page, .int .u64 x71455.1.Epoch, .slice A71462 x71455.1.Data.length c71463] 25 (0, 0))) :: (.blk b71426 (.cells #[.int .i64 0, .int .i64 0, .int .u64 0, .slice none 0 0] 25 (0, 0))) :: (.sl (.slice (some ⟨b71436, 0, none⟩) n69499 c69500) 49 1 n69499 cl69501) :: (.blk b65503 (.cells #[.int .i64 p0.Kind, .int .i64 p0.Page, .int .u64 p0.Epoch, .slice A65494 p0.Data.length c65495] 25 (0, 0))) :: F) w' → Kp I w I72823 w' → Elems (Rp.int .u8) I72823 w' A71462 x71455.1.Data → Elems (Rp.int .u8) I72823 w' A65494 p0.Data → RepL (Rp.int .u8) I72823 w' cl69501 x69491.1 → Elems (Rp.int .u8) I72823 w' A65498 p1 → Elems (Rp.int .u32) I72823 w' (some ⟨0, 0, none⟩) TAB0 → X [(D72820.getD 0 undef), .int .i64 p0.Page, (D72820.getD 1 undef), (D72820.getD 2 undef), .pointer (some ⟨b71426, 0, none⟩), .int .i64 0, (D72820.getD 3 undef), .pointer (some ⟨b71467, 0, none⟩), (D72820.getD 4 undef), (D72820.getD 5 undef), (D72820.getD 6 undef), (D72820.getD 7 undef), (D72820.getD 8 undef), (D72820.getD 9 undef), (D72820.getD 10 undef), (D72820.getD 11 undef), (D72820.getD 12 undef), (D72820.getD 13 undef), (D72820.getD 14 undef), (D72820.getD 15 undef), (D72820.getD 16 undef), (D72820.getD 17 undef), (D72820.getD 18 undef), (D72820.getD 19 undef), (D72820.getD 20 undef), (D72820.getD 21 undef), (D72820.getD 22 undef), (D72820.getD 23 undef), (D72820.getD 24 undef), (D72820.getD 25 undef), (D72820.getD 26 undef), .bool x72821, (D72820.getD 27 undef), (D72820.getD 28 undef), (D72820.getD 29 undef), (D72820.getD 30 undef), (D72820.getD 31 undef), (D72820.getD 32 undef), (D72820.getD 33 undef), (D72820.getD 34 undef), (D72820.getD 35 undef), undef, undef, undef, undef, undef, undef, undef, undef, undef, undef, undef, undef, undef] [] w') → X E ds wz) ?_ ?_
                  · intro X72838 hX72839
                    refine fun _ _ _ hJ => hJ X72838 ?_
                    intro I72823 x72821 D72820 w72822 hf s kk e71465 e65497 rp69503 e65501 eg0
                    refine hX72839 _ _ _ ?_
                    unfold g6_j6 at hf
                    by_cases h72824 : x72821 = true
                    · have hf := iteT h72824 hf
                      refine WPK.condT (Eq.trans (b := .bool x72821) (by kernel_rfl) (b_t h72824)) ?_
                      refine WPK.seq ?_
                      refine WPK.region ?_
                      refine RW.seg hT 1 [] [] [.agg #[.int .i64 0, .int .i64 0, .int .u64 0, .slice none 0 0]] [] (by kernel_rfl) (trivial) ?_
                      refine RW.op (by kernel_rfl) (OK.store hT (i := 1) (b := b71426) (off := 0) (n := 4) (vs := [.int .i64 0, .int .i64 0, .int .u64 0, .slice none 0 0]) (cs := [.int .i64 0, .int .i64 0, .int .u64 0, .slice none 0 0]) (e := 25) s (by kernel_rfl) rfl rfl (flat_ok rfl) (Nat.le_of_ble_eq_true rfl) ?_)
                      rintro w72825 s k72826 -
                      replace e65501 := e65501.st k72826
                      replace e71465 := e71465.st k72826
                      replace e65497 := e65497.st k72826
                      replace rp69503 := rp69503.st k72826
                      replace eg0 := eg0.st k72826
                      replace kk := kk.trans k72826
                      refine RW.seg hT 1 [] [] [.int .i64 42] [] (by kernel_rfl) (trivial) ?_
                      refine RW.nil ?_
                      refine WPK.ret (blockQ.ret (?_))
                      refine Fin.of (rs := [.cell 4 25, .tmp 5]) hT [.agg #[.int .i64 0, .int .i64 0, .int .u64 0, .slice none 0 0]] (.tuple #[.agg #[.int .i64 0, .int .i64 0, .int .u64 0, .slice none 0 0], .int .i64 42]) [.cells ⟨b71426, 0, none⟩ [.int .i64 0, .int .i64 0, .int .u64 0, .slice none 0 0] 4] rfl (by kernel_rfl) (s.cells (i := 1) rfl rfl rfl) ?_
                      replace s := s.pick [2, 3] 4 rfl
                      exact fun X h => vc rfl (h I72823 0 0 0 [] 42 none 0 _ hf s kk e65501 nil_hc Elems.nil e65497 rp69503 eg0)
                    · have hf := iteF h72824 hf
                      refine WPK.condF (Eq.trans (b := .bool x72821) (by kernel_rfl) (b_f h72824)) ?_
                      refine WPK.seq ?_
                      refine WPK.cut' (Kn fun E ds wz => ∀ X : Kont, (∀ (x72829 : Bool) (D72828 : List Value), g6_j7 p0 p1 p2 x69491 x71455 x72829 = some r → X [(D72828.getD 0 undef), (D72828.getD 1 undef), (D72828.getD 2 undef), (D72828.getD 3 undef), .pointer (some ⟨b71426, 0, none⟩), .int .i64 0, (D72828.getD 4 undef), .pointer (some ⟨b71467, 0, none⟩), (D72828.getD 5 undef), (D72828.getD 6 undef), (D72828.getD 7 undef), (D72828.getD 8 undef), (D72828.getD 9 undef), (D72828.getD 10 undef), (D72828.getD 11 undef), (D72828.getD 12 undef), (D72828.getD 13 undef), (D72828.getD 14 undef), (D72828.getD 15 undef), (D72828.getD 16 undef), (D72828.getD 17 undef), (D72828.getD 18 undef), (D72828.getD 19 undef), (D72828.getD 20 undef), (D72828.getD 21 undef), (D72828.getD 22 undef), (D72828.getD 23 undef), (D72828.getD 24 undef), (D72828.getD 25 undef), (D72828.getD 26 undef), (D72828.getD 27 undef), (D72828.getD 28 undef), (D72828.getD 29 undef), (D72828.getD 30 undef), (D72828.getD 31 undef), (D72828.getD 32 undef), (D72828.getD 33 undef), (D72828.getD 34 undef), (D72828.getD 35 undef), (D72828.getD 36 undef), (D72828.getD 37 undef), (D72828.getD 38 undef), .bool x72829, (D72828.getD 39 undef), (D72828.getD 40 undef), (D72828.getD 41 undef), (D72828.getD 42 undef), (D72828.getD 43 undef), (D72828.getD 44 undef), (D72828.getD 45 undef), (D72828.getD 46 undef), (D72828.getD 47 undef), undef, undef] [] w72822) → X E ds wz) ?_ ?_
                      · intro X72835 hX72836
                        refine fun _ _ _ hJ => hJ X72835 ?_
                        intro x72829 D72828 hf
                        refine hX72836 _ _ _ ?_
                        unfold g6_j7 at hf
                        by_cases h72830 : x72829 = true
                        · have hf := iteT h72830 hf
                          refine WPK.condT (Eq.trans (b := .bool x72829) (by kernel_rfl) (b_t h72830)) ?_
                          refine WPK.seq ?_
                          refine WPK.region ?_
                          refine RW.seg hT 1 [] [] [.agg #[.int .i64 0, .int .i64 0, .int .u64 0, .slice none 0 0]] [] (by kernel_rfl) (trivial) ?_
                          refine RW.op (by kernel_rfl) (OK.store hT (i := 1) (b := b71426) (off := 0) (n := 4) (vs := [.int .i64 0, .int .i64 0, .int .u64 0, .slice none 0 0]) (cs := [.int .i64 0, .int .i64 0, .int .u64 0, .slice none 0 0]) (e := 25) s (by kernel_rfl) rfl rfl (flat_ok rfl) (Nat.le_of_ble_eq_true rfl) ?_)
                          rintro w72831 s k72832 -
                          replace e65501 := e65501.st k72832
                          replace e71465 := e71465.st k72832
                          replace e65497 := e65497.st k72832
                          replace rp69503 := rp69503.st k72832
                          replace eg0 := eg0.st k72832
                          replace kk := kk.trans k72832
                          refine RW.seg hT 1 [] [] [.int .i64 41] [] (by kernel_rfl) (trivial) ?_
                          refine RW.nil ?_
                          refine WPK.ret (blockQ.ret (?_))
                          refine Fin.of (rs := [.cell 4 25, .tmp 5]) hT [.agg #[.int .i64 0, .int .i64 0, .int .u64 0, .slice none 0 0]] (.tuple #[.agg #[.int .i64 0, .int .i64 0, .int .u64 0, .slice none 0 0], .int .i64 41]) [.cells ⟨b71426, 0, none⟩ [.int .i64 0, .int .i64 0, .int .u64 0, .slice none 0 0] 4] rfl (by kernel_rfl) (s.cells (i := 1) rfl rfl rfl) ?_
                          replace s := s.pick [2, 3] 4 rfl
                          exact fun X h => vc rfl (h I72823 0 0 0 [] 41 none 0 _ hf s kk e65501 nil_hc Elems.nil e65497 rp69503 eg0)
                        · have hf := iteF h72830 hf
                          refine WPK.condF (Eq.trans (b := .bool x72829) (by kernel_rfl) (b_f h72830)) ?_
                          refine WPK.skip ?_
                          refine WPK.seq ?_
                          refine WPK.region ?_
                          refine RW.seg hT 1 [.agg #[.int .i64 x71455.1.Kind, .int .i64 x71455.1.Page, .int .u64 x71455.1.Epoch, .slice A71462 x71455.1.Data.length c71463]] [] [.agg #[.int .i64 x71455.1.Kind, .int .i64 x71455.1.Page, .int .u64 x71455.1.Epoch, .slice A71462 x71455.1.Data.length c71463]] [.cells ⟨b71467, 0, none⟩ [.int .i64 x71455.1.Kind, .int .i64 x71455.1.Page, .int .u64 x71455.1.Epoch, .slice A71462 x71455.1.Data.length c71463] 4] (by kernel_rfl) (s.cells (i := 0) rfl rfl rfl) ?_
                          refine RW.op (by kernel_rfl) (OK.store hT (i := 1) (b := b71426) (off := 0) (n := 4) (vs := [.int .i64 x71455.1.Kind, .int .i64 x71455.1.Page, .int .u64 x71455.1.Epoch, .slice A71462 x71455.1.Data.length c71463]) (cs := [.int .i64 0, .int .i64 0, .int .u64 0, .slice none 0 0]) (e := 25) s (by kernel_rfl) rfl rfl (flat_ok rfl) (Nat.le_of_ble_eq_true rfl) ?_)
                          rintro w72833 s k72834 -
                          replace e71465 := e71465.st k72834
                          replace e65501 := e65501.st k72834
                          replace e65497 := e65497.st k72834
                          replace rp69503 := rp69503.st k72834
                          replace eg0 := eg0.st k72834
                          replace kk := kk.trans k72834
                          refine RW.seg hT 1 [] [] [.int .i64 0] [] (by kernel_rfl) (trivial) ?_
                          refine RW.nil ?_
                          refine WPK.ret (?_)
                          refine Fin.of (rs := [.cell 4 25, .tmp 5]) hT [.agg #[.int .i64 x71455.1.Kind, .int .i64 x71455.1.Page, .int .u64 x71455.1.Epoch, .slice A71462 x71455.1.Data.length c71463]] (.tuple #[.agg #[.int .i64 x71455.1.Kind, .int .i64 x71455.1.Page, .int .u64 x71455.1.Epoch, .slice A71462 x71455.1.Data.length c71463], .int .i64 0]) [.cells ⟨b71426, 0, none⟩ [.int .i64 x71455.1.Kind, .int .i64 x71455.1.Page, .int .u64 x71455.1.Epoch, .slice A71462 x71455.1.Data.length c71463] 4] rfl (by kernel_rfl) (s.cells (i := 1) rfl rfl rfl) ?_
                          replace s := s.pick [2, 3] 4 rfl
                          exact fun X h => vc rfl (h I72823 x71455.1.Kind x71455.1.Page x71455.1.Epoch x71455.1.Data 0 A71462 c71463 _ hf s kk e65501 hc71464 e71465 e65497 rp69503 eg0)
                      · refine WPK.region ?_
                        refine RW.seg hT 4 [.int .i64 x71455.1.Page] [(46, .bool (decide (x71455.1.Page ≠ p0.Page)))] [.pointer (some ⟨b71467, 1, none⟩), .int .i64 x71455.1.Page, .int .i64 p0.Page, .bool (decide (x71455.1.Page ≠ p0.Page))] [.cell ⟨b71467, 1, none⟩ (.int .i64 x71455.1.Page), .veq (.bool (x71455.1.Page != p0.Page)) (.bool (decide (x71455.1.Page ≠ p0.Page)))] (by kernel_rfl) (⟨s.cell (i := 0) (off := 1) rfl rfl, ne_v⟩) ?_
                        by_cases h72837 : x71455.1.Page ≠ p0.Page
                        · have hf := iteT h72837 hf
                          refine RW.seg hT 6 [] [(47, .bool true)] [.bool true, undef, undef, undef, .bool true, .bool true] [.veq (.bool (decide (x71455.1.Page ≠ p0.Page))) (.bool true)] (by kernel_rfl) (bo_t h72837) ?_
                          refine RW.nil ?_
                          exact fun X h => kc (by kernel_rfl) rfl (h true [(D72820.getD 0 undef), .int .i64 p0.Page, (D72820.getD 1 undef), (D72820.getD 2 undef), (D72820.getD 3 undef), (D72820.getD 4 undef), (D72820.getD 5 undef), (D72820.getD 6 undef), (D72820.getD 7 undef), (D72820.getD 8 undef), (D72820.getD 9 undef), (D72820.getD 10 undef), (D72820.getD 11 undef), (D72820.getD 12 undef), (D72820.getD 13 undef), (D72820.getD 14 undef), (D72820.getD 15 undef), (D72820.getD 16 undef), (D72820.getD 17 undef), (D72820.getD 18 undef), (D72820.getD 19 undef), (D72820.getD 20 undef), (D72820.getD 21 undef), (D72820.getD 22 undef), (D72820.getD 23 undef), (D72820.getD 24 undef), (D72820.getD 25 undef), (D72820.getD 26 undef), .bool x72821, (D72820.getD 27 undef), (D72820.getD 28 undef), (D72820.getD 29 undef), (D72820.getD 30 undef), (D72820.getD 31 undef), (D72820.getD 32 undef), (D72820.getD 33 undef), (D72820.getD 34 undef), (D72820.getD 35 undef), undef, .pointer (some ⟨b71467, 1, none⟩), .int .i64 x71455.1.Page, .int .i64 p0.Page, .bool (decide (x71455.1.Page ≠ p0.Page)), .bool true, undef, undef, undef, .bool true] hf)
                        · have hf := iteF h72837 hf
                          refine RW.seg hT 6 [.int .i64 x71455.1.Page] [(47, .bool false)] [.bool false, .pointer (some ⟨b71467, 1, none⟩), .int .i64 x71455.1.Page, .bool (decide (x71455.1.Page ≥ 2048)), .bool (decide (x71455.1.Page ≥ 2048)), .bool (decide (x71455.1.Page ≥ 2048))] [.veq (.bool (decide (x71455.1.Page ≠ p0.Page))) (.bool false), .cell ⟨b71467, 1, none⟩ (.int .i64 x71455.1.Page)] (by kernel_rfl) (⟨bo_f h72837, s.cell (i := 0) (off := 1) rfl rfl⟩) ?_
                          refine RW.nil ?_
                          exact fun X h => kc (by kernel_rfl) rfl (h (decide (x71455.1.Page ≥ 2048)) [(D72820.getD 0 undef), .int .i64 p0.Page, (D72820.getD 1 undef), (D72820.getD 2 undef), (D72820.getD 3 undef), (D72820.getD 4 undef), (D72820.getD 5 undef), (D72820.getD 6 undef), (D72820.getD 7 undef), (D72820.getD 8 undef), (D72820.getD 9 undef), (D72820.getD 10 undef), (D72820.getD 11 undef), (D72820.getD 12 undef), (D72820.getD 13 undef), (D72820.getD 14 undef), (D72820.getD 15 undef), (D72820.getD 16 undef), (D72820.getD 17 undef), (D72820.getD 18 undef), (D72820.getD 19 undef), (D72820.getD 20 undef), (D72820.getD 21 undef), (D72820.getD 22 undef), (D72820.getD 23 undef), (D72820.getD 24 undef), (D72820.getD 25 undef), (D72820.getD 26 undef), .bool x72821, (D72820.getD 27 undef), (D72820.getD 28 undef), (D72820.getD 29 undef), (D72820.getD 30 undef), (D72820.getD 31 undef), (D72820.getD 32 undef), (D72820.getD 33 undef), (D72820.getD 34 undef), (D72820.getD 35 undef), undef, .pointer (some ⟨b71467, 1, none⟩), .int .i64 x71455.1.Page, .int .i64 p0.Page, .bool (decide (x71455.1.Page ≠ p0.Page)), .bool false, .pointer (some ⟨b71467, 1, none⟩), .int .i64 x71455.1.Page, .bool (decide (x71455.1.Page ≥ 2048)), .bool (decide (x71455.1.Page ≥ 2048))] hf)
                  · refine WPK.region ?_
                    refine RW.seg hT 2 [.int .i64 x71455.1.Kind] [] [.pointer (some ⟨b71467, 0, none⟩), .int .i64 x71455.1.Kind] [.cell ⟨b71467, 0, none⟩ (.int .i64 x71455.1.Kind)] (by kernel_rfl) (s.cell (i := 0) (off := 0) rfl rfl) ?_
                    obtain ⟨x72840, hx72841, hf⟩ := bindS hf
                    refine RW.op (by kernel_rfl) (OK.call' en27 (by kernel_rfl) (c27 (F := (.blk b71467 (.cells #[.int .i64 x71455.1.Kind, .int .i64 x71455.1.Page, .int .u64 x71455.1.Epoch, .slice A71462 x71455.1.Data.length c71463] 25 (0, 0))) :: (.sl (.slice (some ⟨b71443, 0, none⟩) 256 256) 49 1 256 cl71451) :: (.blk b71426 (.cells #[.int .i64 0, .int .i64 0, .int .u64 0, .slice none 0 0] 25 (0, 0))) :: (.sl (.slice (some ⟨b71436, 0, none⟩) n69499 c69500) 49 1 n69499 cl69501) :: (.blk b65503 (.cells #[.int .i64 p0.Kind, .int .i64 p0.Page, .int .u64 p0.Epoch, .slice A65494 p0.Data.length c65495] 25 (0, 0))) :: F) x71455.1.Kind s hx72841) ?_)
                    intro X72844 hX72845
                    refine fun _ _ hJ => hJ X72844 ?_
                    intro I72846 w72842 s k72843
                    refine hX72845 _ _ ?_
                    replace e65501 := e65501.st k72843
                    replace e71465 := e71465.st k72843
                    replace e65497 := e65497.st k72843
                    replace rp71453 := rp71453.st k72843
                    replace rp69503 := rp69503.st k72843
                    replace eg0 := eg0.st k72843
                    replace kk := kk.trans k72843
                    refine RW.seg hT 1 [] [(35, .bool (decide (¬ (x72840 = true))))] [.bool (decide (¬ (x72840 = true)))] [.veq (.bool (!x72840)) (.bool (decide (¬ (x72840 = true))))] (by kernel_rfl) (not_b) ?_
                    by_cases h72847 : ¬ (x72840 = true)
                    · have hf := iteT h72847 hf
                      refine RW.seg hT 6 [] [(36, .bool true)] [.bool true, undef, undef, undef, .bool true, .bool true] [.veq (.bool (decide (¬ (x72840 = true)))) (.bool true)] (by kernel_rfl) (bo_t h72847) ?_
                      refine RW.nil ?_
                      replace s := s.pick [0, 2, 3, 4] 5 rfl
                      exact fun X h => kc (by kernel_rfl) rfl (h I72846 true [(D72799.getD 0 undef), (D72799.getD 1 undef), (D72799.getD 2 undef), .pointer (some ⟨b71443, 0, none⟩), (D72799.getD 3 undef), (D72799.getD 4 undef), (D72799.getD 5 undef), (D72799.getD 6 undef), (D72799.getD 7 undef), (D72799.getD 8 undef), (D72799.getD 9 undef), (D72799.getD 10 undef), (D72799.getD 11 undef), (D72799.getD 12 undef), (D72799.getD 13 undef), (D72799.getD 14 undef), (D72799.getD 15 undef), .bool x72800, (D72799.getD 16 undef), (D72799.getD 17 undef), (D72799.getD 18 undef), (D72799.getD 19 undef), (D72799.getD 20 undef), (D72799.getD 21 undef), (D72799.getD 22 undef), (D72799.getD 23 undef), undef, .pointer (some ⟨b71467, 0, none⟩), .int .i64 x71455.1.Kind, .bool x72840, .bool (decide (¬ (x72840 = true))), .bool true, undef, undef, undef, .bool true] _ hf s kk e71465 e65497 rp69503 e65501 eg0)
                    · have hf := iteF h72847 hf
                      obtain ⟨x72848, hx72849, hf⟩ := bindS hf
                      obtain ⟨h72850, hx72849⟩ := getS hx72849
                      rw [← hn71454] at h72850
                      obtain ⟨-, cs72851, hr72852, ha72853⟩ := St.elem s (i := 1) rfl hn71454 rp71453 hx72849
                      replace ha72853 := ha72853 _ rfl
                      obtain rfl : cs72851 = [.int .u8 x72848] := hr72852
                      refine RW.seg hT 6 [.int .u8 x72848] [(36, .bool false), (39, .bool (decide (x72848 ≠ 0)))] [.bool false, .pointer (some ⟨b71443, 0 + (5 : Int).toNat * 1, none⟩), .int .u8 x72848, .bool (decide (x72848 ≠ 0)), .bool (decide (x72848 ≠ 0)), .bool (decide (x72848 ≠ 0))] [.veq (.bool (decide (¬ (x72840 = true)))) (.bool false), .idx 5 256, .cell ⟨b71443, 0 + (5 : Int).toNat * 1, none⟩ (.int .u8 x72848), .veq (.bool (x72848 != 0)) (.bool (decide (x72848 ≠ 0)))] (by kernel_rfl) (⟨bo_f h72847, h72850, ha72853 0 _ rfl, ne_v⟩) ?_
                      refine RW.nil ?_
                      replace s := s.pick [0, 2, 3, 4] 5 rfl
                      exact fun X h => kc (by kernel_rfl) rfl (h I72846 (decide (x72848 ≠ 0)) [(D72799.getD 0 undef), (D72799.getD 1 undef), (D72799.getD 2 undef), .pointer (some ⟨b71443, 0, none⟩), (D72799.getD 3 undef), (D72799.getD 4 undef), (D72799.getD 5 undef), (D72799.getD 6 undef), (D72799.getD 7 undef), (D72799.getD 8 undef), (D72799.getD 9 undef), (D72799.getD 10 undef), (D72799.getD 11 undef), (D72799.getD 12 undef), (D72799.getD 13 undef), (D72799.getD 14 undef), (D72799.getD 15 undef), .bool x72800, (D72799.getD 16 undef), (D72799.getD 17 undef), (D72799.getD 18 undef), (D72799.getD 19 undef), (D72799.getD 20 undef), (D72799.getD 21 undef), (D72799.getD 22 undef), (D72799.getD 23 undef), undef, .pointer (some ⟨b71467, 0, none⟩), .int .i64 x71455.1.Kind, .bool x72840, .bool (decide (¬ (x72840 = true))), .bool false, .pointer (some ⟨b71443, 0 + (5 : Int).toNat * 1, none⟩), .int .u8 x72848, .bool (decide (x72848 ≠ 0)), .bool (decide (x72848 ≠ 0))] _ hf s kk e71465 e65497 rp69503 e65501 eg0)
              · refine WPK.region ?_
                refine RW.seg hT 2 [.agg (List.map (Value.int .u8) (List.take 256 y71438)).toArray] [] [.agg (List.map (Value.int .u8) (List.take 256 y71438)).toArray, .agg (List.map (Value.int .u8) (List.replicate 256 (0 : Int))).toArray] [.cells ⟨b71443, 0, none⟩ (List.map (Value.int .u8) (List.take 256 y71438)) 256] (by kernel_rfl) (St.arr s (i := 1) rfl rp71453 hn71454) ?_
                refine RW.op (by kernel_rfl) (OK.arrEq hT (t := 49) (N := 256) (e := 5) (k := .u8) (b := true) (xs := (List.take 256 y71438)) (ys := (List.replicate 256 (0 : Int))) (by kernel_rfl) (by kernel_rfl) rfl rfl rfl rfl rfl hn71454 (by simp) ?_)
                by_cases h72856 : (List.take 256 y71438) = (List.replicate 256 (0 : Int))
                · have hf := iteT h72856 hf
                  refine RW.seg hT 6 [] [(25, .bool true)] [.bool true, undef, undef, undef, .bool true, .bool true] [.veq (.bool (decide ((List.take 256 y71438) = (List.replicate 256 (0 : Int))))) (.bool true)] (by kernel_rfl) (bo_t h72856) ?_
                  refine RW.nil ?_
                  exact fun X h => kc (by kernel_rfl) rfl (h I71461 true [.slice (some ⟨b71436, 0, none⟩) n69499 c69500, undef, undef, .int .u32 x71455.2, .slice (some ⟨b71436, 0, none⟩) n69499 c69500, .int .i64 (x69491.1.length : Int), .bool (decide ((x69491.1.length : Int) ≠ 256)), undef, .slice (some ⟨b71436, 0, none⟩) n69499 c69500, .pointer (some ⟨b71436, 0, none⟩), .agg (List.map (Value.int .u8) (List.take 256 y71438)).toArray, .tuple #[.agg #[.int .i64 x71455.1.Kind, .int .i64 x71455.1.Page, .int .u64 x71455.1.Epoch, .slice A71462 x71455.1.Data.length c71463], .int .u32 x71455.2], .agg (List.map (Value.int .u8) (List.take 256 y71438)).toArray, .tuple #[.agg #[.int .i64 x71455.1.Kind, .int .i64 x71455.1.Page, .int .u64 x71455.1.Epoch, .slice A71462 x71455.1.Data.length c71463], .int .u32 x71455.2], .agg #[.int .i64 x71455.1.Kind, .int .i64 x71455.1.Page, .int .u64 x71455.1.Epoch, .slice A71462 x71455.1.Data.length c71463], .int .u32 x71455.2, .agg (List.map (Value.int .u8) (List.take 256 y71438)).toArray, .agg (List.map (Value.int .u8) (List.replicate 256 (0 : Int))).toArray, .bool (decide ((List.take 256 y71438) = (List.replicate 256 (0 : Int)))), .bool true, undef, undef, undef, .bool true, undef] _ hf s kk e71465 e65497 rp71453 rp69503 e65501 eg0)
                · have hf := iteF h72856 hf
                  refine RW.seg hT 2 [] [(25, .bool false)] [.bool false, .int .u32 x71455.2] [.veq (.bool (decide ((List.take 256 y71438) = (List.replicate 256 (0 : Int))))) (.bool false)] (by kernel_rfl) (bo_f h72856) ?_
                  refine RW.op (by kernel_rfl) (OK.inl (args := [.pointer (some ⟨b71443, 0, none⟩)]) en26 (by kernel_rfl) ?_)
                  intro R72857 hR72858
                  refine Ret.of Tryd.func26 rfl ?_
                  refine WPK.seq ?_
                  refine WPK.region ?_
                  refine RW.seg hT 1 [] [] [.int .u32 0] [] (by kernel_rfl) (trivial) ?_
                  refine RW.nil ?_
                  refine WPK.seq ?_
                  refine WPK.region ?_
                  obtain ⟨h73079, hf⟩ := iteS hf
                  replace h73079 : (0 : Int) ≤ 4 ∧ 4 ≤ ((List.take 256 y71438).length : Int) ∧ ((List.take 256 y71438).length : Int) ≤ ((256 : Nat) : Int) - 0 := by have hnn := hn71454; omega
                  obtain ⟨o73070, n73071, c73072, q73073, q73074, q73075, q73076, q73077, pt73078⟩ := partS (b := b71443) (c := 256) (Pt.whole (size := 1) (row_hc (s.at (i := 1) rfl)).1) (Nat.le_refl _) h73079
                  rw [Int.zero_add, Int.zero_add] at pt73078
                  replace q73074 : 256 - (4 : Int).toNat = n73071 := by rw [← q73074]; have hnn := hn71454; omega
                  refine RW.seg hT 3 [] [(5, .slice (some ⟨b71443, o73070, none⟩) n73071 c73072)] [.pointer (some ⟨b71443, 0, none⟩), .pointer (some ⟨b71443, 0, none⟩), .slice (some ⟨b71443, o73070, none⟩) n73071 c73072] [.both (.cut 4 (256 : Nat) 256 256) (.veq (.slice (cutA (some ⟨b71443, 0, none⟩) (4 : Int).toNat 256 1) (256 - (4 : Int).toNat) (256 - (4 : Int).toNat)) (.slice (some ⟨b71443, o73070, none⟩) n73071 c73072))] (by kernel_rfl) (⟨⟨(q73077).1, by have h1 := (q73077).2.1; have h2 := (q73077).2.2.1; omega, by have := (q73077).2.2.2; omega, by omega⟩, sl_eq q73073 q73074 q73075⟩) ?_
                  refine RW.op (by kernel_rfl) (OK.new hT (f := fun b => .slice (some ⟨b, 0, none⟩) 1 1) (cs := [.slice (some ⟨b71443, o73070, none⟩) n73071 c73072]) (e := 23) (c := .tt) s (by kernel_rfl) trivial ?_)
                  rintro w73080 b73081 s k73082 -
                  replace e65501 := e65501.st k73082
                  replace e71465 := e71465.st k73082
                  replace e65497 := e65497.st k73082
                  replace rp71453 := rp71453.st k73082
                  replace rp69503 := rp69503.st k73082
                  replace eg0 := eg0.st k73082
                  replace kk := kk.trans k73082
                  refine RW.op (by kernel_rfl) (OK.inl (args := [.slice (some ⟨b73081, 0, none⟩) 1 1]) en40 (by kernel_rfl) ?_)
                  intro R73083 hR73084
                  refine Ret.of Tryd.func40 rfl ?_
                  refine WPK.seq ?_
                  refine WPK.region ?_
                  refine RW.seg hT 1 [] [] [.int .u32 0] [] (by kernel_rfl) (trivial) ?_
                  refine RW.nil ?_
                  refine WPK.seq ?_
                  refine WPK.region ?_
                  refine RW.seg hT 1 [] [] [.slice (some ⟨b73081, 0, none⟩) 1 1] [] (by kernel_rfl) (trivial) ?_
                  refine RW.op (by kernel_rfl) (OK.inl (args := [.int .u32 0, .slice (some ⟨b73081, 0, none⟩) 1 1]) en52 (by kernel_rfl) ?_)
                  intro R73183 hR73184
                  refine Ret.of Tryd.func52 rfl ?_
                  refine WPK.seq ?_
                  refine WPK.region ?_
                  refine RW.seg hT 1 [] [] [.int .u32 0] [] (by kernel_rfl) (trivial) ?_
                  refine RW.nil ?_
                  refine WPK.seq ?_
                  refine WPK.region ?_
                  refine RW.seg hT 1 [] [] [.int .u32 0] [] (by kernel_rfl) (trivial) ?_
                  obtain ⟨x73233, hx73234, hf⟩ := bindS hf
                  refine RW.op (by kernel_rfl) (OK.call' en59 (by kernel_rfl) (c59 (F := (.blk b73081 (.cells #[.slice (some ⟨b71443, o73070, none⟩) n73071 c73072] 23 (0, 0))) :: (.blk b71467 (.cells #[.int .i64 x71455.1.Kind, .int .i64 x71455.1.Page, .int .u64 x71455.1.Epoch, .slice A71462 x71455.1.Data.length c71463] 25 (0, 0))) :: (.sl (.slice (some ⟨b71443, 0, none⟩) 256 256) 49 1 256 cl71451) :: (.blk b71426 (.cells #[.int .i64 0, .int .i64 0, .int .u64 0, .slice none 0 0] 25 (0, 0))) :: (.sl (.slice (some ⟨b71436, 0, none⟩) n69499 c69500) 49 1 n69499 cl69501) :: (.blk b65503 (.cells #[.int .i64 p0.Kind, .int .i64 p0.Page, .int .u64 p0.Epoch, .slice A65494 p0.Data.length c65495] 25 (0, 0))) :: F) 0 s hx73234) ?_)
                  intro X73237 hX73238
                  refine fun _ _ hJ => hJ X73237 ?_
                  intro I73239 w73235 s k73236
                  refine hX73238 _ _ ?_
                  replace e65501 := e65501.st k73236
                  replace e71465 := e71465.st k73236
                  replace e65497 := e65497.st k73236
                  replace rp71453 := rp71453.st k73236
                  replace rp69503 := rp69503.st k73236
                  replace eg0 := eg0.st k73236
                  replace kk := kk.trans k73236
                  refine RW.seg hT 1 [] [] [.int .u32 x73233] [] (by kernel_rfl) (trivial) ?_
                  refine RW.nil ?_
                  refine WPK.seq ?_
                  refine WPK.seq ?_
                  refine WPK.region ?_
                  refine RW.seg hT 3 [] [] [.slice (some ⟨b73081, 0, none⟩) 1 1, .int .i64 1, .int .i64 0] [] (by kernel_rfl) (trivial) ?_
                  refine RW.nil ?_
                  refine WPK.block ?_
                  refine WPK.rounds 12 ?_
                  refine Rounds.go ?_
                  refine WPK.seq ?_
                  refine WPK.region ?_
                  refine RW.seg hT 1 [] [] [.bool true] [] (by kernel_rfl) (trivial) ?_
                  refine RW.nil ?_
                  refine WPK.seq ?_
                  refine WPK.condT (by kernel_rfl) ?_
                  refine WPK.skip ?_
                  refine WPK.seq ?_
                  refine WPK.block ?_
                  refine WPK.seq ?_
                  refine WPK.region ?_
                  refine RW.seg hT 3 [.slice (some ⟨b71443, o73070, none⟩) n73071 c73072] [] [.pointer (some ⟨b73081, 0, none⟩), .slice (some ⟨b71443, o73070, none⟩) n73071 c73072, .slice (some ⟨b71443, o73070, none⟩) n73071 c73072] [.idx 0 1, .cell ⟨b73081, 0, none⟩ (.slice (some ⟨b71443, o73070, none⟩) n73071 c73072)] (by kernel_rfl) (⟨⟨by decide, by decide⟩, s.cell (i := 0) (off := 0) rfl rfl⟩) ?_
                  refine RW.nil ?_
                  refine WPK.region ?_
                  refine RW.seg hT 2 [] [] [.int .u32 x73233, .slice (some ⟨b71443, o73070, none⟩) n73071 c73072] [] (by kernel_rfl) (trivial) ?_
                  obtain ⟨y73261, hy73262, hf⟩ := bindS hf
                  have sa73257 := s
                  obtain ⟨hm73263, hc73258, e73259⟩ := St.lendPt s (i := 2) rfl rfl rp71453 pt73078 (q73076) hy73262
                  have k73260 := Kp.shut (I := I73239) (w := w73235) (p := .sl (.slice (some ⟨b71443, 0, none⟩) 256 256) 49 1 256 cl71451)
                  replace s := s.shut 2 rfl
                  obtain ⟨x73264, hx73265, hf⟩ := bindS hf
                  have hc73268 := c60 (F := (.blk b73081 (.cells #[.slice (some ⟨b71443, o73070, none⟩) n73071 c73072] 23 (0, 0))) :: (.blk b71467 (.cells #[.int .i64 x71455.1.Kind, .int .i64 x71455.1.Page, .int .u64 x71455.1.Epoch, .slice A71462 x71455.1.Data.length c71463] 25 (0, 0))) :: (.blk b71426 (.cells #[.int .i64 0, .int .i64 0, .int .u64 0, .slice none 0 0] 25 (0, 0))) :: (.sl (.slice (some ⟨b71436, 0, none⟩) n69499 c69500) 49 1 n69499 cl69501) :: (.blk b65503 (.cells #[.int .i64 p0.Kind, .int .i64 p0.Page, .int .u64 p0.Epoch, .slice A65494 p0.Data.length c65495] 25 (0, 0))) :: F) x73233 y73261 (some ⟨b71443, o73070, none⟩) c73072 hc73258 e73259 (eg0.st k73260) s hx73265
                  rw [← hm73263] at hc73268
                  refine RW.op (by kernel_rfl) (OK.call' en60 (by kernel_rfl) (hc73268) ?_)
                  intro X73269 hX73270
                  refine fun _ _ hJ => hJ X73269 ?_
                  intro I73271 w73266 s k73267
                  refine hX73270 _ _ ?_
                  have s' := St.back sa73257 (i := 2) rfl s k73267
                  replace k73267 := Kp.back sa73257 (i := 2) rfl k73267
                  replace s := s'; clear s'
                  obtain ⟨I73273, s, k73267⟩ : ∃ I : Nat → Prop, St w0 M I ((.sl (.slice (some ⟨b71443, 0, none⟩) 256 256) 49 1 256 cl71451) :: (.blk b73081 (.cells #[.slice (some ⟨b71443, o73070, none⟩) n73071 c73072] 23 (0, 0))) :: (.blk b71467 (.cells #[.int .i64 x71455.1.Kind, .int .i64 x71455.1.Page, .int .u64 x71455.1.Epoch, .slice A71462 x71455.1.Data.length c71463] 25 (0, 0))) :: (.blk b71426 (.cells #[.int .i64 0, .int .i64 0, .int .u64 0, .slice none 0 0] 25 (0, 0))) :: (.sl (.slice (some ⟨b71436, 0, none⟩) n69499 c69500) 49 1 n69499 cl69501) :: (.blk b65503 (.cells #[.int .i64 p0.Kind, .int .i64 p0.Page, .int .u64 p0.Epoch, .slice A65494 p0.Data.length c65495] 25 (0, 0))) :: F) w73266 ∧ Kp _ _ I _ := ⟨_, s, k73267⟩
                  replace e65501 := e65501.st k73267
                  replace e71465 := e71465.st k73267
                  replace e65497 := e65497.st k73267
                  replace rp69503 := rp69503.st k73267
                  replace eg0 := eg0.st k73267
                  replace rp71453 := rp71453.st k73267
                  replace kk := kk.trans k73267
                  refine RW.seg hT 1 [] [] [.int .u32 x73264] [] (by kernel_rfl) (trivial) ?_
                  refine RW.nil ?_
                  refine WPK.region ?_
                  refine RW.seg hT 2 [] [] [.int .i64 1, .int .i64 1] [] (by kernel_rfl) (trivial) ?_
                  refine RW.nil ?_
                  refine Rounds.go ?_
                  refine WPK.seq ?_
                  refine WPK.region ?_
                  refine RW.seg hT 1 [] [] [.bool false] [] (by kernel_rfl) (trivial) ?_
                  refine RW.nil ?_
                  refine WPK.seq ?_
                  refine WPK.condF (by kernel_rfl) ?_
                  refine WPK.exit (blockQ.same ?_)
                  refine WPK.seq ?_
                  refine WPK.region ?_
                  refine RW.seg hT 1 [] [] [.int .u32 x73264] [] (by kernel_rfl) (trivial) ?_
                  obtain ⟨x73274, hx73275, hf⟩ := bindS hf
                  refine RW.op (by kernel_rfl) (OK.call' en61 (by kernel_rfl) (c61 (F := (.sl (.slice (some ⟨b71443, 0, none⟩) 256 256) 49 1 256 cl71451) :: (.blk b73081 (.cells #[.slice (some ⟨b71443, o73070, none⟩) n73071 c73072] 23 (0, 0))) :: (.blk b71467 (.cells #[.int .i64 x71455.1.Kind, .int .i64 x71455.1.Page, .int .u64 x71455.1.Epoch, .slice A71462 x71455.1.Data.length c71463] 25 (0, 0))) :: (.blk b71426 (.cells #[.int .i64 0, .int .i64 0, .int .u64 0, .slice none 0 0] 25 (0, 0))) :: (.sl (.slice (some ⟨b71436, 0, none⟩) n69499 c69500) 49 1 n69499 cl69501) :: (.blk b65503 (.cells #[.int .i64 p0.Kind, .int .i64 p0.Page, .int .u64 p0.Epoch, .slice A65494 p0.Data.length c65495] 25 (0, 0))) :: F) x73264 s hx73275) ?_)
                  intro X73278 hX73279
                  refine fun _ _ hJ => hJ X73278 ?_
                  intro I73280 w73276 s k73277
                  refine hX73279 _ _ ?_
                  replace e65501 := e65501.st k73277
                  replace e71465 := e71465.st k73277
                  replace e65497 := e65497.st k73277
                  replace rp71453 := rp71453.st k73277
                  replace rp69503 := rp69503.st k73277
                  replace eg0 := eg0.st k73277
                  replace kk := kk.trans k73277
                  refine RW.seg hT 1 [] [] [.int .u32 x73274] [] (by kernel_rfl) (trivial) ?_
                  refine RW.nil ?_
                  refine WPK.ret (?_)
                  refine Fin.of (rs := [.tmp 4]) hT [] (.int .u32 x73274) [] rfl (by kernel_rfl) (trivial) ?_
                  refine hR73184 _ _ ?_
                  refine RW.seg hT 1 [] [] [.int .u32 x73274] [] (by kernel_rfl) (trivial) ?_
                  refine RW.nil ?_
                  refine WPK.ret (?_)
                  refine Fin.of (rs := [.tmp 2]) hT [] (.int .u32 x73274) [] rfl (by kernel_rfl) (trivial) ?_
                  refine hR73084 _ _ ?_
                  refine RW.seg hT 1 [] [] [.int .u32 x73274] [] (by kernel_rfl) (trivial) ?_
                  refine RW.nil ?_
                  refine WPK.ret (?_)
                  refine Fin.of (rs := [.tmp 2]) hT [] (.int .u32 x73274) [] rfl (by kernel_rfl) (trivial) ?_
                  refine hR72858 _ _ ?_
                  refine RW.seg hT 3 [] [(28, .bool (decide (x71455.2 ≠ x73274)))] [.bool (decide (x71455.2 ≠ x73274)), .bool (decide (x71455.2 ≠ x73274)), .bool (decide (x71455.2 ≠ x73274))] [.veq (.bool (x71455.2 != x73274)) (.bool (decide (x71455.2 ≠ x73274)))] (by kernel_rfl) (ne_v) ?_
                  refine RW.nil ?_
                  replace s := s.pick [2, 0, 3, 4, 5] 6 rfl
                  exact fun X h => kc (by kernel_rfl) rfl (h I73280 (decide (x71455.2 ≠ x73274)) [.slice (some ⟨b71436, 0, none⟩) n69499 c69500, undef, undef, .int .u32 x71455.2, .slice (some ⟨b71436, 0, none⟩) n69499 c69500, .int .i64 (x69491.1.length : Int), .bool (decide ((x69491.1.length : Int) ≠ 256)), undef, .slice (some ⟨b71436, 0, none⟩) n69499 c69500, .pointer (some ⟨b71436, 0, none⟩), .agg (List.map (Value.int .u8) (List.take 256 y71438)).toArray, .tuple #[.agg #[.int .i64 x71455.1.Kind, .int .i64 x71455.1.Page, .int .u64 x71455.1.Epoch, .slice A71462 x71455.1.Data.length c71463], .int .u32 x71455.2], .agg (List.map (Value.int .u8) (List.take 256 y71438)).toArray, .tuple #[.agg #[.int .i64 x71455.1.Kind, .int .i64 x71455.1.Page, .int .u64 x71455.1.Epoch, .slice A71462 x71455.1.Data.length c71463], .int .u32 x71455.2], .agg #[.int .i64 x71455.1.Kind, .int .i64 x71455.1.Page, .int .u64 x71455.1.Epoch, .slice A71462 x71455.1.Data.length c71463], .int .u32 x71455.2, .agg (List.map (Value.int .u8) (List.take 256 y71438)).toArray, .agg (List.map (Value.int .u8) (List.replicate 256 (0 : Int))).toArray, .bool (decide ((List.take 256 y71438) = (List.replicate 256 (0 : Int)))), .bool false, .int .u32 x71455.2, .int .u32 x73274, .bool (decide (x71455.2 ≠ x73274)), .bool (decide (x71455.2 ≠ x73274)), undef] _ hf s kk e71465 e65497 rp71453 rp69503 e65501 eg0)
        · have hf := iteF h69505 hf
          refine WPK.condF (Eq.trans (b := .bool (decide (x69491.2 = 0))) (by kernel_rfl) (bo_f h69505)) ?_
          refine WPK.skip ?_
          replace s := s.pick [] 2 rfl
          exact fun X h => kc (by kernel_rfl) rfl (h I69497 [(D65608.getD 0 undef), .pointer (some ⟨b65503, 0, none⟩), (D65608.getD 1 undef), (D65608.getD 2 undef), .slice A69498 n69499 c69500, .int .i64 x69491.2, undef, undef, (D65608.getD 3 undef), (D65608.getD 4 undef), (D65608.getD 5 undef), (D65608.getD 6 undef), (D65608.getD 7 undef), (D65608.getD 8 undef), (D65608.getD 9 undef), (D65608.getD 10 undef), (D65608.getD 11 undef), (D65608.getD 12 undef), (D65608.getD 13 undef), (D65608.getD 14 undef), .bool x65609, undef, .tuple #[.slice A69498 n69499 c69500, .int .i64 x69491.2], .agg #[.int .i64 p0.Kind, .int .i64 p0.Page, .int .u64 p0.Epoch, .slice A65494 p0.Data.length c65495], .tuple #[.slice A69498 n69499 c69500, .int .i64 x69491.2], .slice A69498 n69499 c69500, .int .i64 x69491.2, .int .i64 x69491.2, .bool (decide (x69491.2 = 0)), undef, (D65608.getD 16 undef), undef, (D65608.getD 17 undef), undef, undef, undef, undef, undef, undef, (D65608.getD 18 undef), (D65608.getD 19 undef), undef, undef, undef, undef, (D65608.getD 20 undef), undef, undef, undef, undef, undef, (D65608.getD 21 undef), undef, undef, undef, (D65608.getD 22 undef), (D65608.getD 23 undef), (D65608.getD 24 undef), (D65608.getD 25 undef), (D65608.getD 26 undef), (D65608.getD 27 undef), (D65608.getD 28 undef)] _ hf s kk e65501 eg0)
  · refine WPK.region ?_
    obtain ⟨x73283, hx73284, hf⟩ := bindS hf
    refine RW.op (by kernel_rfl) (OK.call' en9 (by kernel_rfl) (c9 (F := (.blk b65503 (.cells #[.int .i64 p0.Kind, .int .i64 p0.Page, .int .u64 p0.Epoch, .slice A65494 p0.Data.length c65495] 25 (0, 0))) :: F) eg0 s hx73284) ?_)
    intro X73287 hX73288
    refine fun _ _ hJ => hJ X73287 ?_
    intro I73289 w73285 s k73286
    refine hX73288 _ _ ?_
    replace e65497 := e65497.st k73286
    replace e65501 := e65501.st k73286
    replace eg0 := eg0.st k73286
    replace kk := kk.trans k73286
    refine RW.seg hT 1 [] [(15, .bool (decide (¬ (x73283 = true))))] [.bool (decide (¬ (x73283 = true)))] [.veq (.bool (!x73283)) (.bool (decide (¬ (x73283 = true))))] (by kernel_rfl) (not_b) ?_
    by_cases h73290 : ¬ (x73283 = true)
    · have hf := iteT h73290 hf
      refine RW.seg hT 11 [] [(16, .bool true)] [.bool true, undef, undef, undef, undef, .bool true, .bool true, undef, undef, undef, .bool true] [.veq (.bool (decide (¬ (x73283 = true)))) (.bool true)] (by kernel_rfl) (bo_t h73290) ?_
      refine RW.nil ?_
      exact fun X h => kc (by kernel_rfl) rfl (h I73289 true [.agg #[.int .i64 p0.Kind, .int .i64 p0.Page, .int .u64 p0.Epoch, .slice A65494 p0.Data.length c65495], undef, undef, .bool x73283, .bool (decide (¬ (x73283 = true))), .bool true, undef, undef, undef, undef, .bool true, .bool true, undef, undef, undef, undef, undef, undef, undef, undef, undef, undef, undef, undef, undef, undef, undef, undef, undef] _ hf s kk e65501 e65497 eg0)
    · have hf := iteF h73290 hf
      refine RW.seg hT 2 [.agg #[.int .i64 p0.Kind, .int .i64 p0.Page, .int .u64 p0.Epoch, .slice A65494 p0.Data.length c65495]] [(16, .bool false)] [.bool false, .agg #[.int .i64 p0.Kind, .int .i64 p0.Page, .int .u64 p0.Epoch, .slice A65494 p0.Data.length c65495]] [.veq (.bool (decide (¬ (x73283 = true)))) (.bool false), .cells ⟨b65503, 0, none⟩ [.int .i64 p0.Kind, .int .i64 p0.Page, .int .u64 p0.Epoch, .slice A65494 p0.Data.length c65495] 4] (by kernel_rfl) (⟨bo_f h73290, s.cells (i := 0) rfl rfl rfl⟩) ?_
      refine RW.op (by kernel_rfl) (OK.new hT (f := fun b => .slice (some ⟨b, 0, none⟩) 1 1) (cs := [.int .i64 p0.Kind, .int .i64 p0.Page, .int .u64 p0.Epoch, .slice A65494 p0.Data.length c65495]) (e := 25) (c := .tt) s (by kernel_rfl) trivial ?_)
      rintro w73291 b73292 s k73293 -
      replace e65497 := e65497.st k73293
      replace e65501 := e65501.st k73293
      replace eg0 := eg0.st k73293
      replace kk := kk.trans k73293
      have rp73294 : RepL rp_T_api_Frame I73289 w73291 [.int .i64 p0.Kind, .int .i64 p0.Page, .int .u64 p0.Epoch, .slice A65494 p0.Data.length c65495] ([p0] : List T_api_Frame) := RepL.cons (c := [.int .i64 p0.Kind, .int .i64 p0.Page, .int .u64 p0.Epoch, .slice A65494 p0.Data.length c65495]) (d := []) (⟨[.int .i64 p0.Kind], [.int .i64 p0.Page, .int .u64 p0.Epoch, .slice A65494 p0.Data.length c65495], rfl, rfl, ⟨[.int .i64 p0.Page], [.int .u64 p0.Epoch, .slice A65494 p0.Data.length c65495], rfl, rfl, ⟨[.int .u64 p0.Epoch], [.slice A65494 p0.Data.length c65495], rfl, rfl, ⟨_, _, rfl, hc65496.1, hc65496.2, e65497⟩⟩⟩⟩) (RepL.nil)
      replace s : St w0 M I73289 ((.sl (.slice (some ⟨b73292, 0, none⟩) 1 1) 25 4 1 [.int .i64 p0.Kind, .int .i64 p0.Page, .int .u64 p0.Epoch, .slice A65494 p0.Data.length c65495]) :: (.blk b65503 (.cells #[.int .i64 p0.Kind, .int .i64 p0.Page, .int .u64 p0.Epoch, .slice A65494 p0.Data.length c65495] 25 (0, 0))) :: F) w73291 := s.blkSl (i := 0) (n := 1) (c := 1) (size := 4) rfl rfl (Nat.le_refl _) (by decide)
      have sa73296 := s
      obtain ⟨hc73297, e73298⟩ := St.lend s (i := 0) rfl rfl rp73294
      have k73299 := Kp.shut (I := I73289) (w := w73291) (p := .sl (.slice (some ⟨b73292, 0, none⟩) 1 1) 25 4 1 [.int .i64 p0.Kind, .int .i64 p0.Page, .int .u64 p0.Epoch, .slice A65494 p0.Data.length c65495])
      replace s := s.shut 0 rfl
      obtain ⟨x73300, hx73301, hf⟩ := bindS hf
      refine RW.op (by kernel_rfl) (OK.call' en10 (by kernel_rfl) (c10 (F := (.blk b65503 (.cells #[.int .i64 p0.Kind, .int .i64 p0.Page, .int .u64 p0.Epoch, .slice A65494 p0.Data.length c65495] 25 (0, 0))) :: F) ([p0] : List T_api_Frame) (some ⟨b73292, 0, none⟩) 1 hc73297 e73298 s hx73301) ?_)
      intro X73304 hX73305
      refine fun _ _ hJ => hJ X73304 ?_
      intro I73306 w73302 s k73303
      refine hX73305 _ _ ?_
      have s' := St.back sa73296 (i := 0) rfl s k73303
      replace k73303 := Kp.back sa73296 (i := 0) rfl k73303
      replace s := s'; clear s'
      obtain ⟨I73308, s, k73303⟩ : ∃ I : Nat → Prop, St w0 M I ((.sl (.slice (some ⟨b73292, 0, none⟩) 1 1) 25 4 1 [.int .i64 p0.Kind, .int .i64 p0.Page, .int .u64 p0.Epoch, .slice A65494 p0.Data.length c65495]) :: (.blk b65503 (.cells #[.int .i64 p0.Kind, .int .i64 p0.Page, .int .u64 p0.Epoch, .slice A65494 p0.Data.length c65495] 25 (0, 0))) :: F) w73302 ∧ Kp _ _ I _ := ⟨_, s, k73303⟩
      replace e65497 := e65497.st k73303
      replace e65501 := e65501.st k73303
      replace eg0 := eg0.st k73303
      replace rp73294 := rp73294.st k73303
      replace kk := kk.trans k73303
      refine RW.seg hT 2 [] [(20, .bool (decide (¬ (x73300 = true))))] [.bool (decide (¬ (x73300 = true))), .bool (decide (¬ (x73300 = true)))] [.veq (.bool (!x73300)) (.bool (decide (¬ (x73300 = true))))] (by kernel_rfl) (not_b) ?_
      by_cases h73309 : ¬ (x73300 = true)
      · have hf := iteT h73309 hf
        refine RW.seg hT 5 [] [(22, .bool true)] [.bool true, undef, undef, undef, .bool true] [.veq (.bool (decide (¬ (x73300 = true)))) (.bool true)] (by kernel_rfl) (bo_t h73309) ?_
        refine RW.nil ?_
        replace s := s.pick [1] 2 rfl
        exact fun X h => kc (by kernel_rfl) rfl (h I73308 true [.agg #[.int .i64 p0.Kind, .int .i64 p0.Page, .int .u64 p0.Epoch, .slice A65494 p0.Data.length c65495], undef, undef, .bool x73283, .bool (decide (¬ (x73283 = true))), .bool false, .agg #[.int .i64 p0.Kind, .int .i64 p0.Page, .int .u64 p0.Epoch, .slice A65494 p0.Data.length c65495], .slice (some ⟨b73292, 0, none⟩) 1 1, .bool x73300, .bool (decide (¬ (x73300 = true))), .bool (decide (¬ (x73300 = true))), .bool true, undef, undef, undef, undef, undef, undef, undef, undef, undef, undef, undef, undef, undef, undef, undef, undef, undef] _ hf s kk e65501 e65497 eg0)
      · have hf := iteF h73309 hf
        refine RW.seg hT 5 [] [(22, .bool false)] [.bool false, .slice A65498 p1.length c65499, .int .i64 (p1.length : Int), .bool (decide ((p1.length : Int) > 3000)), .bool (decide ((p1.length : Int) > 3000))] [.veq (.bool (decide (¬ (x73300 = true)))) (.bool false)] (by kernel_rfl) (bo_f h73309) ?_
        refine RW.nil ?_
        replace s := s.pick [1] 2 rfl
        exact fun X h => kc (by kernel_rfl) rfl (h I73308 (decide ((p1.length : Int) > 3000)) [.agg #[.int .i64 p0.Kind, .int .i64 p0.Page, .int .u64 p0.Epoch, .slice A65494 p0.Data.length c65495], undef, undef, .bool x73283, .bool (decide (¬ (x73283 = true))), .bool false, .agg #[.int .i64 p0.Kind, .int .i64 p0.Page, .int .u64 p0.Epoch, .slice A65494 p0.Data.length c65495], .slice (some ⟨b73292, 0, none⟩) 1 1, .bool x73300, .bool (decide (¬ (x73300 = true))), .bool (decide (¬ (x73300 = true))), .bool false, .slice A65498 p1.length c65499, .int .i64 (p1.length : Int), .bool (decide ((p1.length : Int) > 3000)), undef, undef, undef, undef, undef, undef, undef, undef, undef, undef, undef, undef, undef, undef] _ hf s kk e65501 e65497 eg0)
theorem c23 {w0 w : World} {M I : Nat → Prop} {F : List It} (p0 : T_api_Frame) (A73493 : Option Addr) (c73494 : Nat) (hc73495 : (p0.Data.length ≤ c73494 ∧ c73494 ≤ 9223372036854775807)) (e73496 : Elems (Rp.int .u8) I w A73493 p0.Data) (s : St w0 M I (F) w) {r : Int} (hf : g23 p0 = some r) :
    Ret Tryd.prog 23 [.agg #[.int .i64 p0.Kind, .int .i64 p0.Page, .int .u64 p0.Epoch, .slice A73493 p0.Data.length c73494]] w fun v wz => ∀ X : Value → World → Prop, (∀ (I' : Nat → Prop) (w' : World), St w0 M I' (F) w' → Kp I w I' w' → X (.int .i64 r) w') → X v wz := by
  have kk : Kp I w I w := Kp.refl
  unfold g23 at hf
  refine Ret.of Tryd.func23 rfl ?_
  refine WPK.seq ?_
  refine WPK.region ?_
  refine RW.op (by kernel_rfl) (OK.new hT (f := fun b => .pointer (some ⟨b, 0, none⟩)) (cs := [.int .i64 p0.Kind, .int .i64 p0.Page, .int .u64 p0.Epoch, .slice A73493 p0.Data.length c73494]) (e := 25) (c := .tt) s (by kernel_rfl) trivial ?_)
  rintro w73497 b73498 s k73499 -
  replace e73496 := e73496.st k73499
  replace kk := kk.trans k73499
  refine RW.seg hT 1 [] [] [.int .i64 0] [] (by kernel_rfl) (trivial) ?_
  refine RW.nil ?_
  refine WPK.seq ?_
  refine WPK.seq ?_
  refine WPK.cut' (Kn fun E ds wz => ∀ X : Kont, (∀ (x73505 : Bool) (D73504 : List Value), g23_j1 p0 x73505 = some r → X [(D73504.getD 0 undef), .pointer (some ⟨b73498, 0, none⟩), .int .i64 0, (D73504.getD 1 undef), (D73504.getD 2 undef), (D73504.getD 3 undef), (D73504.getD 4 undef), (D73504.getD 5 undef), (D73504.getD 6 undef), (D73504.getD 7 undef), .bool x73505, undef, undef, undef, undef, undef, undef, undef, undef, undef, (D73504.getD 8 undef), undef, undef] [] w73497) → X E ds wz) ?_ ?_
  · intro X73519 hX73520
    refine fun _ _ _ hJ => hJ X73519 ?_
    intro x73505 D73504 hf
    refine hX73520 _ _ _ ?_
    unfold g23_j1 at hf
    by_cases h73506 : x73505 = true
    · have hf := iteT h73506 hf
      refine WPK.condT (Eq.trans (b := .bool x73505) (by kernel_rfl) (b_t h73506)) ?_
      refine WPK.seq ?_
      refine WPK.region ?_
      refine RW.seg hT 1 [] [] [.int .i64 42] [] (by kernel_rfl) (trivial) ?_
      refine RW.nil ?_
      refine WPK.ret (?_)
      obtain rfl := someS hf
      refine Fin.of (rs := [.tmp 2]) hT [] (.int .i64 42) [] rfl (by kernel_rfl) (trivial) ?_
      replace s := s.pick [] 1 rfl
      exact fun X h => vc rfl (h I _ s kk)
    · have hf := iteF h73506 hf
      refine WPK.condF (Eq.trans (b := .bool x73505) (by kernel_rfl) (b_f h73506)) ?_
      refine WPK.skip ?_
      refine WPK.seq ?_
      refine WPK.seq ?_
      refine WPK.cut' (Kn fun E ds wz => ∀ X : Kont, (∀ (x73512 : Bool) (D73511 : List Value), g23_j2 p0 x73512 = some r → X [(D73511.getD 0 undef), .pointer (some ⟨b73498, 0, none⟩), .int .i64 0, (D73511.getD 1 undef), (D73511.getD 2 undef), (D73511.getD 3 undef), (D73511.getD 4 undef), (D73511.getD 5 undef), (D73511.getD 6 undef), (D73511.getD 7 undef), (D73511.getD 8 undef), (D73511.getD 9 undef), (D73511.getD 10 undef), (D73511.getD 11 undef), (D73511.getD 12 undef), (D73511.getD 13 undef), (D73511.getD 14 undef), (D73511.getD 15 undef), .bool x73512, undef, (D73511.getD 16 undef), undef, undef] [] w73497) → X E ds wz) ?_ ?_
      · intro X73516 hX73517
        refine fun _ _ _ hJ => hJ X73516 ?_
        intro x73512 D73511 hf
        refine hX73517 _ _ _ ?_
        unfold g23_j2 at hf
        by_cases h73513 : x73512 = true
        · have hf := iteT h73513 hf
          refine WPK.condT (Eq.trans (b := .bool x73512) (by kernel_rfl) (b_t h73513)) ?_
          refine WPK.seq ?_
          refine WPK.region ?_
          refine RW.seg hT 1 [] [] [.int .i64 41] [] (by kernel_rfl) (trivial) ?_
          refine RW.nil ?_
          refine WPK.ret (?_)
          obtain rfl := someS hf
          refine Fin.of (rs := [.tmp 2]) hT [] (.int .i64 41) [] rfl (by kernel_rfl) (trivial) ?_
          replace s := s.pick [] 1 rfl
          exact fun X h => vc rfl (h I _ s kk)
        · have hf := iteF h73513 hf
          refine WPK.condF (Eq.trans (b := .bool x73512) (by kernel_rfl) (b_f h73513)) ?_
          refine WPK.skip ?_
          refine WPK.seq ?_
          refine WPK.seq ?_
          refine WPK.region ?_
          refine RW.seg hT 4 [.slice A73493 p0.Data.length c73494] [] [.pointer (some ⟨b73498, 3, none⟩), .slice A73493 p0.Data.length c73494, .int .i64 (p0.Data.length : Int), .bool (decide ((p0.Data.length : Int) > 240))] [.cell ⟨b73498, 3, none⟩ (.slice A73493 p0.Data.length c73494)] (by kernel_rfl) (s.cell (i := 0) (off := 3) rfl rfl) ?_
          refine RW.nil ?_
          by_cases h73515 : (p0.Data.length : Int) > 240
          · have hf := iteT h73515 hf
            refine WPK.condT (Eq.trans (b := .bool (decide ((p0.Data.length : Int) > 240))) (by kernel_rfl) (bo_t h73515)) ?_
            refine WPK.seq ?_
            refine WPK.region ?_
            refine RW.seg hT 1 [] [] [.int .i64 3] [] (by kernel_rfl) (trivial) ?_
            refine RW.nil ?_
            refine WPK.ret (?_)
            obtain rfl := someS hf
            refine Fin.of (rs := [.tmp 2]) hT [] (.int .i64 3) [] rfl (by kernel_rfl) (trivial) ?_
            replace s := s.pick [] 1 rfl
            exact fun X h => vc rfl (h I _ s kk)
          · have hf := iteF h73515 hf
            refine WPK.condF (Eq.trans (b := .bool (decide ((p0.Data.length : Int) > 240))) (by kernel_rfl) (bo_f h73515)) ?_
            refine WPK.skip ?_
            refine WPK.seq ?_
            refine WPK.region ?_
            refine RW.seg hT 1 [] [] [.int .i64 0] [] (by kernel_rfl) (trivial) ?_
            refine RW.nil ?_
            refine WPK.ret (?_)
            obtain rfl := someS hf
            refine Fin.of (rs := [.tmp 2]) hT [] (.int .i64 0) [] rfl (by kernel_rfl) (trivial) ?_
            replace s := s.pick [] 1 rfl
            exact fun X h => vc rfl (h I _ s kk)
      · refine WPK.region ?_
        refine RW.seg hT 3 [.int .i64 p0.Page] [] [.pointer (some ⟨b73498, 1, none⟩), .int .i64 p0.Page, .bool (decide (p0.Page < 0))] [.cell ⟨b73498, 1, none⟩ (.int .i64 p0.Page)] (by kernel_rfl) (s.cell (i := 0) (off := 1) rfl rfl) ?_
        by_cases h73518 : p0.Page < 0
        · have hf := iteT h73518 hf
          refine RW.seg hT 5 [] [(14, .bool true)] [.bool true, undef, undef, undef, .bool true] [.veq (.bool (decide (p0.Page < 0))) (.bool true)] (by kernel_rfl) (bo_t h73518) ?_
          refine RW.nil ?_
          exact fun X h => kc (by kernel_rfl) rfl (h true [(D73504.getD 0 undef), (D73504.getD 1 undef), (D73504.getD 2 undef), (D73504.getD 3 undef), (D73504.getD 4 undef), (D73504.getD 5 undef), (D73504.getD 6 undef), (D73504.getD 7 undef), .bool x73505, .pointer (some ⟨b73498, 1, none⟩), .int .i64 p0.Page, .bool (decide (p0.Page < 0)), .bool true, undef, undef, undef, (D73504.getD 8 undef)] hf)
        · have hf := iteF h73518 hf
          refine RW.seg hT 5 [.int .i64 p0.Page] [(14, .bool false)] [.bool false, .pointer (some ⟨b73498, 1, none⟩), .int .i64 p0.Page, .bool (decide (p0.Page ≥ 2048)), .bool (decide (p0.Page ≥ 2048))] [.veq (.bool (decide (p0.Page < 0))) (.bool false), .cell ⟨b73498, 1, none⟩ (.int .i64 p0.Page)] (by kernel_rfl) (⟨bo_f h73518, s.cell (i := 0) (off := 1) rfl rfl⟩) ?_
          refine RW.nil ?_
          exact fun X h => kc (by kernel_rfl) rfl (h (decide (p0.Page ≥ 2048)) [(D73504.getD 0 undef), (D73504.getD 1 undef), (D73504.getD 2 undef), (D73504.getD 3 undef), (D73504.getD 4 undef), (D73504.getD 5 undef), (D73504.getD 6 undef), (D73504.getD 7 undef), .bool x73505, .pointer (some ⟨b73498, 1, none⟩), .int .i64 p0.Page, .bool (decide (p0.Page < 0)), .bool false, .pointer (some ⟨b73498, 1, none⟩), .int .i64 p0.Page, .bool (decide (p0.Page ≥ 2048)), (D73504.getD 8 undef)] hf)
  · refine WPK.region ?_
    refine RW.seg hT 3 [.int .i64 p0.Kind] [] [.pointer (some ⟨b73498, 0, none⟩), .int .i64 p0.Kind, .bool (decide (p0.Kind < 1))] [.cell ⟨b73498, 0, none⟩ (.int .i64 p0.Kind)] (by kernel_rfl) (s.cell (i := 0) (off := 0) rfl rfl) ?_
    by_cases h73521 : p0.Kind < 1
    · have hf := iteT h73521 hf
      refine RW.seg hT 5 [] [(6, .bool true)] [.bool true, undef, undef, undef, .bool true] [.veq (.bool (decide (p0.Kind < 1))) (.bool true)] (by kernel_rfl) (bo_t h73521) ?_
      refine RW.nil ?_
      exact fun X h => kc (by kernel_rfl) rfl (h true [.agg #[.int .i64 p0.Kind, .int .i64 p0.Page, .int .u64 p0.Epoch, .slice A73493 p0.Data.length c73494], .pointer (some ⟨b73498, 0, none⟩), .int .i64 p0.Kind, .bool (decide (p0.Kind < 1)), .bool true, undef, undef, undef, undef] hf)
    · have hf := iteF h73521 hf
      refine RW.seg hT 5 [.int .i64 p0.Kind] [(6, .bool false)] [.bool false, .pointer (some ⟨b73498, 0, none⟩), .int .i64 p0.Kind, .bool (decide (p0.Kind > 4)), .bool (decide (p0.Kind > 4))] [.veq (.bool (decide (p0.Kind < 1))) (.bool false), .cell ⟨b73498, 0, none⟩ (.int .i64 p0.Kind)] (by kernel_rfl) (⟨bo_f h73521, s.cell (i := 0) (off := 0) rfl rfl⟩) ?_
      refine RW.nil ?_
      exact fun X h => kc (by kernel_rfl) rfl (h (decide (p0.Kind > 4)) [.agg #[.int .i64 p0.Kind, .int .i64 p0.Page, .int .u64 p0.Epoch, .slice A73493 p0.Data.length c73494], .pointer (some ⟨b73498, 0, none⟩), .int .i64 p0.Kind, .bool (decide (p0.Kind < 1)), .bool false, .pointer (some ⟨b73498, 0, none⟩), .int .i64 p0.Kind, .bool (decide (p0.Kind > 4)), undef] hf)
end Go.Proofs.YtjkghheeeiacmaaDoor
