/- PRINTED BY sy.py: each call computes what the plain function of its number tells. -/
import Derived.Test.YtefjbhogpgihaaaDoorW1
namespace Go.Proofs.YtefjbhogpgihaaaDoor
open Go Go.SX Go.RowKit
set_option maxRecDepth 100000
set_option linter.unusedVariables false
attribute [local irreducible] WPK RW RD Ret SX.Fin SX.Any opK RoundBeg RoundEnd RangeEnd Rounds
theorem c33 {w0 w : World} {M I : Nat → Prop} {F : List It} (p0 : (List Int)) (p1 : Int) (p2 : Int) (A54230 : Option Addr) (c54231 : Nat) (hc54232 : (p0.length ≤ c54231 ∧ c54231 ≤ 9223372036854775807)) (e54233 : Elems (Rp.int .u8) I w A54230 p0) (s : St w0 M I (F) w) {r : (List Int)} (hf : g33 p0 p1 p2 = some r) :
    Ret Tryd.prog 33 [.slice A54230 p0.length c54231, .int .u64 p1, .int .i64 p2] w fun v wz => ∀ X : Value → World → Prop, (∀ (I' : Nat → Prop) (A54434 : Option Addr) (n54435 : Nat) (c54436 : Nat) (cl54437 : List Value) (w' : World), St w0 M I' ((.sl (.slice A54434 n54435 c54436) 5 1 n54435 cl54437) :: F) w' → Kp I w I' w' → n54435 = r.length → RepL (Rp.int .u8) I' w' cl54437 r → X (.slice A54434 n54435 c54436) w') → X v wz := by
  have kk : Kp I w I w := Kp.refl
  unfold g33 at hf
  refine Ret.of Tryd.func33 rfl ?_
  refine WPK.seq ?_
  refine WPK.region ?_
  refine RW.seg hT 1 [] [] [.slice none 0 0] [] (by kernel_rfl) (trivial) ?_
  refine RW.nil ?_
  refine WPK.seq ?_
  refine WPK.region ?_
  refine RW.seg hT 2 [] [] [.slice A54230 p0.length c54231, .int .i64 p2] [] (by kernel_rfl) (trivial) ?_
  refine RW.op (by kernel_rfl) (OK.inl (args := [.slice A54230 p0.length c54231, .int .i64 p2]) en34 (by kernel_rfl) ?_)
  intro R54234 hR54235
  refine Ret.of Tryd.func34 rfl ?_
  refine WPK.seq ?_
  refine WPK.region ?_
  refine RW.seg hT 2 [] [] [.slice none 0 0, .slice none 0 0] [] (by kernel_rfl) (trivial) ?_
  refine RW.nil ?_
  refine WPK.seq ?_
  refine WPK.region ?_
  refine RW.seg hT 4 [] [] [.slice A54230 p0.length c54231, .int .i64 (p0.length : Int), .int .i64 p2, .int .i64 (IntKind.i64.wrap ((p0.length : Int) + p2))] [] (by kernel_rfl) (trivial) ?_
  obtain ⟨x54270, hx54271, hf⟩ := bindS hf
  refine RW.op (by kernel_rfl) (OK.make hT (r := (Rp.int .u8)) (n := IntKind.i64.wrap ((p0.length : Int) + p2)) (z := .int .u8 0) (x := 0) (e := 5) (bytes := 1) s (by kernel_rfl) hx54271 (fun _ _ => rfl) ?_)
  clear s
  rintro w54272 b54273 cl54274 s k54275 rp54276
  replace e54233 := e54233.st k54275
  replace kk := kk.trans k54275
  refine RW.seg hT 1 [] [] [.slice (some ⟨b54273, 0, none⟩) x54270.length x54270.length] [] (by kernel_rfl) (trivial) ?_
  refine RW.nil ?_
  refine WPK.seq ?_
  refine WPK.region ?_
  refine RW.seg hT 2 [] [] [.slice (some ⟨b54273, 0, none⟩) x54270.length x54270.length, .slice A54230 p0.length c54231] [] (by kernel_rfl) (trivial) ?_
  have pt54278 : Pt 0 x54270.length x54270.length 1 0 (x54270.length : Int) x54270.length := by have h0 := Pt.whole (size := 1) (row_hc (s.at (i := 0) rfl)).1; exact h0
  obtain ⟨nw54279, hs54280, rq54281⟩ := Elems.src e54233
  obtain ⟨x54287, hx54288, hf⟩ := bindS hf
  replace hx54288 := someS hx54288
  refine RW.op (by kernel_rfl) (OK.copy hT (r := (Rp.int .u8)) (xs := x54270) (ys := p0) (i := 0) (c := x54270.length) (e := 5) (size := 1) (t := 27) (t' := 27) (et := 5) (l := 0) (h := (x54270.length : Int)) s (by kernel_rfl) rfl rfl rfl rfl rfl flat_int rfl rfl rfl rp54276 pt54278 rfl hs54280 rq54281 ?_)
  clear s
  rintro w54282 cl54283 s k54284 rp54285 hn54286
  replace e54233 := e54233.st k54284
  replace rp54276 := rp54276.st k54284
  replace kk := kk.trans k54284
  rw [hx54288] at rp54285 hn54286
  refine RW.nil ?_
  refine WPK.seq ?_
  have e54233S54289 := e54233
  have rp54285S54289 := rp54285
  have kS54293 : Kp I w54282 I w54282 := Kp.refl
  refine WPK.draw (fun w' => ∃ I' : Nat → Prop, St w0 M I' ((.sl (.slice (some ⟨b54273, 0, none⟩) x54270.length x54270.length) 5 1 x54270.length cl54283) :: F) w' ∧ Kp I w54282 I' w') 7 (by kernel_rfl) ?_
  intro w54290 hd54291
  have k54292 := Kp.dr s hd54291
  replace s := s.dr hd54291
  replace e54233 := e54233.st k54292
  replace rp54285 := rp54285.st k54292
  replace kk := kk.trans k54292
  replace kS54293 := kS54293.trans k54292
  obtain ⟨h54303, hf⟩ := iteS hf
  replace h54303 : (0 : Int) ≤ (p0.length : Int) ∧ (p0.length : Int) ≤ (x54287.length : Int) ∧ (x54287.length : Int) ≤ ((x54270.length : Nat) : Int) - 0 := by have hnn := hn54286; omega
  obtain ⟨o54294, n54295, c54296, q54297, q54298, q54299, q54300, q54301, pt54302⟩ := partS (b := b54273) (c := x54270.length) (Pt.whole (size := 1) (row_hc (s.at (i := 0) rfl)).1) (Nat.le_refl _) h54303
  rw [Int.zero_add, Int.zero_add] at pt54302
  replace q54298 : x54270.length - (p0.length : Int).toNat = n54295 := by rw [← q54298]; have hnn := hn54286; omega
  refine RD.seg hT (by kernel_rfl) [0, 1, 2, 3, 4, 5, 6] [] [(19, .slice (some ⟨b54273, o54294, none⟩) n54295 c54296)] [.slice (some ⟨b54273, 0, none⟩) x54270.length x54270.length, .slice (some ⟨b54273, 0, none⟩) x54270.length x54270.length, .slice A54230 p0.length c54231, .int .i64 (p0.length : Int), .slice (some ⟨b54273, o54294, none⟩) n54295 c54296, .slice (some ⟨b54273, 0, none⟩) x54270.length x54270.length, .slice (some ⟨b54273, o54294, none⟩) n54295 c54296] [.both (.cut (p0.length : Int) (x54270.length : Nat) x54270.length x54270.length) (.veq (.slice (cutA (some ⟨b54273, 0, none⟩) (p0.length : Int).toNat x54270.length 1) (x54270.length - (p0.length : Int).toNat) (x54270.length - (p0.length : Int).toNat)) (.slice (some ⟨b54273, o54294, none⟩) n54295 c54296))] (by kernel_rfl) (by rintro w' ⟨I', s, k⟩; have e54233 := e54233S54289.st k; have rp54285 := rp54285S54289.st k; exact ⟨⟨(q54301).1, by have h1 := (q54301).2.1; have h2 := (q54301).2.2.1; omega, by have := (q54301).2.2.2; omega, by omega⟩, sl_eq q54297 q54298 q54299⟩) ⟨_, s.pick [0] 1 rfl, kS54293⟩ ?_
  refine RD.done (by kernel_rfl) ?_
  refine WPK.ret (?_)
  refine Fin.of (rs := [.tmp 4, .tmp 5]) hT [] (.tuple #[.slice (some ⟨b54273, 0, none⟩) x54270.length x54270.length, .slice (some ⟨b54273, o54294, none⟩) n54295 c54296]) [] rfl (by kernel_rfl) (trivial) ?_
  refine hR54235 _ _ ?_
  refine RW.seg hT 5 [] [] [.tuple #[.slice (some ⟨b54273, 0, none⟩) x54270.length x54270.length, .slice (some ⟨b54273, o54294, none⟩) n54295 c54296], .slice (some ⟨b54273, 0, none⟩) x54270.length x54270.length, .slice (some ⟨b54273, o54294, none⟩) n54295 c54296, .slice (some ⟨b54273, 0, none⟩) x54270.length x54270.length, .slice (some ⟨b54273, o54294, none⟩) n54295 c54296] [] (by kernel_rfl) (trivial) ?_
  refine RW.nil ?_
  refine WPK.seq ?_
  refine WPK.seq ?_
  refine WPK.region ?_
  refine RW.seg hT 2 [] [] [.int .i64 p2, .int .i64 0] [] (by kernel_rfl) (trivial) ?_
  refine RW.nil ?_
  refine WPK.block ?_
  refine WPK.loop' (J := fun n54412 E ds wz => ∀ X : Kont, (∀ (I54392 : Nat → Prop) (x54386 : Int) (x54387 : (List Int)) (D54385 : List Value) (cl54388 : List Value) (w' : World), g33_l1 p0 p1 p2 x54287 n54412 x54386 x54387 = some r → St w0 M I54392 ((.sl (.slice (some ⟨b54273, 0, none⟩) x54270.length x54270.length) 5 1 x54270.length cl54388) :: F) w' → Kp I w I54392 w' → x54270.length = x54387.length → RepL (Rp.int .u8) I54392 w' cl54388 x54387 → X [(D54385.getD 0 undef), .int .u64 p1, .int .i64 p2, (D54385.getD 1 undef), (D54385.getD 2 undef), (D54385.getD 3 undef), .slice none 0 0, .slice (some ⟨b54273, 0, none⟩) x54270.length x54270.length, .slice (some ⟨b54273, o54294, none⟩) n54295 c54296, (D54385.getD 4 undef), (D54385.getD 5 undef), (D54385.getD 6 undef), (D54385.getD 7 undef), (D54385.getD 8 undef), (D54385.getD 9 undef), (D54385.getD 10 undef), .int .i64 p2, .int .i64 x54386, (D54385.getD 11 undef), (D54385.getD 12 undef), (D54385.getD 13 undef), (D54385.getD 14 undef), (D54385.getD 15 undef), (D54385.getD 16 undef), (D54385.getD 17 undef), (D54385.getD 18 undef), (D54385.getD 19 undef), (D54385.getD 20 undef), (D54385.getD 21 undef), (D54385.getD 22 undef), (D54385.getD 23 undef), (D54385.getD 24 undef), (D54385.getD 25 undef), undef] [] w') → X E ds wz) FUEL (fun X h => kc (by kernel_rfl) rfl (h I 0 x54287 [.slice A54230 p0.length c54231, undef, undef, undef, undef, .tuple #[.slice (some ⟨b54273, 0, none⟩) x54270.length x54270.length, .slice (some ⟨b54273, o54294, none⟩) n54295 c54296], .slice A54230 p0.length c54231, .int .i64 p2, .tuple #[.slice (some ⟨b54273, 0, none⟩) x54270.length x54270.length, .slice (some ⟨b54273, o54294, none⟩) n54295 c54296], .slice (some ⟨b54273, 0, none⟩) x54270.length x54270.length, .slice (some ⟨b54273, o54294, none⟩) n54295 c54296, undef, undef, undef, undef, undef, undef, undef, undef, undef, undef, undef, undef, undef, undef, undef] cl54283 _ hf s kk hn54286 rp54285)) (fun _ _ _ hJ => hJ (fun _ _ _ => False) (by intro I54392 x54386 x54387 D54385 cl54388 w54391 hf s kk hn54389 rp54390; exact noneS hf)) ?_
  intro X54432 hX54433
  refine fun n54412 _ _ _ hJ => hJ (X54432 n54412) ?_
  clear s
  intro I54392 x54386 x54387 D54385 cl54388 w54391 hf s kk hn54389 rp54390
  refine hX54433 _ _ _ _ ?_
  replace hf : g33_l1B p0 p1 p2 x54287 (g33_l1 p0 p1 p2 x54287 n54412) x54386 x54387 = some r := hf
  generalize hrec54413 : g33_l1 p0 p1 p2 x54287 n54412 = rec54411 at hf
  unfold g33_l1B at hf
  refine WPK.seq ?_
  refine WPK.region ?_
  refine RW.seg hT 1 [] [] [.bool (decide (x54386 < p2))] [] (by kernel_rfl) (trivial) ?_
  refine RW.nil ?_
  refine WPK.seq ?_
  by_cases h54415 : x54386 < p2
  · have hf := iteT h54415 hf
    refine WPK.condT (Eq.trans (b := .bool (decide (x54386 < p2))) (by kernel_rfl) (bo_t h54415)) ?_
    refine WPK.skip ?_
    refine WPK.seq ?_
    refine WPK.block ?_
    refine WPK.seq ?_
    refine WPK.region ?_
    refine RW.seg hT 2 [] [] [.int .i64 x54386, .int .i64 x54386] [] (by kernel_rfl) (trivial) ?_
    refine RW.nil ?_
    refine WPK.region ?_
    obtain ⟨h54416, hf⟩ := iteS hf
    obtain ⟨x54417, hx54418, hf⟩ := bindS hf
    obtain ⟨h54421, hf⟩ := iteS hf
    obtain ⟨x54419, hx54420, hf⟩ := bindS hf
    obtain ⟨-, hx54420⟩ := getS hx54420
    refine RW.seg hT 12 [undef, undef] [(29, .int .u64 x54417), (31, .pointer (some ⟨b54273, 0 + ((p0.length : Int) + (IntKind.i64.wrap ((IntKind.i64.wrap (p2 - 1)) - x54386))).toNat * 1, none⟩))] [.slice (some ⟨b54273, o54294, none⟩) n54295 c54296, .int .i64 p2, .int .i64 (IntKind.i64.wrap (p2 - 1)), .int .i64 x54386, .int .i64 (IntKind.i64.wrap ((IntKind.i64.wrap (p2 - 1)) - x54386)), .int .u64 p1, .int .i64 x54386, .int .i64 (IntKind.i64.wrap (8 * x54386)), .int .u64 (IntKind.u64.wrap (IntKind.i64.wrap (8 * x54386))), .int .u64 x54417, .int .u8 (IntKind.u8.wrap x54417), .pointer (some ⟨b54273, 0 + ((p0.length : Int) + (IntKind.i64.wrap ((IntKind.i64.wrap (p2 - 1)) - x54386))).toNat * 1, none⟩)] [.both (.nn (IntKind.u64.wrap (IntKind.i64.wrap (8 * x54386)))) (.veq (.int .u64 (shrI .u64 p1 (IntKind.u64.wrap (IntKind.i64.wrap (8 * x54386))))) (.int .u64 x54417)), .both (.idx (IntKind.i64.wrap ((IntKind.i64.wrap (p2 - 1)) - x54386)) n54295) (.veq (.pointer (some ⟨b54273, o54294 + (IntKind.i64.wrap ((IntKind.i64.wrap (p2 - 1)) - x54386)).toNat * 1, none⟩)) (.pointer (some ⟨b54273, 0 + ((p0.length : Int) + (IntKind.i64.wrap ((IntKind.i64.wrap (p2 - 1)) - x54386))).toNat * 1, none⟩)))] (by kernel_rfl) (⟨⟨h54416, int_v (someS hx54418)⟩, ⟨(Pt.idx (b := b54273) pt54302 h54421).1, (Pt.idx (b := b54273) pt54302 h54421).2⟩⟩) ?_
    obtain ⟨y54424, hy54425, hf⟩ := bindS hf
    obtain ⟨h54426, hq54427⟩ := setS hy54425
    obtain ⟨cl54428, hcl54429⟩ : ∃ q, setL cl54388 (0 + ((p0.length : Int) + (IntKind.i64.wrap ((IntKind.i64.wrap (p2 - 1)) - x54386))).toNat * 1) [.int .u8 (IntKind.u8.wrap x54417)] = q := ⟨_, rfl⟩
    have rp54430 : RepL (Rp.int .u8) I54392 w54391 cl54428 y54424 := by rw [hq54427, ← hcl54429, Nat.zero_add]; exact RepL.set rp54390 (by omega) (rfl)
    have hn54431 : x54270.length = y54424.length := by rw [hq54427, List.length_set]; exact hn54389
    refine RW.op (by kernel_rfl) (OK.storeSl hT (i := 0) (b := b54273) (off := 0 + ((p0.length : Int) + (IntKind.i64.wrap ((IntKind.i64.wrap (p2 - 1)) - x54386))).toNat * 1) (m := 1) (vs := [.int .u8 (IntKind.u8.wrap x54417)]) (c := x54270.length) (e := 5) (size := 1) (n := x54270.length) (cl := cl54388) (cl' := cl54428) s (by kernel_rfl) rfl rfl (flat_ok rfl) (by have h1 := RepL.length rp54390; simp only [List.length_cons, List.length_nil, h1]; exact row_bd (n := 1) h54426 rfl) hcl54429 ?_)
    clear s
    rintro w54422 s k54423
    replace rp54430 := rp54430.st k54423
    replace kk := kk.trans k54423
    refine RW.nil ?_
    refine WPK.region ?_
    refine RW.seg hT 2 [] [] [.int .i64 (IntKind.i64.wrap (x54386 + 1)), .int .i64 (IntKind.i64.wrap (x54386 + 1))] [] (by kernel_rfl) (trivial) ?_
    refine RW.nil ?_
    subst hrec54413
    exact ⟨n54412, Nat.le_refl _, fun X h => kc (by kernel_rfl) rfl (h I54392 (IntKind.i64.wrap (x54386 + 1)) y54424 [(D54385.getD 0 undef), (D54385.getD 1 undef), (D54385.getD 2 undef), (D54385.getD 3 undef), .int .i64 x54386, (D54385.getD 5 undef), (D54385.getD 6 undef), (D54385.getD 7 undef), (D54385.getD 8 undef), (D54385.getD 9 undef), (D54385.getD 10 undef), .bool (decide (x54386 < p2)), .int .i64 x54386, .slice (some ⟨b54273, o54294, none⟩) n54295 c54296, .int .i64 p2, .int .i64 (IntKind.i64.wrap (p2 - 1)), .int .i64 x54386, .int .i64 (IntKind.i64.wrap ((IntKind.i64.wrap (p2 - 1)) - x54386)), .int .u64 p1, .int .i64 x54386, .int .i64 (IntKind.i64.wrap (8 * x54386)), .int .u64 (IntKind.u64.wrap (IntKind.i64.wrap (8 * x54386))), .int .u64 x54417, .int .u8 (IntKind.u8.wrap x54417), (.pointer (some ⟨b54273, 0 + ((p0.length : Int) + (IntKind.i64.wrap ((IntKind.i64.wrap (p2 - 1)) - x54386))).toNat * 1, none⟩)), .int .i64 (IntKind.i64.wrap (x54386 + 1))] cl54428 _ hf s kk hn54431 rp54430)⟩
  · have hf := iteF h54415 hf
    refine WPK.condF (Eq.trans (b := .bool (decide (x54386 < p2))) (by kernel_rfl) (bo_f h54415)) ?_
    refine WPK.exit (blockQ.same ?_)
    refine WPK.seq ?_
    refine WPK.region ?_
    refine RW.seg hT 2 [] [] [.slice (some ⟨b54273, 0, none⟩) x54270.length x54270.length, .slice (some ⟨b54273, 0, none⟩) x54270.length x54270.length] [] (by kernel_rfl) (trivial) ?_
    refine RW.nil ?_
    refine WPK.ret (?_)
    obtain rfl := someS hf
    refine Fin.of (rs := [.tmp 6]) hT [] (.slice (some ⟨b54273, 0, none⟩) x54270.length x54270.length) [] rfl (by kernel_rfl) (trivial) ?_
    exact fun X h => vc rfl (h I54392 (some ⟨b54273, 0, none⟩) x54270.length x54270.length cl54388 _ s kk hn54389 rp54390)
theorem c16 {w0 w : World} {M I : Nat → Prop} {F : List It} (p0 : (List Int)) (p1 : Int) (A54455 : Option Addr) (c54456 : Nat) (hc54457 : (p0.length ≤ c54456 ∧ c54456 ≤ 9223372036854775807)) (e54458 : Elems (Rp.int .u8) I w A54455 p0) (s : St w0 M I (F) w) {r : (List Int)} (hf : g16 p0 p1 = some r) :
    Ret Tryd.prog 16 [.slice A54455 p0.length c54456, .int .u16 p1] w fun v wz => ∀ X : Value → World → Prop, (∀ (I' : Nat → Prop) (A54473 : Option Addr) (n54474 : Nat) (c54475 : Nat) (cl54476 : List Value) (w' : World), St w0 M I' ((.sl (.slice A54473 n54474 c54475) 5 1 n54474 cl54476) :: F) w' → Kp I w I' w' → n54474 = r.length → RepL (Rp.int .u8) I' w' cl54476 r → X (.slice A54473 n54474 c54475) w') → X v wz := by
  have kk : Kp I w I w := Kp.refl
  unfold g16 at hf
  refine Ret.of Tryd.func16 rfl ?_
  refine WPK.seq ?_
  refine WPK.region ?_
  refine RW.seg hT 1 [] [] [.slice none 0 0] [] (by kernel_rfl) (trivial) ?_
  refine RW.nil ?_
  refine WPK.seq ?_
  refine WPK.region ?_
  refine RW.seg hT 3 [undef] [] [.slice A54455 p0.length c54456, .int .u16 p1, .int .u64 (IntKind.u64.wrap p1)] [] (by kernel_rfl) (trivial) ?_
  obtain ⟨x54459, hx54460, hf⟩ := bindS hf
  refine RW.op (by kernel_rfl) (OK.call' en33 (by kernel_rfl) (c33 (F := F) p0 (IntKind.u64.wrap p1) 2 A54455 c54456 hc54457 e54458 s hx54460) ?_)
  intro X54463 hX54464
  refine fun _ _ hJ => hJ X54463 ?_
  clear s
  intro I54465 A54466 n54467 c54468 cl54469 w54461 s k54462 hn54470 rp54471
  refine hX54464 _ _ ?_
  replace e54458 := e54458.st k54462
  replace kk := kk.trans k54462
  refine RW.seg hT 1 [] [] [.slice A54466 n54467 c54468] [] (by kernel_rfl) (trivial) ?_
  refine RW.nil ?_
  refine WPK.ret (?_)
  obtain rfl := someS hf
  refine Fin.of (rs := [.tmp 4]) hT [] (.slice A54466 n54467 c54468) [] rfl (by kernel_rfl) (trivial) ?_
  exact fun X h => vc rfl (h I54465 A54466 n54467 c54468 cl54469 _ s kk hn54470 rp54471)
theorem c6 {w0 w : World} {M I : Nat → Prop} {F : List It} (p0 : T_api_Node) (A55023 : Option Addr) (c55024 : Nat) (A55027 : Option Addr) (c55028 : Nat) (A55031 : Option Addr) (c55032 : Nat) (hc55025 : (p0.Pairs.length ≤ c55024 ∧ c55024 ≤ 9223372036854775807)) (e55026 : Elems rp_T_api_Pair I w A55023 p0.Pairs) (hc55029 : (p0.Keys.length ≤ c55028 ∧ c55028 ≤ 9223372036854775807)) (e55030 : Elems (Rp.slice (Rp.int .u8)) I w A55027 p0.Keys) (hc55033 : (p0.Kids.length ≤ c55032 ∧ c55032 ≤ 9223372036854775807)) (e55034 : Elems (Rp.int .i64) I w A55031 p0.Kids) (s : St w0 M I (F) w) {r : (Int × (List Int) × Int)} (hf : g6 p0 = some r) :
    Ret Tryd.prog 6 [.agg #[.bool p0.Leaf, .slice A55023 p0.Pairs.length c55024, .slice A55027 p0.Keys.length c55028, .slice A55031 p0.Kids.length c55032]] w fun v wz => ∀ X : Value → World → Prop, (∀ (I' : Nat → Prop) (A56120 : Option Addr) (n56121 : Nat) (c56122 : Nat) (cl56123 : List Value) (w' : World), St w0 M I' ((.sl (.slice A56120 n56121 c56122) 5 1 n56121 cl56123) :: F) w' → Kp I w I' w' → n56121 = r.2.1.length → RepL (Rp.int .u8) I' w' cl56123 r.2.1 → X (.tuple #[.int .i64 r.1, .slice A56120 n56121 c56122, .int .i64 r.2.2]) w') → X v wz := by
  have kk : Kp I w I w := Kp.refl
  unfold g6 at hf
  refine Ret.of Tryd.func6 rfl ?_
  refine WPK.seq ?_
  refine WPK.region ?_
  refine RW.op (by kernel_rfl) (OK.new hT (f := fun b => .pointer (some ⟨b, 0, none⟩)) (cs := [.bool p0.Leaf, .slice A55023 p0.Pairs.length c55024, .slice A55027 p0.Keys.length c55028, .slice A55031 p0.Kids.length c55032]) (e := 26) (c := .tt) s (by kernel_rfl) trivial ?_)
  clear s
  rintro w55035 b55036 s k55037 -
  replace e55026 := e55026.st k55037
  replace e55030 := e55030.st k55037
  replace e55034 := e55034.st k55037
  replace kk := kk.trans k55037
  refine RW.seg hT 3 [] [] [.int .i64 0, .slice none 0 0, .int .i64 0] [] (by kernel_rfl) (trivial) ?_
  refine RW.nil ?_
  refine WPK.seq ?_
  refine WPK.seq ?_
  refine WPK.region ?_
  refine RW.seg hT 1 [.agg #[.bool p0.Leaf, .slice A55023 p0.Pairs.length c55024, .slice A55027 p0.Keys.length c55028, .slice A55031 p0.Kids.length c55032]] [] [.agg #[.bool p0.Leaf, .slice A55023 p0.Pairs.length c55024, .slice A55027 p0.Keys.length c55028, .slice A55031 p0.Kids.length c55032]] [.cells ⟨b55036, 0, none⟩ [.bool p0.Leaf, .slice A55023 p0.Pairs.length c55024, .slice A55027 p0.Keys.length c55028, .slice A55031 p0.Kids.length c55032] 4] (by kernel_rfl) (s.cells (i := 0) rfl rfl rfl) ?_
  obtain ⟨x55047, hx55048, hf⟩ := bindS hf
  refine RW.op (by kernel_rfl) (OK.call' en13 (by kernel_rfl) (c13 (F := (.blk b55036 (.cells #[.bool p0.Leaf, .slice A55023 p0.Pairs.length c55024, .slice A55027 p0.Keys.length c55028, .slice A55031 p0.Kids.length c55032] 26 (0, 0))) :: F) p0 A55023 c55024 A55027 c55028 A55031 c55032 hc55025 e55026 hc55029 e55030 hc55033 e55034 s hx55048) ?_)
  intro X55051 hX55052
  refine fun _ _ hJ => hJ X55051 ?_
  clear s
  intro I55053 w55049 s k55050
  refine hX55052 _ _ ?_
  replace e55026 := e55026.st k55050
  replace e55030 := e55030.st k55050
  replace e55034 := e55034.st k55050
  replace kk := kk.trans k55050
  refine RW.seg hT 1 [] [] [.int .i64 x55047] [] (by kernel_rfl) (trivial) ?_
  refine RW.nil ?_
  refine WPK.seq ?_
  refine WPK.region ?_
  refine RW.seg hT 2 [] [(15, .bool (decide (x55047 ≠ 0)))] [.int .i64 x55047, .bool (decide (x55047 ≠ 0))] [.veq (.bool (x55047 != 0)) (.bool (decide (x55047 ≠ 0)))] (by kernel_rfl) (ne_v) ?_
  refine RW.nil ?_
  by_cases h55054 : x55047 ≠ 0
  · have hf := iteT h55054 hf
    refine WPK.condT (Eq.trans (b := .bool (decide (x55047 ≠ 0))) (by kernel_rfl) (bo_t h55054)) ?_
    refine WPK.seq ?_
    refine WPK.region ?_
    refine RW.seg hT 4 [] [] [.int .i64 x55047, .int .i64 0, .slice none 0 0, .int .i64 x55047] [] (by kernel_rfl) (trivial) ?_
    refine RW.nil ?_
    refine WPK.ret (?_)
    obtain rfl := someS hf
    refine Fin.of (rs := [.tmp 2, .tmp 3, .tmp 4]) hT [] (.tuple #[.int .i64 0, .slice none 0 0, .int .i64 x55047]) [] rfl (by kernel_rfl) (trivial) ?_
    replace s := s.pushNil 5 1
    replace s := s.pick [0] 2 rfl
    exact fun X h => vc rfl (h I55053 none 0 0 [] _ s kk rfl (RepL.nil (r := (Rp.int .u8))))
  · have hf := iteF h55054 hf
    refine WPK.condF (Eq.trans (b := .bool (decide (x55047 ≠ 0))) (by kernel_rfl) (bo_f h55054)) ?_
    refine WPK.skip ?_
    refine WPK.seq ?_
    refine WPK.region ?_
    refine RW.seg hT 1 [.agg #[.bool p0.Leaf, .slice A55023 p0.Pairs.length c55024, .slice A55027 p0.Keys.length c55028, .slice A55031 p0.Kids.length c55032]] [] [.agg #[.bool p0.Leaf, .slice A55023 p0.Pairs.length c55024, .slice A55027 p0.Keys.length c55028, .slice A55031 p0.Kids.length c55032]] [.cells ⟨b55036, 0, none⟩ [.bool p0.Leaf, .slice A55023 p0.Pairs.length c55024, .slice A55027 p0.Keys.length c55028, .slice A55031 p0.Kids.length c55032] 4] (by kernel_rfl) (s.cells (i := 0) rfl rfl rfl) ?_
    obtain ⟨x55056, hx55057, hf⟩ := bindS hf
    refine RW.op (by kernel_rfl) (OK.call' en14 (by kernel_rfl) (c14 (F := (.blk b55036 (.cells #[.bool p0.Leaf, .slice A55023 p0.Pairs.length c55024, .slice A55027 p0.Keys.length c55028, .slice A55031 p0.Kids.length c55032] 26 (0, 0))) :: F) p0 A55023 c55024 A55027 c55028 A55031 c55032 hc55025 e55026 hc55029 e55030 hc55033 e55034 s hx55057) ?_)
    intro X55060 hX55061
    refine fun _ _ hJ => hJ X55060 ?_
    clear s
    intro I55062 w55058 s k55059
    refine hX55061 _ _ ?_
    replace e55026 := e55026.st k55059
    replace e55030 := e55030.st k55059
    replace e55034 := e55034.st k55059
    replace kk := kk.trans k55059
    refine RW.seg hT 1 [undef] [] [.int .u8 (IntKind.u8.wrap x55056)] [] (by kernel_rfl) (trivial) ?_
    refine RW.op (by kernel_rfl) (OK.new hT (f := fun b => .slice (some ⟨b, 0, none⟩) 1 1) (cs := [.int .u8 (IntKind.u8.wrap x55056)]) (e := 5) (c := .tt) s (by kernel_rfl) trivial ?_)
    clear s
    rintro w55063 b55064 s k55065 -
    replace e55026 := e55026.st k55065
    replace e55030 := e55030.st k55065
    replace e55034 := e55034.st k55065
    replace kk := kk.trans k55065
    have rp55066 : RepL (Rp.int .u8) I55062 w55063 [.int .u8 (IntKind.u8.wrap x55056)] ([IntKind.u8.wrap x55056] : List Int) := RepL.cons (c := [.int .u8 (IntKind.u8.wrap x55056)]) (d := []) (rfl) (RepL.nil)
    replace s : St w0 M I55062 ((.sl (.slice (some ⟨b55064, 0, none⟩) 1 1) 5 1 1 [.int .u8 (IntKind.u8.wrap x55056)]) :: (.blk b55036 (.cells #[.bool p0.Leaf, .slice A55023 p0.Pairs.length c55024, .slice A55027 p0.Keys.length c55028, .slice A55031 p0.Kids.length c55032] 26 (0, 0))) :: F) w55063 := s.blkSl (i := 0) (n := 1) (c := 1) (size := 1) rfl rfl (Nat.le_refl _) (by decide)
    refine RW.seg hT 1 [] [] [.slice (some ⟨b55064, 0, none⟩) 1 1] [] (by kernel_rfl) (trivial) ?_
    refine RW.nil ?_
    refine WPK.seq ?_
    refine WPK.region ?_
    refine RW.seg hT 1 [] [] [.int .i64 3] [] (by kernel_rfl) (trivial) ?_
    refine RW.nil ?_
    refine WPK.seq ?_
    refine WPK.seq ?_
    refine WPK.region ?_
    refine RW.seg hT 4 [.slice A55023 p0.Pairs.length c55024] [] [.pointer (some ⟨b55036, 1, none⟩), .slice A55023 p0.Pairs.length c55024, .int .i64 (p0.Pairs.length : Int), .int .i64 0] [.cell ⟨b55036, 1, none⟩ (.slice A55023 p0.Pairs.length c55024)] (by kernel_rfl) (s.cell (i := 1) (off := 1) rfl rfl) ?_
    refine RW.nil ?_
    refine WPK.block ?_
    refine WPK.loop' (J := fun n55488 E ds wz => ∀ X : Kont, (∀ (I55408 : Nat → Prop) (x55398 : (List Int)) (x55406 : Int) (D55397 : List Value) (A55399 : Option Addr) (n55400 : Nat) (c55401 : Nat) (cl55402 : List Value) (w' : World), g6_l1 p0 n55488 x55398 x55406 = some r → St w0 M I55408 ((.sl (.slice A55399 n55400 c55401) 5 1 n55400 cl55402) :: (.blk b55036 (.cells #[.bool p0.Leaf, .slice A55023 p0.Pairs.length c55024, .slice A55027 p0.Keys.length c55028, .slice A55031 p0.Kids.length c55032] 26 (0, 0))) :: F) w' → Kp I w I55408 w' → n55400 = x55398.length → RepL (Rp.int .u8) I55408 w' cl55402 x55398 → Elems rp_T_api_Pair I55408 w' A55023 p0.Pairs → Elems (Rp.slice (Rp.int .u8)) I55408 w' A55027 p0.Keys → Elems (Rp.int .i64) I55408 w' A55031 p0.Kids → X [(D55397.getD 0 undef), .pointer (some ⟨b55036, 0, none⟩), .int .i64 0, .slice none 0 0, .int .i64 0, (D55397.getD 1 undef), .slice A55399 n55400 c55401, .int .i64 3, (D55397.getD 2 undef), (D55397.getD 3 undef), undef, undef, (D55397.getD 4 undef), (D55397.getD 5 undef), (D55397.getD 6 undef), (D55397.getD 7 undef), (D55397.getD 8 undef), (D55397.getD 9 undef), (D55397.getD 10 undef), (D55397.getD 11 undef), (D55397.getD 12 undef), (D55397.getD 13 undef), .slice A55023 p0.Pairs.length c55024, .int .i64 (p0.Pairs.length : Int), .int .i64 x55406, (D55397.getD 14 undef), (D55397.getD 15 undef), (D55397.getD 16 undef), (D55397.getD 17 undef), (D55397.getD 18 undef), (D55397.getD 19 undef), (D55397.getD 20 undef), (D55397.getD 21 undef), (D55397.getD 22 undef), (D55397.getD 23 undef), (D55397.getD 24 undef), undef, undef, undef, undef, undef, undef, undef, undef, undef, undef, undef, undef, undef, undef, undef, undef, undef, undef, undef, undef, undef, undef, undef, undef, undef, undef, undef, undef, undef, undef, undef, undef, undef, undef, undef, undef] [] w') → X E ds wz) FUEL (fun X h => kc (by kernel_rfl) rfl (h I55062 ([IntKind.u8.wrap x55056] : List Int) 0 [.agg #[.bool p0.Leaf, .slice A55023 p0.Pairs.length c55024, .slice A55027 p0.Keys.length c55028, .slice A55031 p0.Kids.length c55032], .int .i64 x55047, undef, undef, .agg #[.bool p0.Leaf, .slice A55023 p0.Pairs.length c55024, .slice A55027 p0.Keys.length c55028, .slice A55031 p0.Kids.length c55032], .int .i64 x55047, .int .i64 x55047, .bool (decide (x55047 ≠ 0)), undef, .agg #[.bool p0.Leaf, .slice A55023 p0.Pairs.length c55024, .slice A55027 p0.Keys.length c55028, .slice A55031 p0.Kids.length c55032], .int .i64 x55056, .int .u8 (IntKind.u8.wrap x55056), .slice (some ⟨b55064, 0, none⟩) 1 1, .pointer (some ⟨b55036, 1, none⟩), undef, undef, undef, undef, undef, undef, undef, undef, undef, undef, undef] (some ⟨b55064, 0, none⟩) 1 1 [.int .u8 (IntKind.u8.wrap x55056)] _ hf s kk rfl rp55066 e55026 e55030 e55034)) (fun _ _ _ hJ => hJ (fun _ _ _ => False) (by intro I55408 x55398 x55406 D55397 A55399 n55400 c55401 cl55402 w55407 hf s kk hn55403 rp55404 e55026 e55030 e55034; exact noneS hf)) ?_
    intro X56118 hX56119
    refine fun n55488 _ _ _ hJ => hJ (X56118 n55488) ?_
    clear s
    intro I55408 x55398 x55406 D55397 A55399 n55400 c55401 cl55402 w55407 hf s kk hn55403 rp55404 e55026 e55030 e55034
    refine hX56119 _ _ _ _ ?_
    replace hf : g6_l1B p0 (g6_l1 p0 n55488) x55398 x55406 = some r := hf
    generalize hrec55489 : g6_l1 p0 n55488 = rec55487 at hf
    unfold g6_l1B at hf
    refine WPK.seq ?_
    refine WPK.region ?_
    refine RW.seg hT 1 [] [] [.bool (decide (x55406 < (p0.Pairs.length : Int)))] [] (by kernel_rfl) (trivial) ?_
    refine RW.nil ?_
    refine WPK.seq ?_
    by_cases h55491 : x55406 < (p0.Pairs.length : Int)
    · have hf := iteT h55491 hf
      refine WPK.condT (Eq.trans (b := .bool (decide (x55406 < (p0.Pairs.length : Int)))) (by kernel_rfl) (bo_t h55491)) ?_
      refine WPK.skip ?_
      refine WPK.seq ?_
      refine WPK.block ?_
      refine WPK.seq ?_
      refine WPK.region ?_
      obtain ⟨x55492, hx55493, hf⟩ := bindS hf
      obtain ⟨h55494, hx55493⟩ := getS hx55493
      obtain ⟨b55495, o55496, rfl⟩ := Elems.opn e55026 hx55493
      obtain ⟨cs55497, hr55498, ha55499⟩ := Elems.get e55026 hx55493
      obtain ⟨cs55500, cs55501, rfl, hr55502, hr55503⟩ := hr55498
      obtain ⟨A55504, c55505, rfl, q55506, q55507, e55508⟩ := hr55502
      have hc55509 := And.intro q55506 q55507
      obtain ⟨A55510, c55511, rfl, q55512, q55513, e55514⟩ := hr55503
      have hc55515 := And.intro q55512 q55513
      refine RW.seg hT 2 [.agg #[.slice A55504 x55492.Key.length c55505, .slice A55510 x55492.Val.length c55511]] [] [.pointer (some ⟨b55495, o55496 + x55406.toNat * 2, none⟩), .agg #[.slice A55504 x55492.Key.length c55505, .slice A55510 x55492.Val.length c55511]] [.idx x55406 p0.Pairs.length, .cells ⟨b55495, o55496 + x55406.toNat * 2, none⟩ [.slice A55504 x55492.Key.length c55505, .slice A55510 x55492.Val.length c55511] 2] (by kernel_rfl) (⟨h55494, at_cells ha55499 (off := 0) rfl rfl⟩) ?_
      refine RW.op (by kernel_rfl) (OK.new hT (f := fun b => .pointer (some ⟨b, 0, none⟩)) (cs := [.slice none 0 0, .slice none 0 0]) (e := 41) (c := .tt) s (by kernel_rfl) trivial ?_)
      clear s
      rintro w55516 b55517 s k55518 -
      replace e55026 := e55026.st k55518
      replace e55508 := e55508.st k55518
      replace e55514 := e55514.st k55518
      replace e55030 := e55030.st k55518
      replace e55034 := e55034.st k55518
      replace rp55404 := rp55404.st k55518
      replace kk := kk.trans k55518
      refine RW.op (by kernel_rfl) (OK.store hT (i := 0) (b := b55517) (off := 0) (n := 2) (vs := [.slice A55504 x55492.Key.length c55505, .slice A55510 x55492.Val.length c55511]) (cs := [.slice none 0 0, .slice none 0 0]) (e := 41) s (by kernel_rfl) rfl rfl (flat_ok rfl) (Nat.le_of_ble_eq_true rfl) ?_)
      clear s
      rintro w55519 s k55520 -
      replace e55026 := e55026.st k55520
      replace e55508 := e55508.st k55520
      replace e55514 := e55514.st k55520
      replace e55030 := e55030.st k55520
      replace e55034 := e55034.st k55520
      replace rp55404 := rp55404.st k55520
      replace kk := kk.trans k55520
      refine RW.nil ?_
      have e55026S55521 := e55026
      have e55508S55521 := e55508
      have e55514S55521 := e55514
      have e55030S55521 := e55030
      have e55034S55521 := e55034
      have rp55404S55521 := rp55404
      have kS55525 : Kp I55408 w55519 I55408 w55519 := Kp.refl
      refine WPK.draw (fun w' => ∃ I' : Nat → Prop, St w0 M I' ((.blk b55517 (.cells #[.slice A55504 x55492.Key.length c55505, .slice A55510 x55492.Val.length c55511] 41 (0, 0))) :: (.sl (.slice A55399 n55400 c55401) 5 1 n55400 cl55402) :: (.blk b55036 (.cells #[.bool p0.Leaf, .slice (some ⟨b55495, o55496, none⟩) p0.Pairs.length c55024, .slice A55027 p0.Keys.length c55028, .slice A55031 p0.Kids.length c55032] 26 (0, 0))) :: F) w' ∧ Kp I55408 w55519 I' w') 8 (by kernel_rfl) ?_
      intro w55522 hd55523
      have k55524 := Kp.dr s hd55523
      replace s := s.dr hd55523
      replace e55026 := e55026.st k55524
      replace e55508 := e55508.st k55524
      replace e55514 := e55514.st k55524
      replace e55030 := e55030.st k55524
      replace e55034 := e55034.st k55524
      replace rp55404 := rp55404.st k55524
      replace kk := kk.trans k55524
      replace kS55525 := kS55525.trans k55524
      refine RD.seg hT (by kernel_rfl) [0, 1, 2, 4, 5] [.slice A55504 x55492.Key.length c55505, .slice A55510 x55492.Val.length c55511] [] [.slice A55399 n55400 c55401, .pointer (some ⟨b55517, 0, none⟩), .slice A55504 x55492.Key.length c55505, .pointer (some ⟨b55517, 1, none⟩), .slice A55510 x55492.Val.length c55511] [.cell ⟨b55517, 0, none⟩ (.slice A55504 x55492.Key.length c55505), .cell ⟨b55517, 1, none⟩ (.slice A55510 x55492.Val.length c55511)] (by kernel_rfl) (by rintro w' ⟨I', s, k⟩; have e55026 := e55026S55521.st k; have e55508 := e55508S55521.st k; have e55514 := e55514S55521.st k; have e55030 := e55030S55521.st k; have e55034 := e55034S55521.st k; have rp55404 := rp55404S55521.st k; exact ⟨s.cell (i := 0) (off := 0) rfl rfl, s.cell (i := 0) (off := 1) rfl rfl⟩) ⟨_, s.pick [0, 1, 2] 3 rfl, kS55525⟩ ?_
      have sa55526 := s
      obtain ⟨hc55527, e55528⟩ := St.lend s (i := 1) rfl hn55403 rp55404
      have k55529 := Kp.shut (I := I55408) (w := w55522) (p := .sl (.slice A55399 n55400 c55401) 5 1 n55400 cl55402)
      replace s := s.shut 1 rfl
      obtain ⟨x55530, hx55531, hf⟩ := bindS hf
      have hc55534 := c15 (F := (.blk b55517 (.cells #[.slice A55504 x55492.Key.length c55505, .slice A55510 x55492.Val.length c55511] 41 (0, 0))) :: (.blk b55036 (.cells #[.bool p0.Leaf, .slice (some ⟨b55495, o55496, none⟩) p0.Pairs.length c55024, .slice A55027 p0.Keys.length c55028, .slice A55031 p0.Kids.length c55032] 26 (0, 0))) :: F) x55398 x55492.Key A55399 c55401 A55504 c55505 hc55527 e55528 hc55509 (e55508.st k55529) s hx55531
      rw [← hn55403] at hc55534
      refine RD.op (i := 3) rfl (by kernel_rfl) (by kernel_rfl) (OK.call' en15 (by kernel_rfl) (hc55534) ?_)
      intro X55535 hX55536
      refine fun _ _ hJ => hJ X55535 ?_
      clear s
      intro I55537 A55538 n55539 c55540 cl55541 w55532 s k55533 hn55542 rp55543
      refine hX55536 _ _ ?_
      have s' := St.back sa55526 (i := 1) rfl s k55533
      replace k55533 := Kp.back sa55526 (i := 1) rfl k55533
      replace s := s'; clear s'
      obtain ⟨I55546, s, k55533⟩ : ∃ I : Nat → Prop, St w0 M I ((.sl (.slice A55399 n55400 c55401) 5 1 n55400 cl55402) :: (.sl (.slice A55538 n55539 c55540) 5 1 n55539 cl55541) :: (.blk b55517 (.cells #[.slice A55504 x55492.Key.length c55505, .slice A55510 x55492.Val.length c55511] 41 (0, 0))) :: (.blk b55036 (.cells #[.bool p0.Leaf, .slice (some ⟨b55495, o55496, none⟩) p0.Pairs.length c55024, .slice A55027 p0.Keys.length c55028, .slice A55031 p0.Kids.length c55032] 26 (0, 0))) :: F) w55532 ∧ Kp _ _ I _ := ⟨_, s, k55533⟩
      replace rp55543 := RepL.free (I' := I55546) (w' := w55532) free_int rp55543
      replace e55026 := e55026.st k55533
      replace e55508 := e55508.st k55533
      replace e55514 := e55514.st k55533
      replace e55030 := e55030.st k55533
      replace e55034 := e55034.st k55533
      replace rp55404 := rp55404.st k55533
      replace kk := kk.trans k55533
      replace kS55525 := kS55525.trans k55533
      refine ⟨fun _ => ⟨_, s.pick [2, 0, 3] 4 rfl, kS55525⟩, RD.fold ?_⟩
      have sa55547 := s
      obtain ⟨hc55548, e55549⟩ := St.lend s (i := 1) rfl hn55542 rp55543
      have k55550 := Kp.shut (I := I55546) (w := w55532) (p := .sl (.slice A55538 n55539 c55540) 5 1 n55539 cl55541)
      replace s := s.shut 1 rfl
      obtain ⟨x55551, hx55552, hf⟩ := bindS hf
      have hc55555 := c15 (F := (.sl (.slice A55399 n55400 c55401) 5 1 n55400 cl55402) :: (.blk b55517 (.cells #[.slice A55504 x55492.Key.length c55505, .slice A55510 x55492.Val.length c55511] 41 (0, 0))) :: (.blk b55036 (.cells #[.bool p0.Leaf, .slice (some ⟨b55495, o55496, none⟩) p0.Pairs.length c55024, .slice A55027 p0.Keys.length c55028, .slice A55031 p0.Kids.length c55032] 26 (0, 0))) :: F) x55530 x55492.Val A55538 c55540 A55510 c55511 hc55548 e55549 hc55515 (e55514.st k55550) s hx55552
      rw [← hn55542] at hc55555
      refine RD.op (i := 6) rfl (by kernel_rfl) (by kernel_rfl) (OK.call' en15 (by kernel_rfl) (hc55555) ?_)
      intro X55556 hX55557
      refine fun _ _ hJ => hJ X55556 ?_
      clear s
      intro I55558 A55559 n55560 c55561 cl55562 w55553 s k55554 hn55563 rp55564
      refine hX55557 _ _ ?_
      have s' := St.back sa55547 (i := 1) rfl s k55554
      replace k55554 := Kp.back sa55547 (i := 1) rfl k55554
      replace s := s'; clear s'
      obtain ⟨I55567, s, k55554⟩ : ∃ I : Nat → Prop, St w0 M I ((.sl (.slice A55538 n55539 c55540) 5 1 n55539 cl55541) :: (.sl (.slice A55559 n55560 c55561) 5 1 n55560 cl55562) :: (.sl (.slice A55399 n55400 c55401) 5 1 n55400 cl55402) :: (.blk b55517 (.cells #[.slice A55504 x55492.Key.length c55505, .slice A55510 x55492.Val.length c55511] 41 (0, 0))) :: (.blk b55036 (.cells #[.bool p0.Leaf, .slice (some ⟨b55495, o55496, none⟩) p0.Pairs.length c55024, .slice A55027 p0.Keys.length c55028, .slice A55031 p0.Kids.length c55032] 26 (0, 0))) :: F) w55553 ∧ Kp _ _ I _ := ⟨_, s, k55554⟩
      replace rp55564 := RepL.free (I' := I55567) (w' := w55553) free_int rp55564
      replace e55026 := e55026.st k55554
      replace e55508 := e55508.st k55554
      replace e55514 := e55514.st k55554
      replace e55030 := e55030.st k55554
      replace e55034 := e55034.st k55554
      replace rp55404 := rp55404.st k55554
      replace rp55543 := rp55543.st k55554
      replace kk := kk.trans k55554
      replace kS55525 := kS55525.trans k55554
      refine ⟨fun _ => ⟨_, s.pick [3, 2, 4] 5 rfl, kS55525⟩, RD.fold ?_⟩
      refine RD.seg hT (by kernel_rfl) [7] [] [] [.slice A55559 n55560 c55561] [] (by kernel_rfl) (fun _ _ => trivial) ⟨_, s.pick [3, 2, 4] 5 rfl, kS55525⟩ ?_
      refine RD.done (by kernel_rfl) ?_
      refine WPK.region ?_
      refine RW.seg hT 2 [] [] [.int .i64 (IntKind.i64.wrap (x55406 + 1)), .int .i64 (IntKind.i64.wrap (x55406 + 1))] [] (by kernel_rfl) (trivial) ?_
      refine RW.nil ?_
      subst hrec55489
      replace s := s.pick [1, 4] 5 rfl
      exact ⟨n55488, Nat.le_refl _, fun X h => kc (by kernel_rfl) rfl (h I55567 x55551 (IntKind.i64.wrap (x55406 + 1)) [(D55397.getD 0 undef), (D55397.getD 1 undef), (D55397.getD 2 undef), .pointer (some ⟨b55517, 0, none⟩), (D55397.getD 4 undef), (D55397.getD 5 undef), (D55397.getD 6 undef), (D55397.getD 7 undef), (D55397.getD 8 undef), (D55397.getD 9 undef), (D55397.getD 10 undef), (D55397.getD 11 undef), (D55397.getD 12 undef), (D55397.getD 13 undef), .bool (decide (x55406 < (p0.Pairs.length : Int))), .pointer (some ⟨b55495, o55496 + x55406.toNat * 2, none⟩), .agg #[.slice A55504 x55492.Key.length c55505, .slice A55510 x55492.Val.length c55511], .slice A55399 n55400 c55401, .pointer (some ⟨b55517, 0, none⟩), .slice A55504 x55492.Key.length c55505, .slice A55538 n55539 c55540, .pointer (some ⟨b55517, 1, none⟩), .slice A55510 x55492.Val.length c55511, .slice A55559 n55560 c55561, .int .i64 (IntKind.i64.wrap (x55406 + 1))] A55559 n55560 c55561 cl55562 _ hf s kk hn55563 rp55564 e55026 e55030 e55034)⟩
    · have hf := iteF h55491 hf
      refine WPK.condF (Eq.trans (b := .bool (decide (x55406 < (p0.Pairs.length : Int)))) (by kernel_rfl) (bo_f h55491)) ?_
      refine WPK.exit (blockQ.same ?_)
      refine WPK.seq ?_
      refine WPK.cut' (Kn fun E ds wz => ∀ X : Kont, (∀ (I55609 : Nat → Prop) (x55599 : (List Int)) (x55607 : Int) (D55598 : List Value) (A55600 : Option Addr) (n55601 : Nat) (c55602 : Nat) (cl55603 : List Value) (w' : World), g6_j2 p0 x55599 x55607 = some r → St w0 M I55609 ((.sl (.slice A55600 n55601 c55602) 5 1 n55601 cl55603) :: (.blk b55036 (.cells #[.bool p0.Leaf, .slice A55023 p0.Pairs.length c55024, .slice A55027 p0.Keys.length c55028, .slice A55031 p0.Kids.length c55032] 26 (0, 0))) :: F) w' → Kp I w I55609 w' → n55601 = x55599.length → RepL (Rp.int .u8) I55609 w' cl55603 x55599 → Elems rp_T_api_Pair I55609 w' A55023 p0.Pairs → Elems (Rp.slice (Rp.int .u8)) I55609 w' A55027 p0.Keys → Elems (Rp.int .i64) I55609 w' A55031 p0.Kids → X [(D55598.getD 0 undef), .pointer (some ⟨b55036, 0, none⟩), .int .i64 0, .slice none 0 0, .int .i64 0, (D55598.getD 1 undef), .slice A55600 n55601 c55602, .int .i64 x55607, (D55598.getD 2 undef), (D55598.getD 3 undef), undef, undef, (D55598.getD 4 undef), (D55598.getD 5 undef), (D55598.getD 6 undef), (D55598.getD 7 undef), (D55598.getD 8 undef), (D55598.getD 9 undef), (D55598.getD 10 undef), (D55598.getD 11 undef), (D55598.getD 12 undef), (D55598.getD 13 undef), (D55598.getD 14 undef), (D55598.getD 15 undef), (D55598.getD 16 undef), (D55598.getD 17 undef), (D55598.getD 18 undef), (D55598.getD 19 undef), (D55598.getD 20 undef), (D55598.getD 21 undef), (D55598.getD 22 undef), (D55598.getD 23 undef), (D55598.getD 24 undef), (D55598.getD 25 undef), (D55598.getD 26 undef), (D55598.getD 27 undef), (D55598.getD 28 undef), (D55598.getD 29 undef), (D55598.getD 30 undef), (D55598.getD 31 undef), (D55598.getD 32 undef), (D55598.getD 33 undef), (D55598.getD 34 undef), (D55598.getD 35 undef), (D55598.getD 36 undef), (D55598.getD 37 undef), undef, undef, undef, undef, undef, undef, undef, undef, undef, undef, undef, undef, undef, undef, undef, undef, undef, undef, undef, undef, undef, undef, undef, undef, undef, undef] [] w') → X E ds wz) ?_ ?_
      · intro X56086 hX56087
        refine fun _ _ _ hJ => hJ X56086 ?_
        clear s
        intro I55609 x55599 x55607 D55598 A55600 n55601 c55602 cl55603 w55608 hf s kk hn55604 rp55605 e55026 e55030 e55034
        refine hX56087 _ _ _ ?_
        unfold g6_j2 at hf
        refine WPK.seq ?_
        refine WPK.seq ?_
        refine WPK.region ?_
        refine RW.seg hT 4 [.slice A55027 p0.Keys.length c55028] [] [.pointer (some ⟨b55036, 2, none⟩), .slice A55027 p0.Keys.length c55028, .int .i64 (p0.Keys.length : Int), .int .i64 0] [.cell ⟨b55036, 2, none⟩ (.slice A55027 p0.Keys.length c55028)] (by kernel_rfl) (s.cell (i := 1) (off := 2) rfl rfl) ?_
        refine RW.nil ?_
        refine WPK.block ?_
        refine WPK.loop' (J := fun n56002 E ds wz => ∀ X : Kont, (∀ (I55928 : Nat → Prop) (x55918 : (List Int)) (x55926 : Int) (D55917 : List Value) (A55919 : Option Addr) (n55920 : Nat) (c55921 : Nat) (cl55922 : List Value) (w' : World), g6_l3 p0 x55607 n56002 x55918 x55926 = some r → St w0 M I55928 ((.sl (.slice A55919 n55920 c55921) 5 1 n55920 cl55922) :: (.blk b55036 (.cells #[.bool p0.Leaf, .slice A55023 p0.Pairs.length c55024, .slice A55027 p0.Keys.length c55028, .slice A55031 p0.Kids.length c55032] 26 (0, 0))) :: F) w' → Kp I w I55928 w' → n55920 = x55918.length → RepL (Rp.int .u8) I55928 w' cl55922 x55918 → Elems (Rp.slice (Rp.int .u8)) I55928 w' A55027 p0.Keys → Elems rp_T_api_Pair I55928 w' A55023 p0.Pairs → Elems (Rp.int .i64) I55928 w' A55031 p0.Kids → X [(D55917.getD 0 undef), .pointer (some ⟨b55036, 0, none⟩), .int .i64 0, .slice none 0 0, .int .i64 0, (D55917.getD 1 undef), .slice A55919 n55920 c55921, .int .i64 x55607, (D55917.getD 2 undef), (D55917.getD 3 undef), (D55917.getD 4 undef), (D55917.getD 5 undef), (D55917.getD 6 undef), (D55917.getD 7 undef), (D55917.getD 8 undef), (D55917.getD 9 undef), (D55917.getD 10 undef), (D55917.getD 11 undef), (D55917.getD 12 undef), (D55917.getD 13 undef), (D55917.getD 14 undef), (D55917.getD 15 undef), (D55917.getD 16 undef), (D55917.getD 17 undef), (D55917.getD 18 undef), (D55917.getD 19 undef), (D55917.getD 20 undef), (D55917.getD 21 undef), (D55917.getD 22 undef), (D55917.getD 23 undef), (D55917.getD 24 undef), (D55917.getD 25 undef), (D55917.getD 26 undef), (D55917.getD 27 undef), (D55917.getD 28 undef), (D55917.getD 29 undef), (D55917.getD 30 undef), (D55917.getD 31 undef), (D55917.getD 32 undef), (D55917.getD 33 undef), (D55917.getD 34 undef), (D55917.getD 35 undef), (D55917.getD 36 undef), (D55917.getD 37 undef), (D55917.getD 38 undef), (D55917.getD 39 undef), (D55917.getD 40 undef), .slice A55027 p0.Keys.length c55028, .int .i64 (p0.Keys.length : Int), .int .i64 x55926, (D55917.getD 41 undef), (D55917.getD 42 undef), (D55917.getD 43 undef), (D55917.getD 44 undef), (D55917.getD 45 undef), (D55917.getD 46 undef), (D55917.getD 47 undef), (D55917.getD 48 undef), (D55917.getD 49 undef), (D55917.getD 50 undef), (D55917.getD 51 undef), (D55917.getD 52 undef), (D55917.getD 53 undef), (D55917.getD 54 undef), (D55917.getD 55 undef), (D55917.getD 56 undef), undef, undef, undef, undef, undef, undef] [] w') → X E ds wz) FUEL (fun X h => kc (by kernel_rfl) rfl (h I55609 x55599 0 [(D55598.getD 0 undef), (D55598.getD 1 undef), (D55598.getD 2 undef), (D55598.getD 3 undef), undef, undef, (D55598.getD 4 undef), (D55598.getD 5 undef), (D55598.getD 6 undef), (D55598.getD 7 undef), (D55598.getD 8 undef), (D55598.getD 9 undef), (D55598.getD 10 undef), (D55598.getD 11 undef), (D55598.getD 12 undef), (D55598.getD 13 undef), (D55598.getD 14 undef), (D55598.getD 15 undef), (D55598.getD 16 undef), (D55598.getD 17 undef), (D55598.getD 18 undef), (D55598.getD 19 undef), (D55598.getD 20 undef), (D55598.getD 21 undef), (D55598.getD 22 undef), (D55598.getD 23 undef), (D55598.getD 24 undef), (D55598.getD 25 undef), (D55598.getD 26 undef), (D55598.getD 27 undef), (D55598.getD 28 undef), (D55598.getD 29 undef), (D55598.getD 30 undef), (D55598.getD 31 undef), (D55598.getD 32 undef), (D55598.getD 33 undef), (D55598.getD 34 undef), (D55598.getD 35 undef), (D55598.getD 36 undef), (D55598.getD 37 undef), .pointer (some ⟨b55036, 2, none⟩), undef, undef, undef, undef, undef, undef, undef, undef, undef, undef, undef, undef, undef, undef, undef, undef] A55600 n55601 c55602 cl55603 _ hf s kk hn55604 rp55605 e55030 e55026 e55034)) (fun _ _ _ hJ => hJ (fun _ _ _ => False) (by intro I55928 x55918 x55926 D55917 A55919 n55920 c55921 cl55922 w55927 hf s kk hn55923 rp55924 e55030 e55026 e55034; exact noneS hf)) ?_
        intro X56084 hX56085
        refine fun n56002 _ _ _ hJ => hJ (X56084 n56002) ?_
        clear s
        intro I55928 x55918 x55926 D55917 A55919 n55920 c55921 cl55922 w55927 hf s kk hn55923 rp55924 e55030 e55026 e55034
        refine hX56085 _ _ _ _ ?_
        replace hf : g6_l3B p0 x55607 (g6_l3 p0 x55607 n56002) x55918 x55926 = some r := hf
        generalize hrec56003 : g6_l3 p0 x55607 n56002 = rec56001 at hf
        unfold g6_l3B at hf
        refine WPK.seq ?_
        refine WPK.region ?_
        refine RW.seg hT 1 [] [] [.bool (decide (x55926 < (p0.Keys.length : Int)))] [] (by kernel_rfl) (trivial) ?_
        refine RW.nil ?_
        refine WPK.seq ?_
        by_cases h56005 : x55926 < (p0.Keys.length : Int)
        · have hf := iteT h56005 hf
          refine WPK.condT (Eq.trans (b := .bool (decide (x55926 < (p0.Keys.length : Int)))) (by kernel_rfl) (bo_t h56005)) ?_
          refine WPK.skip ?_
          refine WPK.seq ?_
          refine WPK.block ?_
          refine WPK.seq ?_
          refine WPK.region ?_
          obtain ⟨x56006, hx56007, hf⟩ := bindS hf
          obtain ⟨h56008, hx56007⟩ := getS hx56007
          obtain ⟨b56009, o56010, rfl⟩ := Elems.opn e55030 hx56007
          obtain ⟨cs56011, hr56012, ha56013⟩ := Elems.get e55030 hx56007
          obtain ⟨A56014, c56015, rfl, q56016, q56017, e56018⟩ := hr56012
          have hc56019 := And.intro q56016 q56017
          refine RW.seg hT 5 [.slice A56014 x56006.length c56015] [] [.int .i64 x55926, .pointer (some ⟨b56009, o56010 + x55926.toNat * 1, none⟩), .slice A56014 x56006.length c56015, .int .i64 x55926, .slice A56014 x56006.length c56015] [.idx x55926 p0.Keys.length, .cell ⟨b56009, o56010 + x55926.toNat * 1, none⟩ (.slice A56014 x56006.length c56015)] (by kernel_rfl) (⟨h56008, ha56013 0 _ rfl⟩) ?_
          refine RW.nil ?_
          have e56018S56020 := e56018
          have e55030S56020 := e55030
          have e55026S56020 := e55026
          have e55034S56020 := e55034
          have rp55924S56020 := rp55924
          have kS56024 : Kp I55928 w55927 I55928 w55927 := Kp.refl
          refine WPK.draw (fun w' => ∃ I' : Nat → Prop, St w0 M I' ((.sl (.slice A55919 n55920 c55921) 5 1 n55920 cl55922) :: (.blk b55036 (.cells #[.bool p0.Leaf, .slice A55023 p0.Pairs.length c55024, .slice (some ⟨b56009, o56010, none⟩) p0.Keys.length c55028, .slice A55031 p0.Kids.length c55032] 26 (0, 0))) :: F) w' ∧ Kp I55928 w55927 I' w') 12 (by kernel_rfl) ?_
          intro w56021 hd56022
          have k56023 := Kp.dr s hd56022
          replace s := s.dr hd56022
          replace e56018 := e56018.st k56023
          replace e55030 := e55030.st k56023
          replace e55026 := e55026.st k56023
          replace e55034 := e55034.st k56023
          replace rp55924 := rp55924.st k56023
          replace kk := kk.trans k56023
          replace kS56024 := kS56024.trans k56023
          obtain ⟨x56025, hx56026, hf⟩ := bindS hf
          obtain ⟨h56027, hx56026⟩ := getS hx56026
          obtain ⟨b56028, o56029, rfl⟩ := Elems.opn e55034 hx56026
          obtain ⟨cs56030, hr56031, ha56032, hb56033⟩ := Elems.getI e55034S56020 hx56026
          obtain rfl : cs56030 = [.int .i64 x56025] := hr56031
          refine RD.seg hT (by kernel_rfl) [0, 1, 3, 4, 5, 6, 7, 8, 9] [.slice (some ⟨b56028, o56029, none⟩) p0.Kids.length c55032, .int .i64 x56025, undef] [] [.slice A55919 n55920 c55921, .slice A56014 x56006.length c56015, .pointer (some ⟨b55036, 3, none⟩), .slice (some ⟨b56028, o56029, none⟩) p0.Kids.length c55032, .int .i64 x55926, .int .i64 (IntKind.i64.wrap (x55926 + 1)), .pointer (some ⟨b56028, o56029 + (IntKind.i64.wrap (x55926 + 1)).toNat * 1, none⟩), .int .i64 x56025, .int .u16 (IntKind.u16.wrap x56025)] [.cell ⟨b55036, 3, none⟩ (.slice (some ⟨b56028, o56029, none⟩) p0.Kids.length c55032), .idx (IntKind.i64.wrap (x55926 + 1)) p0.Kids.length, .cell ⟨b56028, o56029 + (IntKind.i64.wrap (x55926 + 1)).toNat * 1, none⟩ (.int .i64 x56025)] (by kernel_rfl) (by rintro w' ⟨I', s, k⟩; have e56018 := e56018S56020.st k; have e55030 := e55030S56020.st k; have e55026 := e55026S56020.st k; have e55034 := e55034S56020.st k; have rp55924 := rp55924S56020.st k; have ha56032 := ha56032.st k hb56033; exact ⟨s.cell (i := 1) (off := 3) rfl rfl, h56027, ha56032 0 _ rfl⟩) ⟨_, s.pick [0, 1] 2 rfl, kS56024⟩ ?_
          have sa56034 := s
          obtain ⟨hc56035, e56036⟩ := St.lend s (i := 0) rfl hn55923 rp55924
          have k56037 := Kp.shut (I := I55928) (w := w56021) (p := .sl (.slice A55919 n55920 c55921) 5 1 n55920 cl55922)
          replace s := s.shut 0 rfl
          obtain ⟨x56038, hx56039, hf⟩ := bindS hf
          have hc56042 := c15 (F := (.blk b55036 (.cells #[.bool p0.Leaf, .slice A55023 p0.Pairs.length c55024, .slice (some ⟨b56009, o56010, none⟩) p0.Keys.length c55028, .slice (some ⟨b56028, o56029, none⟩) p0.Kids.length c55032] 26 (0, 0))) :: F) x55918 x56006 A55919 c55921 A56014 c56015 hc56035 e56036 hc56019 (e56018.st k56037) s hx56039
          rw [← hn55923] at hc56042
          refine RD.op (i := 2) rfl (by kernel_rfl) (by kernel_rfl) (OK.call' en15 (by kernel_rfl) (hc56042) ?_)
          intro X56043 hX56044
          refine fun _ _ hJ => hJ X56043 ?_
          clear s
          intro I56045 A56046 n56047 c56048 cl56049 w56040 s k56041 hn56050 rp56051
          refine hX56044 _ _ ?_
          have s' := St.back sa56034 (i := 0) rfl s k56041
          replace k56041 := Kp.back sa56034 (i := 0) rfl k56041
          replace s := s'; clear s'
          obtain ⟨I56054, s, k56041⟩ : ∃ I : Nat → Prop, St w0 M I ((.sl (.slice A55919 n55920 c55921) 5 1 n55920 cl55922) :: (.sl (.slice A56046 n56047 c56048) 5 1 n56047 cl56049) :: (.blk b55036 (.cells #[.bool p0.Leaf, .slice A55023 p0.Pairs.length c55024, .slice (some ⟨b56009, o56010, none⟩) p0.Keys.length c55028, .slice (some ⟨b56028, o56029, none⟩) p0.Kids.length c55032] 26 (0, 0))) :: F) w56040 ∧ Kp _ _ I _ := ⟨_, s, k56041⟩
          replace rp56051 := RepL.free (I' := I56054) (w' := w56040) free_int rp56051
          replace e56018 := e56018.st k56041
          replace e55030 := e55030.st k56041
          replace e55034 := e55034.st k56041
          replace e55026 := e55026.st k56041
          replace rp55924 := rp55924.st k56041
          replace kk := kk.trans k56041
          replace kS56024 := kS56024.trans k56041
          refine ⟨fun _ => ⟨_, s.pick [0, 2] 3 rfl, kS56024⟩, RD.fold ?_⟩
          have sa56055 := s
          obtain ⟨hc56056, e56057⟩ := St.lend s (i := 1) rfl hn56050 rp56051
          have k56058 := Kp.shut (I := I56054) (w := w56040) (p := .sl (.slice A56046 n56047 c56048) 5 1 n56047 cl56049)
          replace s := s.shut 1 rfl
          obtain ⟨x56059, hx56060, hf⟩ := bindS hf
          have hc56063 := c16 (F := (.sl (.slice A55919 n55920 c55921) 5 1 n55920 cl55922) :: (.blk b55036 (.cells #[.bool p0.Leaf, .slice A55023 p0.Pairs.length c55024, .slice (some ⟨b56009, o56010, none⟩) p0.Keys.length c55028, .slice (some ⟨b56028, o56029, none⟩) p0.Kids.length c55032] 26 (0, 0))) :: F) x56038 (IntKind.u16.wrap x56025) A56046 c56048 hc56056 e56057 s hx56060
          rw [← hn56050] at hc56063
          refine RD.op (i := 10) rfl (by kernel_rfl) (by kernel_rfl) (OK.call' en16 (by kernel_rfl) (hc56063) ?_)
          intro X56064 hX56065
          refine fun _ _ hJ => hJ X56064 ?_
          clear s
          intro I56066 A56067 n56068 c56069 cl56070 w56061 s k56062 hn56071 rp56072
          refine hX56065 _ _ ?_
          have s' := St.back sa56055 (i := 1) rfl s k56062
          replace k56062 := Kp.back sa56055 (i := 1) rfl k56062
          replace s := s'; clear s'
          obtain ⟨I56075, s, k56062⟩ : ∃ I : Nat → Prop, St w0 M I ((.sl (.slice A56046 n56047 c56048) 5 1 n56047 cl56049) :: (.sl (.slice A56067 n56068 c56069) 5 1 n56068 cl56070) :: (.sl (.slice A55919 n55920 c55921) 5 1 n55920 cl55922) :: (.blk b55036 (.cells #[.bool p0.Leaf, .slice A55023 p0.Pairs.length c55024, .slice (some ⟨b56009, o56010, none⟩) p0.Keys.length c55028, .slice (some ⟨b56028, o56029, none⟩) p0.Kids.length c55032] 26 (0, 0))) :: F) w56061 ∧ Kp _ _ I _ := ⟨_, s, k56062⟩
          replace rp56072 := RepL.free (I' := I56075) (w' := w56061) free_int rp56072
          replace e56018 := e56018.st k56062
          replace e55030 := e55030.st k56062
          replace e55034 := e55034.st k56062
          replace e55026 := e55026.st k56062
          replace rp55924 := rp55924.st k56062
          replace rp56051 := rp56051.st k56062
          replace kk := kk.trans k56062
          replace kS56024 := kS56024.trans k56062
          refine ⟨fun _ => ⟨_, s.pick [2, 3] 4 rfl, kS56024⟩, RD.fold ?_⟩
          refine RD.seg hT (by kernel_rfl) [11] [] [] [.slice A56067 n56068 c56069] [] (by kernel_rfl) (fun _ _ => trivial) ⟨_, s.pick [2, 3] 4 rfl, kS56024⟩ ?_
          refine RD.done (by kernel_rfl) ?_
          refine WPK.region ?_
          refine RW.seg hT 2 [] [] [.int .i64 (IntKind.i64.wrap (x55926 + 1)), .int .i64 (IntKind.i64.wrap (x55926 + 1))] [] (by kernel_rfl) (trivial) ?_
          refine RW.nil ?_
          subst hrec56003
          replace s := s.pick [1, 3] 4 rfl
          exact ⟨n56002, Nat.le_refl _, fun X h => kc (by kernel_rfl) rfl (h I56075 x56059 (IntKind.i64.wrap (x55926 + 1)) [(D55917.getD 0 undef), (D55917.getD 1 undef), (D55917.getD 2 undef), (D55917.getD 3 undef), .int .i64 x55926, .slice A56014 x56006.length c56015, (D55917.getD 6 undef), (D55917.getD 7 undef), (D55917.getD 8 undef), (D55917.getD 9 undef), (D55917.getD 10 undef), (D55917.getD 11 undef), (D55917.getD 12 undef), (D55917.getD 13 undef), (D55917.getD 14 undef), (D55917.getD 15 undef), (D55917.getD 16 undef), (D55917.getD 17 undef), (D55917.getD 18 undef), (D55917.getD 19 undef), (D55917.getD 20 undef), (D55917.getD 21 undef), (D55917.getD 22 undef), (D55917.getD 23 undef), (D55917.getD 24 undef), (D55917.getD 25 undef), (D55917.getD 26 undef), (D55917.getD 27 undef), (D55917.getD 28 undef), (D55917.getD 29 undef), (D55917.getD 30 undef), (D55917.getD 31 undef), (D55917.getD 32 undef), (D55917.getD 33 undef), (D55917.getD 34 undef), (D55917.getD 35 undef), (D55917.getD 36 undef), (D55917.getD 37 undef), (D55917.getD 38 undef), (D55917.getD 39 undef), (D55917.getD 40 undef), .bool (decide (x55926 < (p0.Keys.length : Int))), .int .i64 x55926, .pointer (some ⟨b56009, o56010 + x55926.toNat * 1, none⟩), .slice A56014 x56006.length c56015, .slice A55919 n55920 c55921, .slice A56014 x56006.length c56015, .slice A56046 n56047 c56048, .pointer (some ⟨b55036, 3, none⟩), .slice (some ⟨b56028, o56029, none⟩) p0.Kids.length c55032, .int .i64 x55926, .int .i64 (IntKind.i64.wrap (x55926 + 1)), .pointer (some ⟨b56028, o56029 + (IntKind.i64.wrap (x55926 + 1)).toNat * 1, none⟩), .int .i64 x56025, .int .u16 (IntKind.u16.wrap x56025), .slice A56067 n56068 c56069, .int .i64 (IntKind.i64.wrap (x55926 + 1))] A56067 n56068 c56069 cl56070 _ hf s kk hn56071 rp56072 e55030 e55026 e55034)⟩
        · have hf := iteF h56005 hf
          refine WPK.condF (Eq.trans (b := .bool (decide (x55926 < (p0.Keys.length : Int)))) (by kernel_rfl) (bo_f h56005)) ?_
          refine WPK.exit (blockQ.same ?_)
          refine WPK.seq ?_
          refine WPK.region ?_
          refine RW.seg hT 5 [] [(69, .int .i64 (x55918.length : Int))] [.int .i64 x55607, .slice A55919 n55920 c55921, .slice A55919 n55920 c55921, .int .i64 (x55918.length : Int), .int .i64 (IntKind.i64.wrap (240 - (x55918.length : Int)))] [.veq (.int .i64 (n55920 : Nat)) (.int .i64 (x55918.length : Int))] (by kernel_rfl) (len_v hn55923) ?_
          obtain ⟨x56076, hx56077, hf⟩ := bindS hf
          refine RW.op (by kernel_rfl) (OK.appZ hT (r := (Rp.int .u8)) (i := 0) (t := 27) (tn := 3) (e := 5) (bytes := 1) (c := c55921) (n := n55920) (x := 0) (kn := .i64) s (by kernel_rfl) rfl rfl rfl rfl rfl rfl rfl rfl rfl rfl hn55923 rp55924 flat_int (fun _ _ => rfl) hx56077 ?_)
          clear s
          rintro A56078 c56079 cl56080 w56081 s k56082 rp56083
          replace e55030 := e55030.st k56082
          replace e55026 := e55026.st k56082
          replace e55034 := e55034.st k56082
          replace rp55924 := rp55924.st k56082
          replace kk := kk.trans k56082
          refine RW.seg hT 3 [] [] [.int .i64 x55607, .slice A56078 x56076.length c56079, .int .i64 0] [] (by kernel_rfl) (trivial) ?_
          refine RW.nil ?_
          refine WPK.ret (?_)
          obtain rfl := someS hf
          refine Fin.of (rs := [.tmp 2, .tmp 3, .tmp 4]) hT [] (.tuple #[.int .i64 x55607, .slice A56078 x56076.length c56079, .int .i64 0]) [] rfl (by kernel_rfl) (trivial) ?_
          replace s := s.pick [0] 2 rfl
          exact fun X h => vc rfl (h I55928 A56078 x56076.length c56079 cl56080 _ s kk rfl rp56083)
      · refine WPK.seq ?_
        refine WPK.region ?_
        refine RW.seg hT 3 [.bool p0.Leaf] [(38, .bool (decide (¬ (p0.Leaf = true))))] [.pointer (some ⟨b55036, 0, none⟩), .bool p0.Leaf, .bool (decide (¬ (p0.Leaf = true)))] [.cell ⟨b55036, 0, none⟩ (.bool p0.Leaf), .veq (.bool (!p0.Leaf)) (.bool (decide (¬ (p0.Leaf = true))))] (by kernel_rfl) (⟨s.cell (i := 1) (off := 0) rfl rfl, not_b⟩) ?_
        refine RW.nil ?_
        by_cases h56088 : ¬ (p0.Leaf = true)
        · have hf := iteT h56088 hf
          refine WPK.condT (Eq.trans (b := .bool (decide (¬ (p0.Leaf = true)))) (by kernel_rfl) (bo_t h56088)) ?_
          refine WPK.seq ?_
          refine WPK.region ?_
          refine RW.seg hT 1 [] [] [.int .i64 4] [] (by kernel_rfl) (trivial) ?_
          refine RW.nil ?_
          refine WPK.region ?_
          obtain ⟨x56089, hx56090, hf⟩ := bindS hf
          obtain ⟨h56091, hx56090⟩ := getS hx56090
          obtain ⟨b56092, o56093, rfl⟩ := Elems.opn e55034 hx56090
          obtain ⟨cs56094, hr56095, ha56096⟩ := Elems.get e55034 hx56090
          obtain rfl : cs56094 = [.int .i64 x56089] := hr56095
          refine RW.seg hT 6 [.slice (some ⟨b56092, o56093, none⟩) p0.Kids.length c55032, .int .i64 x56089, undef] [] [.slice A55399 n55400 c55401, .pointer (some ⟨b55036, 3, none⟩), .slice (some ⟨b56092, o56093, none⟩) p0.Kids.length c55032, .pointer (some ⟨b56092, o56093 + (0 : Int).toNat * 1, none⟩), .int .i64 x56089, .int .u16 (IntKind.u16.wrap x56089)] [.cell ⟨b55036, 3, none⟩ (.slice (some ⟨b56092, o56093, none⟩) p0.Kids.length c55032), .idx 0 p0.Kids.length, .cell ⟨b56092, o56093 + (0 : Int).toNat * 1, none⟩ (.int .i64 x56089)] (by kernel_rfl) (⟨s.cell (i := 1) (off := 3) rfl rfl, h56091, ha56096 0 _ rfl⟩) ?_
          have sa56097 := s
          obtain ⟨hc56098, e56099⟩ := St.lend s (i := 0) rfl hn55403 rp55404
          have k56100 := Kp.shut (I := I55408) (w := w55407) (p := .sl (.slice A55399 n55400 c55401) 5 1 n55400 cl55402)
          replace s := s.shut 0 rfl
          obtain ⟨x56101, hx56102, hf⟩ := bindS hf
          have hc56105 := c16 (F := (.blk b55036 (.cells #[.bool p0.Leaf, .slice A55023 p0.Pairs.length c55024, .slice A55027 p0.Keys.length c55028, .slice (some ⟨b56092, o56093, none⟩) p0.Kids.length c55032] 26 (0, 0))) :: F) x55398 (IntKind.u16.wrap x56089) A55399 c55401 hc56098 e56099 s hx56102
          rw [← hn55403] at hc56105
          refine RW.op (by kernel_rfl) (OK.call' en16 (by kernel_rfl) (hc56105) ?_)
          intro X56106 hX56107
          refine fun _ _ hJ => hJ X56106 ?_
          clear s
          intro I56108 A56109 n56110 c56111 cl56112 w56103 s k56104 hn56113 rp56114
          refine hX56107 _ _ ?_
          have s' := St.back sa56097 (i := 0) rfl s k56104
          replace k56104 := Kp.back sa56097 (i := 0) rfl k56104
          replace s := s'; clear s'
          obtain ⟨I56117, s, k56104⟩ : ∃ I : Nat → Prop, St w0 M I ((.sl (.slice A55399 n55400 c55401) 5 1 n55400 cl55402) :: (.sl (.slice A56109 n56110 c56111) 5 1 n56110 cl56112) :: (.blk b55036 (.cells #[.bool p0.Leaf, .slice A55023 p0.Pairs.length c55024, .slice A55027 p0.Keys.length c55028, .slice (some ⟨b56092, o56093, none⟩) p0.Kids.length c55032] 26 (0, 0))) :: F) w56103 ∧ Kp _ _ I _ := ⟨_, s, k56104⟩
          replace rp56114 := RepL.free (I' := I56117) (w' := w56103) free_int rp56114
          replace e55026 := e55026.st k56104
          replace e55034 := e55034.st k56104
          replace e55030 := e55030.st k56104
          replace rp55404 := rp55404.st k56104
          replace kk := kk.trans k56104
          refine RW.seg hT 1 [] [] [.slice A56109 n56110 c56111] [] (by kernel_rfl) (trivial) ?_
          refine RW.nil ?_
          replace s := s.pick [1, 2] 3 rfl
          exact fun X h => kc (by kernel_rfl) rfl (h I56117 x56101 4 [(D55397.getD 0 undef), (D55397.getD 1 undef), (D55397.getD 2 undef), (D55397.getD 3 undef), (D55397.getD 4 undef), (D55397.getD 5 undef), (D55397.getD 6 undef), (D55397.getD 7 undef), (D55397.getD 8 undef), (D55397.getD 9 undef), (D55397.getD 10 undef), (D55397.getD 11 undef), (D55397.getD 12 undef), (D55397.getD 13 undef), .slice A55023 p0.Pairs.length c55024, .int .i64 (p0.Pairs.length : Int), .int .i64 x55406, .bool (decide (x55406 < (p0.Pairs.length : Int))), (D55397.getD 15 undef), (D55397.getD 16 undef), (D55397.getD 17 undef), (D55397.getD 18 undef), (D55397.getD 19 undef), (D55397.getD 20 undef), (D55397.getD 21 undef), (D55397.getD 22 undef), (D55397.getD 23 undef), (D55397.getD 24 undef), .pointer (some ⟨b55036, 0, none⟩), .bool p0.Leaf, .bool (decide (¬ (p0.Leaf = true))), .slice A55399 n55400 c55401, .pointer (some ⟨b55036, 3, none⟩), .slice (some ⟨b56092, o56093, none⟩) p0.Kids.length c55032, .pointer (some ⟨b56092, o56093 + (0 : Int).toNat * 1, none⟩), .int .i64 x56089, .int .u16 (IntKind.u16.wrap x56089), .slice A56109 n56110 c56111] A56109 n56110 c56111 cl56112 _ hf s kk hn56113 rp56114 e55026 e55030 e55034)
        · have hf := iteF h56088 hf
          refine WPK.condF (Eq.trans (b := .bool (decide (¬ (p0.Leaf = true)))) (by kernel_rfl) (bo_f h56088)) ?_
          refine WPK.skip ?_
          exact fun X h => kc (by kernel_rfl) rfl (h I55408 x55398 3 [(D55397.getD 0 undef), (D55397.getD 1 undef), (D55397.getD 2 undef), (D55397.getD 3 undef), (D55397.getD 4 undef), (D55397.getD 5 undef), (D55397.getD 6 undef), (D55397.getD 7 undef), (D55397.getD 8 undef), (D55397.getD 9 undef), (D55397.getD 10 undef), (D55397.getD 11 undef), (D55397.getD 12 undef), (D55397.getD 13 undef), .slice A55023 p0.Pairs.length c55024, .int .i64 (p0.Pairs.length : Int), .int .i64 x55406, .bool (decide (x55406 < (p0.Pairs.length : Int))), (D55397.getD 15 undef), (D55397.getD 16 undef), (D55397.getD 17 undef), (D55397.getD 18 undef), (D55397.getD 19 undef), (D55397.getD 20 undef), (D55397.getD 21 undef), (D55397.getD 22 undef), (D55397.getD 23 undef), (D55397.getD 24 undef), .pointer (some ⟨b55036, 0, none⟩), .bool p0.Leaf, .bool (decide (¬ (p0.Leaf = true))), undef, undef, undef, undef, undef, undef, undef] A55399 n55400 c55401 cl55402 _ hf s kk hn55403 rp55404 e55026 e55030 e55034)
theorem c11 {w0 w : World} {M I : Nat → Prop} {F : List It} (p0 : (List Int)) (p1 : (List Int)) (A56202 : Option Addr) (c56203 : Nat) (A56206 : Option Addr) (c56207 : Nat) (hc56204 : (p0.length ≤ c56203 ∧ c56203 ≤ 9223372036854775807)) (e56205 : Elems (Rp.int .u8) I w A56202 p0) (hc56208 : (p1.length ≤ c56207 ∧ c56207 ≤ 9223372036854775807)) (e56209 : Elems (Rp.int .u8) I w A56206 p1) (s : St w0 M I (F) w) {r : Bool} (hf : g11 p0 p1 = some r) :
    Ret Tryd.prog 11 [.slice A56202 p0.length c56203, .slice A56206 p1.length c56207] w fun v wz => ∀ X : Value → World → Prop, (∀ (I' : Nat → Prop) (w' : World), St w0 M I' (F) w' → Kp I w I' w' → X (.bool r) w') → X v wz := by
  have kk : Kp I w I w := Kp.refl
  unfold g11 at hf
  refine Ret.of Tryd.func11 rfl ?_
  refine WPK.seq ?_
  refine WPK.region ?_
  refine RW.seg hT 1 [] [] [.bool false] [] (by kernel_rfl) (trivial) ?_
  refine RW.nil ?_
  refine WPK.seq ?_
  refine WPK.region ?_
  refine RW.seg hT 6 [.string (strOfNums p0), .string (strOfNums p1)] [(9, .bool (decide ((strOfNums p0).toList = (strOfNums p1).toList)))] [.slice A56202 p0.length c56203, .string (strOfNums p0), .slice A56206 p1.length c56207, .string (strOfNums p1), .bool (decide ((strOfNums p0).toList = (strOfNums p1).toList)), .bool (decide ((strOfNums p0).toList = (strOfNums p1).toList))] [.bytes A56202 p0.length (strOfNums p0), .bytes A56206 p1.length (strOfNums p1), .veq (.bool ((strOfNums p0).toList == (strOfNums p1).toList)) (.bool (decide ((strOfNums p0).toList = (strOfNums p1).toList)))] (by kernel_rfl) (⟨Elems.bytes e56205, Elems.bytes e56209, beq_v⟩) ?_
  refine RW.nil ?_
  refine WPK.ret (?_)
  obtain rfl := someS hf
  refine Fin.of (rs := [.tmp 4]) hT [] (.bool (decide ((strOfNums p0).toList = (strOfNums p1).toList))) [] rfl (by kernel_rfl) (trivial) ?_
  exact fun X h => vc rfl (h I _ s kk)
theorem c31 {w0 w : World} {M I : Nat → Prop} {F : List It} (p0 : T_api_Node) (p1 : (List Int)) (p2 : Bool) (A59078 : Option Addr) (c59079 : Nat) (A59082 : Option Addr) (c59083 : Nat) (A59086 : Option Addr) (c59087 : Nat) (A59090 : Option Addr) (c59091 : Nat) (hc59080 : (p0.Pairs.length ≤ c59079 ∧ c59079 ≤ 9223372036854775807)) (e59081 : Elems rp_T_api_Pair I w A59078 p0.Pairs) (hc59084 : (p0.Keys.length ≤ c59083 ∧ c59083 ≤ 9223372036854775807)) (e59085 : Elems (Rp.slice (Rp.int .u8)) I w A59082 p0.Keys) (hc59088 : (p0.Kids.length ≤ c59087 ∧ c59087 ≤ 9223372036854775807)) (e59089 : Elems (Rp.int .i64) I w A59086 p0.Kids) (hc59092 : (p1.length ≤ c59091 ∧ c59091 ≤ 9223372036854775807)) (e59093 : Elems (Rp.int .u8) I w A59090 p1) (s : St w0 M I (F) w) {r : Int} (hf : g31 p0 p1 p2 = some r) :
    Ret Tryd.prog 31 [.agg #[.bool p0.Leaf, .slice A59078 p0.Pairs.length c59079, .slice A59082 p0.Keys.length c59083, .slice A59086 p0.Kids.length c59087], .slice A59090 p1.length c59091, .bool p2] w fun v wz => ∀ X : Value → World → Prop, (∀ (I' : Nat → Prop) (w' : World), St w0 M I' (F) w' → Kp I w I' w' → X (.int .i64 r) w') → X v wz := by
  have kk : Kp I w I w := Kp.refl
  unfold g31 at hf
  refine Ret.of Tryd.func31 rfl ?_
  refine WPK.seq ?_
  refine WPK.region ?_
  refine RW.op (by kernel_rfl) (OK.new hT (f := fun b => .pointer (some ⟨b, 0, none⟩)) (cs := [.bool p0.Leaf, .slice A59078 p0.Pairs.length c59079, .slice A59082 p0.Keys.length c59083, .slice A59086 p0.Kids.length c59087]) (e := 26) (c := .tt) s (by kernel_rfl) trivial ?_)
  clear s
  rintro w59094 b59095 s k59096 -
  replace e59081 := e59081.st k59096
  replace e59085 := e59085.st k59096
  replace e59089 := e59089.st k59096
  replace e59093 := e59093.st k59096
  replace kk := kk.trans k59096
  refine RW.op (by kernel_rfl) (OK.new hT (f := fun b => .pointer (some ⟨b, 0, none⟩)) (cs := [.slice A59090 p1.length c59091]) (e := 27) (c := .tt) s (by kernel_rfl) trivial ?_)
  clear s
  rintro w59097 b59098 s k59099 -
  replace e59081 := e59081.st k59099
  replace e59085 := e59085.st k59099
  replace e59089 := e59089.st k59099
  replace e59093 := e59093.st k59099
  replace kk := kk.trans k59099
  refine RW.op (by kernel_rfl) (OK.new hT (f := fun b => .pointer (some ⟨b, 0, none⟩)) (cs := [.bool p2]) (e := 4) (c := .tt) s (by kernel_rfl) trivial ?_)
  clear s
  rintro w59100 b59101 s k59102 -
  replace e59081 := e59081.st k59102
  replace e59085 := e59085.st k59102
  replace e59089 := e59089.st k59102
  replace e59093 := e59093.st k59102
  replace kk := kk.trans k59102
  refine RW.seg hT 1 [] [] [.int .i64 0] [] (by kernel_rfl) (trivial) ?_
  refine RW.nil ?_
  refine WPK.scope ?_
  refine WPK.seq ?_
  refine WPK.region ?_
  refine RW.op (by kernel_rfl) (OK.new hT (f := fun b => .pointer (some ⟨b, 0, none⟩)) (cs := [.int .i64 0]) (e := 3) (c := .tt) s (by kernel_rfl) trivial ?_)
  clear s
  rintro w59103 b59104 s k59105 -
  replace e59081 := e59081.st k59105
  replace e59085 := e59085.st k59105
  replace e59089 := e59089.st k59105
  replace e59093 := e59093.st k59105
  replace kk := kk.trans k59105
  refine RW.op (by kernel_rfl) (OK.store hT (i := 0) (b := b59104) (off := 0) (n := 1) (vs := [.int .i64 0]) (cs := [.int .i64 0]) (e := 3) s (by kernel_rfl) rfl rfl (flat_ok rfl) (Nat.le_of_ble_eq_true rfl) ?_)
  clear s
  rintro w59106 s k59107 -
  replace e59081 := e59081.st k59107
  replace e59085 := e59085.st k59107
  replace e59089 := e59089.st k59107
  replace e59093 := e59093.st k59107
  replace kk := kk.trans k59107
  refine RW.nil ?_
  refine WPK.seq ?_
  refine WPK.label ?_
  refine WPK.seq ?_
  refine WPK.cut' (Kn fun E ds wz => ∀ X : Kont, (∀ (I60489 : Nat → Prop) (x60487 : Int) (d60485 : Nat) (D60486 : List Value) (w' : World), g31_j1 x60487 = some r → St w0 M I60489 ((.blk b59104 (.cells #[.int .i64 x60487] 3 (0, 0))) :: (.blk d60485 (.deferred (some []))) :: F) w' → Kp I w I60489 w' → X [(D60486.getD 0 undef), (D60486.getD 1 undef), (D60486.getD 2 undef), (D60486.getD 3 undef), (D60486.getD 4 undef), (D60486.getD 5 undef), .int .i64 0, .pointer (some ⟨b59104, 0, none⟩), (D60486.getD 6 undef), (D60486.getD 7 undef), (D60486.getD 8 undef), (D60486.getD 9 undef), (D60486.getD 10 undef), (D60486.getD 11 undef), (D60486.getD 12 undef), (D60486.getD 13 undef), (D60486.getD 14 undef), (D60486.getD 15 undef), (D60486.getD 16 undef), (D60486.getD 17 undef), (D60486.getD 18 undef), (D60486.getD 19 undef), (D60486.getD 20 undef), (D60486.getD 21 undef), (D60486.getD 22 undef), (D60486.getD 23 undef), undef] [mk d60485] w') → X E ds wz) ?_ ?_
  · intro X60492 hX60493
    refine fun _ _ _ hJ => hJ X60492 ?_
    clear s
    intro I60489 x60487 d60485 D60486 w60488 hf s kk
    refine hX60493 _ _ _ ?_
    unfold g31_j1 at hf
    refine WPK.seq ?_
    refine WPK.region ?_
    refine RW.seg hT 2 [.int .i64 x60487] [] [.int .i64 x60487, .int .i64 x60487] [.cell ⟨b59104, 0, none⟩ (.int .i64 x60487)] (by kernel_rfl) (s.cell (i := 0) (off := 0) rfl rfl) ?_
    refine RW.nil ?_
    refine WPK.ret (scopeQ.ret (?_))
    obtain rfl := someS hf
    refine Fin.mark (i := 1) s rfl ?_
    clear s
    intro w60490 s k60491
    replace kk := kk.trans k60491
    refine Fin.of (rs := [.tmp 6]) hT [] (.int .i64 x60487) [] rfl (by kernel_rfl) (trivial) ?_
    replace s := s.pick [] 1 rfl
    exact fun X h => vc rfl (h I60489 _ s kk)
  · refine WPK.seq ?_
    refine WPK.region ?_
    refine RW.seg hT 1 [.agg #[.bool p0.Leaf, .slice A59078 p0.Pairs.length c59079, .slice A59082 p0.Keys.length c59083, .slice A59086 p0.Kids.length c59087]] [] [.agg #[.bool p0.Leaf, .slice A59078 p0.Pairs.length c59079, .slice A59082 p0.Keys.length c59083, .slice A59086 p0.Kids.length c59087]] [.cells ⟨b59095, 0, none⟩ [.bool p0.Leaf, .slice A59078 p0.Pairs.length c59079, .slice A59082 p0.Keys.length c59083, .slice A59086 p0.Kids.length c59087] 4] (by kernel_rfl) (s.cells (i := 3) rfl rfl rfl) ?_
    refine RW.op (by kernel_rfl) (OK.inl (args := [.agg #[.bool p0.Leaf, .slice A59078 p0.Pairs.length c59079, .slice A59082 p0.Keys.length c59083, .slice A59086 p0.Kids.length c59087]]) en42 (by kernel_rfl) ?_)
    intro R60494 hR60495
    refine Ret.of Tryd.func42 rfl ?_
    refine WPK.seq ?_
    refine WPK.region ?_
    refine RW.op (by kernel_rfl) (OK.new hT (f := fun b => .pointer (some ⟨b, 0, none⟩)) (cs := [.bool p0.Leaf, .slice A59078 p0.Pairs.length c59079, .slice A59082 p0.Keys.length c59083, .slice A59086 p0.Kids.length c59087]) (e := 26) (c := .tt) s (by kernel_rfl) trivial ?_)
    clear s
    rintro w60499 b60500 s k60501 -
    replace e59081 := e59081.st k60501
    replace e59085 := e59085.st k60501
    replace e59089 := e59089.st k60501
    replace e59093 := e59093.st k60501
    replace kk := kk.trans k60501
    refine RW.seg hT 1 [] [] [.nilFunc] [] (by kernel_rfl) (trivial) ?_
    refine RW.nil ?_
    refine WPK.seq ?_
    refine WPK.region ?_
    refine RW.seg hT 2 [] [] [.func (.func 57) #[] #[.pointer (some ⟨b60500, 0, none⟩)], .func (.func 57) #[] #[.pointer (some ⟨b60500, 0, none⟩)]] [] (by kernel_rfl) (trivial) ?_
    refine RW.nil ?_
    refine WPK.ret (?_)
    refine Fin.of (rs := [.tmp 2]) hT [] (.func (.func 57) #[] #[.pointer (some ⟨b60500, 0, none⟩)]) [] rfl (by kernel_rfl) (trivial) ?_
    refine hR60495 _ _ ?_
    refine RW.nil ?_
    refine WPK.block ?_
    refine WPK.range (gf := 57) (first := []) (cap := [.pointer (some ⟨b60500, 0, none⟩)]) s (by kernel_rfl) en57 ?_
    clear s
    intro l60502 d60503 rec60504 w60506 R60508 hrec60505 s k60507 hR60509
    replace e59081 := e59081.st k60507
    replace e59085 := e59085.st k60507
    replace e59089 := e59089.st k60507
    replace e59093 := e59093.st k60507
    replace kk := kk.trans k60507
    refine Ret.of Tryd.func57 rfl ?_
    refine WPK.seq ?_
    refine WPK.seq ?_
    refine WPK.region ?_
    refine RW.seg hT 4 [.slice A59078 p0.Pairs.length c59079] [] [.pointer (some ⟨b60500, 1, none⟩), .slice A59078 p0.Pairs.length c59079, .int .i64 (p0.Pairs.length : Int), .int .i64 0] [.cell ⟨b60500, 1, none⟩ (.slice A59078 p0.Pairs.length c59079)] (by kernel_rfl) (s.cell (i := 2) (off := 1) rfl rfl) ?_
    refine RW.nil ?_
    refine WPK.block ?_
    replace s := s.pick [0, 1, 2, 3, 4, 5] 7 rfl
    refine WPK.loop' (J := fun n61308 E ds wz => ∀ X : Kont, (∀ (I61150 : Nat → Prop) (x61147 : Int) (x61148 : Int) (D61146 : List Value) (w' : World), g31_l2 p0 p1 p2 n61308 x61147 x61148 = some r → St w0 M I61150 ((.blk l60502 (rec60504 .ready none)) :: (.blk d60503 (.deferred (some []))) :: (.blk b60500 (.cells #[.bool p0.Leaf, .slice A59078 p0.Pairs.length c59079, .slice A59082 p0.Keys.length c59083, .slice A59086 p0.Kids.length c59087] 26 (0, 0))) :: (.blk b59104 (.cells #[.int .i64 x61148] 3 (0, 0))) :: (.blk b59101 (.cells #[.bool p2] 4 (0, 0))) :: (.blk b59098 (.cells #[.slice A59090 p1.length c59091] 27 (0, 0))) :: F) w' → Kp I w I61150 w' → Elems rp_T_api_Pair I61150 w' A59078 p0.Pairs → Elems (Rp.slice (Rp.int .u8)) I61150 w' A59082 p0.Keys → Elems (Rp.int .i64) I61150 w' A59086 p0.Kids → Elems (Rp.int .u8) I61150 w' A59090 p1 → X [.func (.yield l60502) #[] #[], .pointer (some ⟨b60500, 0, none⟩), (D61146.getD 0 undef), (D61146.getD 1 undef), (D61146.getD 2 undef), (D61146.getD 3 undef), undef, (D61146.getD 4 undef), .slice A59078 p0.Pairs.length c59079, .int .i64 (p0.Pairs.length : Int), .int .i64 x61147, (D61146.getD 5 undef), (D61146.getD 6 undef), (D61146.getD 7 undef), (D61146.getD 8 undef), (D61146.getD 9 undef), (D61146.getD 10 undef), (D61146.getD 11 undef), (D61146.getD 12 undef), (D61146.getD 13 undef), undef, undef, undef, undef, undef, undef, undef, undef, undef, undef, undef, undef] [] w') → X E ds wz) FUEL (fun X h => kc (by kernel_rfl) rfl (h I 0 0 [undef, undef, undef, undef, .pointer (some ⟨b60500, 1, none⟩), undef, undef, undef, undef, undef, undef, undef, undef, undef] _ hf s kk e59081 e59085 e59089 e59093)) (fun _ _ _ hJ => hJ (fun _ _ _ => False) (by intro I61150 x61147 x61148 D61146 w61149 hf s kk e59081 e59085 e59089 e59093; exact noneS hf)) ?_
    intro X61869 hX61870
    refine fun n61308 _ _ _ hJ => hJ (X61869 n61308) ?_
    clear s
    intro I61150 x61147 x61148 D61146 w61149 hf s kk e59081 e59085 e59089 e59093
    refine hX61870 _ _ _ _ ?_
    replace hf : g31_l2B p0 p1 p2 (g31_l2 p0 p1 p2 n61308) x61147 x61148 = some r := hf
    generalize hrec61309 : g31_l2 p0 p1 p2 n61308 = rec61307 at hf
    unfold g31_l2B at hf
    refine WPK.seq ?_
    refine WPK.region ?_
    refine RW.seg hT 1 [] [] [.bool (decide (x61147 < (p0.Pairs.length : Int)))] [] (by kernel_rfl) (trivial) ?_
    refine RW.nil ?_
    refine WPK.seq ?_
    by_cases h61311 : x61147 < (p0.Pairs.length : Int)
    · have hf := iteT h61311 hf
      refine WPK.condT (Eq.trans (b := .bool (decide (x61147 < (p0.Pairs.length : Int)))) (by kernel_rfl) (bo_t h61311)) ?_
      refine WPK.skip ?_
      refine WPK.seq ?_
      refine WPK.block ?_
      refine WPK.seq ?_
      refine WPK.region ?_
      obtain ⟨x61389, hx61390, hf⟩ := bindS hf
      obtain ⟨h61391, hx61390⟩ := getS hx61390
      obtain ⟨b61392, o61393, rfl⟩ := Elems.opn e59081 hx61390
      obtain ⟨cs61394, hr61395, ha61396⟩ := Elems.get e59081 hx61390
      obtain ⟨cs61397, cs61398, rfl, hr61399, hr61400⟩ := hr61395
      obtain ⟨A61401, c61402, rfl, q61403, q61404, e61405⟩ := hr61399
      have hc61406 := And.intro q61403 q61404
      obtain ⟨A61407, c61408, rfl, q61409, q61410, e61411⟩ := hr61400
      have hc61412 := And.intro q61409 q61410
      refine RW.seg hT 2 [.agg #[.slice A61401 x61389.Key.length c61402, .slice A61407 x61389.Val.length c61408]] [] [.pointer (some ⟨b61392, o61393 + x61147.toNat * 2, none⟩), .agg #[.slice A61401 x61389.Key.length c61402, .slice A61407 x61389.Val.length c61408]] [.idx x61147 p0.Pairs.length, .cells ⟨b61392, o61393 + x61147.toNat * 2, none⟩ [.slice A61401 x61389.Key.length c61402, .slice A61407 x61389.Val.length c61408] 2] (by kernel_rfl) (⟨h61391, at_cells ha61396 (off := 0) rfl rfl⟩) ?_
      refine RW.op (by kernel_rfl) (OK.new hT (f := fun b => .pointer (some ⟨b, 0, none⟩)) (cs := [.slice none 0 0, .slice none 0 0]) (e := 41) (c := .tt) s (by kernel_rfl) trivial ?_)
      clear s
      rintro w61413 b61414 s k61415 -
      replace e59081 := e59081.st k61415
      replace e61405 := e61405.st k61415
      replace e61411 := e61411.st k61415
      replace e59085 := e59085.st k61415
      replace e59089 := e59089.st k61415
      replace e59093 := e59093.st k61415
      replace kk := kk.trans k61415
      refine RW.op (by kernel_rfl) (OK.store hT (i := 0) (b := b61414) (off := 0) (n := 2) (vs := [.slice A61401 x61389.Key.length c61402, .slice A61407 x61389.Val.length c61408]) (cs := [.slice none 0 0, .slice none 0 0]) (e := 41) s (by kernel_rfl) rfl rfl (flat_ok rfl) (Nat.le_of_ble_eq_true rfl) ?_)
      clear s
      rintro w61416 s k61417 -
      replace e59081 := e59081.st k61417
      replace e61405 := e61405.st k61417
      replace e61411 := e61411.st k61417
      replace e59085 := e59085.st k61417
      replace e59089 := e59089.st k61417
      replace e59093 := e59093.st k61417
      replace kk := kk.trans k61417
      refine RW.nil ?_
      refine WPK.seq ?_
      refine WPK.region ?_
      refine RW.seg hT 3 [.slice A61401 x61389.Key.length c61402] [] [.func (.yield l60502) #[] #[], .pointer (some ⟨b61414, 0, none⟩), .slice A61401 x61389.Key.length c61402] [.cell ⟨b61414, 0, none⟩ (.slice A61401 x61389.Key.length c61402)] (by kernel_rfl) (s.cell (i := 0) (off := 0) rfl rfl) ?_
      refine RW.op (by kernel_rfl) (OK.yield (args := [.slice A61401 x61389.Key.length c61402]) hrec60505 s (i := 1) rfl (by kernel_rfl) rfl ?_)
      intro R61418 hR61419
      refine WPK.region ?_
      refine RW.seg hT 1 [] [] [.slice A61401 x61389.Key.length c61402] [] (by kernel_rfl) (trivial) ?_
      refine RW.nil ?_
      refine RoundBeg.of hrec60505 s (i := 1) rfl ?_
      clear s
      intro w61420 s k61421
      replace e61405 := e61405.st k61421
      replace e59081 := e59081.st k61421
      replace e61411 := e61411.st k61421
      replace e59085 := e59085.st k61421
      replace e59089 := e59089.st k61421
      replace e59093 := e59093.st k61421
      replace kk := kk.trans k61421
      refine WPK.block ?_
      refine WPK.seq ?_
      refine WPK.seq ?_
      refine WPK.region ?_
      refine RW.seg hT 2 [.slice A59090 p1.length c59091] [] [.slice A61401 x61389.Key.length c61402, .slice A59090 p1.length c59091] [.cell ⟨b59098, 0, none⟩ (.slice A59090 p1.length c59091)] (by kernel_rfl) (s.cell (i := 6) (off := 0) rfl rfl) ?_
      obtain ⟨x61439, hx61440, hf⟩ := bindS hf
      refine RW.op (by kernel_rfl) (OK.call' en49 (by kernel_rfl) (c49 (F := (.blk b61414 (.cells #[.slice A61401 x61389.Key.length c61402, .slice A61407 x61389.Val.length c61408] 41 (0, 0))) :: (.blk l60502 (rec60504 .busy none)) :: (.blk d60503 (.deferred (some []))) :: (.blk b60500 (.cells #[.bool p0.Leaf, .slice (some ⟨b61392, o61393, none⟩) p0.Pairs.length c59079, .slice A59082 p0.Keys.length c59083, .slice A59086 p0.Kids.length c59087] 26 (0, 0))) :: (.blk b59104 (.cells #[.int .i64 x61148] 3 (0, 0))) :: (.blk b59101 (.cells #[.bool p2] 4 (0, 0))) :: (.blk b59098 (.cells #[.slice A59090 p1.length c59091] 27 (0, 0))) :: F) x61389.Key p1 A61401 c61402 A59090 c59091 hc61406 e61405 hc59092 e59093 s hx61440) ?_)
      intro X61443 hX61444
      refine fun _ _ hJ => hJ X61443 ?_
      clear s
      intro I61445 w61441 s k61442
      refine hX61444 _ _ ?_
      replace e61405 := e61405.st k61442
      replace e59093 := e59093.st k61442
      replace e59081 := e59081.st k61442
      replace e61411 := e61411.st k61442
      replace e59085 := e59085.st k61442
      replace e59089 := e59089.st k61442
      replace kk := kk.trans k61442
      refine RW.seg hT 1 [] [] [.int .i64 x61439] [] (by kernel_rfl) (trivial) ?_
      refine RW.nil ?_
      refine WPK.block ?_
      refine WPK.seq ?_
      refine WPK.seq ?_
      refine WPK.region ?_
      refine RW.seg hT 3 [] [] [.int .i64 x61439, .bool (decide (x61439 < 0)), .bool (decide (x61439 < 0))] [] (by kernel_rfl) (trivial) ?_
      refine RW.nil ?_
      by_cases h61448 : x61439 < 0
      · have hf := iteT h61448 hf
        refine WPK.condT (Eq.trans (b := .bool (decide (x61439 < 0))) (by kernel_rfl) (bo_t h61448)) ?_
        refine WPK.skip ?_
        by_cases h61449 : x61439 < 0
        · have hf := iteT h61449 hf
          refine WPK.condT (Eq.trans (b := .bool (decide (x61439 < 0))) (by kernel_rfl) (bo_t h61449)) ?_
          refine WPK.seq ?_
          refine WPK.region ?_
          refine RW.seg hT 2 [.int .i64 x61148] [] [.int .i64 x61148, .int .i64 (IntKind.i64.wrap (x61148 + 1))] [.cell ⟨b59104, 0, none⟩ (.int .i64 x61148)] (by kernel_rfl) (s.cell (i := 4) (off := 0) rfl rfl) ?_
          refine RW.op (by kernel_rfl) (OK.store hT (i := 4) (b := b59104) (off := 0) (n := 1) (vs := [.int .i64 (IntKind.i64.wrap (x61148 + 1))]) (cs := [.int .i64 x61148]) (e := 3) s (by kernel_rfl) rfl rfl (flat_ok rfl) (Nat.le_of_ble_eq_true rfl) ?_)
          clear s
          rintro w61450 s k61451 -
          replace e61405 := e61405.st k61451
          replace e59093 := e59093.st k61451
          replace e59081 := e59081.st k61451
          replace e61411 := e61411.st k61451
          replace e59085 := e59085.st k61451
          replace e59089 := e59089.st k61451
          replace kk := kk.trans k61451
          refine RW.nil ?_
          refine WPK.exit (blockQ.other rfl (blockQ.same ?_))
          refine RoundEnd.next hrec60505 s (i := 1) rfl ?_
          clear s
          intro w61452 s k61453
          replace e61405 := e61405.st k61453
          replace e59093 := e59093.st k61453
          replace e59081 := e59081.st k61453
          replace e61411 := e61411.st k61453
          replace e59085 := e59085.st k61453
          replace e59089 := e59089.st k61453
          replace kk := kk.trans k61453
          refine hR61419 _ _ ?_
          refine RW.seg hT 1 [] [] [.bool false] [] (by kernel_rfl) (trivial) ?_
          refine RW.nil ?_
          refine WPK.condF (by kernel_rfl) ?_
          refine WPK.skip ?_
          refine WPK.region ?_
          refine RW.seg hT 2 [] [] [.int .i64 (IntKind.i64.wrap (x61147 + 1)), .int .i64 (IntKind.i64.wrap (x61147 + 1))] [] (by kernel_rfl) (trivial) ?_
          refine RW.nil ?_
          subst hrec61309
          replace s := s.pick [1, 2, 3, 4, 5, 6] 7 rfl
          exact ⟨n61308, Nat.le_refl _, fun X h => kc (by kernel_rfl) rfl (h I61445 (IntKind.i64.wrap (x61147 + 1)) (IntKind.i64.wrap (x61148 + 1)) [(D61146.getD 0 undef), (D61146.getD 1 undef), .pointer (some ⟨b61414, 0, none⟩), (D61146.getD 3 undef), (D61146.getD 4 undef), .bool (decide (x61147 < (p0.Pairs.length : Int))), .pointer (some ⟨b61392, o61393 + x61147.toNat * 2, none⟩), .agg #[.slice A61401 x61389.Key.length c61402, .slice A61407 x61389.Val.length c61408], .func (.yield l60502) #[] #[], .pointer (some ⟨b61414, 0, none⟩), .slice A61401 x61389.Key.length c61402, .bool true, .bool false, .int .i64 (IntKind.i64.wrap (x61147 + 1))] _ hf s kk e59081 e59085 e59089 e59093)⟩
        · have hf := iteF h61449 hf
          refine WPK.condF (Eq.trans (b := .bool (decide (x61439 < 0))) (by kernel_rfl) (bo_f h61449)) ?_
          refine WPK.skip ?_
          refine WPK.exit (blockQ.other rfl (?_))
          refine RoundEnd.stop (Code.exit 0) hrec60505 s (i := 1) rfl ?_
          clear s
          intro w61454 s k61455
          replace e61405 := e61405.st k61455
          replace e59093 := e59093.st k61455
          replace e59081 := e59081.st k61455
          replace e61411 := e61411.st k61455
          replace e59085 := e59085.st k61455
          replace e59089 := e59089.st k61455
          replace kk := kk.trans k61455
          refine hR61419 _ _ ?_
          refine RW.seg hT 1 [] [] [.bool true] [] (by kernel_rfl) (trivial) ?_
          refine RW.nil ?_
          refine WPK.condT (by kernel_rfl) ?_
          refine WPK.ret (blockQ.ret (blockQ.ret (?_)))
          refine Fin.of (rs := []) hT [] (.tuple #[]) [] rfl (by kernel_rfl) (trivial) ?_
          refine hR60509 _ _ (RangeEnd.jump hrec60505 s (i := 1) rfl ?_)
          clear s
          intro w61456 s k61457
          replace e61405 := e61405.st k61457
          replace e61411 := e61411.st k61457
          replace e59081 := e59081.st k61457
          replace e59085 := e59085.st k61457
          replace e59089 := e59089.st k61457
          replace e59093 := e59093.st k61457
          replace kk := kk.trans k61457
          refine WPK.exit (blockQ.same ?_)
          replace s := s.pick [3, 1] 6 rfl
          exact fun X h => kc (by kernel_rfl) rfl (h I61445 x61148 d60503 [.agg #[.bool p0.Leaf, .slice (some ⟨b61392, o61393, none⟩) p0.Pairs.length c59079, .slice A59082 p0.Keys.length c59083, .slice A59086 p0.Kids.length c59087], .slice A59090 p1.length c59091, .bool p2, .pointer (some ⟨b59095, 0, none⟩), .pointer (some ⟨b59098, 0, none⟩), .pointer (some ⟨b59101, 0, none⟩), undef, undef, .agg #[.bool p0.Leaf, .slice (some ⟨b61392, o61393, none⟩) p0.Pairs.length c59079, .slice A59082 p0.Keys.length c59083, .slice A59086 p0.Kids.length c59087], .func (.func 57) #[] #[.pointer (some ⟨b60500, 0, none⟩)], undef, undef, undef, undef, undef, undef, undef, undef, undef, undef, undef, undef, undef, undef] _ hf s kk)
      · have hf := iteF h61448 hf
        refine WPK.condF (Eq.trans (b := .bool (decide (x61439 < 0))) (by kernel_rfl) (bo_f h61448)) ?_
        refine WPK.region ?_
        refine RW.seg hT 2 [] [(20, .bool (decide (x61439 = 0)))] [.int .i64 x61439, .bool (decide (x61439 = 0))] [.veq (.bool (x61439 == 0)) (.bool (decide (x61439 = 0)))] (by kernel_rfl) (eq_v) ?_
        by_cases h61458 : x61439 = 0
        · have hf := iteT h61458 hf
          refine RW.seg hT 4 [.bool p2] [(21, .bool true)] [.bool true, .bool p2, .bool p2, .bool p2] [.veq (.bool (decide (x61439 = 0))) (.bool true), .cell ⟨b59101, 0, none⟩ (.bool p2)] (by kernel_rfl) (⟨bo_t h61458, s.cell (i := 5) (off := 0) rfl rfl⟩) ?_
          refine RW.nil ?_
          by_cases h61459 : p2 = true
          · have hf := iteT h61459 hf
            refine WPK.condT (Eq.trans (b := .bool p2) (by kernel_rfl) (b_t h61459)) ?_
            refine WPK.seq ?_
            refine WPK.region ?_
            refine RW.seg hT 2 [.int .i64 x61148] [] [.int .i64 x61148, .int .i64 (IntKind.i64.wrap (x61148 + 1))] [.cell ⟨b59104, 0, none⟩ (.int .i64 x61148)] (by kernel_rfl) (s.cell (i := 4) (off := 0) rfl rfl) ?_
            refine RW.op (by kernel_rfl) (OK.store hT (i := 4) (b := b59104) (off := 0) (n := 1) (vs := [.int .i64 (IntKind.i64.wrap (x61148 + 1))]) (cs := [.int .i64 x61148]) (e := 3) s (by kernel_rfl) rfl rfl (flat_ok rfl) (Nat.le_of_ble_eq_true rfl) ?_)
            clear s
            rintro w61460 s k61461 -
            replace e61405 := e61405.st k61461
            replace e59093 := e59093.st k61461
            replace e59081 := e59081.st k61461
            replace e61411 := e61411.st k61461
            replace e59085 := e59085.st k61461
            replace e59089 := e59089.st k61461
            replace kk := kk.trans k61461
            refine RW.nil ?_
            refine WPK.exit (blockQ.other rfl (blockQ.same ?_))
            refine RoundEnd.next hrec60505 s (i := 1) rfl ?_
            clear s
            intro w61462 s k61463
            replace e61405 := e61405.st k61463
            replace e59093 := e59093.st k61463
            replace e59081 := e59081.st k61463
            replace e61411 := e61411.st k61463
            replace e59085 := e59085.st k61463
            replace e59089 := e59089.st k61463
            replace kk := kk.trans k61463
            refine hR61419 _ _ ?_
            refine RW.seg hT 1 [] [] [.bool false] [] (by kernel_rfl) (trivial) ?_
            refine RW.nil ?_
            refine WPK.condF (by kernel_rfl) ?_
            refine WPK.skip ?_
            refine WPK.region ?_
            refine RW.seg hT 2 [] [] [.int .i64 (IntKind.i64.wrap (x61147 + 1)), .int .i64 (IntKind.i64.wrap (x61147 + 1))] [] (by kernel_rfl) (trivial) ?_
            refine RW.nil ?_
            subst hrec61309
            replace s := s.pick [1, 2, 3, 4, 5, 6] 7 rfl
            exact ⟨n61308, Nat.le_refl _, fun X h => kc (by kernel_rfl) rfl (h I61445 (IntKind.i64.wrap (x61147 + 1)) (IntKind.i64.wrap (x61148 + 1)) [(D61146.getD 0 undef), (D61146.getD 1 undef), .pointer (some ⟨b61414, 0, none⟩), (D61146.getD 3 undef), (D61146.getD 4 undef), .bool (decide (x61147 < (p0.Pairs.length : Int))), .pointer (some ⟨b61392, o61393 + x61147.toNat * 2, none⟩), .agg #[.slice A61401 x61389.Key.length c61402, .slice A61407 x61389.Val.length c61408], .func (.yield l60502) #[] #[], .pointer (some ⟨b61414, 0, none⟩), .slice A61401 x61389.Key.length c61402, .bool true, .bool false, .int .i64 (IntKind.i64.wrap (x61147 + 1))] _ hf s kk e59081 e59085 e59089 e59093)⟩
          · have hf := iteF h61459 hf
            refine WPK.condF (Eq.trans (b := .bool p2) (by kernel_rfl) (b_f h61459)) ?_
            refine WPK.skip ?_
            refine WPK.exit (blockQ.other rfl (?_))
            refine RoundEnd.stop (Code.exit 0) hrec60505 s (i := 1) rfl ?_
            clear s
            intro w61464 s k61465
            replace e61405 := e61405.st k61465
            replace e59093 := e59093.st k61465
            replace e59081 := e59081.st k61465
            replace e61411 := e61411.st k61465
            replace e59085 := e59085.st k61465
            replace e59089 := e59089.st k61465
            replace kk := kk.trans k61465
            refine hR61419 _ _ ?_
            refine RW.seg hT 1 [] [] [.bool true] [] (by kernel_rfl) (trivial) ?_
            refine RW.nil ?_
            refine WPK.condT (by kernel_rfl) ?_
            refine WPK.ret (blockQ.ret (blockQ.ret (?_)))
            refine Fin.of (rs := []) hT [] (.tuple #[]) [] rfl (by kernel_rfl) (trivial) ?_
            refine hR60509 _ _ (RangeEnd.jump hrec60505 s (i := 1) rfl ?_)
            clear s
            intro w61466 s k61467
            replace e61405 := e61405.st k61467
            replace e61411 := e61411.st k61467
            replace e59081 := e59081.st k61467
            replace e59085 := e59085.st k61467
            replace e59089 := e59089.st k61467
            replace e59093 := e59093.st k61467
            replace kk := kk.trans k61467
            refine WPK.exit (blockQ.same ?_)
            replace s := s.pick [3, 1] 6 rfl
            exact fun X h => kc (by kernel_rfl) rfl (h I61445 x61148 d60503 [.agg #[.bool p0.Leaf, .slice (some ⟨b61392, o61393, none⟩) p0.Pairs.length c59079, .slice A59082 p0.Keys.length c59083, .slice A59086 p0.Kids.length c59087], .slice A59090 p1.length c59091, .bool p2, .pointer (some ⟨b59095, 0, none⟩), .pointer (some ⟨b59098, 0, none⟩), .pointer (some ⟨b59101, 0, none⟩), undef, undef, .agg #[.bool p0.Leaf, .slice (some ⟨b61392, o61393, none⟩) p0.Pairs.length c59079, .slice A59082 p0.Keys.length c59083, .slice A59086 p0.Kids.length c59087], .func (.func 57) #[] #[.pointer (some ⟨b60500, 0, none⟩)], undef, undef, undef, undef, undef, undef, undef, undef, undef, undef, undef, undef, undef, undef] _ hf s kk)
        · have hf := iteF h61458 hf
          refine RW.seg hT 4 [] [(21, .bool false)] [.bool false, undef, .bool false, .bool false] [.veq (.bool (decide (x61439 = 0))) (.bool false)] (by kernel_rfl) (bo_f h61458) ?_
          refine RW.nil ?_
          refine WPK.condF (by kernel_rfl) ?_
          refine WPK.skip ?_
          refine WPK.exit (blockQ.other rfl (?_))
          refine RoundEnd.stop (Code.exit 0) hrec60505 s (i := 1) rfl ?_
          clear s
          intro w61468 s k61469
          replace e61405 := e61405.st k61469
          replace e59093 := e59093.st k61469
          replace e59081 := e59081.st k61469
          replace e61411 := e61411.st k61469
          replace e59085 := e59085.st k61469
          replace e59089 := e59089.st k61469
          replace kk := kk.trans k61469
          refine hR61419 _ _ ?_
          refine RW.seg hT 1 [] [] [.bool true] [] (by kernel_rfl) (trivial) ?_
          refine RW.nil ?_
          refine WPK.condT (by kernel_rfl) ?_
          refine WPK.ret (blockQ.ret (blockQ.ret (?_)))
          refine Fin.of (rs := []) hT [] (.tuple #[]) [] rfl (by kernel_rfl) (trivial) ?_
          refine hR60509 _ _ (RangeEnd.jump hrec60505 s (i := 1) rfl ?_)
          clear s
          intro w61470 s k61471
          replace e61405 := e61405.st k61471
          replace e61411 := e61411.st k61471
          replace e59081 := e59081.st k61471
          replace e59085 := e59085.st k61471
          replace e59089 := e59089.st k61471
          replace e59093 := e59093.st k61471
          replace kk := kk.trans k61471
          refine WPK.exit (blockQ.same ?_)
          replace s := s.pick [3, 1] 6 rfl
          exact fun X h => kc (by kernel_rfl) rfl (h I61445 x61148 d60503 [.agg #[.bool p0.Leaf, .slice (some ⟨b61392, o61393, none⟩) p0.Pairs.length c59079, .slice A59082 p0.Keys.length c59083, .slice A59086 p0.Kids.length c59087], .slice A59090 p1.length c59091, .bool p2, .pointer (some ⟨b59095, 0, none⟩), .pointer (some ⟨b59098, 0, none⟩), .pointer (some ⟨b59101, 0, none⟩), undef, undef, .agg #[.bool p0.Leaf, .slice (some ⟨b61392, o61393, none⟩) p0.Pairs.length c59079, .slice A59082 p0.Keys.length c59083, .slice A59086 p0.Kids.length c59087], .func (.func 57) #[] #[.pointer (some ⟨b60500, 0, none⟩)], undef, undef, undef, undef, undef, undef, undef, undef, undef, undef, undef, undef, undef, undef] _ hf s kk)
    · have hf := iteF h61311 hf
      refine WPK.condF (Eq.trans (b := .bool (decide (x61147 < (p0.Pairs.length : Int)))) (by kernel_rfl) (bo_f h61311)) ?_
      refine WPK.exit (blockQ.same ?_)
      refine WPK.seq ?_
      refine WPK.region ?_
      refine RW.seg hT 4 [.slice A59082 p0.Keys.length c59083] [] [.pointer (some ⟨b60500, 2, none⟩), .slice A59082 p0.Keys.length c59083, .int .i64 (p0.Keys.length : Int), .int .i64 0] [.cell ⟨b60500, 2, none⟩ (.slice A59082 p0.Keys.length c59083)] (by kernel_rfl) (s.cell (i := 2) (off := 2) rfl rfl) ?_
      refine RW.nil ?_
      refine WPK.block ?_
      replace s := s.pick [0, 1, 3, 4, 5] 6 rfl
      refine WPK.loop' (J := fun n61731 E ds wz => ∀ X : Kont, (∀ (I61603 : Nat → Prop) (x61600 : Int) (x61601 : Int) (D61599 : List Value) (w' : World), g31_l3 p0 p1 p2 n61731 x61600 x61601 = some r → St w0 M I61603 ((.blk l60502 (rec60504 .ready none)) :: (.blk d60503 (.deferred (some []))) :: (.blk b59104 (.cells #[.int .i64 x61601] 3 (0, 0))) :: (.blk b59101 (.cells #[.bool p2] 4 (0, 0))) :: (.blk b59098 (.cells #[.slice A59090 p1.length c59091] 27 (0, 0))) :: F) w' → Kp I w I61603 w' → Elems (Rp.slice (Rp.int .u8)) I61603 w' A59082 p0.Keys → Elems (Rp.int .u8) I61603 w' A59090 p1 → X [.func (.yield l60502) #[] #[], (D61599.getD 0 undef), (D61599.getD 1 undef), (D61599.getD 2 undef), (D61599.getD 3 undef), (D61599.getD 4 undef), (D61599.getD 5 undef), (D61599.getD 6 undef), (D61599.getD 7 undef), (D61599.getD 8 undef), (D61599.getD 9 undef), (D61599.getD 10 undef), (D61599.getD 11 undef), (D61599.getD 12 undef), (D61599.getD 13 undef), (D61599.getD 14 undef), (D61599.getD 15 undef), (D61599.getD 16 undef), (D61599.getD 17 undef), (D61599.getD 18 undef), (D61599.getD 19 undef), .slice A59082 p0.Keys.length c59083, .int .i64 (p0.Keys.length : Int), .int .i64 x61600, (D61599.getD 20 undef), (D61599.getD 21 undef), (D61599.getD 22 undef), (D61599.getD 23 undef), (D61599.getD 24 undef), (D61599.getD 25 undef), (D61599.getD 26 undef), (D61599.getD 27 undef)] [] w') → X E ds wz) FUEL (fun X h => kc (by kernel_rfl) rfl (h I61150 0 x61148 [.pointer (some ⟨b60500, 0, none⟩), (D61146.getD 0 undef), (D61146.getD 1 undef), (D61146.getD 2 undef), (D61146.getD 3 undef), undef, (D61146.getD 4 undef), .slice A59078 p0.Pairs.length c59079, .int .i64 (p0.Pairs.length : Int), .int .i64 x61147, .bool (decide (x61147 < (p0.Pairs.length : Int))), (D61146.getD 6 undef), (D61146.getD 7 undef), (D61146.getD 8 undef), (D61146.getD 9 undef), (D61146.getD 10 undef), (D61146.getD 11 undef), (D61146.getD 12 undef), (D61146.getD 13 undef), .pointer (some ⟨b60500, 2, none⟩), undef, undef, undef, undef, undef, undef, undef, undef] _ hf s kk e59085 e59093)) (fun _ _ _ hJ => hJ (fun _ _ _ => False) (by intro I61603 x61600 x61601 D61599 w61602 hf s kk e59085 e59093; exact noneS hf)) ?_
      intro X61867 hX61868
      refine fun n61731 _ _ _ hJ => hJ (X61867 n61731) ?_
      clear s
      intro I61603 x61600 x61601 D61599 w61602 hf s kk e59085 e59093
      refine hX61868 _ _ _ _ ?_
      replace hf : g31_l3B p0 p1 p2 (g31_l3 p0 p1 p2 n61731) x61600 x61601 = some r := hf
      generalize hrec61732 : g31_l3 p0 p1 p2 n61731 = rec61730 at hf
      unfold g31_l3B at hf
      refine WPK.seq ?_
      refine WPK.region ?_
      refine RW.seg hT 1 [] [] [.bool (decide (x61600 < (p0.Keys.length : Int)))] [] (by kernel_rfl) (trivial) ?_
      refine RW.nil ?_
      refine WPK.seq ?_
      by_cases h61734 : x61600 < (p0.Keys.length : Int)
      · have hf := iteT h61734 hf
        refine WPK.condT (Eq.trans (b := .bool (decide (x61600 < (p0.Keys.length : Int)))) (by kernel_rfl) (bo_t h61734)) ?_
        refine WPK.skip ?_
        refine WPK.seq ?_
        refine WPK.block ?_
        refine WPK.seq ?_
        refine WPK.region ?_
        obtain ⟨x61797, hx61798, hf⟩ := bindS hf
        obtain ⟨h61799, hx61798⟩ := getS hx61798
        obtain ⟨b61800, o61801, rfl⟩ := Elems.opn e59085 hx61798
        obtain ⟨cs61802, hr61803, ha61804⟩ := Elems.get e59085 hx61798
        obtain ⟨A61805, c61806, rfl, q61807, q61808, e61809⟩ := hr61803
        have hc61810 := And.intro q61807 q61808
        refine RW.seg hT 3 [.slice A61805 x61797.length c61806] [] [.pointer (some ⟨b61800, o61801 + x61600.toNat * 1, none⟩), .slice A61805 x61797.length c61806, .slice A61805 x61797.length c61806] [.idx x61600 p0.Keys.length, .cell ⟨b61800, o61801 + x61600.toNat * 1, none⟩ (.slice A61805 x61797.length c61806)] (by kernel_rfl) (⟨h61799, ha61804 0 _ rfl⟩) ?_
        refine RW.nil ?_
        refine WPK.seq ?_
        refine WPK.region ?_
        refine RW.seg hT 2 [] [] [.func (.yield l60502) #[] #[], .slice A61805 x61797.length c61806] [] (by kernel_rfl) (trivial) ?_
        refine RW.op (by kernel_rfl) (OK.yield (args := [.slice A61805 x61797.length c61806]) hrec60505 s (i := 0) rfl (by kernel_rfl) rfl ?_)
        intro R61811 hR61812
        refine WPK.region ?_
        refine RW.seg hT 1 [] [] [.slice A61805 x61797.length c61806] [] (by kernel_rfl) (trivial) ?_
        refine RW.nil ?_
        refine RoundBeg.of hrec60505 s (i := 0) rfl ?_
        clear s
        intro w61813 s k61814
        replace e61809 := e61809.st k61814
        replace e59085 := e59085.st k61814
        replace e59093 := e59093.st k61814
        replace kk := kk.trans k61814
        refine WPK.block ?_
        refine WPK.seq ?_
        refine WPK.seq ?_
        refine WPK.region ?_
        refine RW.seg hT 2 [.slice A59090 p1.length c59091] [] [.slice A61805 x61797.length c61806, .slice A59090 p1.length c59091] [.cell ⟨b59098, 0, none⟩ (.slice A59090 p1.length c59091)] (by kernel_rfl) (s.cell (i := 4) (off := 0) rfl rfl) ?_
        obtain ⟨x61832, hx61833, hf⟩ := bindS hf
        refine RW.op (by kernel_rfl) (OK.call' en49 (by kernel_rfl) (c49 (F := (.blk l60502 (rec60504 .busy none)) :: (.blk d60503 (.deferred (some []))) :: (.blk b59104 (.cells #[.int .i64 x61601] 3 (0, 0))) :: (.blk b59101 (.cells #[.bool p2] 4 (0, 0))) :: (.blk b59098 (.cells #[.slice A59090 p1.length c59091] 27 (0, 0))) :: F) x61797 p1 A61805 c61806 A59090 c59091 hc61810 e61809 hc59092 e59093 s hx61833) ?_)
        intro X61836 hX61837
        refine fun _ _ hJ => hJ X61836 ?_
        clear s
        intro I61838 w61834 s k61835
        refine hX61837 _ _ ?_
        replace e61809 := e61809.st k61835
        replace e59093 := e59093.st k61835
        replace e59085 := e59085.st k61835
        replace kk := kk.trans k61835
        refine RW.seg hT 1 [] [] [.int .i64 x61832] [] (by kernel_rfl) (trivial) ?_
        refine RW.nil ?_
        refine WPK.block ?_
        refine WPK.seq ?_
        refine WPK.seq ?_
        refine WPK.region ?_
        refine RW.seg hT 3 [] [] [.int .i64 x61832, .bool (decide (x61832 < 0)), .bool (decide (x61832 < 0))] [] (by kernel_rfl) (trivial) ?_
        refine RW.nil ?_
        by_cases h61841 : x61832 < 0
        · have hf := iteT h61841 hf
          refine WPK.condT (Eq.trans (b := .bool (decide (x61832 < 0))) (by kernel_rfl) (bo_t h61841)) ?_
          refine WPK.skip ?_
          by_cases h61842 : x61832 < 0
          · have hf := iteT h61842 hf
            refine WPK.condT (Eq.trans (b := .bool (decide (x61832 < 0))) (by kernel_rfl) (bo_t h61842)) ?_
            refine WPK.seq ?_
            refine WPK.region ?_
            refine RW.seg hT 2 [.int .i64 x61601] [] [.int .i64 x61601, .int .i64 (IntKind.i64.wrap (x61601 + 1))] [.cell ⟨b59104, 0, none⟩ (.int .i64 x61601)] (by kernel_rfl) (s.cell (i := 2) (off := 0) rfl rfl) ?_
            refine RW.op (by kernel_rfl) (OK.store hT (i := 2) (b := b59104) (off := 0) (n := 1) (vs := [.int .i64 (IntKind.i64.wrap (x61601 + 1))]) (cs := [.int .i64 x61601]) (e := 3) s (by kernel_rfl) rfl rfl (flat_ok rfl) (Nat.le_of_ble_eq_true rfl) ?_)
            clear s
            rintro w61843 s k61844 -
            replace e61809 := e61809.st k61844
            replace e59093 := e59093.st k61844
            replace e59085 := e59085.st k61844
            replace kk := kk.trans k61844
            refine RW.nil ?_
            refine WPK.exit (blockQ.other rfl (blockQ.same ?_))
            refine RoundEnd.next hrec60505 s (i := 0) rfl ?_
            clear s
            intro w61845 s k61846
            replace e61809 := e61809.st k61846
            replace e59093 := e59093.st k61846
            replace e59085 := e59085.st k61846
            replace kk := kk.trans k61846
            refine hR61812 _ _ ?_
            refine RW.seg hT 1 [] [] [.bool false] [] (by kernel_rfl) (trivial) ?_
            refine RW.nil ?_
            refine WPK.condF (by kernel_rfl) ?_
            refine WPK.skip ?_
            refine WPK.region ?_
            refine RW.seg hT 2 [] [] [.int .i64 (IntKind.i64.wrap (x61600 + 1)), .int .i64 (IntKind.i64.wrap (x61600 + 1))] [] (by kernel_rfl) (trivial) ?_
            refine RW.nil ?_
            subst hrec61732
            exact ⟨n61731, Nat.le_refl _, fun X h => kc (by kernel_rfl) rfl (h I61838 (IntKind.i64.wrap (x61600 + 1)) (IntKind.i64.wrap (x61601 + 1)) [(D61599.getD 0 undef), (D61599.getD 1 undef), (D61599.getD 2 undef), (D61599.getD 3 undef), (D61599.getD 4 undef), .slice A61805 x61797.length c61806, (D61599.getD 6 undef), (D61599.getD 7 undef), (D61599.getD 8 undef), (D61599.getD 9 undef), (D61599.getD 10 undef), (D61599.getD 11 undef), (D61599.getD 12 undef), (D61599.getD 13 undef), (D61599.getD 14 undef), (D61599.getD 15 undef), (D61599.getD 16 undef), (D61599.getD 17 undef), (D61599.getD 18 undef), (D61599.getD 19 undef), .bool (decide (x61600 < (p0.Keys.length : Int))), .pointer (some ⟨b61800, o61801 + x61600.toNat * 1, none⟩), .slice A61805 x61797.length c61806, .func (.yield l60502) #[] #[], .slice A61805 x61797.length c61806, .bool true, .bool false, .int .i64 (IntKind.i64.wrap (x61600 + 1))] _ hf s kk e59085 e59093)⟩
          · have hf := iteF h61842 hf
            refine WPK.condF (Eq.trans (b := .bool (decide (x61832 < 0))) (by kernel_rfl) (bo_f h61842)) ?_
            refine WPK.skip ?_
            refine WPK.exit (blockQ.other rfl (?_))
            refine RoundEnd.stop (Code.exit 0) hrec60505 s (i := 0) rfl ?_
            clear s
            intro w61847 s k61848
            replace e61809 := e61809.st k61848
            replace e59093 := e59093.st k61848
            replace e59085 := e59085.st k61848
            replace kk := kk.trans k61848
            refine hR61812 _ _ ?_
            refine RW.seg hT 1 [] [] [.bool true] [] (by kernel_rfl) (trivial) ?_
            refine RW.nil ?_
            refine WPK.condT (by kernel_rfl) ?_
            refine WPK.ret (blockQ.ret (blockQ.ret (?_)))
            refine Fin.of (rs := []) hT [] (.tuple #[]) [] rfl (by kernel_rfl) (trivial) ?_
            refine hR60509 _ _ (RangeEnd.jump hrec60505 s (i := 0) rfl ?_)
            clear s
            intro w61849 s k61850
            replace e59093 := e59093.st k61850
            replace kk := kk.trans k61850
            refine WPK.exit (blockQ.same ?_)
            replace s := s.pick [1, 0] 4 rfl
            exact fun X h => kc (by kernel_rfl) rfl (h I61838 x61601 d60503 [.agg #[.bool p0.Leaf, .slice A59078 p0.Pairs.length c59079, .slice (some ⟨b61800, o61801, none⟩) p0.Keys.length c59083, .slice A59086 p0.Kids.length c59087], .slice A59090 p1.length c59091, .bool p2, .pointer (some ⟨b59095, 0, none⟩), .pointer (some ⟨b59098, 0, none⟩), .pointer (some ⟨b59101, 0, none⟩), undef, undef, .agg #[.bool p0.Leaf, .slice A59078 p0.Pairs.length c59079, .slice (some ⟨b61800, o61801, none⟩) p0.Keys.length c59083, .slice A59086 p0.Kids.length c59087], .func (.func 57) #[] #[.pointer (some ⟨b60500, 0, none⟩)], undef, undef, undef, undef, undef, undef, undef, undef, undef, undef, undef, undef, undef, undef] _ hf s kk)
        · have hf := iteF h61841 hf
          refine WPK.condF (Eq.trans (b := .bool (decide (x61832 < 0))) (by kernel_rfl) (bo_f h61841)) ?_
          refine WPK.region ?_
          refine RW.seg hT 2 [] [(20, .bool (decide (x61832 = 0)))] [.int .i64 x61832, .bool (decide (x61832 = 0))] [.veq (.bool (x61832 == 0)) (.bool (decide (x61832 = 0)))] (by kernel_rfl) (eq_v) ?_
          by_cases h61851 : x61832 = 0
          · have hf := iteT h61851 hf
            refine RW.seg hT 4 [.bool p2] [(21, .bool true)] [.bool true, .bool p2, .bool p2, .bool p2] [.veq (.bool (decide (x61832 = 0))) (.bool true), .cell ⟨b59101, 0, none⟩ (.bool p2)] (by kernel_rfl) (⟨bo_t h61851, s.cell (i := 3) (off := 0) rfl rfl⟩) ?_
            refine RW.nil ?_
            by_cases h61852 : p2 = true
            · have hf := iteT h61852 hf
              refine WPK.condT (Eq.trans (b := .bool p2) (by kernel_rfl) (b_t h61852)) ?_
              refine WPK.seq ?_
              refine WPK.region ?_
              refine RW.seg hT 2 [.int .i64 x61601] [] [.int .i64 x61601, .int .i64 (IntKind.i64.wrap (x61601 + 1))] [.cell ⟨b59104, 0, none⟩ (.int .i64 x61601)] (by kernel_rfl) (s.cell (i := 2) (off := 0) rfl rfl) ?_
              refine RW.op (by kernel_rfl) (OK.store hT (i := 2) (b := b59104) (off := 0) (n := 1) (vs := [.int .i64 (IntKind.i64.wrap (x61601 + 1))]) (cs := [.int .i64 x61601]) (e := 3) s (by kernel_rfl) rfl rfl (flat_ok rfl) (Nat.le_of_ble_eq_true rfl) ?_)
              clear s
              rintro w61853 s k61854 -
              replace e61809 := e61809.st k61854
              replace e59093 := e59093.st k61854
              replace e59085 := e59085.st k61854
              replace kk := kk.trans k61854
              refine RW.nil ?_
              refine WPK.exit (blockQ.other rfl (blockQ.same ?_))
              refine RoundEnd.next hrec60505 s (i := 0) rfl ?_
              clear s
              intro w61855 s k61856
              replace e61809 := e61809.st k61856
              replace e59093 := e59093.st k61856
              replace e59085 := e59085.st k61856
              replace kk := kk.trans k61856
              refine hR61812 _ _ ?_
              refine RW.seg hT 1 [] [] [.bool false] [] (by kernel_rfl) (trivial) ?_
              refine RW.nil ?_
              refine WPK.condF (by kernel_rfl) ?_
              refine WPK.skip ?_
              refine WPK.region ?_
              refine RW.seg hT 2 [] [] [.int .i64 (IntKind.i64.wrap (x61600 + 1)), .int .i64 (IntKind.i64.wrap (x61600 + 1))] [] (by kernel_rfl) (trivial) ?_
              refine RW.nil ?_
              subst hrec61732
              exact ⟨n61731, Nat.le_refl _, fun X h => kc (by kernel_rfl) rfl (h I61838 (IntKind.i64.wrap (x61600 + 1)) (IntKind.i64.wrap (x61601 + 1)) [(D61599.getD 0 undef), (D61599.getD 1 undef), (D61599.getD 2 undef), (D61599.getD 3 undef), (D61599.getD 4 undef), .slice A61805 x61797.length c61806, (D61599.getD 6 undef), (D61599.getD 7 undef), (D61599.getD 8 undef), (D61599.getD 9 undef), (D61599.getD 10 undef), (D61599.getD 11 undef), (D61599.getD 12 undef), (D61599.getD 13 undef), (D61599.getD 14 undef), (D61599.getD 15 undef), (D61599.getD 16 undef), (D61599.getD 17 undef), (D61599.getD 18 undef), (D61599.getD 19 undef), .bool (decide (x61600 < (p0.Keys.length : Int))), .pointer (some ⟨b61800, o61801 + x61600.toNat * 1, none⟩), .slice A61805 x61797.length c61806, .func (.yield l60502) #[] #[], .slice A61805 x61797.length c61806, .bool true, .bool false, .int .i64 (IntKind.i64.wrap (x61600 + 1))] _ hf s kk e59085 e59093)⟩
            · have hf := iteF h61852 hf
              refine WPK.condF (Eq.trans (b := .bool p2) (by kernel_rfl) (b_f h61852)) ?_
              refine WPK.skip ?_
              refine WPK.exit (blockQ.other rfl (?_))
              refine RoundEnd.stop (Code.exit 0) hrec60505 s (i := 0) rfl ?_
              clear s
              intro w61857 s k61858
              replace e61809 := e61809.st k61858
              replace e59093 := e59093.st k61858
              replace e59085 := e59085.st k61858
              replace kk := kk.trans k61858
              refine hR61812 _ _ ?_
              refine RW.seg hT 1 [] [] [.bool true] [] (by kernel_rfl) (trivial) ?_
              refine RW.nil ?_
              refine WPK.condT (by kernel_rfl) ?_
              refine WPK.ret (blockQ.ret (blockQ.ret (?_)))
              refine Fin.of (rs := []) hT [] (.tuple #[]) [] rfl (by kernel_rfl) (trivial) ?_
              refine hR60509 _ _ (RangeEnd.jump hrec60505 s (i := 0) rfl ?_)
              clear s
              intro w61859 s k61860
              replace e59093 := e59093.st k61860
              replace kk := kk.trans k61860
              refine WPK.exit (blockQ.same ?_)
              replace s := s.pick [1, 0] 4 rfl
              exact fun X h => kc (by kernel_rfl) rfl (h I61838 x61601 d60503 [.agg #[.bool p0.Leaf, .slice A59078 p0.Pairs.length c59079, .slice (some ⟨b61800, o61801, none⟩) p0.Keys.length c59083, .slice A59086 p0.Kids.length c59087], .slice A59090 p1.length c59091, .bool p2, .pointer (some ⟨b59095, 0, none⟩), .pointer (some ⟨b59098, 0, none⟩), .pointer (some ⟨b59101, 0, none⟩), undef, undef, .agg #[.bool p0.Leaf, .slice A59078 p0.Pairs.length c59079, .slice (some ⟨b61800, o61801, none⟩) p0.Keys.length c59083, .slice A59086 p0.Kids.length c59087], .func (.func 57) #[] #[.pointer (some ⟨b60500, 0, none⟩)], undef, undef, undef, undef, undef, undef, undef, undef, undef, undef, undef, undef, undef, undef] _ hf s kk)
          · have hf := iteF h61851 hf
            refine RW.seg hT 4 [] [(21, .bool false)] [.bool false, undef, .bool false, .bool false] [.veq (.bool (decide (x61832 = 0))) (.bool false)] (by kernel_rfl) (bo_f h61851) ?_
            refine RW.nil ?_
            refine WPK.condF (by kernel_rfl) ?_
            refine WPK.skip ?_
            refine WPK.exit (blockQ.other rfl (?_))
            refine RoundEnd.stop (Code.exit 0) hrec60505 s (i := 0) rfl ?_
            clear s
            intro w61861 s k61862
            replace e61809 := e61809.st k61862
            replace e59093 := e59093.st k61862
            replace e59085 := e59085.st k61862
            replace kk := kk.trans k61862
            refine hR61812 _ _ ?_
            refine RW.seg hT 1 [] [] [.bool true] [] (by kernel_rfl) (trivial) ?_
            refine RW.nil ?_
            refine WPK.condT (by kernel_rfl) ?_
            refine WPK.ret (blockQ.ret (blockQ.ret (?_)))
            refine Fin.of (rs := []) hT [] (.tuple #[]) [] rfl (by kernel_rfl) (trivial) ?_
            refine hR60509 _ _ (RangeEnd.jump hrec60505 s (i := 0) rfl ?_)
            clear s
            intro w61863 s k61864
            replace e59093 := e59093.st k61864
            replace kk := kk.trans k61864
            refine WPK.exit (blockQ.same ?_)
            replace s := s.pick [1, 0] 4 rfl
            exact fun X h => kc (by kernel_rfl) rfl (h I61838 x61601 d60503 [.agg #[.bool p0.Leaf, .slice A59078 p0.Pairs.length c59079, .slice (some ⟨b61800, o61801, none⟩) p0.Keys.length c59083, .slice A59086 p0.Kids.length c59087], .slice A59090 p1.length c59091, .bool p2, .pointer (some ⟨b59095, 0, none⟩), .pointer (some ⟨b59098, 0, none⟩), .pointer (some ⟨b59101, 0, none⟩), undef, undef, .agg #[.bool p0.Leaf, .slice A59078 p0.Pairs.length c59079, .slice (some ⟨b61800, o61801, none⟩) p0.Keys.length c59083, .slice A59086 p0.Kids.length c59087], .func (.func 57) #[] #[.pointer (some ⟨b60500, 0, none⟩)], undef, undef, undef, undef, undef, undef, undef, undef, undef, undef, undef, undef, undef, undef] _ hf s kk)
      · have hf := iteF h61734 hf
        refine WPK.condF (Eq.trans (b := .bool (decide (x61600 < (p0.Keys.length : Int)))) (by kernel_rfl) (bo_f h61734)) ?_
        refine WPK.exit (blockQ.same ?_)
        refine Fin.of (rs := []) hT [] (.tuple #[]) [] rfl (by kernel_rfl) (trivial) ?_
        refine hR60509 _ _ (RangeEnd.done hrec60505 s (i := 0) rfl ?_)
        clear s
        intro w61865 s k61866
        replace e59093 := e59093.st k61866
        replace kk := kk.trans k61866
        replace s := s.pick [1, 0] 4 rfl
        exact fun X h => kc (by kernel_rfl) rfl (h I61603 x61601 d60503 [.agg #[.bool p0.Leaf, .slice A59078 p0.Pairs.length c59079, .slice A59082 p0.Keys.length c59083, .slice A59086 p0.Kids.length c59087], .slice A59090 p1.length c59091, .bool p2, .pointer (some ⟨b59095, 0, none⟩), .pointer (some ⟨b59098, 0, none⟩), .pointer (some ⟨b59101, 0, none⟩), undef, undef, .agg #[.bool p0.Leaf, .slice A59078 p0.Pairs.length c59079, .slice A59082 p0.Keys.length c59083, .slice A59086 p0.Kids.length c59087], .func (.func 57) #[] #[.pointer (some ⟨b60500, 0, none⟩)], undef, undef, undef, undef, undef, undef, undef, undef, undef, undef, undef, undef, undef, undef] _ hf s kk)
theorem c12 {w0 w : World} {M I : Nat → Prop} {F : List It} (p0 : T_api_Node) (p1 : (List Int)) (A61878 : Option Addr) (c61879 : Nat) (A61882 : Option Addr) (c61883 : Nat) (A61886 : Option Addr) (c61887 : Nat) (A61890 : Option Addr) (c61891 : Nat) (hc61880 : (p0.Pairs.length ≤ c61879 ∧ c61879 ≤ 9223372036854775807)) (e61881 : Elems rp_T_api_Pair I w A61878 p0.Pairs) (hc61884 : (p0.Keys.length ≤ c61883 ∧ c61883 ≤ 9223372036854775807)) (e61885 : Elems (Rp.slice (Rp.int .u8)) I w A61882 p0.Keys) (hc61888 : (p0.Kids.length ≤ c61887 ∧ c61887 ≤ 9223372036854775807)) (e61889 : Elems (Rp.int .i64) I w A61886 p0.Kids) (hc61892 : (p1.length ≤ c61891 ∧ c61891 ≤ 9223372036854775807)) (e61893 : Elems (Rp.int .u8) I w A61890 p1) (s : St w0 M I (F) w) {r : Int} (hf : g12 p0 p1 = some r) :
    Ret Tryd.prog 12 [.agg #[.bool p0.Leaf, .slice A61878 p0.Pairs.length c61879, .slice A61882 p0.Keys.length c61883, .slice A61886 p0.Kids.length c61887], .slice A61890 p1.length c61891] w fun v wz => ∀ X : Value → World → Prop, (∀ (I' : Nat → Prop) (w' : World), St w0 M I' (F) w' → Kp I w I' w' → X (.int .i64 r) w') → X v wz := by
  have kk : Kp I w I w := Kp.refl
  unfold g12 at hf
  refine Ret.of Tryd.func12 rfl ?_
  refine WPK.seq ?_
  refine WPK.region ?_
  refine RW.op (by kernel_rfl) (OK.new hT (f := fun b => .pointer (some ⟨b, 0, none⟩)) (cs := [.bool p0.Leaf, .slice A61878 p0.Pairs.length c61879, .slice A61882 p0.Keys.length c61883, .slice A61886 p0.Kids.length c61887]) (e := 26) (c := .tt) s (by kernel_rfl) trivial ?_)
  clear s
  rintro w61894 b61895 s k61896 -
  replace e61881 := e61881.st k61896
  replace e61885 := e61885.st k61896
  replace e61889 := e61889.st k61896
  replace e61893 := e61893.st k61896
  replace kk := kk.trans k61896
  refine RW.seg hT 1 [] [] [.int .i64 0] [] (by kernel_rfl) (trivial) ?_
  refine RW.nil ?_
  refine WPK.seq ?_
  refine WPK.seq ?_
  refine WPK.region ?_
  refine RW.seg hT 1 [.agg #[.bool p0.Leaf, .slice A61878 p0.Pairs.length c61879, .slice A61882 p0.Keys.length c61883, .slice A61886 p0.Kids.length c61887]] [] [.agg #[.bool p0.Leaf, .slice A61878 p0.Pairs.length c61879, .slice A61882 p0.Keys.length c61883, .slice A61886 p0.Kids.length c61887]] [.cells ⟨b61895, 0, none⟩ [.bool p0.Leaf, .slice A61878 p0.Pairs.length c61879, .slice A61882 p0.Keys.length c61883, .slice A61886 p0.Kids.length c61887] 4] (by kernel_rfl) (s.cells (i := 0) rfl rfl rfl) ?_
  obtain ⟨x61922, hx61923, hf⟩ := bindS hf
  refine RW.op (by kernel_rfl) (OK.call' en29 (by kernel_rfl) (c29 (F := (.blk b61895 (.cells #[.bool p0.Leaf, .slice A61878 p0.Pairs.length c61879, .slice A61882 p0.Keys.length c61883, .slice A61886 p0.Kids.length c61887] 26 (0, 0))) :: F) p0 A61878 c61879 A61882 c61883 A61886 c61887 hc61880 e61881 hc61884 e61885 hc61888 e61889 s hx61923) ?_)
  intro X61926 hX61927
  refine fun _ _ hJ => hJ X61926 ?_
  clear s
  intro I61928 w61924 s k61925
  refine hX61927 _ _ ?_
  replace e61881 := e61881.st k61925
  replace e61885 := e61885.st k61925
  replace e61889 := e61889.st k61925
  replace e61893 := e61893.st k61925
  replace kk := kk.trans k61925
  refine RW.seg hT 1 [] [(7, .bool (decide (¬ (x61922 = true))))] [.bool (decide (¬ (x61922 = true)))] [.veq (.bool (!x61922)) (.bool (decide (¬ (x61922 = true))))] (by kernel_rfl) (not_b) ?_
  by_cases h61929 : ¬ (x61922 = true)
  · have hf := iteT h61929 hf
    refine RW.seg hT 4 [] [(8, .bool true)] [.bool true, undef, undef, .bool true] [.veq (.bool (decide (¬ (x61922 = true)))) (.bool true)] (by kernel_rfl) (bo_t h61929) ?_
    refine RW.nil ?_
    refine WPK.condT (by kernel_rfl) ?_
    refine WPK.seq ?_
    refine WPK.region ?_
    refine RW.seg hT 1 [] [] [.int .i64 0] [] (by kernel_rfl) (trivial) ?_
    refine RW.nil ?_
    refine WPK.ret (?_)
    obtain rfl := someS hf
    refine Fin.of (rs := [.tmp 4]) hT [] (.int .i64 0) [] rfl (by kernel_rfl) (trivial) ?_
    replace s := s.pick [] 1 rfl
    exact fun X h => vc rfl (h I61928 _ s kk)
  · have hf := iteF h61929 hf
    refine RW.seg hT 4 [.bool p0.Leaf] [(8, .bool false)] [.bool false, .pointer (some ⟨b61895, 0, none⟩), .bool p0.Leaf, .bool p0.Leaf] [.veq (.bool (decide (¬ (x61922 = true)))) (.bool false), .cell ⟨b61895, 0, none⟩ (.bool p0.Leaf)] (by kernel_rfl) (⟨bo_f h61929, s.cell (i := 0) (off := 0) rfl rfl⟩) ?_
    refine RW.nil ?_
    by_cases h61930 : p0.Leaf = true
    · have hf := iteT h61930 hf
      refine WPK.condT (Eq.trans (b := .bool p0.Leaf) (by kernel_rfl) (b_t h61930)) ?_
      refine WPK.seq ?_
      refine WPK.region ?_
      refine RW.seg hT 1 [] [] [.int .i64 0] [] (by kernel_rfl) (trivial) ?_
      refine RW.nil ?_
      refine WPK.ret (?_)
      obtain rfl := someS hf
      refine Fin.of (rs := [.tmp 4]) hT [] (.int .i64 0) [] rfl (by kernel_rfl) (trivial) ?_
      replace s := s.pick [] 1 rfl
      exact fun X h => vc rfl (h I61928 _ s kk)
    · have hf := iteF h61930 hf
      refine WPK.condF (Eq.trans (b := .bool p0.Leaf) (by kernel_rfl) (b_f h61930)) ?_
      refine WPK.skip ?_
      refine WPK.seq ?_
      refine WPK.region ?_
      refine RW.seg hT 2 [.agg #[.bool p0.Leaf, .slice A61878 p0.Pairs.length c61879, .slice A61882 p0.Keys.length c61883, .slice A61886 p0.Kids.length c61887]] [] [.agg #[.bool p0.Leaf, .slice A61878 p0.Pairs.length c61879, .slice A61882 p0.Keys.length c61883, .slice A61886 p0.Kids.length c61887], .slice A61890 p1.length c61891] [.cells ⟨b61895, 0, none⟩ [.bool p0.Leaf, .slice A61878 p0.Pairs.length c61879, .slice A61882 p0.Keys.length c61883, .slice A61886 p0.Kids.length c61887] 4] (by kernel_rfl) (s.cells (i := 0) rfl rfl rfl) ?_
      obtain ⟨x61931, hx61932, hf⟩ := bindS hf
      refine RW.op (by kernel_rfl) (OK.call' en31 (by kernel_rfl) (c31 (F := (.blk b61895 (.cells #[.bool p0.Leaf, .slice A61878 p0.Pairs.length c61879, .slice A61882 p0.Keys.length c61883, .slice A61886 p0.Kids.length c61887] 26 (0, 0))) :: F) p0 p1 true A61878 c61879 A61882 c61883 A61886 c61887 A61890 c61891 hc61880 e61881 hc61884 e61885 hc61888 e61889 hc61892 e61893 s hx61932) ?_)
      intro X61935 hX61936
      refine fun _ _ hJ => hJ X61935 ?_
      clear s
      intro I61937 w61933 s k61934
      refine hX61936 _ _ ?_
      replace e61881 := e61881.st k61934
      replace e61885 := e61885.st k61934
      replace e61889 := e61889.st k61934
      replace e61893 := e61893.st k61934
      replace kk := kk.trans k61934
      refine RW.seg hT 1 [] [] [.int .i64 x61931] [] (by kernel_rfl) (trivial) ?_
      refine RW.nil ?_
      refine WPK.ret (?_)
      obtain rfl := someS hf
      refine Fin.of (rs := [.tmp 4]) hT [] (.int .i64 x61931) [] rfl (by kernel_rfl) (trivial) ?_
      replace s := s.pick [] 1 rfl
      exact fun X h => vc rfl (h I61937 _ s kk)
end Go.Proofs.YtefjbhogpgihaaaDoor
