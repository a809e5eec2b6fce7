/- PRINTED BY sy.py: each call computes what the plain function of its number tells. -/
import Derived.Test.YtgcielbnmlfjbaaDoorW1
namespace Go.Proofs.YtgcielbnmlfjbaaDoor
open Go Go.SX Go.RowKit
set_option maxRecDepth 100000
set_option linter.unusedVariables false
attribute [local irreducible] WPK RW RD Ret SX.Fin SX.Any opK RoundBeg RoundEnd RangeEnd Rounds
theorem c30 {w0 w : World} {M I : Nat → Prop} {F : List It} (p0 : (List Int)) (p1 : (List Int)) (A7244 : Option Addr) (c7245 : Nat) (A7248 : Option Addr) (c7249 : Nat) (hc7246 : (p0.length ≤ c7245 ∧ c7245 ≤ 9223372036854775807)) (e7247 : Elems (Rp.int .i64) I w A7244 p0) (hc7250 : (p1.length ≤ c7249 ∧ c7249 ≤ 9223372036854775807)) (e7251 : Elems (Rp.int .i64) I w A7248 p1) (s : St w0 M I (F) w) {r : Bool} (hf : g30 p0 p1 = some r) :
    Ret Tryd.prog 30 [.slice A7244 p0.length c7245, .slice A7248 p1.length c7249] w fun v wz => ∀ X : Value → World → Prop, (∀ (I' : Nat → Prop) (w' : World), St w0 M I' (F) w' → Kp I w I' w' → X (.bool r) w') → X v wz := by
  have kk : Kp I w I w := Kp.refl
  unfold g30 at hf
  refine Ret.of Tryd.func30 rfl ?_
  refine WPK.seq ?_
  refine WPK.region ?_
  refine RW.seg hT 1 [] [] [.bool false] [] (by kernel_rfl) (trivial) ?_
  refine RW.nil ?_
  refine WPK.seq ?_
  refine WPK.seq ?_
  refine WPK.region ?_
  refine RW.seg hT 5 [] [(10, .bool (decide ((p0.length : Int) ≠ (p1.length : Int))))] [.slice A7244 p0.length c7245, .int .i64 (p0.length : Int), .slice A7248 p1.length c7249, .int .i64 (p1.length : Int), .bool (decide ((p0.length : Int) ≠ (p1.length : Int)))] [.veq (.bool ((p0.length : Int) != (p1.length : Int))) (.bool (decide ((p0.length : Int) ≠ (p1.length : Int))))] (by kernel_rfl) (ne_v) ?_
  refine RW.nil ?_
  by_cases h7253 : (p0.length : Int) ≠ (p1.length : Int)
  · have hf := iteT h7253 hf
    refine WPK.condT (Eq.trans (b := .bool (decide ((p0.length : Int) ≠ (p1.length : Int)))) (by kernel_rfl) (bo_t h7253)) ?_
    refine WPK.seq ?_
    refine WPK.region ?_
    refine RW.seg hT 1 [] [] [.bool false] [] (by kernel_rfl) (trivial) ?_
    refine RW.nil ?_
    refine WPK.ret (?_)
    obtain rfl := someS hf
    refine Fin.of (rs := [.tmp 4]) hT [] (.bool false) [] rfl (by kernel_rfl) (trivial) ?_
    exact fun X h => vc rfl (h I _ s kk)
  · have hf := iteF h7253 hf
    refine WPK.condF (Eq.trans (b := .bool (decide ((p0.length : Int) ≠ (p1.length : Int)))) (by kernel_rfl) (bo_f h7253)) ?_
    refine WPK.skip ?_
    refine WPK.seq ?_
    refine WPK.seq ?_
    refine WPK.region ?_
    refine RW.seg hT 1 [] [] [.int .i64 0] [] (by kernel_rfl) (trivial) ?_
    refine RW.nil ?_
    refine WPK.block ?_
    refine WPK.loop' (J := fun n7520 E ds wz => ∀ X : Kont, (∀ (I7468 : Nat → Prop) (x7466 : Int) (D7465 : List Value) (w' : World), g30_l1 p0 p1 n7520 x7466 = some r → St w0 M I7468 (F) w' → Kp I w I7468 w' → Elems (Rp.int .i64) I7468 w' A7244 p0 → Elems (Rp.int .i64) I7468 w' A7248 p1 → X [.slice A7244 p0.length c7245, .slice A7248 p1.length c7249, (D7465.getD 0 undef), (D7465.getD 1 undef), .bool false, .int .i64 x7466, (D7465.getD 2 undef), (D7465.getD 3 undef), (D7465.getD 4 undef), (D7465.getD 5 undef), (D7465.getD 6 undef), (D7465.getD 7 undef), (D7465.getD 8 undef), (D7465.getD 9 undef), (D7465.getD 10 undef), (D7465.getD 11 undef), (D7465.getD 12 undef), (D7465.getD 13 undef), (D7465.getD 14 undef), (D7465.getD 15 undef), (D7465.getD 16 undef), (D7465.getD 17 undef), (D7465.getD 18 undef), (D7465.getD 19 undef), (D7465.getD 20 undef), (D7465.getD 21 undef)] [] w') → X E ds wz) FUEL (fun X h => kc (by kernel_rfl) rfl (h I 0 [undef, undef, .slice A7244 p0.length c7245, .int .i64 (p0.length : Int), .slice A7248 p1.length c7249, .int .i64 (p1.length : Int), .bool (decide ((p0.length : Int) ≠ (p1.length : Int))), undef, undef, undef, undef, undef, undef, undef, undef, undef, undef, undef, undef, undef, undef, undef] _ hf s kk e7247 e7251)) (fun _ _ _ hJ => hJ (fun _ _ _ => False) (by intro I7468 x7466 D7465 w7467 hf s kk e7247 e7251; exact noneS hf)) ?_
    intro X7572 hX7573
    refine fun n7520 _ _ _ hJ => hJ (X7572 n7520) ?_
    intro I7468 x7466 D7465 w7467 hf s kk e7247 e7251
    refine hX7573 _ _ _ _ ?_
    replace hf : g30_l1B p0 p1 (g30_l1 p0 p1 n7520) x7466 = some r := hf
    generalize hrec7521 : g30_l1 p0 p1 n7520 = rec7519 at hf
    unfold g30_l1B at hf
    refine WPK.seq ?_
    refine WPK.seq ?_
    refine WPK.region ?_
    refine RW.seg hT 4 [] [] [.int .i64 x7466, .slice A7244 p0.length c7245, .int .i64 (p0.length : Int), .bool (decide (x7466 < (p0.length : Int)))] [] (by kernel_rfl) (trivial) ?_
    refine RW.nil ?_
    by_cases h7523 : x7466 < (p0.length : Int)
    · have hf := iteT h7523 hf
      refine WPK.condT (Eq.trans (b := .bool (decide (x7466 < (p0.length : Int)))) (by kernel_rfl) (bo_t h7523)) ?_
      refine WPK.skip ?_
      refine WPK.seq ?_
      refine WPK.block ?_
      refine WPK.seq ?_
      have e7247S7548 := e7247
      have e7251S7548 := e7251
      have kS7552 : Kp I7468 w7467 I7468 w7467 := Kp.refl
      refine WPK.draw (fun w' => ∃ I' : Nat → Prop, St w0 M I' (F) w' ∧ Kp I7468 w7467 I' w') 9 (by kernel_rfl) ?_
      intro w7549 hd7550
      have k7551 := Kp.dr s hd7550
      replace s := s.dr hd7550
      replace e7247 := e7247.st k7551
      replace e7251 := e7251.st k7551
      replace kk := kk.trans k7551
      replace kS7552 := kS7552.trans k7551
      obtain ⟨x7553, hx7554, hf⟩ := bindS hf
      obtain ⟨h7555, hx7554⟩ := getS hx7554
      obtain ⟨b7556, o7557, rfl⟩ := Elems.opn e7247 hx7554
      obtain ⟨cs7558, hr7559, ha7560, hb7561⟩ := Elems.getI e7247S7548 hx7554
      obtain rfl : cs7558 = [.int .i64 x7553] := hr7559
      obtain ⟨x7562, hx7563, hf⟩ := bindS hf
      obtain ⟨h7564, hx7563⟩ := getS hx7563
      obtain ⟨b7565, o7566, rfl⟩ := Elems.opn e7251 hx7563
      obtain ⟨cs7567, hr7568, ha7569, hb7570⟩ := Elems.getI e7251S7548 hx7563
      obtain rfl : cs7567 = [.int .i64 x7562] := hr7568
      refine RD.seg hT (by kernel_rfl) [0, 1, 2, 3, 4, 5, 6, 7, 8] [.int .i64 x7553, .int .i64 x7562] [(25, .bool (decide (x7553 ≠ x7562)))] [.slice (some ⟨b7556, o7557, none⟩) p0.length c7245, .int .i64 x7466, .pointer (some ⟨b7556, o7557 + x7466.toNat * 1, none⟩), .int .i64 x7553, .slice (some ⟨b7565, o7566, none⟩) p1.length c7249, .int .i64 x7466, .pointer (some ⟨b7565, o7566 + x7466.toNat * 1, none⟩), .int .i64 x7562, .bool (decide (x7553 ≠ x7562))] [.idx x7466 p0.length, .cell ⟨b7556, o7557 + x7466.toNat * 1, none⟩ (.int .i64 x7553), .idx x7466 p1.length, .cell ⟨b7565, o7566 + x7466.toNat * 1, none⟩ (.int .i64 x7562), .veq (.bool (x7553 != x7562)) (.bool (decide (x7553 ≠ x7562)))] (by kernel_rfl) (by rintro w' ⟨I', s, k⟩; have e7247 := e7247S7548.st k; have e7251 := e7251S7548.st k; have ha7560 := ha7560.st k hb7561; have ha7569 := ha7569.st k hb7570; exact ⟨h7555, ha7560 0 _ rfl, h7564, ha7569 0 _ rfl, ne_v⟩) ⟨_, s.pick [] 0 rfl, kS7552⟩ ?_
      refine RD.done (by kernel_rfl) ?_
      by_cases h7571 : x7553 ≠ x7562
      · have hf := iteT h7571 hf
        refine WPK.condT (Eq.trans (b := .bool (decide (x7553 ≠ x7562))) (by kernel_rfl) (bo_t h7571)) ?_
        refine WPK.seq ?_
        refine WPK.region ?_
        refine RW.seg hT 1 [] [] [.bool false] [] (by kernel_rfl) (trivial) ?_
        refine RW.nil ?_
        refine WPK.ret (blockQ.ret (blockQ.ret (?_)))
        obtain rfl := someS hf
        refine Fin.of (rs := [.tmp 4]) hT [] (.bool false) [] rfl (by kernel_rfl) (trivial) ?_
        exact fun X h => vc rfl (h I7468 _ s kk)
      · have hf := iteF h7571 hf
        refine WPK.condF (Eq.trans (b := .bool (decide (x7553 ≠ x7562))) (by kernel_rfl) (bo_f h7571)) ?_
        refine WPK.skip ?_
        refine WPK.region ?_
        refine RW.seg hT 3 [] [] [.int .i64 x7466, .int .i64 (IntKind.i64.wrap (x7466 + 1)), .int .i64 (IntKind.i64.wrap (x7466 + 1))] [] (by kernel_rfl) (trivial) ?_
        refine RW.nil ?_
        subst hrec7521
        exact ⟨n7520, Nat.le_refl _, fun X h => kc (by kernel_rfl) rfl (h I7468 (IntKind.i64.wrap (x7466 + 1)) [(D7465.getD 0 undef), (D7465.getD 1 undef), (D7465.getD 2 undef), (D7465.getD 3 undef), (D7465.getD 4 undef), (D7465.getD 5 undef), (D7465.getD 6 undef), .int .i64 x7466, .slice (some ⟨b7556, o7557, none⟩) p0.length c7245, .int .i64 (p0.length : Int), .bool (decide (x7466 < (p0.length : Int))), .int .i64 x7466, .int .i64 (IntKind.i64.wrap (x7466 + 1)), .slice (some ⟨b7556, o7557, none⟩) p0.length c7245, .int .i64 x7466, .pointer (some ⟨b7556, o7557 + x7466.toNat * 1, none⟩), .int .i64 x7553, .slice (some ⟨b7565, o7566, none⟩) p1.length c7249, .int .i64 x7466, .pointer (some ⟨b7565, o7566 + x7466.toNat * 1, none⟩), .int .i64 x7562, .bool (decide (x7553 ≠ x7562))] _ hf s kk e7247 e7251)⟩
    · have hf := iteF h7523 hf
      refine WPK.condF (Eq.trans (b := .bool (decide (x7466 < (p0.length : Int)))) (by kernel_rfl) (bo_f h7523)) ?_
      refine WPK.exit (blockQ.same ?_)
      refine WPK.seq ?_
      refine WPK.region ?_
      refine RW.seg hT 1 [] [] [.bool true] [] (by kernel_rfl) (trivial) ?_
      refine RW.nil ?_
      refine WPK.ret (?_)
      obtain rfl := someS hf
      refine Fin.of (rs := [.tmp 4]) hT [] (.bool true) [] rfl (by kernel_rfl) (trivial) ?_
      exact fun X h => vc rfl (h I7468 _ s kk)
theorem c8 {w0 w : World} {M I : Nat → Prop} {F : List It}  (eg0 : Elems (Rp.int .u8) I w (some ⟨0, 0, none⟩) TAB0) (s : St w0 M I (F) w) {r : Bool} (hf : g8 = some r) :
    Ret Tryd.prog 8 [] w fun v wz => ∀ X : Value → World → Prop, (∀ (I' : Nat → Prop) (w' : World), St w0 M I' (F) w' → Kp I w I' w' → X (.bool r) w') → X v wz := by
  have kk : Kp I w I w := Kp.refl
  unfold g8 at hf
  refine Ret.of Tryd.func8 rfl ?_
  refine WPK.seq ?_
  refine WPK.region ?_
  refine RW.seg hT 1 [] [] [.bool false] [] (by kernel_rfl) (trivial) ?_
  refine RW.nil ?_
  refine WPK.seq ?_
  refine WPK.region ?_
  refine RW.op (by kernel_rfl) (OK.new hT (f := fun b => .slice (some ⟨b, 0, none⟩) 3 3) (cs := [.int .i64 5, .int .i64 1, .int .i64 2]) (e := 3) (c := .tt) s (by kernel_rfl) trivial ?_)
  rintro w8474 b8475 s k8476 -
  replace eg0 := eg0.st k8476
  replace kk := kk.trans k8476
  have rp8477 : RepL (Rp.int .i64) I w8474 [.int .i64 5, .int .i64 1, .int .i64 2] ([5, 1, 2] : List Int) := RepL.cons (c := [.int .i64 5]) (d := [.int .i64 1, .int .i64 2]) (rfl) (RepL.cons (c := [.int .i64 1]) (d := [.int .i64 2]) (rfl) (RepL.cons (c := [.int .i64 2]) (d := []) (rfl) (RepL.nil)))
  replace s : St w0 M I ((.sl (.slice (some ⟨b8475, 0, none⟩) 3 3) 3 1 3 [.int .i64 5, .int .i64 1, .int .i64 2]) :: F) w8474 := s.blkSl (i := 0) (n := 3) (c := 3) (size := 1) rfl rfl (Nat.le_refl _) (by decide)
  have sa8479 := s
  obtain ⟨hc8480, e8481⟩ := St.lend s (i := 0) rfl rfl rp8477
  have k8482 := Kp.shut (I := I) (w := w8474) (p := .sl (.slice (some ⟨b8475, 0, none⟩) 3 3) 3 1 3 [.int .i64 5, .int .i64 1, .int .i64 2])
  replace s := s.shut 0 rfl
  obtain ⟨x8483, hx8484, hf⟩ := bindS hf
  refine RW.op (by kernel_rfl) (OK.call' en10 (by kernel_rfl) (c10 (F := F) 8 ([5, 1, 2] : List Int) (some ⟨b8475, 0, none⟩) 3 hc8480 e8481 s hx8484) ?_)
  intro X8487 hX8488
  refine fun _ _ hJ => hJ X8487 ?_ ?_
  · intro I8489 w8485 hv s k8486
    refine hX8488 _ _ ?_
    replace hf := optN hv hf
    have s' := St.back sa8479 (i := 0) rfl s k8486
    replace k8486 := Kp.back sa8479 (i := 0) rfl k8486
    replace s := s'; clear s'
    obtain ⟨I8491, s, k8486⟩ : ∃ I : Nat → Prop, St w0 M I ((.sl (.slice (some ⟨b8475, 0, none⟩) 3 3) 3 1 3 [.int .i64 5, .int .i64 1, .int .i64 2]) :: F) w8485 ∧ Kp _ _ I _ := ⟨_, s, k8486⟩
    replace eg0 := eg0.st k8486
    replace rp8477 := rp8477.st k8486
    replace kk := kk.trans k8486
    refine RW.seg hT 1 [] [] [.pointer none] [] (by kernel_rfl) (trivial) ?_
    refine RW.nil ?_
    refine WPK.seq ?_
    refine WPK.seq ?_
    refine WPK.region ?_
    refine RW.seg hT 2 [] [] [.pointer none, .bool true] [] (by kernel_rfl) (trivial) ?_
    refine RW.nil ?_
    refine WPK.condT (by kernel_rfl) ?_
    refine WPK.seq ?_
    refine WPK.region ?_
    refine RW.seg hT 1 [] [] [.bool false] [] (by kernel_rfl) (trivial) ?_
    refine RW.nil ?_
    refine WPK.ret (?_)
    obtain rfl := someS hf
    refine Fin.of (rs := [.tmp 0]) hT [] (.bool false) [] rfl (by kernel_rfl) (trivial) ?_
    replace s := s.pick [] 1 rfl
    exact fun X h => vc rfl (h I8491 _ s kk)
  · intro x8493 I8492 b8494 A8495 n8496 c8497 cl8498 w8485 hv s k8486 hn8499 rp8500
    refine hX8488 _ _ ?_
    replace hf := optS hv hf
    have s' := St.back sa8479 (i := 0) rfl s k8486
    replace k8486 := Kp.back sa8479 (i := 0) rfl k8486
    replace s := s'; clear s'
    obtain ⟨I8503, s, k8486⟩ : ∃ I : Nat → Prop, St w0 M I ((.sl (.slice (some ⟨b8475, 0, none⟩) 3 3) 3 1 3 [.int .i64 5, .int .i64 1, .int .i64 2]) :: (.blk b8494 (.cells #[.int .i64 x8493.n, .slice A8495 n8496 c8497] 53 (0, 0))) :: (.sl (.slice A8495 n8496 c8497) 61 1 n8496 cl8498) :: F) w8485 ∧ Kp _ _ I _ := ⟨_, s, k8486⟩
    replace rp8500 := RepL.free (I' := I8503) (w' := w8485) free_int rp8500
    replace eg0 := eg0.st k8486
    replace rp8477 := rp8477.st k8486
    replace kk := kk.trans k8486
    refine RW.seg hT 1 [] [] [.pointer (some ⟨b8494, 0, none⟩)] [] (by kernel_rfl) (trivial) ?_
    refine RW.nil ?_
    refine WPK.seq ?_
    refine WPK.seq ?_
    refine WPK.region ?_
    refine RW.seg hT 2 [] [] [.pointer (some ⟨b8494, 0, none⟩), .bool false] [] (by kernel_rfl) (trivial) ?_
    refine RW.nil ?_
    refine WPK.condF (by kernel_rfl) ?_
    refine WPK.skip ?_
    refine WPK.seq ?_
    refine WPK.region ?_
    refine RW.seg hT 1 [] [] [.pointer (some ⟨b8494, 0, none⟩)] [] (by kernel_rfl) (trivial) ?_
    refine RW.op (by kernel_rfl) (OK.inl (args := [.pointer (some ⟨b8494, 0, none⟩)]) en12 (by kernel_rfl) ?_)
    intro R8504 hR8505
    refine Ret.of Tryd.func12 rfl ?_
    refine WPK.seq ?_
    refine WPK.region ?_
    refine RW.op (by kernel_rfl) (OK.new hT (f := fun b => .pointer (some ⟨b, 0, none⟩)) (cs := [.pointer (some ⟨b8494, 0, none⟩)]) (e := 25) (c := .tt) s (by kernel_rfl) trivial ?_)
    rintro w8509 b8510 s k8511 -
    replace rp8477 := rp8477.st k8511
    replace rp8500 := rp8500.st k8511
    replace eg0 := eg0.st k8511
    replace kk := kk.trans k8511
    refine RW.seg hT 1 [] [] [.nilFunc] [] (by kernel_rfl) (trivial) ?_
    refine RW.nil ?_
    refine WPK.seq ?_
    refine WPK.region ?_
    refine RW.seg hT 2 [] [] [.func (.func 31) #[] #[.pointer (some ⟨b8510, 0, none⟩)], .func (.func 31) #[] #[.pointer (some ⟨b8510, 0, none⟩)]] [] (by kernel_rfl) (trivial) ?_
    refine RW.nil ?_
    refine WPK.ret (?_)
    refine Fin.of (rs := [.tmp 2]) hT [] (.func (.func 31) #[] #[.pointer (some ⟨b8510, 0, none⟩)]) [] rfl (by kernel_rfl) (trivial) ?_
    refine hR8505 _ _ ?_
    refine RW.op (by kernel_rfl) (OK.inl (args := [.func (.func 31) #[] #[.pointer (some ⟨b8510, 0, none⟩)], .int .i64 9]) en11 (by kernel_rfl) ?_)
    intro R8512 hR8513
    refine Ret.of Tryd.func11 rfl ?_
    refine WPK.seq ?_
    refine WPK.region ?_
    refine RW.op (by kernel_rfl) (OK.new hT (f := fun b => .pointer (some ⟨b, 0, none⟩)) (cs := [.int .i64 9]) (e := 3) (c := .tt) s (by kernel_rfl) trivial ?_)
    rintro w10110 b10111 s k10112 -
    replace rp8477 := rp8477.st k10112
    replace rp8500 := rp8500.st k10112
    replace eg0 := eg0.st k10112
    replace kk := kk.trans k10112
    refine RW.seg hT 2 [] [] [.slice none 0 0, .slice none 0 0] [] (by kernel_rfl) (trivial) ?_
    refine RW.nil ?_
    refine WPK.seq ?_
    refine WPK.region ?_
    refine RW.op (by kernel_rfl) (OK.new hT (f := fun b => .pointer (some ⟨b, 0, none⟩)) (cs := [.slice none 0 0]) (e := 22) (c := .tt) s (by kernel_rfl) trivial ?_)
    rintro w10113 b10114 s k10115 -
    replace rp8477 := rp8477.st k10115
    replace rp8500 := rp8500.st k10115
    replace eg0 := eg0.st k10115
    replace kk := kk.trans k10115
    refine RW.op (by kernel_rfl) (OK.new hT (f := fun b => .pointer (some ⟨b, 0, none⟩)) (cs := [.slice none 0 0]) (e := 22) (c := .tt) s (by kernel_rfl) trivial ?_)
    rintro w10116 b10117 s k10118 -
    replace rp8477 := rp8477.st k10118
    replace rp8500 := rp8500.st k10118
    replace eg0 := eg0.st k10118
    replace kk := kk.trans k10118
    refine RW.nil ?_
    refine WPK.seq ?_
    refine WPK.seq ?_
    refine WPK.region ?_
    refine RW.seg hT 2 [] [] [.func (.func 31) #[] #[.pointer (some ⟨b8510, 0, none⟩)], .bool false] [] (by kernel_rfl) (trivial) ?_
    refine RW.nil ?_
    refine WPK.condF (by kernel_rfl) ?_
    refine WPK.skip ?_
    refine WPK.seq ?_
    refine WPK.cut' (fun E ds wz => ∀ X : Kont, (∀ (I10917 : Nat → Prop) (x10900 : (List Int)) (x10908 : (List Int)) (d10898 : Nat) (D10899 : List Value) (A10901 : Option Addr) (c10903 : Nat) (cl10904 : List Value) (A10909 : Option Addr) (c10911 : Nat) (cl10912 : List Value) (w' : World), g8_j1 x8493 x10900 x10908 = some r → St w0 M I10917 ((.blk b8494 (.cells #[.int .i64 x8493.n, .slice A8495 n8496 c8497] 53 (0, 0))) :: (.sl (.slice A8495 n8496 c8497) 61 1 n8496 cl8498) :: (.blk b10117 (.cells #[.slice A10901 x10900.length c10903] 22 (0, 0))) :: (.blk b10114 (.cells #[.slice A10909 x10908.length c10911] 22 (0, 0))) :: (.sl (.slice A10901 x10900.length c10903) 3 1 x10900.length cl10904) :: (.sl (.slice A10909 x10908.length c10911) 3 1 x10908.length cl10912) :: (.blk d10898 (.deferred (some []))) :: F) w' → Kp I w I10917 w' → RepL (Rp.int .i64) I10917 w' cl10904 x10900 → RepL (Rp.int .i64) I10917 w' cl10912 x10908 → RepL (Rp.int .u64) I10917 w' cl8498 x8493.w → Elems (Rp.int .u8) I10917 w' (some ⟨0, 0, none⟩) TAB0 → X [(D10899.getD 0 undef), (D10899.getD 1 undef), (D10899.getD 2 undef), (D10899.getD 3 undef), .slice none 0 0, .slice none 0 0, .pointer (some ⟨b10114, 0, none⟩), .pointer (some ⟨b10117, 0, none⟩), (D10899.getD 4 undef), (D10899.getD 5 undef), (D10899.getD 6 undef), (D10899.getD 7 undef), (D10899.getD 8 undef), (D10899.getD 9 undef), (D10899.getD 10 undef), (D10899.getD 11 undef), (D10899.getD 12 undef), (D10899.getD 13 undef), (D10899.getD 14 undef), (D10899.getD 15 undef), (D10899.getD 16 undef), (D10899.getD 17 undef), (D10899.getD 18 undef), (D10899.getD 19 undef), (D10899.getD 20 undef), (D10899.getD 21 undef), (D10899.getD 22 undef), undef, undef] [mk d10898] w') → X E ds wz) ?_ ?_
    · intro X11073 hX11074
      refine fun _ _ _ hJ => hJ X11073 ?_
      intro I10917 x10900 x10908 d10898 D10899 A10901 c10903 cl10904 A10909 c10911 cl10912 w10916 hf s kk rp10906 rp10914 rp8500 eg0
      refine hX11074 _ _ _ ?_
      unfold g8_j1 at hf
      refine WPK.seq ?_
      have rp8500S10918 := rp8500
      have rp10906S10918 := rp10906
      have rp10914S10918 := rp10914
      have eg0S10918 := eg0
      have kS10922 : Kp I10917 w10916 I10917 w10916 := Kp.refl
      refine WPK.draw (fun w' => ∃ I' : Nat → Prop, St w0 M I' ((.blk b8494 (.cells #[.int .i64 x8493.n, .slice A8495 n8496 c8497] 53 (0, 0))) :: (.sl (.slice A8495 n8496 c8497) 61 1 n8496 cl8498) :: (.blk b10117 (.cells #[.slice A10901 x10900.length c10903] 22 (0, 0))) :: (.blk b10114 (.cells #[.slice A10909 x10908.length c10911] 22 (0, 0))) :: (.sl (.slice A10901 x10900.length c10903) 3 1 x10900.length cl10904) :: (.sl (.slice A10909 x10908.length c10911) 3 1 x10908.length cl10912) :: (.blk d10898 (.deferred (some []))) :: F) w' ∧ Kp I10917 w10916 I' w') 4 (by kernel_rfl) ?_
      intro w10919 hd10920
      have k10921 := Kp.dr s hd10920
      replace s := s.dr hd10920
      replace rp8500 := rp8500.st k10921
      replace rp10906 := rp10906.st k10921
      replace rp10914 := rp10914.st k10921
      replace eg0 := eg0.st k10921
      replace kk := kk.trans k10921
      replace kS10922 := kS10922.trans k10921
      refine RD.seg hT (by kernel_rfl) [0, 1, 2, 3] [.slice A10909 x10908.length c10911, .slice A10901 x10900.length c10903] [] [.slice A10909 x10908.length c10911, .slice A10901 x10900.length c10903, .slice A10909 x10908.length c10911, .slice A10901 x10900.length c10903] [.cell ⟨b10114, 0, none⟩ (.slice A10909 x10908.length c10911), .cell ⟨b10117, 0, none⟩ (.slice A10901 x10900.length c10903)] (by kernel_rfl) (by rintro w' ⟨I', s, k⟩; have rp8500 := rp8500S10918.st k; have rp10906 := rp10906S10918.st k; have rp10914 := rp10914S10918.st k; have eg0 := eg0S10918.st k; exact ⟨s.cell (i := 3) (off := 0) rfl rfl, s.cell (i := 2) (off := 0) rfl rfl⟩) ⟨_, s.pick [0, 1, 2, 3, 4, 5, 6] 7 rfl, kS10922⟩ ?_
      refine RD.done (by kernel_rfl) ?_
      refine WPK.ret (?_)
      refine Fin.mark (i := 6) s rfl ?_
      intro w10923 s k10924
      replace rp8500 := rp8500.st k10924
      replace rp10906 := rp10906.st k10924
      replace rp10914 := rp10914.st k10924
      replace eg0 := eg0.st k10924
      replace kk := kk.trans k10924
      refine Fin.of (rs := [.tmp 4, .tmp 5]) hT [] (.tuple #[.slice A10909 x10908.length c10911, .slice A10901 x10900.length c10903]) [] rfl (by kernel_rfl) (trivial) ?_
      refine hR8513 _ _ ?_
      refine RW.seg hT 5 [] [] [.tuple #[.slice A10909 x10908.length c10911, .slice A10901 x10900.length c10903], .slice A10909 x10908.length c10911, .slice A10901 x10900.length c10903, .slice A10909 x10908.length c10911, .slice A10901 x10900.length c10903] [] (by kernel_rfl) (trivial) ?_
      refine RW.nil ?_
      refine WPK.seq ?_
      refine WPK.cut' (fun E ds wz => ∀ X : Kont, (∀ (I10999 : Nat → Prop) (x10997 : Bool) (D10996 : List Value) (w' : World), g8_j2 x10997 = some r → St w0 M I10999 (F) w' → Kp I w I10999 w' → Elems (Rp.int .u8) I10999 w' (some ⟨0, 0, none⟩) TAB0 → X [.bool x10997, (D10996.getD 0 undef), (D10996.getD 1 undef), (D10996.getD 2 undef), (D10996.getD 3 undef), (D10996.getD 4 undef), (D10996.getD 5 undef), (D10996.getD 6 undef), (D10996.getD 7 undef), (D10996.getD 8 undef), (D10996.getD 9 undef), (D10996.getD 10 undef), (D10996.getD 11 undef), (D10996.getD 12 undef), (D10996.getD 13 undef), (D10996.getD 14 undef), (D10996.getD 15 undef), (D10996.getD 16 undef), (D10996.getD 17 undef), (D10996.getD 18 undef), (D10996.getD 19 undef), (D10996.getD 20 undef), (D10996.getD 21 undef), (D10996.getD 22 undef), (D10996.getD 23 undef), (D10996.getD 24 undef), (D10996.getD 25 undef), (D10996.getD 26 undef), (D10996.getD 27 undef), (D10996.getD 28 undef), (D10996.getD 29 undef), (D10996.getD 30 undef), (D10996.getD 31 undef), (D10996.getD 32 undef), (D10996.getD 33 undef), (D10996.getD 34 undef), (D10996.getD 35 undef)] [] w') → X E ds wz) ?_ ?_
      · intro X11000 hX11001
        refine fun _ _ _ hJ => hJ X11000 ?_
        intro I10999 x10997 D10996 w10998 hf s kk eg0
        refine hX11001 _ _ _ ?_
        unfold g8_j2 at hf
        refine WPK.ret (?_)
        obtain rfl := someS hf
        refine Fin.of (rs := [.tmp 0]) hT [] (.bool x10997) [] rfl (by kernel_rfl) (trivial) ?_
        exact fun X h => vc rfl (h I10999 _ s kk)
      · refine WPK.region ?_
        refine RW.seg hT 1 [] [] [.pointer (some ⟨b8494, 0, none⟩)] [] (by kernel_rfl) (trivial) ?_
        obtain ⟨x11002, hx11003, hf⟩ := bindS hf
        refine RW.op (by kernel_rfl) (OK.call' en14 (by kernel_rfl) (c14 (F := (.blk b10117 (.cells #[.slice A10901 x10900.length c10903] 22 (0, 0))) :: (.blk b10114 (.cells #[.slice A10909 x10908.length c10911] 22 (0, 0))) :: (.sl (.slice A10901 x10900.length c10903) 3 1 x10900.length cl10904) :: (.sl (.slice A10909 x10908.length c10911) 3 1 x10908.length cl10912) :: F) x8493 b8494 A8495 n8496 c8497 cl8498 hn8499 rp8500 s hx11003) ?_)
        intro X11006 hX11007
        refine fun _ _ hJ => hJ X11006 ?_
        intro I11008 w11004 s k11005
        refine hX11007 _ _ ?_
        replace rp8500 := rp8500.st k11005
        replace rp10906 := rp10906.st k11005
        replace rp10914 := rp10914.st k11005
        replace eg0 := eg0.st k11005
        replace kk := kk.trans k11005
        refine RW.seg hT 1 [] [(16, .bool (decide (x11002 = 3)))] [.bool (decide (x11002 = 3))] [.veq (.bool (x11002 == 3)) (.bool (decide (x11002 = 3)))] (by kernel_rfl) (eq_v) ?_
        by_cases h11009 : x11002 = 3
        · have hf := iteT h11009 hf
          refine RW.seg hT 2 [] [(17, .bool true)] [.bool true, .pointer (some ⟨b8494, 0, none⟩)] [.veq (.bool (decide (x11002 = 3))) (.bool true)] (by kernel_rfl) (bo_t h11009) ?_
          obtain ⟨x11010, hx11011, hf⟩ := bindS hf
          refine RW.op (by kernel_rfl) (OK.call' en15 (by kernel_rfl) (c15 (F := (.blk b10117 (.cells #[.slice A10901 x10900.length c10903] 22 (0, 0))) :: (.blk b10114 (.cells #[.slice A10909 x10908.length c10911] 22 (0, 0))) :: (.sl (.slice A10901 x10900.length c10903) 3 1 x10900.length cl10904) :: (.sl (.slice A10909 x10908.length c10911) 3 1 x10908.length cl10912) :: F) x8493 2 b8494 A8495 n8496 c8497 cl8498 hn8499 rp8500 eg0 s hx11011) ?_)
          intro X11014 hX11015
          refine fun _ _ hJ => hJ X11014 ?_
          intro I11016 w11012 s k11013
          refine hX11015 _ _ ?_
          replace rp8500 := rp8500.st k11013
          replace rp10906 := rp10906.st k11013
          replace rp10914 := rp10914.st k11013
          replace eg0 := eg0.st k11013
          replace kk := kk.trans k11013
          refine RW.seg hT 2 [] [(20, .bool (decide (x11010 = 1)))] [.bool (decide (x11010 = 1)), .bool (decide (x11010 = 1))] [.veq (.bool (x11010 == 1)) (.bool (decide (x11010 = 1)))] (by kernel_rfl) (eq_v) ?_
          by_cases h11017 : x11010 = 1
          · have hf := iteT h11017 hf
            refine RW.seg hT 2 [] [(22, .bool true)] [.bool true, .pointer (some ⟨b8494, 0, none⟩)] [.veq (.bool (decide (x11010 = 1))) (.bool true)] (by kernel_rfl) (bo_t h11017) ?_
            obtain ⟨x11018, hx11019, hf⟩ := bindS hf
            refine RW.op (by kernel_rfl) (OK.call' en15 (by kernel_rfl) (c15 (F := (.blk b10117 (.cells #[.slice A10901 x10900.length c10903] 22 (0, 0))) :: (.blk b10114 (.cells #[.slice A10909 x10908.length c10911] 22 (0, 0))) :: (.sl (.slice A10901 x10900.length c10903) 3 1 x10900.length cl10904) :: (.sl (.slice A10909 x10908.length c10911) 3 1 x10908.length cl10912) :: F) x8493 3 b8494 A8495 n8496 c8497 cl8498 hn8499 rp8500 eg0 s hx11019) ?_)
            intro X11022 hX11023
            refine fun _ _ hJ => hJ X11022 ?_
            intro I11024 w11020 s k11021
            refine hX11023 _ _ ?_
            replace rp8500 := rp8500.st k11021
            replace rp10906 := rp10906.st k11021
            replace rp10914 := rp10914.st k11021
            replace eg0 := eg0.st k11021
            replace kk := kk.trans k11021
            refine RW.seg hT 2 [] [(25, .bool (decide (x11018 = (-1))))] [.bool (decide (x11018 = (-1))), .bool (decide (x11018 = (-1)))] [.veq (.bool (x11018 == (-1))) (.bool (decide (x11018 = (-1))))] (by kernel_rfl) (eq_v) ?_
            by_cases h11025 : x11018 = (-1)
            · have hf := iteT h11025 hf
              refine RW.seg hT 2 [] [(27, .bool true)] [.bool true, .slice A10909 x10908.length c10911] [.veq (.bool (decide (x11018 = (-1)))) (.bool true)] (by kernel_rfl) (bo_t h11025) ?_
              refine RW.op (by kernel_rfl) (OK.new hT (f := fun b => .slice (some ⟨b, 0, none⟩) 2 2) (cs := [.int .i64 1, .int .i64 5]) (e := 3) (c := .tt) s (by kernel_rfl) trivial ?_)
              rintro w11026 b11027 s k11028 -
              replace rp8500 := rp8500.st k11028
              replace rp10906 := rp10906.st k11028
              replace rp10914 := rp10914.st k11028
              replace eg0 := eg0.st k11028
              replace kk := kk.trans k11028
              have rp11029 : RepL (Rp.int .i64) I11024 w11026 [.int .i64 1, .int .i64 5] ([1, 5] : List Int) := RepL.cons (c := [.int .i64 1]) (d := [.int .i64 5]) (rfl) (RepL.cons (c := [.int .i64 5]) (d := []) (rfl) (RepL.nil))
              replace s : St w0 M I11024 ((.sl (.slice (some ⟨b11027, 0, none⟩) 2 2) 3 1 2 [.int .i64 1, .int .i64 5]) :: (.blk b8494 (.cells #[.int .i64 x8493.n, .slice A8495 n8496 c8497] 53 (0, 0))) :: (.sl (.slice A8495 n8496 c8497) 61 1 n8496 cl8498) :: (.blk b10117 (.cells #[.slice A10901 x10900.length c10903] 22 (0, 0))) :: (.blk b10114 (.cells #[.slice A10909 x10908.length c10911] 22 (0, 0))) :: (.sl (.slice A10901 x10900.length c10903) 3 1 x10900.length cl10904) :: (.sl (.slice A10909 x10908.length c10911) 3 1 x10908.length cl10912) :: F) w11026 := s.blkSl (i := 0) (n := 2) (c := 2) (size := 1) rfl rfl (Nat.le_refl _) (by decide)
              have sa11031 := s
              obtain ⟨hc11032, e11033⟩ := St.lend s (i := 6) rfl rfl rp10914
              have k11034 := Kp.shut (I := I11024) (w := w11026) (p := .sl (.slice A10909 x10908.length c10911) 3 1 x10908.length cl10912)
              replace s := s.shut 6 rfl
              have sa11035 := s
              obtain ⟨hc11036, e11037⟩ := St.lend s (i := 0) rfl rfl (rp11029.st k11034)
              have k11038 := Kp.shut (I := (fun k => I11024 k ∨ (It.sl (.slice A10909 x10908.length c10911) 3 1 x10908.length cl10912).foot = some k)) (w := w11026) (p := .sl (.slice (some ⟨b11027, 0, none⟩) 2 2) 3 1 2 [.int .i64 1, .int .i64 5])
              replace s := s.shut 0 rfl
              replace e11033 := e11033.st k11038
              obtain ⟨x11039, hx11040, hf⟩ := bindS hf
              refine RW.op (by kernel_rfl) (OK.call' en30 (by kernel_rfl) (c30 (F := (.blk b8494 (.cells #[.int .i64 x8493.n, .slice A8495 n8496 c8497] 53 (0, 0))) :: (.sl (.slice A8495 n8496 c8497) 61 1 n8496 cl8498) :: (.blk b10117 (.cells #[.slice A10901 x10900.length c10903] 22 (0, 0))) :: (.blk b10114 (.cells #[.slice A10909 x10908.length c10911] 22 (0, 0))) :: (.sl (.slice A10901 x10900.length c10903) 3 1 x10900.length cl10904) :: F) x10908 ([1, 5] : List Int) A10909 c10911 (some ⟨b11027, 0, none⟩) 2 hc11032 e11033 hc11036 e11037 s hx11040) ?_)
              intro X11043 hX11044
              refine fun _ _ hJ => hJ X11043 ?_
              intro I11045 w11041 s k11042
              refine hX11044 _ _ ?_
              have s' := St.back sa11035 (i := 0) rfl s k11042
              replace k11042 := Kp.back sa11035 (i := 0) rfl k11042
              replace s := s'; clear s'
              have s' := St.back sa11031 (i := 6) rfl s k11042
              replace k11042 := Kp.back sa11031 (i := 6) rfl k11042
              replace s := s'; clear s'
              obtain ⟨I11048, s, k11042⟩ : ∃ I : Nat → Prop, St w0 M I ((.sl (.slice A10909 x10908.length c10911) 3 1 x10908.length cl10912) :: (.sl (.slice (some ⟨b11027, 0, none⟩) 2 2) 3 1 2 [.int .i64 1, .int .i64 5]) :: (.blk b8494 (.cells #[.int .i64 x8493.n, .slice A8495 n8496 c8497] 53 (0, 0))) :: (.sl (.slice A8495 n8496 c8497) 61 1 n8496 cl8498) :: (.blk b10117 (.cells #[.slice A10901 x10900.length c10903] 22 (0, 0))) :: (.blk b10114 (.cells #[.slice A10909 x10908.length c10911] 22 (0, 0))) :: (.sl (.slice A10901 x10900.length c10903) 3 1 x10900.length cl10904) :: F) w11041 ∧ Kp _ _ I _ := ⟨_, s, k11042⟩
              replace rp8500 := rp8500.st k11042
              replace rp10906 := rp10906.st k11042
              replace eg0 := eg0.st k11042
              replace rp10914 := rp10914.st k11042
              replace rp11029 := rp11029.st k11042
              replace kk := kk.trans k11042
              refine RW.seg hT 1 [] [] [.bool x11039] [] (by kernel_rfl) (trivial) ?_
              by_cases h11049 : x11039 = true
              · have hf := iteT h11049 hf
                refine RW.seg hT 2 [] [(32, .bool true)] [.bool true, .slice A10901 x10900.length c10903] [.veq (.bool (x11039)) (.bool true)] (by kernel_rfl) (b_t h11049) ?_
                refine RW.op (by kernel_rfl) (OK.new hT (f := fun b => .slice (some ⟨b, 0, none⟩) 2 2) (cs := [.int .i64 2, .int .i64 1]) (e := 3) (c := .tt) s (by kernel_rfl) trivial ?_)
                rintro w11050 b11051 s k11052 -
                replace rp10914 := rp10914.st k11052
                replace rp11029 := rp11029.st k11052
                replace rp8500 := rp8500.st k11052
                replace rp10906 := rp10906.st k11052
                replace eg0 := eg0.st k11052
                replace kk := kk.trans k11052
                have rp11053 : RepL (Rp.int .i64) I11048 w11050 [.int .i64 2, .int .i64 1] ([2, 1] : List Int) := RepL.cons (c := [.int .i64 2]) (d := [.int .i64 1]) (rfl) (RepL.cons (c := [.int .i64 1]) (d := []) (rfl) (RepL.nil))
                replace s : St w0 M I11048 ((.sl (.slice (some ⟨b11051, 0, none⟩) 2 2) 3 1 2 [.int .i64 2, .int .i64 1]) :: (.sl (.slice A10909 x10908.length c10911) 3 1 x10908.length cl10912) :: (.sl (.slice (some ⟨b11027, 0, none⟩) 2 2) 3 1 2 [.int .i64 1, .int .i64 5]) :: (.blk b8494 (.cells #[.int .i64 x8493.n, .slice A8495 n8496 c8497] 53 (0, 0))) :: (.sl (.slice A8495 n8496 c8497) 61 1 n8496 cl8498) :: (.blk b10117 (.cells #[.slice A10901 x10900.length c10903] 22 (0, 0))) :: (.blk b10114 (.cells #[.slice A10909 x10908.length c10911] 22 (0, 0))) :: (.sl (.slice A10901 x10900.length c10903) 3 1 x10900.length cl10904) :: F) w11050 := s.blkSl (i := 0) (n := 2) (c := 2) (size := 1) rfl rfl (Nat.le_refl _) (by decide)
                have sa11055 := s
                obtain ⟨hc11056, e11057⟩ := St.lend s (i := 7) rfl rfl rp10906
                have k11058 := Kp.shut (I := I11048) (w := w11050) (p := .sl (.slice A10901 x10900.length c10903) 3 1 x10900.length cl10904)
                replace s := s.shut 7 rfl
                have sa11059 := s
                obtain ⟨hc11060, e11061⟩ := St.lend s (i := 0) rfl rfl (rp11053.st k11058)
                have k11062 := Kp.shut (I := (fun k => I11048 k ∨ (It.sl (.slice A10901 x10900.length c10903) 3 1 x10900.length cl10904).foot = some k)) (w := w11050) (p := .sl (.slice (some ⟨b11051, 0, none⟩) 2 2) 3 1 2 [.int .i64 2, .int .i64 1])
                replace s := s.shut 0 rfl
                replace e11057 := e11057.st k11062
                obtain ⟨x11063, hx11064, hf⟩ := bindS hf
                refine RW.op (by kernel_rfl) (OK.call' en30 (by kernel_rfl) (c30 (F := (.sl (.slice A10909 x10908.length c10911) 3 1 x10908.length cl10912) :: (.sl (.slice (some ⟨b11027, 0, none⟩) 2 2) 3 1 2 [.int .i64 1, .int .i64 5]) :: (.blk b8494 (.cells #[.int .i64 x8493.n, .slice A8495 n8496 c8497] 53 (0, 0))) :: (.sl (.slice A8495 n8496 c8497) 61 1 n8496 cl8498) :: (.blk b10117 (.cells #[.slice A10901 x10900.length c10903] 22 (0, 0))) :: (.blk b10114 (.cells #[.slice A10909 x10908.length c10911] 22 (0, 0))) :: F) x10900 ([2, 1] : List Int) A10901 c10903 (some ⟨b11051, 0, none⟩) 2 hc11056 e11057 hc11060 e11061 s hx11064) ?_)
                intro X11067 hX11068
                refine fun _ _ hJ => hJ X11067 ?_
                intro I11069 w11065 s k11066
                refine hX11068 _ _ ?_
                have s' := St.back sa11059 (i := 0) rfl s k11066
                replace k11066 := Kp.back sa11059 (i := 0) rfl k11066
                replace s := s'; clear s'
                have s' := St.back sa11055 (i := 7) rfl s k11066
                replace k11066 := Kp.back sa11055 (i := 7) rfl k11066
                replace s := s'; clear s'
                obtain ⟨I11072, s, k11066⟩ : ∃ I : Nat → Prop, St w0 M I ((.sl (.slice A10901 x10900.length c10903) 3 1 x10900.length cl10904) :: (.sl (.slice (some ⟨b11051, 0, none⟩) 2 2) 3 1 2 [.int .i64 2, .int .i64 1]) :: (.sl (.slice A10909 x10908.length c10911) 3 1 x10908.length cl10912) :: (.sl (.slice (some ⟨b11027, 0, none⟩) 2 2) 3 1 2 [.int .i64 1, .int .i64 5]) :: (.blk b8494 (.cells #[.int .i64 x8493.n, .slice A8495 n8496 c8497] 53 (0, 0))) :: (.sl (.slice A8495 n8496 c8497) 61 1 n8496 cl8498) :: (.blk b10117 (.cells #[.slice A10901 x10900.length c10903] 22 (0, 0))) :: (.blk b10114 (.cells #[.slice A10909 x10908.length c10911] 22 (0, 0))) :: F) w11065 ∧ Kp _ _ I _ := ⟨_, s, k11066⟩
                replace rp10914 := rp10914.st k11066
                replace rp11029 := rp11029.st k11066
                replace rp8500 := rp8500.st k11066
                replace eg0 := eg0.st k11066
                replace rp10906 := rp10906.st k11066
                replace rp11053 := rp11053.st k11066
                replace kk := kk.trans k11066
                refine RW.seg hT 2 [] [] [.bool x11063, .bool x11063] [] (by kernel_rfl) (trivial) ?_
                refine RW.nil ?_
                replace s := s.pick [] 8 rfl
                exact fun X h => kc (by kernel_rfl) rfl (h I11072 x11063 [.pointer (some ⟨b8494, 0, none⟩), .slice A10909 x10908.length c10911, .slice A10901 x10900.length c10903, (.slice (some ⟨b8475, 0, none⟩) 3 3), .pointer (some ⟨b8494, 0, none⟩), .pointer (some ⟨b8494, 0, none⟩), .bool false, .tuple #[.slice A10909 x10908.length c10911, .slice A10901 x10900.length c10903], .pointer (some ⟨b8494, 0, none⟩), .func (.func 31) #[] #[.pointer (some ⟨b8510, 0, none⟩)], .tuple #[.slice A10909 x10908.length c10911, .slice A10901 x10900.length c10903], .slice A10909 x10908.length c10911, .slice A10901 x10900.length c10903, .pointer (some ⟨b8494, 0, none⟩), .int .i64 x11002, .bool (decide (x11002 = 3)), .bool true, .pointer (some ⟨b8494, 0, none⟩), .int .i64 x11010, .bool (decide (x11010 = 1)), .bool (decide (x11010 = 1)), .bool true, .pointer (some ⟨b8494, 0, none⟩), .int .i64 x11018, .bool (decide (x11018 = (-1))), .bool (decide (x11018 = (-1))), .bool true, .slice A10909 x10908.length c10911, .slice (some ⟨b11027, 0, none⟩) 2 2, .bool x11039, .bool x11039, .bool true, .slice A10901 x10900.length c10903, .slice (some ⟨b11051, 0, none⟩) 2 2, .bool x11063, .bool x11063] _ hf s kk eg0)
              · have hf := iteF h11049 hf
                refine RW.seg hT 6 [] [(32, .bool false)] [.bool false, undef, undef, undef, .bool false, .bool false] [.veq (.bool (x11039)) (.bool false)] (by kernel_rfl) (b_f h11049) ?_
                refine RW.nil ?_
                replace s := s.pick [] 7 rfl
                exact fun X h => kc (by kernel_rfl) rfl (h I11048 false [.pointer (some ⟨b8494, 0, none⟩), .slice A10909 x10908.length c10911, .slice A10901 x10900.length c10903, (.slice (some ⟨b8475, 0, none⟩) 3 3), .pointer (some ⟨b8494, 0, none⟩), .pointer (some ⟨b8494, 0, none⟩), .bool false, .tuple #[.slice A10909 x10908.length c10911, .slice A10901 x10900.length c10903], .pointer (some ⟨b8494, 0, none⟩), .func (.func 31) #[] #[.pointer (some ⟨b8510, 0, none⟩)], .tuple #[.slice A10909 x10908.length c10911, .slice A10901 x10900.length c10903], .slice A10909 x10908.length c10911, .slice A10901 x10900.length c10903, .pointer (some ⟨b8494, 0, none⟩), .int .i64 x11002, .bool (decide (x11002 = 3)), .bool true, .pointer (some ⟨b8494, 0, none⟩), .int .i64 x11010, .bool (decide (x11010 = 1)), .bool (decide (x11010 = 1)), .bool true, .pointer (some ⟨b8494, 0, none⟩), .int .i64 x11018, .bool (decide (x11018 = (-1))), .bool (decide (x11018 = (-1))), .bool true, .slice A10909 x10908.length c10911, .slice (some ⟨b11027, 0, none⟩) 2 2, .bool x11039, .bool x11039, .bool false, undef, undef, undef, .bool false] _ hf s kk eg0)
            · have hf := iteF h11025 hf
              refine RW.seg hT 11 [] [(27, .bool false)] [.bool false, undef, undef, undef, .bool false, .bool false, undef, undef, undef, .bool false, .bool false] [.veq (.bool (decide (x11018 = (-1)))) (.bool false)] (by kernel_rfl) (bo_f h11025) ?_
              refine RW.nil ?_
              replace s := s.pick [] 6 rfl
              exact fun X h => kc (by kernel_rfl) rfl (h I11024 false [.pointer (some ⟨b8494, 0, none⟩), .slice A10909 x10908.length c10911, .slice A10901 x10900.length c10903, (.slice (some ⟨b8475, 0, none⟩) 3 3), .pointer (some ⟨b8494, 0, none⟩), .pointer (some ⟨b8494, 0, none⟩), .bool false, .tuple #[.slice A10909 x10908.length c10911, .slice A10901 x10900.length c10903], .pointer (some ⟨b8494, 0, none⟩), .func (.func 31) #[] #[.pointer (some ⟨b8510, 0, none⟩)], .tuple #[.slice A10909 x10908.length c10911, .slice A10901 x10900.length c10903], .slice A10909 x10908.length c10911, .slice A10901 x10900.length c10903, .pointer (some ⟨b8494, 0, none⟩), .int .i64 x11002, .bool (decide (x11002 = 3)), .bool true, .pointer (some ⟨b8494, 0, none⟩), .int .i64 x11010, .bool (decide (x11010 = 1)), .bool (decide (x11010 = 1)), .bool true, .pointer (some ⟨b8494, 0, none⟩), .int .i64 x11018, .bool (decide (x11018 = (-1))), .bool (decide (x11018 = (-1))), .bool false, undef, undef, undef, .bool false, .bool false, undef, undef, undef, .bool false] _ hf s kk eg0)
          · have hf := iteF h11017 hf
            refine RW.seg hT 16 [] [(22, .bool false)] [.bool false, undef, undef, undef, .bool false, .bool false, undef, undef, undef, .bool false, .bool false, undef, undef, undef, .bool false, .bool false] [.veq (.bool (decide (x11010 = 1))) (.bool false)] (by kernel_rfl) (bo_f h11017) ?_
            refine RW.nil ?_
            replace s := s.pick [] 6 rfl
            exact fun X h => kc (by kernel_rfl) rfl (h I11016 false [.pointer (some ⟨b8494, 0, none⟩), .slice A10909 x10908.length c10911, .slice A10901 x10900.length c10903, (.slice (some ⟨b8475, 0, none⟩) 3 3), .pointer (some ⟨b8494, 0, none⟩), .pointer (some ⟨b8494, 0, none⟩), .bool false, .tuple #[.slice A10909 x10908.length c10911, .slice A10901 x10900.length c10903], .pointer (some ⟨b8494, 0, none⟩), .func (.func 31) #[] #[.pointer (some ⟨b8510, 0, none⟩)], .tuple #[.slice A10909 x10908.length c10911, .slice A10901 x10900.length c10903], .slice A10909 x10908.length c10911, .slice A10901 x10900.length c10903, .pointer (some ⟨b8494, 0, none⟩), .int .i64 x11002, .bool (decide (x11002 = 3)), .bool true, .pointer (some ⟨b8494, 0, none⟩), .int .i64 x11010, .bool (decide (x11010 = 1)), .bool (decide (x11010 = 1)), .bool false, undef, undef, undef, .bool false, .bool false, undef, undef, undef, .bool false, .bool false, undef, undef, undef, .bool false] _ hf s kk eg0)
        · have hf := iteF h11009 hf
          refine RW.seg hT 21 [] [(17, .bool false)] [.bool false, undef, undef, undef, .bool false, .bool false, undef, undef, undef, .bool false, .bool false, undef, undef, undef, .bool false, .bool false, undef, undef, undef, .bool false, .bool false] [.veq (.bool (decide (x11002 = 3))) (.bool false)] (by kernel_rfl) (bo_f h11009) ?_
          refine RW.nil ?_
          replace s := s.pick [] 6 rfl
          exact fun X h => kc (by kernel_rfl) rfl (h I11008 false [.pointer (some ⟨b8494, 0, none⟩), .slice A10909 x10908.length c10911, .slice A10901 x10900.length c10903, (.slice (some ⟨b8475, 0, none⟩) 3 3), .pointer (some ⟨b8494, 0, none⟩), .pointer (some ⟨b8494, 0, none⟩), .bool false, .tuple #[.slice A10909 x10908.length c10911, .slice A10901 x10900.length c10903], .pointer (some ⟨b8494, 0, none⟩), .func (.func 31) #[] #[.pointer (some ⟨b8510, 0, none⟩)], .tuple #[.slice A10909 x10908.length c10911, .slice A10901 x10900.length c10903], .slice A10909 x10908.length c10911, .slice A10901 x10900.length c10903, .pointer (some ⟨b8494, 0, none⟩), .int .i64 x11002, .bool (decide (x11002 = 3)), .bool false, undef, undef, undef, .bool false, .bool false, undef, undef, undef, .bool false, .bool false, undef, undef, undef, .bool false, .bool false, undef, undef, undef, .bool false] _ hf s kk eg0)
    · refine WPK.seq ?_
      refine WPK.region ?_
      refine RW.seg hT 1 [] [] [.func (.func 31) #[] #[.pointer (some ⟨b8510, 0, none⟩)]] [] (by kernel_rfl) (trivial) ?_
      refine RW.nil ?_
      refine WPK.block ?_
      refine WPK.range (gf := 31) (first := []) (cap := [.pointer (some ⟨b8510, 0, none⟩)]) s (by kernel_rfl) en31 ?_
      intro l11075 d11076 rec11077 w11079 R11081 hrec11078 s k11080 hR11082
      replace rp8477 := rp8477.st k11080
      replace rp8500 := rp8500.st k11080
      replace eg0 := eg0.st k11080
      replace kk := kk.trans k11080
      refine Ret.of Tryd.func31 rfl ?_
      refine WPK.seq ?_
      refine WPK.region ?_
      refine RW.seg hT 1 [.pointer (some ⟨b8494, 0, none⟩)] [] [.pointer (some ⟨b8494, 0, none⟩)] [.cell ⟨b8510, 0, none⟩ (.pointer (some ⟨b8494, 0, none⟩))] (by kernel_rfl) (s.cell (i := 5) (off := 0) rfl rfl) ?_
      replace s := s.pick [7, 8, 0, 1, 2, 3, 4, 5, 6] 9 rfl
      obtain ⟨x11083, hx11084, hf⟩ := bindS hf
      refine RW.op (by kernel_rfl) (OK.call' en16 (by kernel_rfl) (c16 (F := (.blk l11075 (rec11077 .ready none)) :: (.blk d11076 (.deferred (some []))) :: (.blk b10117 (.cells #[.slice none 0 0] 22 (0, 0))) :: (.blk b10114 (.cells #[.slice none 0 0] 22 (0, 0))) :: (.blk b10111 (.cells #[.int .i64 9] 3 (0, 0))) :: (.blk b8510 (.cells #[.pointer (some ⟨b8494, 0, none⟩)] 25 (0, 0))) :: (.sl (.slice (some ⟨b8475, 0, none⟩) 3 3) 3 1 3 [.int .i64 5, .int .i64 1, .int .i64 2]) :: F) x8493 b8494 A8495 n8496 c8497 cl8498 hn8499 rp8500 s hx11084) ?_)
      intro X11087 hX11088
      refine fun _ _ hJ => hJ X11087 ?_ ?_
      · intro I11089 w11085 hv s k11086
        refine hX11088 _ _ ?_
        replace hf := optN hv hf
        replace rp8500 := rp8500.st k11086
        replace rp8477 := rp8477.st k11086
        replace eg0 := eg0.st k11086
        replace kk := kk.trans k11086
        refine RW.seg hT 1 [] [] [.pointer none] [] (by kernel_rfl) (trivial) ?_
        refine RW.nil ?_
        refine WPK.seq ?_
        refine WPK.region ?_
        refine RW.seg hT 1 [.pointer (some ⟨b8494, 0, none⟩)] [] [.pointer (some ⟨b8494, 0, none⟩)] [.cell ⟨b8510, 0, none⟩ (.pointer (some ⟨b8494, 0, none⟩))] (by kernel_rfl) (s.cell (i := 7) (off := 0) rfl rfl) ?_
        obtain ⟨x11100, hx11101, hf⟩ := bindS hf
        refine RW.op (by kernel_rfl) (OK.call' en27 (by kernel_rfl) (c27 (F := (.blk l11075 (rec11077 .ready none)) :: (.blk d11076 (.deferred (some []))) :: (.blk b10117 (.cells #[.slice none 0 0] 22 (0, 0))) :: (.blk b10114 (.cells #[.slice none 0 0] 22 (0, 0))) :: (.blk b10111 (.cells #[.int .i64 9] 3 (0, 0))) :: (.blk b8510 (.cells #[.pointer (some ⟨b8494, 0, none⟩)] 25 (0, 0))) :: (.sl (.slice (some ⟨b8475, 0, none⟩) 3 3) 3 1 3 [.int .i64 5, .int .i64 1, .int .i64 2]) :: F) x8493 0 b8494 A8495 n8496 c8497 cl8498 hn8499 rp8500 eg0 s hx11101) ?_)
        intro X11104 hX11105
        refine fun _ _ hJ => hJ X11104 ?_
        intro I11106 w11102 s k11103
        refine hX11105 _ _ ?_
        replace rp8500 := rp8500.st k11103
        replace rp8477 := rp8477.st k11103
        replace eg0 := eg0.st k11103
        replace kk := kk.trans k11103
        refine RW.seg hT 1 [] [] [.int .i64 x11100] [] (by kernel_rfl) (trivial) ?_
        refine RW.nil ?_
        refine WPK.block ?_
        replace s := s.pushNil 3 1
        replace s := s.pushNil 3 1
        replace s := s.pick [2, 3, 4, 5, 6, 7, 8, 9, 1, 0] 11 rfl
        refine WPK.loop' (J := fun n11353 E ds wz => ∀ X : Kont, (∀ (I11237 : Nat → Prop) (x11219 : Int) (x11220 : (List Int)) (x11228 : (List Int)) (D11218 : List Value) (A11221 : Option Addr) (c11223 : Nat) (cl11224 : List Value) (A11229 : Option Addr) (c11231 : Nat) (cl11232 : List Value) (w' : World), g8_l3 x8493 n11353 x11219 x11220 x11228 = some r → St w0 M I11237 ((.blk b8494 (.cells #[.int .i64 x8493.n, .slice A8495 n8496 c8497] 53 (0, 0))) :: (.sl (.slice A8495 n8496 c8497) 61 1 n8496 cl8498) :: (.blk l11075 (rec11077 .ready none)) :: (.blk d11076 (.deferred (some []))) :: (.blk b10117 (.cells #[.slice A11221 x11220.length c11223] 22 (0, 0))) :: (.blk b10114 (.cells #[.slice A11229 x11228.length c11231] 22 (0, 0))) :: (.blk b10111 (.cells #[.int .i64 9] 3 (0, 0))) :: (.blk b8510 (.cells #[.pointer (some ⟨b8494, 0, none⟩)] 25 (0, 0))) :: (.sl (.slice A11221 x11220.length c11223) 3 1 x11220.length cl11224) :: (.sl (.slice A11229 x11228.length c11231) 3 1 x11228.length cl11232) :: F) w' → Kp I w I11237 w' → RepL (Rp.int .i64) I11237 w' cl11224 x11220 → RepL (Rp.int .i64) I11237 w' cl11232 x11228 → RepL (Rp.int .u64) I11237 w' cl8498 x8493.w → Elems (Rp.int .u8) I11237 w' (some ⟨0, 0, none⟩) TAB0 → X [.func (.yield l11075) #[] #[], .pointer (some ⟨b8510, 0, none⟩), (D11218.getD 0 undef), .pointer none, .int .i64 x11219, (D11218.getD 1 undef), (D11218.getD 2 undef), (D11218.getD 3 undef), (D11218.getD 4 undef), (D11218.getD 5 undef), (D11218.getD 6 undef), (D11218.getD 7 undef), (D11218.getD 8 undef), (D11218.getD 9 undef), (D11218.getD 10 undef), (D11218.getD 11 undef), (D11218.getD 12 undef), (D11218.getD 13 undef), (D11218.getD 14 undef), (D11218.getD 15 undef), (D11218.getD 16 undef), (D11218.getD 17 undef), (D11218.getD 18 undef), (D11218.getD 19 undef), (D11218.getD 20 undef), (D11218.getD 21 undef), (D11218.getD 22 undef), (D11218.getD 23 undef), (D11218.getD 24 undef), (D11218.getD 25 undef), (D11218.getD 26 undef)] [] w') → X E ds wz) FUEL (fun X h => kc (by kernel_rfl) rfl (h I11106 x11100 ([] : List Int) ([] : List Int) [undef, undef, .pointer (some ⟨b8494, 0, none⟩), .pointer none, .pointer (some ⟨b8494, 0, none⟩), .int .i64 x11100, undef, undef, undef, undef, undef, undef, undef, undef, undef, undef, undef, undef, undef, undef, undef, undef, undef, undef, undef, undef, undef] none 0 [] none 0 [] _ hf s kk (RepL.nil (r := (Rp.int .i64))) (RepL.nil (r := (Rp.int .i64))) rp8500 eg0)) (fun _ _ _ hJ => hJ (fun _ _ _ => False) (by intro I11237 x11219 x11220 x11228 D11218 A11221 c11223 cl11224 A11229 c11231 cl11232 w11236 hf s kk rp11226 rp11234 rp8500 eg0; exact noneS hf)) ?_
        intro X11475 hX11476
        refine fun n11353 _ _ _ hJ => hJ (X11475 n11353) ?_
        intro I11237 x11219 x11220 x11228 D11218 A11221 c11223 cl11224 A11229 c11231 cl11232 w11236 hf s kk rp11226 rp11234 rp8500 eg0
        refine hX11476 _ _ _ _ ?_
        replace hf : g8_l3B x8493 (g8_l3 x8493 n11353) x11219 x11220 x11228 = some r := hf
        generalize hrec11354 : g8_l3 x8493 n11353 = rec11352 at hf
        unfold g8_l3B at hf
        refine WPK.seq ?_
        refine WPK.seq ?_
        refine WPK.region ?_
        refine RW.seg hT 2 [] [] [.int .i64 x11219, .bool (decide (x11219 ≥ 0))] [] (by kernel_rfl) (trivial) ?_
        refine RW.nil ?_
        by_cases h11356 : x11219 ≥ 0
        · have hf := iteT h11356 hf
          refine WPK.condT (Eq.trans (b := .bool (decide (x11219 ≥ 0))) (by kernel_rfl) (bo_t h11356)) ?_
          refine WPK.skip ?_
          refine WPK.block ?_
          refine WPK.seq ?_
          refine WPK.region ?_
          refine RW.seg hT 2 [] [] [.pointer none, .int .i64 x11219] [] (by kernel_rfl) (trivial) ?_
          obtain ⟨x11357, hx11358, hf⟩ := bindS hf
          refine RW.op (by kernel_rfl) (OK.call' en27 (by kernel_rfl) (c27_1 (F := (.blk b8494 (.cells #[.int .i64 x8493.n, .slice A8495 n8496 c8497] 53 (0, 0))) :: (.sl (.slice A8495 n8496 c8497) 61 1 n8496 cl8498) :: (.blk l11075 (rec11077 .ready none)) :: (.blk d11076 (.deferred (some []))) :: (.blk b10117 (.cells #[.slice A11221 x11220.length c11223] 22 (0, 0))) :: (.blk b10114 (.cells #[.slice A11229 x11228.length c11231] 22 (0, 0))) :: (.blk b10111 (.cells #[.int .i64 9] 3 (0, 0))) :: (.blk b8510 (.cells #[.pointer (some ⟨b8494, 0, none⟩)] 25 (0, 0))) :: (.sl (.slice A11221 x11220.length c11223) 3 1 x11220.length cl11224) :: (.sl (.slice A11229 x11228.length c11231) 3 1 x11228.length cl11232) :: F) x11219 s hx11358) ?_)
          intro X11361 hX11362
          refine fun _ _ hJ => hJ X11361 ?_
          intro I11363 w11359 s k11360
          refine hX11362 _ _ ?_
          replace rp8500 := rp8500.st k11360
          replace rp11226 := rp11226.st k11360
          replace rp11234 := rp11234.st k11360
          replace eg0 := eg0.st k11360
          replace kk := kk.trans k11360
          refine RW.seg hT 1 [] [] [.int .i64 x11357] [] (by kernel_rfl) (trivial) ?_
          refine RW.nil ?_
          refine WPK.seq ?_
          refine WPK.cut' (fun E ds wz => ∀ X : Kont, (∀ (x11366 : Int) (D11365 : List Value), g8_j4 x8493 x11219 x11220 x11228 rec11352 x11366 = some r → X [.func (.yield l11075) #[] #[], .pointer (some ⟨b8510, 0, none⟩), (D11365.getD 0 undef), .pointer none, .int .i64 x11219, .int .i64 x11366, (D11365.getD 1 undef), (D11365.getD 2 undef), (D11365.getD 3 undef), (D11365.getD 4 undef), .int .i64 x11219, .bool (decide (x11219 ≥ 0)), (D11365.getD 5 undef), (D11365.getD 6 undef), .int .i64 x11357, .int .i64 x11357, .bool (decide (x11357 < 0)), (D11365.getD 7 undef), (D11365.getD 8 undef), (D11365.getD 9 undef), (D11365.getD 10 undef), (D11365.getD 11 undef), (D11365.getD 12 undef), (D11218.getD 19 undef), (D11218.getD 20 undef), (D11365.getD 13 undef), (D11218.getD 22 undef), (D11218.getD 23 undef), (D11365.getD 14 undef), (D11365.getD 15 undef), (D11218.getD 26 undef)] [] w11359) → X E ds wz) ?_ ?_
          · intro X11468 hX11469
            refine fun _ _ _ hJ => hJ X11468 ?_
            intro x11366 D11365 hf
            refine hX11469 _ _ _ ?_
            unfold g8_j4 at hf
            refine WPK.seq ?_
            refine WPK.seq ?_
            refine WPK.region ?_
            refine RW.seg hT 5 [] [] [.func (.yield l11075) #[] #[], .int .i64 x11219, .int .i64 x11366, .int .i64 x11219, .int .i64 (IntKind.i64.wrap (x11366 - x11219))] [] (by kernel_rfl) (trivial) ?_
            refine RW.op (by kernel_rfl) (OK.yield (args := [.int .i64 x11219, .int .i64 (IntKind.i64.wrap (x11366 - x11219))]) hrec11078 s (i := 2) rfl (by kernel_rfl) rfl ?_)
            intro R11413 hR11414
            refine WPK.seq ?_
            refine WPK.region ?_
            refine RW.seg hT 1 [] [] [.int .i64 x11219] [] (by kernel_rfl) (trivial) ?_
            refine RW.nil ?_
            refine WPK.region ?_
            refine RW.seg hT 1 [] [] [.int .i64 (IntKind.i64.wrap (x11366 - x11219))] [] (by kernel_rfl) (trivial) ?_
            refine RW.nil ?_
            refine RoundBeg.of hrec11078 s (i := 2) rfl ?_
            intro w11415 s k11416
            replace rp8500 := rp8500.st k11416
            replace rp11226 := rp11226.st k11416
            replace rp11234 := rp11234.st k11416
            replace eg0 := eg0.st k11416
            replace kk := kk.trans k11416
            refine WPK.block ?_
            refine WPK.seq ?_
            refine WPK.seq ?_
            refine WPK.region ?_
            refine RW.seg hT 4 [.slice A11229 x11228.length c11231, .int .i64 9] [(16, .int .i64 (x11228.length : Int))] [.slice A11229 x11228.length c11231, .int .i64 (x11228.length : Int), .int .i64 9, .bool (decide ((x11228.length : Int) ≥ 9))] [.cell ⟨b10114, 0, none⟩ (.slice A11229 x11228.length c11231), .veq (.int .i64 (x11228.length : Nat)) (.int .i64 (x11228.length : Int)), .cell ⟨b10111, 0, none⟩ (.int .i64 9)] (by kernel_rfl) (⟨s.cell (i := 5) (off := 0) rfl rfl, len_v rfl, s.cell (i := 6) (off := 0) rfl rfl⟩) ?_
            refine RW.nil ?_
            by_cases h11418 : (x11228.length : Int) ≥ 9
            · have hf := iteT h11418 hf
              refine WPK.condT (Eq.trans (b := .bool (decide ((x11228.length : Int) ≥ 9))) (by kernel_rfl) (bo_t h11418)) ?_
              refine WPK.exit (blockQ.other rfl (?_))
              refine RoundEnd.stop (Code.exit 0) hrec11078 s (i := 2) rfl ?_
              intro w11419 s k11420
              replace rp8500 := rp8500.st k11420
              replace rp11226 := rp11226.st k11420
              replace rp11234 := rp11234.st k11420
              replace eg0 := eg0.st k11420
              replace kk := kk.trans k11420
              refine hR11414 _ _ ?_
              refine RW.seg hT 1 [] [] [.bool true] [] (by kernel_rfl) (trivial) ?_
              refine RW.nil ?_
              refine WPK.condT (by kernel_rfl) ?_
              refine WPK.ret (blockQ.ret (blockQ.ret (?_)))
              refine Fin.of (rs := []) hT [] (.tuple #[]) [] rfl (by kernel_rfl) (trivial) ?_
              refine hR11082 _ _ (RangeEnd.jump hrec11078 s (i := 2) rfl ?_)
              intro w11421 s k11422
              replace rp8500 := rp8500.st k11422
              replace rp11226 := rp11226.st k11422
              replace rp11234 := rp11234.st k11422
              replace eg0 := eg0.st k11422
              replace kk := kk.trans k11422
              refine WPK.exit (blockQ.same ?_)
              replace s := s.pick [0, 1, 3, 4, 7, 8, 2] 9 rfl
              exact fun X h => kc (by kernel_rfl) rfl (h I11363 x11220 x11228 d11076 [.func (.func 31) #[] #[.pointer (some ⟨b8510, 0, none⟩)], .int .i64 9, undef, .pointer (some ⟨b10111, 0, none⟩), undef, undef, .func (.func 31) #[] #[.pointer (some ⟨b8510, 0, none⟩)], .bool false, .func (.func 31) #[] #[.pointer (some ⟨b8510, 0, none⟩)], undef, undef, undef, undef, undef, undef, undef, undef, undef, undef, undef, undef, undef, undef] A11221 c11223 cl11224 A11229 c11231 cl11232 _ hf s kk rp11226 rp11234 rp8500 eg0)
            · have hf := iteF h11418 hf
              refine WPK.condF (Eq.trans (b := .bool (decide ((x11228.length : Int) ≥ 9))) (by kernel_rfl) (bo_f h11418)) ?_
              refine WPK.skip ?_
              refine WPK.seq ?_
              refine WPK.region ?_
              refine RW.seg hT 2 [.slice A11229 x11228.length c11231] [] [.slice A11229 x11228.length c11231, .int .i64 x11219] [.cell ⟨b10114, 0, none⟩ (.slice A11229 x11228.length c11231)] (by kernel_rfl) (s.cell (i := 5) (off := 0) rfl rfl) ?_
              refine RW.op (by kernel_rfl) (OK.new hT (f := fun b => .slice (some ⟨b, 0, none⟩) 1 1) (cs := [.int .i64 x11219]) (e := 3) (c := .tt) s (by kernel_rfl) trivial ?_)
              rintro w11423 b11424 s k11425 -
              replace rp8500 := rp8500.st k11425
              replace rp11226 := rp11226.st k11425
              replace rp11234 := rp11234.st k11425
              replace eg0 := eg0.st k11425
              replace kk := kk.trans k11425
              have rp11426 : RepL (Rp.int .i64) I11363 w11423 [.int .i64 x11219] ([x11219] : List Int) := RepL.cons (c := [.int .i64 x11219]) (d := []) (rfl) (RepL.nil)
              replace s : St w0 M I11363 ((.sl (.slice (some ⟨b11424, 0, none⟩) 1 1) 3 1 1 [.int .i64 x11219]) :: (.blk b8494 (.cells #[.int .i64 x8493.n, .slice A8495 n8496 c8497] 53 (0, 0))) :: (.sl (.slice A8495 n8496 c8497) 61 1 n8496 cl8498) :: (.blk l11075 (rec11077 .busy none)) :: (.blk d11076 (.deferred (some []))) :: (.blk b10117 (.cells #[.slice A11221 x11220.length c11223] 22 (0, 0))) :: (.blk b10114 (.cells #[.slice A11229 x11228.length c11231] 22 (0, 0))) :: (.blk b10111 (.cells #[.int .i64 9] 3 (0, 0))) :: (.blk b8510 (.cells #[.pointer (some ⟨b8494, 0, none⟩)] 25 (0, 0))) :: (.sl (.slice A11221 x11220.length c11223) 3 1 x11220.length cl11224) :: (.sl (.slice A11229 x11228.length c11231) 3 1 x11228.length cl11232) :: F) w11423 := s.blkSl (i := 0) (n := 1) (c := 1) (size := 1) rfl rfl (Nat.le_refl _) (by decide)
              have hs11429 := St.src s (i := 0) rfl rfl rp11426
              have rq11430 := rp11426
              obtain ⟨x11431, hx11432, hf⟩ := bindS hf
              refine RW.op (by kernel_rfl) (OK.app hT (r := (Rp.int .i64)) (i := 10) (t := 22) (e := 3) (size := 1) (bytes := 8) (c := c11231) (n := x11228.length) (m := 1) s (by kernel_rfl) rfl rfl rfl rfl rfl (by decide) rfl rfl rfl rfl rp11234 hs11429 rq11430 flat_int rfl hx11432 ?_)
              rintro A11433 c11434 cl11435 w11436 s k11437 rp11438
              replace rp11426 := rp11426.st k11437
              replace rp8500 := rp8500.st k11437
              replace rp11226 := rp11226.st k11437
              replace rp11234 := rp11234.st k11437
              replace eg0 := eg0.st k11437
              replace kk := kk.trans k11437
              refine RW.op (by kernel_rfl) (OK.store hT (i := 6) (b := b10114) (off := 0) (n := 1) (vs := [.slice A11433 x11431.length c11434]) (cs := [(.slice A11229 x11228.length c11231)]) (e := 22) s (by kernel_rfl) rfl rfl (flat_ok rfl) (Nat.le_of_ble_eq_true rfl) ?_)
              rintro w11439 s k11440 -
              replace rp11426 := rp11426.st k11440
              replace rp8500 := rp8500.st k11440
              replace rp11226 := rp11226.st k11440
              replace rp11438 := rp11438.st k11440
              replace eg0 := eg0.st k11440
              replace kk := kk.trans k11440
              refine RW.nil ?_
              refine WPK.region ?_
              refine RW.seg hT 2 [.slice A11221 x11220.length c11223] [] [.slice A11221 x11220.length c11223, .int .i64 (IntKind.i64.wrap (x11366 - x11219))] [.cell ⟨b10117, 0, none⟩ (.slice A11221 x11220.length c11223)] (by kernel_rfl) (s.cell (i := 5) (off := 0) rfl rfl) ?_
              refine RW.op (by kernel_rfl) (OK.new hT (f := fun b => .slice (some ⟨b, 0, none⟩) 1 1) (cs := [.int .i64 (IntKind.i64.wrap (x11366 - x11219))]) (e := 3) (c := .tt) s (by kernel_rfl) trivial ?_)
              rintro w11441 b11442 s k11443 -
              replace rp11426 := rp11426.st k11443
              replace rp8500 := rp8500.st k11443
              replace rp11226 := rp11226.st k11443
              replace rp11438 := rp11438.st k11443
              replace eg0 := eg0.st k11443
              replace kk := kk.trans k11443
              have rp11444 : RepL (Rp.int .i64) I11363 w11441 [.int .i64 (IntKind.i64.wrap (x11366 - x11219))] ([IntKind.i64.wrap (x11366 - x11219)] : List Int) := RepL.cons (c := [.int .i64 (IntKind.i64.wrap (x11366 - x11219))]) (d := []) (rfl) (RepL.nil)
              replace s : St w0 M I11363 ((.sl (.slice (some ⟨b11442, 0, none⟩) 1 1) 3 1 1 [.int .i64 (IntKind.i64.wrap (x11366 - x11219))]) :: (.sl (.slice (some ⟨b11424, 0, none⟩) 1 1) 3 1 1 [.int .i64 x11219]) :: (.blk b8494 (.cells #[.int .i64 x8493.n, .slice A8495 n8496 c8497] 53 (0, 0))) :: (.sl (.slice A8495 n8496 c8497) 61 1 n8496 cl8498) :: (.blk l11075 (rec11077 .busy none)) :: (.blk d11076 (.deferred (some []))) :: (.blk b10117 (.cells #[.slice A11221 x11220.length c11223] 22 (0, 0))) :: (.blk b10114 (.cells #[.slice A11433 x11431.length c11434] 22 (0, 0))) :: (.blk b10111 (.cells #[.int .i64 9] 3 (0, 0))) :: (.blk b8510 (.cells #[.pointer (some ⟨b8494, 0, none⟩)] 25 (0, 0))) :: (.sl (.slice A11221 x11220.length c11223) 3 1 x11220.length cl11224) :: (.sl (.slice A11433 x11431.length c11434) 3 1 x11431.length cl11435) :: F) w11441 := s.blkSl (i := 0) (n := 1) (c := 1) (size := 1) rfl rfl (Nat.le_refl _) (by decide)
              have hs11447 := St.src s (i := 0) rfl rfl rp11444
              have rq11448 := rp11444
              obtain ⟨x11449, hx11450, hf⟩ := bindS hf
              refine RW.op (by kernel_rfl) (OK.app hT (r := (Rp.int .i64)) (i := 10) (t := 22) (e := 3) (size := 1) (bytes := 8) (c := c11223) (n := x11220.length) (m := 1) s (by kernel_rfl) rfl rfl rfl rfl rfl (by decide) rfl rfl rfl rfl rp11226 hs11447 rq11448 flat_int rfl hx11450 ?_)
              rintro A11451 c11452 cl11453 w11454 s k11455 rp11456
              replace rp11444 := rp11444.st k11455
              replace rp11426 := rp11426.st k11455
              replace rp8500 := rp8500.st k11455
              replace rp11226 := rp11226.st k11455
              replace rp11438 := rp11438.st k11455
              replace eg0 := eg0.st k11455
              replace kk := kk.trans k11455
              refine RW.op (by kernel_rfl) (OK.store hT (i := 6) (b := b10117) (off := 0) (n := 1) (vs := [.slice A11451 x11449.length c11452]) (cs := [(.slice A11221 x11220.length c11223)]) (e := 22) s (by kernel_rfl) rfl rfl (flat_ok rfl) (Nat.le_of_ble_eq_true rfl) ?_)
              rintro w11457 s k11458 -
              replace rp11444 := rp11444.st k11458
              replace rp11426 := rp11426.st k11458
              replace rp8500 := rp8500.st k11458
              replace rp11456 := rp11456.st k11458
              replace rp11438 := rp11438.st k11458
              replace eg0 := eg0.st k11458
              replace kk := kk.trans k11458
              refine RW.nil ?_
              refine RoundEnd.next hrec11078 s (i := 4) rfl ?_
              intro w11459 s k11460
              replace rp11444 := rp11444.st k11460
              replace rp11426 := rp11426.st k11460
              replace rp8500 := rp8500.st k11460
              replace rp11456 := rp11456.st k11460
              replace rp11438 := rp11438.st k11460
              replace eg0 := eg0.st k11460
              replace kk := kk.trans k11460
              refine hR11414 _ _ ?_
              refine RW.seg hT 1 [] [] [.bool false] [] (by kernel_rfl) (trivial) ?_
              refine RW.nil ?_
              refine WPK.condF (by kernel_rfl) ?_
              refine WPK.skip ?_
              refine WPK.region ?_
              refine RW.seg hT 2 [.pointer (some ⟨b8494, 0, none⟩)] [] [.pointer (some ⟨b8494, 0, none⟩), .int .i64 x11366] [.cell ⟨b8510, 0, none⟩ (.pointer (some ⟨b8494, 0, none⟩))] (by kernel_rfl) (s.cell (i := 9) (off := 0) rfl rfl) ?_
              replace s := s.pick [2, 3, 0, 1, 4, 5, 6, 7, 8, 9, 10, 11] 12 rfl
              obtain ⟨x11461, hx11462, hf⟩ := bindS hf
              refine RW.op (by kernel_rfl) (OK.call' en27 (by kernel_rfl) (c27 (F := (.sl (.slice (some ⟨b11442, 0, none⟩) 1 1) 3 1 1 [.int .i64 (IntKind.i64.wrap (x11366 - x11219))]) :: (.sl (.slice (some ⟨b11424, 0, none⟩) 1 1) 3 1 1 [.int .i64 x11219]) :: (.blk l11075 (rec11077 .ready none)) :: (.blk d11076 (.deferred (some []))) :: (.blk b10117 (.cells #[.slice A11451 x11449.length c11452] 22 (0, 0))) :: (.blk b10114 (.cells #[.slice A11433 x11431.length c11434] 22 (0, 0))) :: (.blk b10111 (.cells #[.int .i64 9] 3 (0, 0))) :: (.blk b8510 (.cells #[.pointer (some ⟨b8494, 0, none⟩)] 25 (0, 0))) :: (.sl (.slice A11451 x11449.length c11452) 3 1 x11449.length cl11453) :: (.sl (.slice A11433 x11431.length c11434) 3 1 x11431.length cl11435) :: F) x8493 x11366 b8494 A8495 n8496 c8497 cl8498 hn8499 rp8500 eg0 s hx11462) ?_)
              intro X11465 hX11466
              refine fun _ _ hJ => hJ X11465 ?_
              intro I11467 w11463 s k11464
              refine hX11466 _ _ ?_
              replace rp8500 := rp8500.st k11464
              replace rp11444 := rp11444.st k11464
              replace rp11426 := rp11426.st k11464
              replace rp11456 := rp11456.st k11464
              replace rp11438 := rp11438.st k11464
              replace eg0 := eg0.st k11464
              replace kk := kk.trans k11464
              refine RW.seg hT 1 [] [] [.int .i64 x11461] [] (by kernel_rfl) (trivial) ?_
              refine RW.nil ?_
              subst hrec11354
              replace s := s.pick [0, 1, 4, 5, 6, 7, 8, 9, 10, 11] 12 rfl
              exact ⟨n11353, Nat.le_refl _, fun X h => kc (by kernel_rfl) rfl (h I11467 x11461 x11449 x11431 [(D11365.getD 0 undef), .int .i64 x11366, (D11365.getD 1 undef), (D11365.getD 2 undef), (D11365.getD 3 undef), (D11365.getD 4 undef), .int .i64 x11219, .bool (decide (x11219 ≥ 0)), (D11365.getD 5 undef), (D11365.getD 6 undef), .int .i64 x11357, .int .i64 x11357, .bool (decide (x11357 < 0)), (D11365.getD 7 undef), (D11365.getD 8 undef), (D11365.getD 9 undef), (D11365.getD 10 undef), .func (.yield l11075) #[] #[], .int .i64 x11219, .int .i64 x11366, .int .i64 x11219, .int .i64 (IntKind.i64.wrap (x11366 - x11219)), .bool true, .bool false, .pointer (some ⟨b8494, 0, none⟩), .int .i64 x11366, .int .i64 x11461] A11451 c11452 cl11453 A11433 c11434 cl11435 _ hf s kk rp11456 rp11438 rp8500 eg0)⟩
          · refine WPK.seq ?_
            refine WPK.region ?_
            refine RW.seg hT 2 [] [] [.int .i64 x11357, .bool (decide (x11357 < 0))] [] (by kernel_rfl) (trivial) ?_
            refine RW.nil ?_
            by_cases h11470 : x11357 < 0
            · have hf := iteT h11470 hf
              refine WPK.condT (Eq.trans (b := .bool (decide (x11357 < 0))) (by kernel_rfl) (bo_t h11470)) ?_
              refine WPK.region ?_
              refine RW.seg hT 5 [.pointer (some ⟨b8494, 0, none⟩), .int .i64 x8493.n] [] [.pointer (some ⟨b8494, 0, none⟩), .pointer (some ⟨b8494, 0, none⟩), .pointer (some ⟨b8494, 0, none⟩), .int .i64 x8493.n, .int .i64 x8493.n] [.cell ⟨b8510, 0, none⟩ (.pointer (some ⟨b8494, 0, none⟩)), .cell ⟨b8494, 0, none⟩ (.int .i64 x8493.n)] (by kernel_rfl) (⟨s.cell (i := 7) (off := 0) rfl rfl, s.cell (i := 0) (off := 0) rfl rfl⟩) ?_
              refine RW.nil ?_
              exact fun X h => kc (by kernel_rfl) rfl (h x8493.n [(D11218.getD 0 undef), (D11218.getD 2 undef), (D11218.getD 3 undef), (D11218.getD 4 undef), (D11218.getD 5 undef), .pointer none, .int .i64 x11219, .pointer (some ⟨b8494, 0, none⟩), .pointer (some ⟨b8494, 0, none⟩), .pointer (some ⟨b8494, 0, none⟩), .int .i64 x8493.n, (D11218.getD 17 undef), (D11218.getD 18 undef), (D11218.getD 21 undef), (D11218.getD 24 undef), (D11218.getD 25 undef)] hf)
            · have hf := iteF h11470 hf
              refine WPK.condF (Eq.trans (b := .bool (decide (x11357 < 0))) (by kernel_rfl) (bo_f h11470)) ?_
              refine WPK.skip ?_
              exact fun X h => kc (by kernel_rfl) rfl (h x11357 [(D11218.getD 0 undef), (D11218.getD 2 undef), (D11218.getD 3 undef), (D11218.getD 4 undef), (D11218.getD 5 undef), .pointer none, .int .i64 x11219, (D11218.getD 13 undef), (D11218.getD 14 undef), (D11218.getD 15 undef), (D11218.getD 16 undef), (D11218.getD 17 undef), (D11218.getD 18 undef), (D11218.getD 21 undef), (D11218.getD 24 undef), (D11218.getD 25 undef)] hf)
        · have hf := iteF h11356 hf
          refine WPK.condF (Eq.trans (b := .bool (decide (x11219 ≥ 0))) (by kernel_rfl) (bo_f h11356)) ?_
          refine WPK.exit (blockQ.same ?_)
          refine Fin.of (rs := []) hT [] (.tuple #[]) [] rfl (by kernel_rfl) (trivial) ?_
          refine hR11082 _ _ (RangeEnd.done hrec11078 s (i := 2) rfl ?_)
          intro w11471 s k11472
          replace rp8500 := rp8500.st k11472
          replace rp11226 := rp11226.st k11472
          replace rp11234 := rp11234.st k11472
          replace eg0 := eg0.st k11472
          replace kk := kk.trans k11472
          replace s := s.pick [0, 1, 3, 4, 7, 8, 2] 9 rfl
          exact fun X h => kc (by kernel_rfl) rfl (h I11237 x11220 x11228 d11076 [.func (.func 31) #[] #[.pointer (some ⟨b8510, 0, none⟩)], .int .i64 9, undef, .pointer (some ⟨b10111, 0, none⟩), undef, undef, .func (.func 31) #[] #[.pointer (some ⟨b8510, 0, none⟩)], .bool false, .func (.func 31) #[] #[.pointer (some ⟨b8510, 0, none⟩)], undef, undef, undef, undef, undef, undef, undef, undef, undef, undef, undef, undef, undef, undef] A11221 c11223 cl11224 A11229 c11231 cl11232 _ hf s kk rp11226 rp11234 rp8500 eg0)
      · intro x11091 I11090 b11092 A11093 n11094 c11095 cl11096 w11085 hv s k11086 hn11097 rp11098
        refine hX11088 _ _ ?_
        replace hf := optS hv hf
        replace rp8500 := rp8500.st k11086
        replace rp8477 := rp8477.st k11086
        replace eg0 := eg0.st k11086
        replace kk := kk.trans k11086
        refine RW.seg hT 1 [] [] [.pointer (some ⟨b11092, 0, none⟩)] [] (by kernel_rfl) (trivial) ?_
        refine RW.nil ?_
        refine WPK.seq ?_
        refine WPK.region ?_
        refine RW.seg hT 1 [.pointer (some ⟨b8494, 0, none⟩)] [] [.pointer (some ⟨b8494, 0, none⟩)] [.cell ⟨b8510, 0, none⟩ (.pointer (some ⟨b8494, 0, none⟩))] (by kernel_rfl) (s.cell (i := 9) (off := 0) rfl rfl) ?_
        replace s := s.pick [2, 3, 0, 1, 4, 5, 6, 7, 8, 9, 10] 11 rfl
        obtain ⟨x11477, hx11478, hf⟩ := bindS hf
        refine RW.op (by kernel_rfl) (OK.call' en27 (by kernel_rfl) (c27 (F := (.blk b11092 (.cells #[.int .i64 x11091.n, .slice A11093 n11094 c11095] 53 (0, 0))) :: (.sl (.slice A11093 n11094 c11095) 61 1 n11094 cl11096) :: (.blk l11075 (rec11077 .ready none)) :: (.blk d11076 (.deferred (some []))) :: (.blk b10117 (.cells #[.slice none 0 0] 22 (0, 0))) :: (.blk b10114 (.cells #[.slice none 0 0] 22 (0, 0))) :: (.blk b10111 (.cells #[.int .i64 9] 3 (0, 0))) :: (.blk b8510 (.cells #[.pointer (some ⟨b8494, 0, none⟩)] 25 (0, 0))) :: (.sl (.slice (some ⟨b8475, 0, none⟩) 3 3) 3 1 3 [.int .i64 5, .int .i64 1, .int .i64 2]) :: F) x8493 0 b8494 A8495 n8496 c8497 cl8498 hn8499 rp8500 eg0 s hx11478) ?_)
        intro X11481 hX11482
        refine fun _ _ hJ => hJ X11481 ?_
        intro I11483 w11479 s k11480
        refine hX11482 _ _ ?_
        replace rp8500 := rp8500.st k11480
        replace rp11098 := rp11098.st k11480
        replace rp8477 := rp8477.st k11480
        replace eg0 := eg0.st k11480
        replace kk := kk.trans k11480
        refine RW.seg hT 1 [] [] [.int .i64 x11477] [] (by kernel_rfl) (trivial) ?_
        refine RW.nil ?_
        refine WPK.block ?_
        replace s := s.pushNil 3 1
        replace s := s.pushNil 3 1
        replace s := s.pick [2, 3, 4, 5, 6, 7, 8, 9, 10, 11, 1, 0] 13 rfl
        refine WPK.loop' (J := fun n11730 E ds wz => ∀ X : Kont, (∀ (I11614 : Nat → Prop) (x11596 : Int) (x11597 : (List Int)) (x11605 : (List Int)) (D11595 : List Value) (A11598 : Option Addr) (c11600 : Nat) (cl11601 : List Value) (A11606 : Option Addr) (c11608 : Nat) (cl11609 : List Value) (w' : World), g8_l5 x8493 x11091 n11730 x11596 x11597 x11605 = some r → St w0 M I11614 ((.blk b8494 (.cells #[.int .i64 x8493.n, .slice A8495 n8496 c8497] 53 (0, 0))) :: (.sl (.slice A8495 n8496 c8497) 61 1 n8496 cl8498) :: (.blk b11092 (.cells #[.int .i64 x11091.n, .slice A11093 n11094 c11095] 53 (0, 0))) :: (.sl (.slice A11093 n11094 c11095) 61 1 n11094 cl11096) :: (.blk l11075 (rec11077 .ready none)) :: (.blk d11076 (.deferred (some []))) :: (.blk b10117 (.cells #[.slice A11598 x11597.length c11600] 22 (0, 0))) :: (.blk b10114 (.cells #[.slice A11606 x11605.length c11608] 22 (0, 0))) :: (.blk b10111 (.cells #[.int .i64 9] 3 (0, 0))) :: (.blk b8510 (.cells #[.pointer (some ⟨b8494, 0, none⟩)] 25 (0, 0))) :: (.sl (.slice A11598 x11597.length c11600) 3 1 x11597.length cl11601) :: (.sl (.slice A11606 x11605.length c11608) 3 1 x11605.length cl11609) :: F) w' → Kp I w I11614 w' → RepL (Rp.int .i64) I11614 w' cl11601 x11597 → RepL (Rp.int .i64) I11614 w' cl11609 x11605 → RepL (Rp.int .u64) I11614 w' cl8498 x8493.w → RepL (Rp.int .u64) I11614 w' cl11096 x11091.w → Elems (Rp.int .u8) I11614 w' (some ⟨0, 0, none⟩) TAB0 → X [.func (.yield l11075) #[] #[], .pointer (some ⟨b8510, 0, none⟩), (D11595.getD 0 undef), .pointer (some ⟨b11092, 0, none⟩), .int .i64 x11596, (D11595.getD 1 undef), (D11595.getD 2 undef), (D11595.getD 3 undef), (D11595.getD 4 undef), (D11595.getD 5 undef), (D11595.getD 6 undef), (D11595.getD 7 undef), (D11595.getD 8 undef), (D11595.getD 9 undef), (D11595.getD 10 undef), (D11595.getD 11 undef), (D11595.getD 12 undef), (D11595.getD 13 undef), (D11595.getD 14 undef), (D11595.getD 15 undef), (D11595.getD 16 undef), (D11595.getD 17 undef), (D11595.getD 18 undef), (D11595.getD 19 undef), (D11595.getD 20 undef), (D11595.getD 21 undef), (D11595.getD 22 undef), (D11595.getD 23 undef), (D11595.getD 24 undef), (D11595.getD 25 undef), (D11595.getD 26 undef)] [] w') → X E ds wz) FUEL (fun X h => kc (by kernel_rfl) rfl (h I11483 x11477 ([] : List Int) ([] : List Int) [undef, undef, .pointer (some ⟨b8494, 0, none⟩), .pointer (some ⟨b11092, 0, none⟩), .pointer (some ⟨b8494, 0, none⟩), .int .i64 x11477, undef, undef, undef, undef, undef, undef, undef, undef, undef, undef, undef, undef, undef, undef, undef, undef, undef, undef, undef, undef, undef] none 0 [] none 0 [] _ hf s kk (RepL.nil (r := (Rp.int .i64))) (RepL.nil (r := (Rp.int .i64))) rp8500 rp11098 eg0)) (fun _ _ _ hJ => hJ (fun _ _ _ => False) (by intro I11614 x11596 x11597 x11605 D11595 A11598 c11600 cl11601 A11606 c11608 cl11609 w11613 hf s kk rp11603 rp11611 rp8500 rp11098 eg0; exact noneS hf)) ?_
        intro X11852 hX11853
        refine fun n11730 _ _ _ hJ => hJ (X11852 n11730) ?_
        intro I11614 x11596 x11597 x11605 D11595 A11598 c11600 cl11601 A11606 c11608 cl11609 w11613 hf s kk rp11603 rp11611 rp8500 rp11098 eg0
        refine hX11853 _ _ _ _ ?_
        replace hf : g8_l5B x8493 x11091 (g8_l5 x8493 x11091 n11730) x11596 x11597 x11605 = some r := hf
        generalize hrec11731 : g8_l5 x8493 x11091 n11730 = rec11729 at hf
        unfold g8_l5B at hf
        refine WPK.seq ?_
        refine WPK.seq ?_
        refine WPK.region ?_
        refine RW.seg hT 2 [] [] [.int .i64 x11596, .bool (decide (x11596 ≥ 0))] [] (by kernel_rfl) (trivial) ?_
        refine RW.nil ?_
        by_cases h11733 : x11596 ≥ 0
        · have hf := iteT h11733 hf
          refine WPK.condT (Eq.trans (b := .bool (decide (x11596 ≥ 0))) (by kernel_rfl) (bo_t h11733)) ?_
          refine WPK.skip ?_
          refine WPK.block ?_
          refine WPK.seq ?_
          refine WPK.region ?_
          refine RW.seg hT 2 [] [] [.pointer (some ⟨b11092, 0, none⟩), .int .i64 x11596] [] (by kernel_rfl) (trivial) ?_
          replace s := s.pick [2, 3, 0, 1, 4, 5, 6, 7, 8, 9, 10, 11] 12 rfl
          obtain ⟨x11734, hx11735, hf⟩ := bindS hf
          refine RW.op (by kernel_rfl) (OK.call' en27 (by kernel_rfl) (c27 (F := (.blk b8494 (.cells #[.int .i64 x8493.n, .slice A8495 n8496 c8497] 53 (0, 0))) :: (.sl (.slice A8495 n8496 c8497) 61 1 n8496 cl8498) :: (.blk l11075 (rec11077 .ready none)) :: (.blk d11076 (.deferred (some []))) :: (.blk b10117 (.cells #[.slice A11598 x11597.length c11600] 22 (0, 0))) :: (.blk b10114 (.cells #[.slice A11606 x11605.length c11608] 22 (0, 0))) :: (.blk b10111 (.cells #[.int .i64 9] 3 (0, 0))) :: (.blk b8510 (.cells #[.pointer (some ⟨b8494, 0, none⟩)] 25 (0, 0))) :: (.sl (.slice A11598 x11597.length c11600) 3 1 x11597.length cl11601) :: (.sl (.slice A11606 x11605.length c11608) 3 1 x11605.length cl11609) :: F) x11091 x11596 b11092 A11093 n11094 c11095 cl11096 hn11097 rp11098 eg0 s hx11735) ?_)
          intro X11738 hX11739
          refine fun _ _ hJ => hJ X11738 ?_
          intro I11740 w11736 s k11737
          refine hX11739 _ _ ?_
          replace rp11098 := rp11098.st k11737
          replace rp8500 := rp8500.st k11737
          replace rp11603 := rp11603.st k11737
          replace rp11611 := rp11611.st k11737
          replace eg0 := eg0.st k11737
          replace kk := kk.trans k11737
          refine RW.seg hT 1 [] [] [.int .i64 x11734] [] (by kernel_rfl) (trivial) ?_
          refine RW.nil ?_
          refine WPK.seq ?_
          refine WPK.cut' (fun E ds wz => ∀ X : Kont, (∀ (x11743 : Int) (D11742 : List Value), g8_j6 x8493 x11596 x11597 x11605 rec11729 x11743 = some r → X [.func (.yield l11075) #[] #[], .pointer (some ⟨b8510, 0, none⟩), (D11742.getD 0 undef), .pointer (some ⟨b11092, 0, none⟩), .int .i64 x11596, .int .i64 x11743, (D11742.getD 1 undef), (D11742.getD 2 undef), (D11742.getD 3 undef), (D11742.getD 4 undef), .int .i64 x11596, .bool (decide (x11596 ≥ 0)), (D11742.getD 5 undef), (D11742.getD 6 undef), .int .i64 x11734, .int .i64 x11734, .bool (decide (x11734 < 0)), (D11742.getD 7 undef), (D11742.getD 8 undef), (D11742.getD 9 undef), (D11742.getD 10 undef), (D11742.getD 11 undef), (D11742.getD 12 undef), (D11595.getD 19 undef), (D11595.getD 20 undef), (D11742.getD 13 undef), (D11595.getD 22 undef), (D11595.getD 23 undef), (D11742.getD 14 undef), (D11742.getD 15 undef), (D11595.getD 26 undef)] [] w11736) → X E ds wz) ?_ ?_
          · intro X11845 hX11846
            refine fun _ _ _ hJ => hJ X11845 ?_
            intro x11743 D11742 hf
            refine hX11846 _ _ _ ?_
            unfold g8_j6 at hf
            refine WPK.seq ?_
            refine WPK.seq ?_
            refine WPK.region ?_
            refine RW.seg hT 5 [] [] [.func (.yield l11075) #[] #[], .int .i64 x11596, .int .i64 x11743, .int .i64 x11596, .int .i64 (IntKind.i64.wrap (x11743 - x11596))] [] (by kernel_rfl) (trivial) ?_
            refine RW.op (by kernel_rfl) (OK.yield (args := [.int .i64 x11596, .int .i64 (IntKind.i64.wrap (x11743 - x11596))]) hrec11078 s (i := 4) rfl (by kernel_rfl) rfl ?_)
            intro R11790 hR11791
            refine WPK.seq ?_
            refine WPK.region ?_
            refine RW.seg hT 1 [] [] [.int .i64 x11596] [] (by kernel_rfl) (trivial) ?_
            refine RW.nil ?_
            refine WPK.region ?_
            refine RW.seg hT 1 [] [] [.int .i64 (IntKind.i64.wrap (x11743 - x11596))] [] (by kernel_rfl) (trivial) ?_
            refine RW.nil ?_
            refine RoundBeg.of hrec11078 s (i := 4) rfl ?_
            intro w11792 s k11793
            replace rp11098 := rp11098.st k11793
            replace rp8500 := rp8500.st k11793
            replace rp11603 := rp11603.st k11793
            replace rp11611 := rp11611.st k11793
            replace eg0 := eg0.st k11793
            replace kk := kk.trans k11793
            refine WPK.block ?_
            refine WPK.seq ?_
            refine WPK.seq ?_
            refine WPK.region ?_
            refine RW.seg hT 4 [.slice A11606 x11605.length c11608, .int .i64 9] [(16, .int .i64 (x11605.length : Int))] [.slice A11606 x11605.length c11608, .int .i64 (x11605.length : Int), .int .i64 9, .bool (decide ((x11605.length : Int) ≥ 9))] [.cell ⟨b10114, 0, none⟩ (.slice A11606 x11605.length c11608), .veq (.int .i64 (x11605.length : Nat)) (.int .i64 (x11605.length : Int)), .cell ⟨b10111, 0, none⟩ (.int .i64 9)] (by kernel_rfl) (⟨s.cell (i := 7) (off := 0) rfl rfl, len_v rfl, s.cell (i := 8) (off := 0) rfl rfl⟩) ?_
            refine RW.nil ?_
            by_cases h11795 : (x11605.length : Int) ≥ 9
            · have hf := iteT h11795 hf
              refine WPK.condT (Eq.trans (b := .bool (decide ((x11605.length : Int) ≥ 9))) (by kernel_rfl) (bo_t h11795)) ?_
              refine WPK.exit (blockQ.other rfl (?_))
              refine RoundEnd.stop (Code.exit 0) hrec11078 s (i := 4) rfl ?_
              intro w11796 s k11797
              replace rp11098 := rp11098.st k11797
              replace rp8500 := rp8500.st k11797
              replace rp11603 := rp11603.st k11797
              replace rp11611 := rp11611.st k11797
              replace eg0 := eg0.st k11797
              replace kk := kk.trans k11797
              refine hR11791 _ _ ?_
              refine RW.seg hT 1 [] [] [.bool true] [] (by kernel_rfl) (trivial) ?_
              refine RW.nil ?_
              refine WPK.condT (by kernel_rfl) ?_
              refine WPK.ret (blockQ.ret (blockQ.ret (?_)))
              refine Fin.of (rs := []) hT [] (.tuple #[]) [] rfl (by kernel_rfl) (trivial) ?_
              refine hR11082 _ _ (RangeEnd.jump hrec11078 s (i := 4) rfl ?_)
              intro w11798 s k11799
              replace rp11098 := rp11098.st k11799
              replace rp8500 := rp8500.st k11799
              replace rp11603 := rp11603.st k11799
              replace rp11611 := rp11611.st k11799
              replace eg0 := eg0.st k11799
              replace kk := kk.trans k11799
              refine WPK.exit (blockQ.same ?_)
              replace s := s.pick [2, 3, 5, 6, 9, 10, 4] 11 rfl
              exact fun X h => kc (by kernel_rfl) rfl (h I11740 x11597 x11605 d11076 [.func (.func 31) #[] #[.pointer (some ⟨b8510, 0, none⟩)], .int .i64 9, undef, .pointer (some ⟨b10111, 0, none⟩), undef, undef, .func (.func 31) #[] #[.pointer (some ⟨b8510, 0, none⟩)], .bool false, .func (.func 31) #[] #[.pointer (some ⟨b8510, 0, none⟩)], undef, undef, undef, undef, undef, undef, undef, undef, undef, undef, undef, undef, undef, undef] A11598 c11600 cl11601 A11606 c11608 cl11609 _ hf s kk rp11603 rp11611 rp8500 eg0)
            · have hf := iteF h11795 hf
              refine WPK.condF (Eq.trans (b := .bool (decide ((x11605.length : Int) ≥ 9))) (by kernel_rfl) (bo_f h11795)) ?_
              refine WPK.skip ?_
              refine WPK.seq ?_
              refine WPK.region ?_
              refine RW.seg hT 2 [.slice A11606 x11605.length c11608] [] [.slice A11606 x11605.length c11608, .int .i64 x11596] [.cell ⟨b10114, 0, none⟩ (.slice A11606 x11605.length c11608)] (by kernel_rfl) (s.cell (i := 7) (off := 0) rfl rfl) ?_
              refine RW.op (by kernel_rfl) (OK.new hT (f := fun b => .slice (some ⟨b, 0, none⟩) 1 1) (cs := [.int .i64 x11596]) (e := 3) (c := .tt) s (by kernel_rfl) trivial ?_)
              rintro w11800 b11801 s k11802 -
              replace rp11098 := rp11098.st k11802
              replace rp8500 := rp8500.st k11802
              replace rp11603 := rp11603.st k11802
              replace rp11611 := rp11611.st k11802
              replace eg0 := eg0.st k11802
              replace kk := kk.trans k11802
              have rp11803 : RepL (Rp.int .i64) I11740 w11800 [.int .i64 x11596] ([x11596] : List Int) := RepL.cons (c := [.int .i64 x11596]) (d := []) (rfl) (RepL.nil)
              replace s : St w0 M I11740 ((.sl (.slice (some ⟨b11801, 0, none⟩) 1 1) 3 1 1 [.int .i64 x11596]) :: (.blk b11092 (.cells #[.int .i64 x11091.n, .slice A11093 n11094 c11095] 53 (0, 0))) :: (.sl (.slice A11093 n11094 c11095) 61 1 n11094 cl11096) :: (.blk b8494 (.cells #[.int .i64 x8493.n, .slice A8495 n8496 c8497] 53 (0, 0))) :: (.sl (.slice A8495 n8496 c8497) 61 1 n8496 cl8498) :: (.blk l11075 (rec11077 .busy none)) :: (.blk d11076 (.deferred (some []))) :: (.blk b10117 (.cells #[.slice A11598 x11597.length c11600] 22 (0, 0))) :: (.blk b10114 (.cells #[.slice A11606 x11605.length c11608] 22 (0, 0))) :: (.blk b10111 (.cells #[.int .i64 9] 3 (0, 0))) :: (.blk b8510 (.cells #[.pointer (some ⟨b8494, 0, none⟩)] 25 (0, 0))) :: (.sl (.slice A11598 x11597.length c11600) 3 1 x11597.length cl11601) :: (.sl (.slice A11606 x11605.length c11608) 3 1 x11605.length cl11609) :: F) w11800 := s.blkSl (i := 0) (n := 1) (c := 1) (size := 1) rfl rfl (Nat.le_refl _) (by decide)
              have hs11806 := St.src s (i := 0) rfl rfl rp11803
              have rq11807 := rp11803
              obtain ⟨x11808, hx11809, hf⟩ := bindS hf
              refine RW.op (by kernel_rfl) (OK.app hT (r := (Rp.int .i64)) (i := 12) (t := 22) (e := 3) (size := 1) (bytes := 8) (c := c11608) (n := x11605.length) (m := 1) s (by kernel_rfl) rfl rfl rfl rfl rfl (by decide) rfl rfl rfl rfl rp11611 hs11806 rq11807 flat_int rfl hx11809 ?_)
              rintro A11810 c11811 cl11812 w11813 s k11814 rp11815
              replace rp11803 := rp11803.st k11814
              replace rp11098 := rp11098.st k11814
              replace rp8500 := rp8500.st k11814
              replace rp11603 := rp11603.st k11814
              replace rp11611 := rp11611.st k11814
              replace eg0 := eg0.st k11814
              replace kk := kk.trans k11814
              refine RW.op (by kernel_rfl) (OK.store hT (i := 8) (b := b10114) (off := 0) (n := 1) (vs := [.slice A11810 x11808.length c11811]) (cs := [(.slice A11606 x11605.length c11608)]) (e := 22) s (by kernel_rfl) rfl rfl (flat_ok rfl) (Nat.le_of_ble_eq_true rfl) ?_)
              rintro w11816 s k11817 -
              replace rp11803 := rp11803.st k11817
              replace rp11098 := rp11098.st k11817
              replace rp8500 := rp8500.st k11817
              replace rp11603 := rp11603.st k11817
              replace rp11815 := rp11815.st k11817
              replace eg0 := eg0.st k11817
              replace kk := kk.trans k11817
              refine RW.nil ?_
              refine WPK.region ?_
              refine RW.seg hT 2 [.slice A11598 x11597.length c11600] [] [.slice A11598 x11597.length c11600, .int .i64 (IntKind.i64.wrap (x11743 - x11596))] [.cell ⟨b10117, 0, none⟩ (.slice A11598 x11597.length c11600)] (by kernel_rfl) (s.cell (i := 7) (off := 0) rfl rfl) ?_
              refine RW.op (by kernel_rfl) (OK.new hT (f := fun b => .slice (some ⟨b, 0, none⟩) 1 1) (cs := [.int .i64 (IntKind.i64.wrap (x11743 - x11596))]) (e := 3) (c := .tt) s (by kernel_rfl) trivial ?_)
              rintro w11818 b11819 s k11820 -
              replace rp11803 := rp11803.st k11820
              replace rp11098 := rp11098.st k11820
              replace rp8500 := rp8500.st k11820
              replace rp11603 := rp11603.st k11820
              replace rp11815 := rp11815.st k11820
              replace eg0 := eg0.st k11820
              replace kk := kk.trans k11820
              have rp11821 : RepL (Rp.int .i64) I11740 w11818 [.int .i64 (IntKind.i64.wrap (x11743 - x11596))] ([IntKind.i64.wrap (x11743 - x11596)] : List Int) := RepL.cons (c := [.int .i64 (IntKind.i64.wrap (x11743 - x11596))]) (d := []) (rfl) (RepL.nil)
              replace s : St w0 M I11740 ((.sl (.slice (some ⟨b11819, 0, none⟩) 1 1) 3 1 1 [.int .i64 (IntKind.i64.wrap (x11743 - x11596))]) :: (.sl (.slice (some ⟨b11801, 0, none⟩) 1 1) 3 1 1 [.int .i64 x11596]) :: (.blk b11092 (.cells #[.int .i64 x11091.n, .slice A11093 n11094 c11095] 53 (0, 0))) :: (.sl (.slice A11093 n11094 c11095) 61 1 n11094 cl11096) :: (.blk b8494 (.cells #[.int .i64 x8493.n, .slice A8495 n8496 c8497] 53 (0, 0))) :: (.sl (.slice A8495 n8496 c8497) 61 1 n8496 cl8498) :: (.blk l11075 (rec11077 .busy none)) :: (.blk d11076 (.deferred (some []))) :: (.blk b10117 (.cells #[.slice A11598 x11597.length c11600] 22 (0, 0))) :: (.blk b10114 (.cells #[.slice A11810 x11808.length c11811] 22 (0, 0))) :: (.blk b10111 (.cells #[.int .i64 9] 3 (0, 0))) :: (.blk b8510 (.cells #[.pointer (some ⟨b8494, 0, none⟩)] 25 (0, 0))) :: (.sl (.slice A11598 x11597.length c11600) 3 1 x11597.length cl11601) :: (.sl (.slice A11810 x11808.length c11811) 3 1 x11808.length cl11812) :: F) w11818 := s.blkSl (i := 0) (n := 1) (c := 1) (size := 1) rfl rfl (Nat.le_refl _) (by decide)
              have hs11824 := St.src s (i := 0) rfl rfl rp11821
              have rq11825 := rp11821
              obtain ⟨x11826, hx11827, hf⟩ := bindS hf
              refine RW.op (by kernel_rfl) (OK.app hT (r := (Rp.int .i64)) (i := 12) (t := 22) (e := 3) (size := 1) (bytes := 8) (c := c11600) (n := x11597.length) (m := 1) s (by kernel_rfl) rfl rfl rfl rfl rfl (by decide) rfl rfl rfl rfl rp11603 hs11824 rq11825 flat_int rfl hx11827 ?_)
              rintro A11828 c11829 cl11830 w11831 s k11832 rp11833
              replace rp11821 := rp11821.st k11832
              replace rp11803 := rp11803.st k11832
              replace rp11098 := rp11098.st k11832
              replace rp8500 := rp8500.st k11832
              replace rp11603 := rp11603.st k11832
              replace rp11815 := rp11815.st k11832
              replace eg0 := eg0.st k11832
              replace kk := kk.trans k11832
              refine RW.op (by kernel_rfl) (OK.store hT (i := 8) (b := b10117) (off := 0) (n := 1) (vs := [.slice A11828 x11826.length c11829]) (cs := [(.slice A11598 x11597.length c11600)]) (e := 22) s (by kernel_rfl) rfl rfl (flat_ok rfl) (Nat.le_of_ble_eq_true rfl) ?_)
              rintro w11834 s k11835 -
              replace rp11821 := rp11821.st k11835
              replace rp11803 := rp11803.st k11835
              replace rp11098 := rp11098.st k11835
              replace rp8500 := rp8500.st k11835
              replace rp11833 := rp11833.st k11835
              replace rp11815 := rp11815.st k11835
              replace eg0 := eg0.st k11835
              replace kk := kk.trans k11835
              refine RW.nil ?_
              refine RoundEnd.next hrec11078 s (i := 6) rfl ?_
              intro w11836 s k11837
              replace rp11821 := rp11821.st k11837
              replace rp11803 := rp11803.st k11837
              replace rp11098 := rp11098.st k11837
              replace rp8500 := rp8500.st k11837
              replace rp11833 := rp11833.st k11837
              replace rp11815 := rp11815.st k11837
              replace eg0 := eg0.st k11837
              replace kk := kk.trans k11837
              refine hR11791 _ _ ?_
              refine RW.seg hT 1 [] [] [.bool false] [] (by kernel_rfl) (trivial) ?_
              refine RW.nil ?_
              refine WPK.condF (by kernel_rfl) ?_
              refine WPK.skip ?_
              refine WPK.region ?_
              refine RW.seg hT 2 [.pointer (some ⟨b8494, 0, none⟩)] [] [.pointer (some ⟨b8494, 0, none⟩), .int .i64 x11743] [.cell ⟨b8510, 0, none⟩ (.pointer (some ⟨b8494, 0, none⟩))] (by kernel_rfl) (s.cell (i := 11) (off := 0) rfl rfl) ?_
              replace s := s.pick [4, 5, 0, 1, 2, 3, 6, 7, 8, 9, 10, 11, 12, 13] 14 rfl
              obtain ⟨x11838, hx11839, hf⟩ := bindS hf
              refine RW.op (by kernel_rfl) (OK.call' en27 (by kernel_rfl) (c27 (F := (.sl (.slice (some ⟨b11819, 0, none⟩) 1 1) 3 1 1 [.int .i64 (IntKind.i64.wrap (x11743 - x11596))]) :: (.sl (.slice (some ⟨b11801, 0, none⟩) 1 1) 3 1 1 [.int .i64 x11596]) :: (.blk b11092 (.cells #[.int .i64 x11091.n, .slice A11093 n11094 c11095] 53 (0, 0))) :: (.sl (.slice A11093 n11094 c11095) 61 1 n11094 cl11096) :: (.blk l11075 (rec11077 .ready none)) :: (.blk d11076 (.deferred (some []))) :: (.blk b10117 (.cells #[.slice A11828 x11826.length c11829] 22 (0, 0))) :: (.blk b10114 (.cells #[.slice A11810 x11808.length c11811] 22 (0, 0))) :: (.blk b10111 (.cells #[.int .i64 9] 3 (0, 0))) :: (.blk b8510 (.cells #[.pointer (some ⟨b8494, 0, none⟩)] 25 (0, 0))) :: (.sl (.slice A11828 x11826.length c11829) 3 1 x11826.length cl11830) :: (.sl (.slice A11810 x11808.length c11811) 3 1 x11808.length cl11812) :: F) x8493 x11743 b8494 A8495 n8496 c8497 cl8498 hn8499 rp8500 eg0 s hx11839) ?_)
              intro X11842 hX11843
              refine fun _ _ hJ => hJ X11842 ?_
              intro I11844 w11840 s k11841
              refine hX11843 _ _ ?_
              replace rp8500 := rp8500.st k11841
              replace rp11821 := rp11821.st k11841
              replace rp11803 := rp11803.st k11841
              replace rp11098 := rp11098.st k11841
              replace rp11833 := rp11833.st k11841
              replace rp11815 := rp11815.st k11841
              replace eg0 := eg0.st k11841
              replace kk := kk.trans k11841
              refine RW.seg hT 1 [] [] [.int .i64 x11838] [] (by kernel_rfl) (trivial) ?_
              refine RW.nil ?_
              subst hrec11731
              replace s := s.pick [0, 1, 4, 5, 6, 7, 8, 9, 10, 11, 12, 13] 14 rfl
              exact ⟨n11730, Nat.le_refl _, fun X h => kc (by kernel_rfl) rfl (h I11844 x11838 x11826 x11808 [(D11742.getD 0 undef), .int .i64 x11743, (D11742.getD 1 undef), (D11742.getD 2 undef), (D11742.getD 3 undef), (D11742.getD 4 undef), .int .i64 x11596, .bool (decide (x11596 ≥ 0)), (D11742.getD 5 undef), (D11742.getD 6 undef), .int .i64 x11734, .int .i64 x11734, .bool (decide (x11734 < 0)), (D11742.getD 7 undef), (D11742.getD 8 undef), (D11742.getD 9 undef), (D11742.getD 10 undef), .func (.yield l11075) #[] #[], .int .i64 x11596, .int .i64 x11743, .int .i64 x11596, .int .i64 (IntKind.i64.wrap (x11743 - x11596)), .bool true, .bool false, .pointer (some ⟨b8494, 0, none⟩), .int .i64 x11743, .int .i64 x11838] A11828 c11829 cl11830 A11810 c11811 cl11812 _ hf s kk rp11833 rp11815 rp8500 rp11098 eg0)⟩
          · refine WPK.seq ?_
            refine WPK.region ?_
            refine RW.seg hT 2 [] [] [.int .i64 x11734, .bool (decide (x11734 < 0))] [] (by kernel_rfl) (trivial) ?_
            refine RW.nil ?_
            by_cases h11847 : x11734 < 0
            · have hf := iteT h11847 hf
              refine WPK.condT (Eq.trans (b := .bool (decide (x11734 < 0))) (by kernel_rfl) (bo_t h11847)) ?_
              refine WPK.region ?_
              refine RW.seg hT 5 [.pointer (some ⟨b8494, 0, none⟩), .int .i64 x8493.n] [] [.pointer (some ⟨b8494, 0, none⟩), .pointer (some ⟨b8494, 0, none⟩), .pointer (some ⟨b8494, 0, none⟩), .int .i64 x8493.n, .int .i64 x8493.n] [.cell ⟨b8510, 0, none⟩ (.pointer (some ⟨b8494, 0, none⟩)), .cell ⟨b8494, 0, none⟩ (.int .i64 x8493.n)] (by kernel_rfl) (⟨s.cell (i := 9) (off := 0) rfl rfl, s.cell (i := 2) (off := 0) rfl rfl⟩) ?_
              refine RW.nil ?_
              exact fun X h => kc (by kernel_rfl) rfl (h x8493.n [(D11595.getD 0 undef), (D11595.getD 2 undef), (D11595.getD 3 undef), (D11595.getD 4 undef), (D11595.getD 5 undef), .pointer (some ⟨b11092, 0, none⟩), .int .i64 x11596, .pointer (some ⟨b8494, 0, none⟩), .pointer (some ⟨b8494, 0, none⟩), .pointer (some ⟨b8494, 0, none⟩), .int .i64 x8493.n, (D11595.getD 17 undef), (D11595.getD 18 undef), (D11595.getD 21 undef), (D11595.getD 24 undef), (D11595.getD 25 undef)] hf)
            · have hf := iteF h11847 hf
              refine WPK.condF (Eq.trans (b := .bool (decide (x11734 < 0))) (by kernel_rfl) (bo_f h11847)) ?_
              refine WPK.skip ?_
              exact fun X h => kc (by kernel_rfl) rfl (h x11734 [(D11595.getD 0 undef), (D11595.getD 2 undef), (D11595.getD 3 undef), (D11595.getD 4 undef), (D11595.getD 5 undef), .pointer (some ⟨b11092, 0, none⟩), .int .i64 x11596, (D11595.getD 13 undef), (D11595.getD 14 undef), (D11595.getD 15 undef), (D11595.getD 16 undef), (D11595.getD 17 undef), (D11595.getD 18 undef), (D11595.getD 21 undef), (D11595.getD 24 undef), (D11595.getD 25 undef)] hf)
        · have hf := iteF h11733 hf
          refine WPK.condF (Eq.trans (b := .bool (decide (x11596 ≥ 0))) (by kernel_rfl) (bo_f h11733)) ?_
          refine WPK.exit (blockQ.same ?_)
          refine Fin.of (rs := []) hT [] (.tuple #[]) [] rfl (by kernel_rfl) (trivial) ?_
          refine hR11082 _ _ (RangeEnd.done hrec11078 s (i := 4) rfl ?_)
          intro w11848 s k11849
          replace rp8500 := rp8500.st k11849
          replace rp11098 := rp11098.st k11849
          replace rp11603 := rp11603.st k11849
          replace rp11611 := rp11611.st k11849
          replace eg0 := eg0.st k11849
          replace kk := kk.trans k11849
          replace s := s.pick [0, 1, 5, 6, 9, 10, 4] 11 rfl
          exact fun X h => kc (by kernel_rfl) rfl (h I11614 x11597 x11605 d11076 [.func (.func 31) #[] #[.pointer (some ⟨b8510, 0, none⟩)], .int .i64 9, undef, .pointer (some ⟨b10111, 0, none⟩), undef, undef, .func (.func 31) #[] #[.pointer (some ⟨b8510, 0, none⟩)], .bool false, .func (.func 31) #[] #[.pointer (some ⟨b8510, 0, none⟩)], undef, undef, undef, undef, undef, undef, undef, undef, undef, undef, undef, undef, undef, undef] A11598 c11600 cl11601 A11606 c11608 cl11609 _ hf s kk rp11603 rp11611 rp8500 eg0)
theorem c9 {w0 w : World} {M I : Nat → Prop} {F : List It} (p0 : Int) (p1 : (List Int)) (A11870 : Option Addr) (c11871 : Nat) (hc11872 : (p1.length ≤ c11871 ∧ c11871 ≤ 9223372036854775807)) (e11873 : Elems (Rp.int .i64) I w A11870 p1) (s : St w0 M I (F) w) {r : Bool} (hf : g9 p0 p1 = some r) :
    Ret Tryd.prog 9 [.int .i64 p0, .slice A11870 p1.length c11871] w fun v wz => ∀ X : Value → World → Prop, (∀ (I' : Nat → Prop) (w' : World), St w0 M I' (F) w' → Kp I w I' w' → X (.bool r) w') → X v wz := by
  have kk : Kp I w I w := Kp.refl
  unfold g9 at hf
  refine Ret.of Tryd.func9 rfl ?_
  refine WPK.seq ?_
  refine WPK.region ?_
  refine RW.seg hT 1 [] [] [.bool false] [] (by kernel_rfl) (trivial) ?_
  refine RW.nil ?_
  refine WPK.seq ?_
  refine WPK.region ?_
  refine RW.seg hT 2 [] [] [.int .i64 p0, .bool (decide (p0 ≥ 1))] [] (by kernel_rfl) (trivial) ?_
  by_cases h11876 : p0 ≥ 1
  · have hf := iteT h11876 hf
    refine RW.seg hT 4 [] [(7, .bool true)] [.bool true, .int .i64 p0, .bool (decide (p0 ≤ 300)), .bool (decide (p0 ≤ 300))] [.veq (.bool (decide (p0 ≥ 1))) (.bool true)] (by kernel_rfl) (bo_t h11876) ?_
    by_cases h11877 : p0 ≤ 300
    · have hf := iteT h11877 hf
      refine RW.seg hT 6 [] [(11, .bool true)] [.bool true, .slice A11870 p1.length c11871, .int .i64 (p1.length : Int), .bool (decide ((p1.length : Int) ≤ 400)), .bool (decide ((p1.length : Int) ≤ 400)), .bool (decide ((p1.length : Int) ≤ 400))] [.veq (.bool (decide (p0 ≤ 300))) (.bool true)] (by kernel_rfl) (bo_t h11877) ?_
      refine RW.nil ?_
      refine WPK.ret (?_)
      obtain rfl := someS hf
      refine Fin.of (rs := [.tmp 4]) hT [] (.bool (decide ((p1.length : Int) ≤ 400))) [] rfl (by kernel_rfl) (trivial) ?_
      exact fun X h => vc rfl (h I _ s kk)
    · have hf := iteF h11877 hf
      refine RW.seg hT 6 [] [(11, .bool false)] [.bool false, undef, undef, undef, .bool false, .bool false] [.veq (.bool (decide (p0 ≤ 300))) (.bool false)] (by kernel_rfl) (bo_f h11877) ?_
      refine RW.nil ?_
      refine WPK.ret (?_)
      obtain rfl := someS hf
      refine Fin.of (rs := [.tmp 4]) hT [] (.bool false) [] rfl (by kernel_rfl) (trivial) ?_
      exact fun X h => vc rfl (h I _ s kk)
  · have hf := iteF h11876 hf
    refine RW.seg hT 10 [] [(7, .bool false)] [.bool false, undef, undef, .bool false, .bool false, undef, undef, undef, .bool false, .bool false] [.veq (.bool (decide (p0 ≥ 1))) (.bool false)] (by kernel_rfl) (bo_f h11876) ?_
    refine RW.nil ?_
    refine WPK.ret (?_)
    obtain rfl := someS hf
    refine Fin.of (rs := [.tmp 4]) hT [] (.bool false) [] rfl (by kernel_rfl) (trivial) ?_
    exact fun X h => vc rfl (h I _ s kk)
end Go.Proofs.YtgcielbnmlfjbaaDoor
