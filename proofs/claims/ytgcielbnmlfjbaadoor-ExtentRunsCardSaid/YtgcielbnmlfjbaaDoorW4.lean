/- PRINTED BY sy.py: each call computes what the plain function of its number tells. -/
import Derived.Test.YtgcielbnmlfjbaaDoorW3
namespace Go.Proofs.YtgcielbnmlfjbaaDoor
open Go Go.SX Go.RowKit
set_option maxRecDepth 100000
set_option linter.unusedVariables false
attribute [local irreducible] WPK RW RD Ret SX.Fin SX.Any opK RoundBeg RoundEnd RangeEnd Rounds
theorem c36 {w0 w : World} {M I : Nat → Prop} {F : List It} (p0 : (List Int)) (p1 : (List Int)) (A34170 : Option Addr) (c34171 : Nat) (A34174 : Option Addr) (c34175 : Nat) (hc34172 : (p0.length ≤ c34171 ∧ c34171 ≤ 9223372036854775807)) (e34173 : Elems (Rp.int .u64) I w A34170 p0) (hc34176 : (p1.length ≤ c34175 ∧ c34175 ≤ 9223372036854775807)) (e34177 : Elems (Rp.int .u64) I w A34174 p1) (s : St w0 M I (F) w) {r : Bool} (hf : g36 p0 p1 = some r) :
    Ret Tryd.prog 36 [.slice A34170 p0.length c34171, .slice A34174 p1.length c34175] w fun v wz => ∀ X : Value → World → Prop, (∀ (I' : Nat → Prop) (w' : World), St w0 M I' (F) w' → Kp I w I' w' → X (.bool r) w') → X v wz := by
  have kk : Kp I w I w := Kp.refl
  unfold g36 at hf
  refine Ret.of Tryd.func36 rfl ?_
  refine WPK.seq ?_
  refine WPK.region ?_
  refine RW.seg hT 1 [] [] [.bool false] [] (by kernel_rfl) (trivial) ?_
  refine RW.nil ?_
  refine WPK.seq ?_
  refine WPK.seq ?_
  refine WPK.region ?_
  refine RW.seg hT 5 [] [(10, .bool (decide ((p0.length : Int) ≠ (p1.length : Int))))] [.slice A34170 p0.length c34171, .int .i64 (p0.length : Int), .slice A34174 p1.length c34175, .int .i64 (p1.length : Int), .bool (decide ((p0.length : Int) ≠ (p1.length : Int)))] [.veq (.bool ((p0.length : Int) != (p1.length : Int))) (.bool (decide ((p0.length : Int) ≠ (p1.length : Int))))] (by kernel_rfl) (ne_v) ?_
  refine RW.nil ?_
  by_cases h34179 : (p0.length : Int) ≠ (p1.length : Int)
  · have hf := iteT h34179 hf
    refine WPK.condT (Eq.trans (b := .bool (decide ((p0.length : Int) ≠ (p1.length : Int)))) (by kernel_rfl) (bo_t h34179)) ?_
    refine WPK.seq ?_
    refine WPK.region ?_
    refine RW.seg hT 1 [] [] [.bool false] [] (by kernel_rfl) (trivial) ?_
    refine RW.nil ?_
    refine WPK.ret (?_)
    obtain rfl := someS hf
    refine Fin.of (rs := [.tmp 4]) hT [] (.bool false) [] rfl (by kernel_rfl) (trivial) ?_
    exact fun X h => vc rfl (h I _ s kk)
  · have hf := iteF h34179 hf
    refine WPK.condF (Eq.trans (b := .bool (decide ((p0.length : Int) ≠ (p1.length : Int)))) (by kernel_rfl) (bo_f h34179)) ?_
    refine WPK.skip ?_
    refine WPK.seq ?_
    refine WPK.seq ?_
    refine WPK.region ?_
    refine RW.seg hT 3 [] [] [.slice A34170 p0.length c34171, .int .i64 (p0.length : Int), .int .i64 0] [] (by kernel_rfl) (trivial) ?_
    refine RW.nil ?_
    refine WPK.block ?_
    refine WPK.loop' (J := fun n34446 E ds wz => ∀ X : Kont, (∀ (I34394 : Nat → Prop) (x34392 : Int) (D34391 : List Value) (w' : World), g36_l1 p0 p1 n34446 x34392 = some r → St w0 M I34394 (F) w' → Kp I w I34394 w' → Elems (Rp.int .u64) I34394 w' A34170 p0 → Elems (Rp.int .u64) I34394 w' A34174 p1 → X [.slice A34170 p0.length c34171, .slice A34174 p1.length c34175, (D34391.getD 0 undef), (D34391.getD 1 undef), .bool false, (D34391.getD 2 undef), (D34391.getD 3 undef), (D34391.getD 4 undef), (D34391.getD 5 undef), (D34391.getD 6 undef), (D34391.getD 7 undef), (D34391.getD 8 undef), .int .i64 (p0.length : Int), .int .i64 x34392, (D34391.getD 9 undef), (D34391.getD 10 undef), (D34391.getD 11 undef), (D34391.getD 12 undef), (D34391.getD 13 undef), (D34391.getD 14 undef), (D34391.getD 15 undef), (D34391.getD 16 undef), (D34391.getD 17 undef), (D34391.getD 18 undef), (D34391.getD 19 undef), (D34391.getD 20 undef)] [] w') → X E ds wz) FUEL (fun X h => kc (by kernel_rfl) rfl (h I 0 [undef, undef, undef, .slice A34170 p0.length c34171, .int .i64 (p0.length : Int), .slice A34174 p1.length c34175, .int .i64 (p1.length : Int), .bool (decide ((p0.length : Int) ≠ (p1.length : Int))), .slice A34170 p0.length c34171, undef, undef, undef, undef, undef, undef, undef, undef, undef, undef, undef, undef] _ hf s kk e34173 e34177)) (fun _ _ _ hJ => hJ (fun _ _ _ => False) (by intro I34394 x34392 D34391 w34393 hf s kk e34173 e34177; exact noneS hf)) ?_
    intro X34498 hX34499
    refine fun n34446 _ _ _ hJ => hJ (X34498 n34446) ?_
    intro I34394 x34392 D34391 w34393 hf s kk e34173 e34177
    refine hX34499 _ _ _ _ ?_
    replace hf : g36_l1B p0 p1 (g36_l1 p0 p1 n34446) x34392 = some r := hf
    generalize hrec34447 : g36_l1 p0 p1 n34446 = rec34445 at hf
    unfold g36_l1B at hf
    refine WPK.seq ?_
    refine WPK.region ?_
    refine RW.seg hT 1 [] [] [.bool (decide (x34392 < (p0.length : Int)))] [] (by kernel_rfl) (trivial) ?_
    refine RW.nil ?_
    refine WPK.seq ?_
    by_cases h34449 : x34392 < (p0.length : Int)
    · have hf := iteT h34449 hf
      refine WPK.condT (Eq.trans (b := .bool (decide (x34392 < (p0.length : Int)))) (by kernel_rfl) (bo_t h34449)) ?_
      refine WPK.skip ?_
      refine WPK.seq ?_
      refine WPK.block ?_
      refine WPK.seq ?_
      refine WPK.region ?_
      refine RW.seg hT 2 [] [] [.int .i64 x34392, .int .i64 x34392] [] (by kernel_rfl) (trivial) ?_
      refine RW.nil ?_
      refine WPK.seq ?_
      have e34173S34474 := e34173
      have e34177S34474 := e34177
      have kS34478 : Kp I34394 w34393 I34394 w34393 := Kp.refl
      refine WPK.draw (fun w' => ∃ I' : Nat → Prop, St w0 M I' (F) w' ∧ Kp I34394 w34393 I' w') 9 (by kernel_rfl) ?_
      intro w34475 hd34476
      have k34477 := Kp.dr s hd34476
      replace s := s.dr hd34476
      replace e34173 := e34173.st k34477
      replace e34177 := e34177.st k34477
      replace kk := kk.trans k34477
      replace kS34478 := kS34478.trans k34477
      obtain ⟨x34479, hx34480, hf⟩ := bindS hf
      obtain ⟨h34481, hx34480⟩ := getS hx34480
      obtain ⟨b34482, o34483, rfl⟩ := Elems.opn e34173 hx34480
      obtain ⟨cs34484, hr34485, ha34486, hb34487⟩ := Elems.getI e34173S34474 hx34480
      obtain rfl : cs34484 = [.int .u64 x34479] := hr34485
      obtain ⟨x34488, hx34489, hf⟩ := bindS hf
      obtain ⟨h34490, hx34489⟩ := getS hx34489
      obtain ⟨b34491, o34492, rfl⟩ := Elems.opn e34177 hx34489
      obtain ⟨cs34493, hr34494, ha34495, hb34496⟩ := Elems.getI e34177S34474 hx34489
      obtain rfl : cs34493 = [.int .u64 x34488] := hr34494
      refine RD.seg hT (by kernel_rfl) [0, 1, 2, 3, 4, 5, 6, 7, 8] [.int .u64 x34479, .int .u64 x34488] [(24, .bool (decide (x34479 ≠ x34488)))] [.slice (some ⟨b34482, o34483, none⟩) p0.length c34171, .int .i64 x34392, .pointer (some ⟨b34482, o34483 + x34392.toNat * 1, none⟩), .int .u64 x34479, .slice (some ⟨b34491, o34492, none⟩) p1.length c34175, .int .i64 x34392, .pointer (some ⟨b34491, o34492 + x34392.toNat * 1, none⟩), .int .u64 x34488, .bool (decide (x34479 ≠ x34488))] [.idx x34392 p0.length, .cell ⟨b34482, o34483 + x34392.toNat * 1, none⟩ (.int .u64 x34479), .idx x34392 p1.length, .cell ⟨b34491, o34492 + x34392.toNat * 1, none⟩ (.int .u64 x34488), .veq (.bool (x34479 != x34488)) (.bool (decide (x34479 ≠ x34488)))] (by kernel_rfl) (by rintro w' ⟨I', s, k⟩; have e34173 := e34173S34474.st k; have e34177 := e34177S34474.st k; have ha34486 := ha34486.st k hb34487; have ha34495 := ha34495.st k hb34496; exact ⟨h34481, ha34486 0 _ rfl, h34490, ha34495 0 _ rfl, ne_v⟩) ⟨_, s.pick [] 0 rfl, kS34478⟩ ?_
      refine RD.done (by kernel_rfl) ?_
      by_cases h34497 : x34479 ≠ x34488
      · have hf := iteT h34497 hf
        refine WPK.condT (Eq.trans (b := .bool (decide (x34479 ≠ x34488))) (by kernel_rfl) (bo_t h34497)) ?_
        refine WPK.seq ?_
        refine WPK.region ?_
        refine RW.seg hT 1 [] [] [.bool false] [] (by kernel_rfl) (trivial) ?_
        refine RW.nil ?_
        refine WPK.ret (blockQ.ret (blockQ.ret (?_)))
        obtain rfl := someS hf
        refine Fin.of (rs := [.tmp 4]) hT [] (.bool false) [] rfl (by kernel_rfl) (trivial) ?_
        exact fun X h => vc rfl (h I34394 _ s kk)
      · have hf := iteF h34497 hf
        refine WPK.condF (Eq.trans (b := .bool (decide (x34479 ≠ x34488))) (by kernel_rfl) (bo_f h34497)) ?_
        refine WPK.skip ?_
        refine WPK.region ?_
        refine RW.seg hT 2 [] [] [.int .i64 (IntKind.i64.wrap (x34392 + 1)), .int .i64 (IntKind.i64.wrap (x34392 + 1))] [] (by kernel_rfl) (trivial) ?_
        refine RW.nil ?_
        subst hrec34447
        exact ⟨n34446, Nat.le_refl _, fun X h => kc (by kernel_rfl) rfl (h I34394 (IntKind.i64.wrap (x34392 + 1)) [(D34391.getD 0 undef), (D34391.getD 1 undef), .int .i64 x34392, (D34391.getD 3 undef), (D34391.getD 4 undef), (D34391.getD 5 undef), (D34391.getD 6 undef), (D34391.getD 7 undef), (D34391.getD 8 undef), .bool (decide (x34392 < (p0.length : Int))), .int .i64 x34392, .slice (some ⟨b34482, o34483, none⟩) p0.length c34171, .int .i64 x34392, .pointer (some ⟨b34482, o34483 + x34392.toNat * 1, none⟩), .int .u64 x34479, .slice (some ⟨b34491, o34492, none⟩) p1.length c34175, .int .i64 x34392, .pointer (some ⟨b34491, o34492 + x34392.toNat * 1, none⟩), .int .u64 x34488, .bool (decide (x34479 ≠ x34488)), .int .i64 (IntKind.i64.wrap (x34392 + 1))] _ hf s kk e34173 e34177)⟩
    · have hf := iteF h34449 hf
      refine WPK.condF (Eq.trans (b := .bool (decide (x34392 < (p0.length : Int)))) (by kernel_rfl) (bo_f h34449)) ?_
      refine WPK.exit (blockQ.same ?_)
      refine WPK.seq ?_
      refine WPK.region ?_
      refine RW.seg hT 1 [] [] [.bool true] [] (by kernel_rfl) (trivial) ?_
      refine RW.nil ?_
      refine WPK.ret (?_)
      obtain rfl := someS hf
      refine Fin.of (rs := [.tmp 4]) hT [] (.bool true) [] rfl (by kernel_rfl) (trivial) ?_
      exact fun X h => vc rfl (h I34394 _ s kk)
theorem c18 {w0 w : World} {M I : Nat → Prop} {F : List It} (p0 : T_extent_Set) (p1 : T_extent_Set) (b34561 : Nat) (A34562 : Option Addr) (n34563 : Nat) (c34564 : Nat) (cl34565 : List Value) (b34569 : Nat) (A34570 : Option Addr) (n34571 : Nat) (c34572 : Nat) (cl34573 : List Value) (hn34566 : n34563 = p0.w.length) (rp34567 : RepL (Rp.int .u64) I w cl34565 p0.w) (hn34574 : n34571 = p1.w.length) (rp34575 : RepL (Rp.int .u64) I w cl34573 p1.w) (s : St w0 M I ((.blk b34561 (.cells #[.int .i64 p0.n, .slice A34562 n34563 c34564] 53 (0, 0))) :: (.sl (.slice A34562 n34563 c34564) 61 1 n34563 cl34565) :: (.blk b34569 (.cells #[.int .i64 p1.n, .slice A34570 n34571 c34572] 53 (0, 0))) :: (.sl (.slice A34570 n34571 c34572) 61 1 n34571 cl34573) :: F) w) {r : Bool} (hf : g18 p0 p1 = some r) :
    Ret Tryd.prog 18 [.pointer (some ⟨b34561, 0, none⟩), .pointer (some ⟨b34569, 0, none⟩)] w fun v wz => ∀ X : Value → World → Prop, (∀ (I' : Nat → Prop) (w' : World), St w0 M I' ((.blk b34561 (.cells #[.int .i64 p0.n, .slice A34562 n34563 c34564] 53 (0, 0))) :: (.sl (.slice A34562 n34563 c34564) 61 1 n34563 cl34565) :: (.blk b34569 (.cells #[.int .i64 p1.n, .slice A34570 n34571 c34572] 53 (0, 0))) :: (.sl (.slice A34570 n34571 c34572) 61 1 n34571 cl34573) :: F) w' → Kp I w I' w' → X (.bool r) w') → X v wz := by
  have kk : Kp I w I w := Kp.refl
  unfold g18 at hf
  refine Ret.of Tryd.func18 rfl ?_
  refine WPK.seq ?_
  refine WPK.region ?_
  refine RW.seg hT 1 [] [] [.bool false] [] (by kernel_rfl) (trivial) ?_
  refine RW.nil ?_
  refine WPK.seq ?_
  refine WPK.seq ?_
  refine WPK.cut' (fun E ds wz => ∀ X : Kont, (∀ (I34662 : Nat → Prop) (x34660 : Bool) (D34659 : List Value) (w' : World), g18_j1 p0 p1 x34660 = some r → St w0 M I34662 ((.blk b34561 (.cells #[.int .i64 p0.n, .slice A34562 n34563 c34564] 53 (0, 0))) :: (.sl (.slice A34562 n34563 c34564) 61 1 n34563 cl34565) :: (.blk b34569 (.cells #[.int .i64 p1.n, .slice A34570 n34571 c34572] 53 (0, 0))) :: (.sl (.slice A34570 n34571 c34572) 61 1 n34571 cl34573) :: F) w' → Kp I w I34662 w' → RepL (Rp.int .u64) I34662 w' cl34565 p0.w → RepL (Rp.int .u64) I34662 w' cl34573 p1.w → X [.pointer (some ⟨b34561, 0, none⟩), .pointer (some ⟨b34569, 0, none⟩), (D34659.getD 0 undef), (D34659.getD 1 undef), .bool false, (D34659.getD 2 undef), (D34659.getD 3 undef), (D34659.getD 4 undef), (D34659.getD 5 undef), (D34659.getD 6 undef), .bool x34660, (D34659.getD 7 undef), undef, undef, (D34659.getD 8 undef), undef, undef, undef, undef, undef, undef, undef, undef, undef, undef, undef, undef, undef, undef, undef, (D34659.getD 9 undef), undef, undef, undef, (D34659.getD 10 undef), undef, undef] [] w') → X E ds wz) ?_ ?_
  · intro X34750 hX34751
    refine fun _ _ _ hJ => hJ X34750 ?_
    intro I34662 x34660 D34659 w34661 hf s kk rp34567 rp34575
    refine hX34751 _ _ _ ?_
    unfold g18_j1 at hf
    by_cases h34663 : x34660 = true
    · have hf := iteT h34663 hf
      refine WPK.condT (Eq.trans (b := .bool x34660) (by kernel_rfl) (b_t h34663)) ?_
      refine WPK.seq ?_
      refine WPK.cut' (fun E ds wz => ∀ X : Kont, (∀ (I34682 : Nat → Prop) (x34680 : Bool) (D34679 : List Value) (w' : World), g18_j2 x34680 = some r → St w0 M I34682 ((.blk b34569 (.cells #[.int .i64 p1.n, .slice A34570 n34571 c34572] 53 (0, 0))) :: (.sl (.slice A34570 n34571 c34572) 61 1 n34571 cl34573) :: (.blk b34561 (.cells #[.int .i64 p0.n, .slice A34562 n34563 c34564] 53 (0, 0))) :: (.sl (.slice A34562 n34563 c34564) 61 1 n34563 cl34565) :: F) w' → Kp I w I34682 w' → RepL (Rp.int .u64) I34682 w' cl34573 p1.w → RepL (Rp.int .u64) I34682 w' cl34565 p0.w → X [.pointer (some ⟨b34561, 0, none⟩), .pointer (some ⟨b34569, 0, none⟩), (D34679.getD 0 undef), (D34679.getD 1 undef), .bool x34680, (D34679.getD 2 undef), (D34679.getD 3 undef), (D34679.getD 4 undef), (D34679.getD 5 undef), (D34679.getD 6 undef), (D34679.getD 7 undef), (D34679.getD 8 undef), (D34679.getD 9 undef), (D34679.getD 10 undef), (D34679.getD 11 undef), (D34679.getD 12 undef), (D34679.getD 13 undef), undef, undef, undef, undef, undef, undef, undef, undef, undef, undef, undef, undef, undef, (D34679.getD 14 undef), undef, undef, undef, (D34679.getD 15 undef), undef, undef] [] w') → X E ds wz) ?_ ?_
      · intro X34683 hX34684
        refine fun _ _ _ hJ => hJ X34683 ?_
        intro I34682 x34680 D34679 w34681 hf s kk rp34575 rp34567
        refine hX34684 _ _ _ ?_
        unfold g18_j2 at hf
        refine WPK.ret (?_)
        obtain rfl := someS hf
        refine Fin.of (rs := [.tmp 4]) hT [] (.bool x34680) [] rfl (by kernel_rfl) (trivial) ?_
        replace s := s.pick [2, 3, 0, 1] 4 rfl
        exact fun X h => vc rfl (h I34682 _ s kk)
      · refine WPK.region ?_
        refine RW.seg hT 1 [] [] [.pointer (some ⟨b34561, 0, none⟩)] [] (by kernel_rfl) (trivial) ?_
        obtain ⟨x34685, hx34686, hf⟩ := bindS hf
        refine RW.op (by kernel_rfl) (OK.call' en34 (by kernel_rfl) (c34 (F := (.blk b34569 (.cells #[.int .i64 p1.n, .slice A34570 n34571 c34572] 53 (0, 0))) :: (.sl (.slice A34570 n34571 c34572) 61 1 n34571 cl34573) :: F) p0 b34561 A34562 n34563 c34564 cl34565 hn34566 rp34567 s hx34686) ?_)
        intro X34689 hX34690
        refine fun _ _ hJ => hJ X34689 ?_
        intro I34691 w34687 s k34688
        refine hX34690 _ _ ?_
        replace rp34567 := rp34567.st k34688
        replace rp34575 := rp34575.st k34688
        replace kk := kk.trans k34688
        by_cases h34692 : x34685 = true
        · have hf := iteT h34692 hf
          refine RW.seg hT 2 [] [(13, .bool true)] [.bool true, .pointer (some ⟨b34569, 0, none⟩)] [.veq (.bool (x34685)) (.bool true)] (by kernel_rfl) (b_t h34692) ?_
          replace s := s.pick [2, 3, 0, 1] 4 rfl
          obtain ⟨x34693, hx34694, hf⟩ := bindS hf
          refine RW.op (by kernel_rfl) (OK.call' en34 (by kernel_rfl) (c34 (F := (.blk b34561 (.cells #[.int .i64 p0.n, .slice A34562 n34563 c34564] 53 (0, 0))) :: (.sl (.slice A34562 n34563 c34564) 61 1 n34563 cl34565) :: F) p1 b34569 A34570 n34571 c34572 cl34573 hn34574 rp34575 s hx34694) ?_)
          intro X34697 hX34698
          refine fun _ _ hJ => hJ X34697 ?_
          intro I34699 w34695 s k34696
          refine hX34698 _ _ ?_
          replace rp34575 := rp34575.st k34696
          replace rp34567 := rp34567.st k34696
          replace kk := kk.trans k34696
          refine RW.seg hT 2 [] [] [.bool x34693, .bool x34693] [] (by kernel_rfl) (trivial) ?_
          refine RW.nil ?_
          exact fun X h => kc (by kernel_rfl) rfl (h I34699 x34693 [(D34659.getD 0 undef), (D34659.getD 1 undef), (D34659.getD 2 undef), (D34659.getD 3 undef), (D34659.getD 4 undef), (D34659.getD 5 undef), (D34659.getD 6 undef), .bool x34660, .pointer (some ⟨b34561, 0, none⟩), .bool x34685, .bool true, .pointer (some ⟨b34569, 0, none⟩), .bool x34693, .bool x34693, (D34659.getD 9 undef), (D34659.getD 10 undef)] _ hf s kk rp34575 rp34567)
        · have hf := iteF h34692 hf
          refine RW.seg hT 5 [] [(13, .bool false)] [.bool false, undef, undef, .bool false, .bool false] [.veq (.bool (x34685)) (.bool false)] (by kernel_rfl) (b_f h34692) ?_
          refine RW.nil ?_
          replace s := s.pick [2, 3, 0, 1] 4 rfl
          exact fun X h => kc (by kernel_rfl) rfl (h I34691 false [(D34659.getD 0 undef), (D34659.getD 1 undef), (D34659.getD 2 undef), (D34659.getD 3 undef), (D34659.getD 4 undef), (D34659.getD 5 undef), (D34659.getD 6 undef), .bool x34660, .pointer (some ⟨b34561, 0, none⟩), .bool x34685, .bool false, undef, undef, .bool false, (D34659.getD 9 undef), (D34659.getD 10 undef)] _ hf s kk rp34575 rp34567)
    · have hf := iteF h34663 hf
      refine WPK.condF (Eq.trans (b := .bool x34660) (by kernel_rfl) (b_f h34663)) ?_
      refine WPK.skip ?_
      refine WPK.seq ?_
      have rp34567S34725 := rp34567
      have rp34575S34725 := rp34575
      have kS34729 : Kp I34662 w34661 I34662 w34661 := Kp.refl
      refine WPK.draw (fun w' => ∃ I' : Nat → Prop, St w0 M I' ((.blk b34561 (.cells #[.int .i64 p0.n, .slice A34562 n34563 c34564] 53 (0, 0))) :: (.sl (.slice A34562 n34563 c34564) 61 1 n34563 cl34565) :: (.blk b34569 (.cells #[.int .i64 p1.n, .slice A34570 n34571 c34572] 53 (0, 0))) :: (.sl (.slice A34570 n34571 c34572) 61 1 n34571 cl34573) :: F) w' ∧ Kp I34662 w34661 I' w') 21 (by kernel_rfl) ?_
      intro w34726 hd34727
      have k34728 := Kp.dr s hd34727
      replace s := s.dr hd34727
      replace rp34567 := rp34567.st k34728
      replace rp34575 := rp34575.st k34728
      replace kk := kk.trans k34728
      replace kS34729 := kS34729.trans k34728
      refine RD.seg hT (by kernel_rfl) [0, 1, 2, 3, 4, 5, 6, 7, 8] [.int .i64 p0.n, .int .i64 p1.n] [(25, .bool (decide (p0.n = p1.n)))] [.pointer (some ⟨b34561, 0, none⟩), .pointer (some ⟨b34561, 0, none⟩), .pointer (some ⟨b34561, 0, none⟩), .int .i64 p0.n, .pointer (some ⟨b34569, 0, none⟩), .pointer (some ⟨b34569, 0, none⟩), .pointer (some ⟨b34569, 0, none⟩), .int .i64 p1.n, .bool (decide (p0.n = p1.n))] [.cell ⟨b34561, 0, none⟩ (.int .i64 p0.n), .cell ⟨b34569, 0, none⟩ (.int .i64 p1.n), .veq (.bool (p0.n == p1.n)) (.bool (decide (p0.n = p1.n)))] (by kernel_rfl) (by rintro w' ⟨I', s, k⟩; have rp34567 := rp34567S34725.st k; have rp34575 := rp34575S34725.st k; exact ⟨s.cell (i := 0) (off := 0) rfl rfl, s.cell (i := 2) (off := 0) rfl rfl, eq_v⟩) ⟨_, s.pick [0, 1, 2, 3] 4 rfl, kS34729⟩ ?_
      by_cases h34730 : p0.n = p1.n
      · have hf := iteT h34730 hf
        refine RD.seg hT (by kernel_rfl) [9, 10, 11, 12, 13, 14, 15, 16, 17] [.slice A34562 n34563 c34564, .slice A34570 n34571 c34572] [(26, .bool true)] [.bool true, .pointer (some ⟨b34561, 0, none⟩), .pointer (some ⟨b34561, 0, none⟩), .pointer (some ⟨b34561, 1, none⟩), .slice A34562 n34563 c34564, .pointer (some ⟨b34569, 0, none⟩), .pointer (some ⟨b34569, 0, none⟩), .pointer (some ⟨b34569, 1, none⟩), .slice A34570 n34571 c34572] [.veq (.bool (decide (p0.n = p1.n))) (.bool true), .cell ⟨b34561, 1, none⟩ (.slice A34562 n34563 c34564), .cell ⟨b34569, 1, none⟩ (.slice A34570 n34571 c34572)] (by kernel_rfl) (by rintro w' ⟨I', s, k⟩; have rp34567 := rp34567S34725.st k; have rp34575 := rp34575S34725.st k; exact ⟨bo_t h34730, s.cell (i := 0) (off := 1) rfl rfl, s.cell (i := 2) (off := 1) rfl rfl⟩) ⟨_, s.pick [0, 1, 2, 3] 4 rfl, kS34729⟩ ?_
        have sa34731 := s
        obtain ⟨hc34732, e34733⟩ := St.lend s (i := 1) rfl hn34566 rp34567
        have k34734 := Kp.shut (I := I34662) (w := w34726) (p := .sl (.slice A34562 n34563 c34564) 61 1 n34563 cl34565)
        replace s := s.shut 1 rfl
        have sa34735 := s
        obtain ⟨hc34736, e34737⟩ := St.lend s (i := 2) rfl hn34574 (rp34575.st k34734)
        have k34738 := Kp.shut (I := (fun k => I34662 k ∨ (It.sl (.slice A34562 n34563 c34564) 61 1 n34563 cl34565).foot = some k)) (w := w34726) (p := .sl (.slice A34570 n34571 c34572) 61 1 n34571 cl34573)
        replace s := s.shut 2 rfl
        replace e34733 := e34733.st k34738
        obtain ⟨x34739, hx34740, hf⟩ := bindS hf
        have hc34743 := c36 (F := (.blk b34561 (.cells #[.int .i64 p0.n, .slice A34562 n34563 c34564] 53 (0, 0))) :: (.blk b34569 (.cells #[.int .i64 p1.n, .slice A34570 n34571 c34572] 53 (0, 0))) :: F) p0.w p1.w A34562 c34564 A34570 c34572 hc34732 e34733 hc34736 e34737 s hx34740
        rw [← hn34566, ← hn34574] at hc34743
        refine RD.op (i := 18) rfl (by kernel_rfl) (by kernel_rfl) (OK.call' en36 (by kernel_rfl) (hc34743) ?_)
        intro X34744 hX34745
        refine fun _ _ hJ => hJ X34744 ?_
        intro I34746 w34741 s k34742
        refine hX34745 _ _ ?_
        have s' := St.back sa34735 (i := 2) rfl s k34742
        replace k34742 := Kp.back sa34735 (i := 2) rfl k34742
        replace s := s'; clear s'
        have s' := St.back sa34731 (i := 1) rfl s k34742
        replace k34742 := Kp.back sa34731 (i := 1) rfl k34742
        replace s := s'; clear s'
        obtain ⟨I34749, s, k34742⟩ : ∃ I : Nat → Prop, St w0 M I ((.sl (.slice A34562 n34563 c34564) 61 1 n34563 cl34565) :: (.sl (.slice A34570 n34571 c34572) 61 1 n34571 cl34573) :: (.blk b34561 (.cells #[.int .i64 p0.n, .slice A34562 n34563 c34564] 53 (0, 0))) :: (.blk b34569 (.cells #[.int .i64 p1.n, .slice A34570 n34571 c34572] 53 (0, 0))) :: F) w34741 ∧ Kp _ _ I _ := ⟨_, s, k34742⟩
        replace rp34567 := rp34567.st k34742
        replace rp34575 := rp34575.st k34742
        replace kk := kk.trans k34742
        replace kS34729 := kS34729.trans k34742
        refine ⟨fun _ => ⟨_, s.pick [2, 0, 3, 1] 4 rfl, kS34729⟩, RD.fold ?_⟩
        refine RD.seg hT (by kernel_rfl) [19, 20] [] [] [.bool x34739, .bool x34739] [] (by kernel_rfl) (fun _ _ => trivial) ⟨_, s.pick [2, 0, 3, 1] 4 rfl, kS34729⟩ ?_
        refine RD.done (by kernel_rfl) ?_
        refine WPK.ret (?_)
        obtain rfl := someS hf
        refine Fin.of (rs := [.tmp 4]) hT [] (.bool x34739) [] rfl (by kernel_rfl) (trivial) ?_
        replace s := s.pick [2, 0, 3, 1] 4 rfl
        exact fun X h => vc rfl (h I34749 _ s kk)
      · have hf := iteF h34730 hf
        refine RD.seg hT (by kernel_rfl) [9, 10, 11, 12, 13, 14, 15, 16, 17] [] [(26, .bool false)] [.bool false, undef, undef, undef, undef, undef, undef, undef, undef] [.veq (.bool (decide (p0.n = p1.n))) (.bool false)] (by kernel_rfl) (by rintro w' ⟨I', s, k⟩; have rp34567 := rp34567S34725.st k; have rp34575 := rp34575S34725.st k; exact bo_f h34730) ⟨_, s.pick [0, 1, 2, 3] 4 rfl, kS34729⟩ ?_
        refine RD.skip (i := 18) rfl (by kernel_rfl) (by kernel_rfl) ?_
        refine ⟨fun _ => ⟨_, s.pick [0, 1, 2, 3] 4 rfl, kS34729⟩, ?_⟩
        refine RD.seg hT (by kernel_rfl) [19, 20] [] [] [.bool false, .bool false] [] (by kernel_rfl) (fun _ _ => trivial) ⟨_, s.pick [0, 1, 2, 3] 4 rfl, kS34729⟩ ?_
        refine RD.done (by kernel_rfl) ?_
        refine WPK.ret (?_)
        obtain rfl := someS hf
        refine Fin.of (rs := [.tmp 4]) hT [] (.bool false) [] rfl (by kernel_rfl) (trivial) ?_
        exact fun X h => vc rfl (h I34662 _ s kk)
  · refine WPK.region ?_
    refine RW.seg hT 1 [] [] [.pointer (some ⟨b34561, 0, none⟩)] [] (by kernel_rfl) (trivial) ?_
    obtain ⟨x34752, hx34753, hf⟩ := bindS hf
    refine RW.op (by kernel_rfl) (OK.call' en34 (by kernel_rfl) (c34 (F := (.blk b34569 (.cells #[.int .i64 p1.n, .slice A34570 n34571 c34572] 53 (0, 0))) :: (.sl (.slice A34570 n34571 c34572) 61 1 n34571 cl34573) :: F) p0 b34561 A34562 n34563 c34564 cl34565 hn34566 rp34567 s hx34753) ?_)
    intro X34756 hX34757
    refine fun _ _ hJ => hJ X34756 ?_
    intro I34758 w34754 s k34755
    refine hX34757 _ _ ?_
    replace rp34567 := rp34567.st k34755
    replace rp34575 := rp34575.st k34755
    replace kk := kk.trans k34755
    by_cases h34759 : x34752 = true
    · have hf := iteT h34759 hf
      refine RW.seg hT 4 [] [(7, .bool true)] [.bool true, undef, undef, .bool true] [.veq (.bool (x34752)) (.bool true)] (by kernel_rfl) (b_t h34759) ?_
      refine RW.nil ?_
      exact fun X h => kc (by kernel_rfl) rfl (h I34758 true [undef, undef, .pointer (some ⟨b34561, 0, none⟩), .bool x34752, .bool true, undef, undef, undef, undef, undef, undef] _ hf s kk rp34567 rp34575)
    · have hf := iteF h34759 hf
      refine RW.seg hT 2 [] [(7, .bool false)] [.bool false, .pointer (some ⟨b34569, 0, none⟩)] [.veq (.bool (x34752)) (.bool false)] (by kernel_rfl) (b_f h34759) ?_
      replace s := s.pick [2, 3, 0, 1] 4 rfl
      obtain ⟨x34760, hx34761, hf⟩ := bindS hf
      refine RW.op (by kernel_rfl) (OK.call' en34 (by kernel_rfl) (c34 (F := (.blk b34561 (.cells #[.int .i64 p0.n, .slice A34562 n34563 c34564] 53 (0, 0))) :: (.sl (.slice A34562 n34563 c34564) 61 1 n34563 cl34565) :: F) p1 b34569 A34570 n34571 c34572 cl34573 hn34574 rp34575 s hx34761) ?_)
      intro X34764 hX34765
      refine fun _ _ hJ => hJ X34764 ?_
      intro I34766 w34762 s k34763
      refine hX34765 _ _ ?_
      replace rp34575 := rp34575.st k34763
      replace rp34567 := rp34567.st k34763
      replace kk := kk.trans k34763
      refine RW.seg hT 1 [] [] [.bool x34760] [] (by kernel_rfl) (trivial) ?_
      refine RW.nil ?_
      replace s := s.pick [2, 3, 0, 1] 4 rfl
      exact fun X h => kc (by kernel_rfl) rfl (h I34766 x34760 [undef, undef, .pointer (some ⟨b34561, 0, none⟩), .bool x34752, .bool false, .pointer (some ⟨b34569, 0, none⟩), .bool x34760, undef, undef, undef, undef] _ hf s kk rp34567 rp34575)
theorem c18_1 {w0 w : World} {M I : Nat → Prop} {F : List It} (p1 : T_extent_Set) (b34950 : Nat) (A34951 : Option Addr) (n34952 : Nat) (c34953 : Nat) (cl34954 : List Value) (hn34955 : n34952 = p1.w.length) (rp34956 : RepL (Rp.int .u64) I w cl34954 p1.w) (s : St w0 M I ((.blk b34950 (.cells #[.int .i64 p1.n, .slice A34951 n34952 c34953] 53 (0, 0))) :: (.sl (.slice A34951 n34952 c34953) 61 1 n34952 cl34954) :: F) w) {r : Bool} (hf : g18_1 p1 = some r) :
    Ret Tryd.prog 18 [.pointer none, .pointer (some ⟨b34950, 0, none⟩)] w fun v wz => ∀ X : Value → World → Prop, (∀ (I' : Nat → Prop) (w' : World), St w0 M I' ((.blk b34950 (.cells #[.int .i64 p1.n, .slice A34951 n34952 c34953] 53 (0, 0))) :: (.sl (.slice A34951 n34952 c34953) 61 1 n34952 cl34954) :: F) w' → Kp I w I' w' → X (.bool r) w') → X v wz := by
  have kk : Kp I w I w := Kp.refl
  unfold g18_1 at hf
  refine Ret.of Tryd.func18 rfl ?_
  refine WPK.seq ?_
  refine WPK.region ?_
  refine RW.seg hT 1 [] [] [.bool false] [] (by kernel_rfl) (trivial) ?_
  refine RW.nil ?_
  refine WPK.seq ?_
  refine WPK.seq ?_
  refine WPK.cut' (fun E ds wz => ∀ X : Kont, (∀ (I35043 : Nat → Prop) (x35041 : Bool) (D35040 : List Value) (w' : World), g18_1_j1 p1 x35041 = some r → St w0 M I35043 ((.blk b34950 (.cells #[.int .i64 p1.n, .slice A34951 n34952 c34953] 53 (0, 0))) :: (.sl (.slice A34951 n34952 c34953) 61 1 n34952 cl34954) :: F) w' → Kp I w I35043 w' → RepL (Rp.int .u64) I35043 w' cl34954 p1.w → X [.pointer none, .pointer (some ⟨b34950, 0, none⟩), (D35040.getD 0 undef), (D35040.getD 1 undef), .bool false, (D35040.getD 2 undef), (D35040.getD 3 undef), (D35040.getD 4 undef), (D35040.getD 5 undef), (D35040.getD 6 undef), .bool x35041, (D35040.getD 7 undef), undef, undef, (D35040.getD 8 undef), undef, undef, undef, undef, undef, undef, undef, undef, undef, undef, undef, undef, undef, undef, undef, (D35040.getD 9 undef), undef, undef, undef, (D35040.getD 10 undef), undef, undef] [] w') → X E ds wz) ?_ ?_
  · intro X35091 hX35092
    refine fun _ _ _ hJ => hJ X35091 ?_
    intro I35043 x35041 D35040 w35042 hf s kk rp34956
    refine hX35092 _ _ _ ?_
    unfold g18_1_j1 at hf
    by_cases h35044 : x35041 = true
    · have hf := iteT h35044 hf
      refine WPK.condT (Eq.trans (b := .bool x35041) (by kernel_rfl) (b_t h35044)) ?_
      refine WPK.seq ?_
      refine WPK.cut' (fun E ds wz => ∀ X : Kont, (∀ (I35063 : Nat → Prop) (x35061 : Bool) (D35060 : List Value) (w' : World), g18_1_j2 x35061 = some r → St w0 M I35063 ((.blk b34950 (.cells #[.int .i64 p1.n, .slice A34951 n34952 c34953] 53 (0, 0))) :: (.sl (.slice A34951 n34952 c34953) 61 1 n34952 cl34954) :: F) w' → Kp I w I35063 w' → RepL (Rp.int .u64) I35063 w' cl34954 p1.w → X [.pointer none, .pointer (some ⟨b34950, 0, none⟩), (D35060.getD 0 undef), (D35060.getD 1 undef), .bool x35061, (D35060.getD 2 undef), (D35060.getD 3 undef), (D35060.getD 4 undef), (D35060.getD 5 undef), (D35060.getD 6 undef), (D35060.getD 7 undef), (D35060.getD 8 undef), (D35060.getD 9 undef), (D35060.getD 10 undef), (D35060.getD 11 undef), (D35060.getD 12 undef), (D35060.getD 13 undef), undef, undef, undef, undef, undef, undef, undef, undef, undef, undef, undef, undef, undef, (D35060.getD 14 undef), undef, undef, undef, (D35060.getD 15 undef), undef, undef] [] w') → X E ds wz) ?_ ?_
      · intro X35064 hX35065
        refine fun _ _ _ hJ => hJ X35064 ?_
        intro I35063 x35061 D35060 w35062 hf s kk rp34956
        refine hX35065 _ _ _ ?_
        unfold g18_1_j2 at hf
        refine WPK.ret (?_)
        obtain rfl := someS hf
        refine Fin.of (rs := [.tmp 4]) hT [] (.bool x35061) [] rfl (by kernel_rfl) (trivial) ?_
        exact fun X h => vc rfl (h I35063 _ s kk)
      · refine WPK.region ?_
        refine RW.seg hT 1 [] [] [.pointer none] [] (by kernel_rfl) (trivial) ?_
        obtain ⟨x35066, hx35067, hf⟩ := bindS hf
        refine RW.op (by kernel_rfl) (OK.call' en34 (by kernel_rfl) (c34_1 (F := (.blk b34950 (.cells #[.int .i64 p1.n, .slice A34951 n34952 c34953] 53 (0, 0))) :: (.sl (.slice A34951 n34952 c34953) 61 1 n34952 cl34954) :: F) s hx35067) ?_)
        intro X35070 hX35071
        refine fun _ _ hJ => hJ X35070 ?_
        intro I35072 w35068 s k35069
        refine hX35071 _ _ ?_
        replace rp34956 := rp34956.st k35069
        replace kk := kk.trans k35069
        by_cases h35073 : x35066 = true
        · have hf := iteT h35073 hf
          refine RW.seg hT 2 [] [(13, .bool true)] [.bool true, .pointer (some ⟨b34950, 0, none⟩)] [.veq (.bool (x35066)) (.bool true)] (by kernel_rfl) (b_t h35073) ?_
          obtain ⟨x35074, hx35075, hf⟩ := bindS hf
          refine RW.op (by kernel_rfl) (OK.call' en34 (by kernel_rfl) (c34 (F := F) p1 b34950 A34951 n34952 c34953 cl34954 hn34955 rp34956 s hx35075) ?_)
          intro X35078 hX35079
          refine fun _ _ hJ => hJ X35078 ?_
          intro I35080 w35076 s k35077
          refine hX35079 _ _ ?_
          replace rp34956 := rp34956.st k35077
          replace kk := kk.trans k35077
          refine RW.seg hT 2 [] [] [.bool x35074, .bool x35074] [] (by kernel_rfl) (trivial) ?_
          refine RW.nil ?_
          exact fun X h => kc (by kernel_rfl) rfl (h I35080 x35074 [(D35040.getD 0 undef), (D35040.getD 1 undef), (D35040.getD 2 undef), (D35040.getD 3 undef), (D35040.getD 4 undef), (D35040.getD 5 undef), (D35040.getD 6 undef), .bool x35041, .pointer none, .bool x35066, .bool true, .pointer (some ⟨b34950, 0, none⟩), .bool x35074, .bool x35074, (D35040.getD 9 undef), (D35040.getD 10 undef)] _ hf s kk rp34956)
        · have hf := iteF h35073 hf
          refine RW.seg hT 5 [] [(13, .bool false)] [.bool false, undef, undef, .bool false, .bool false] [.veq (.bool (x35066)) (.bool false)] (by kernel_rfl) (b_f h35073) ?_
          refine RW.nil ?_
          exact fun X h => kc (by kernel_rfl) rfl (h I35072 false [(D35040.getD 0 undef), (D35040.getD 1 undef), (D35040.getD 2 undef), (D35040.getD 3 undef), (D35040.getD 4 undef), (D35040.getD 5 undef), (D35040.getD 6 undef), .bool x35041, .pointer none, .bool x35066, .bool false, undef, undef, .bool false, (D35040.getD 9 undef), (D35040.getD 10 undef)] _ hf s kk rp34956)
    · have hf := iteF h35044 hf
      refine WPK.condF (Eq.trans (b := .bool x35041) (by kernel_rfl) (b_f h35044)) ?_
      refine WPK.skip ?_
      refine WPK.seq ?_
      have rp34956S35086 := rp34956
      have kS35090 : Kp I35043 w35042 I35043 w35042 := Kp.refl
      refine WPK.draw (fun w' => ∃ I' : Nat → Prop, St w0 M I' ((.blk b34950 (.cells #[.int .i64 p1.n, .slice A34951 n34952 c34953] 53 (0, 0))) :: (.sl (.slice A34951 n34952 c34953) 61 1 n34952 cl34954) :: F) w' ∧ Kp I35043 w35042 I' w') 21 (by kernel_rfl) ?_
      intro w35087 hd35088
      have k35089 := Kp.dr s hd35088
      replace s := s.dr hd35088
      replace rp34956 := rp34956.st k35089
      replace kk := kk.trans k35089
      replace kS35090 := kS35090.trans k35089
      exact noneS hf
  · refine WPK.region ?_
    refine RW.seg hT 1 [] [] [.pointer none] [] (by kernel_rfl) (trivial) ?_
    obtain ⟨x35093, hx35094, hf⟩ := bindS hf
    refine RW.op (by kernel_rfl) (OK.call' en34 (by kernel_rfl) (c34_1 (F := (.blk b34950 (.cells #[.int .i64 p1.n, .slice A34951 n34952 c34953] 53 (0, 0))) :: (.sl (.slice A34951 n34952 c34953) 61 1 n34952 cl34954) :: F) s hx35094) ?_)
    intro X35097 hX35098
    refine fun _ _ hJ => hJ X35097 ?_
    intro I35099 w35095 s k35096
    refine hX35098 _ _ ?_
    replace rp34956 := rp34956.st k35096
    replace kk := kk.trans k35096
    by_cases h35100 : x35093 = true
    · have hf := iteT h35100 hf
      refine RW.seg hT 4 [] [(7, .bool true)] [.bool true, undef, undef, .bool true] [.veq (.bool (x35093)) (.bool true)] (by kernel_rfl) (b_t h35100) ?_
      refine RW.nil ?_
      exact fun X h => kc (by kernel_rfl) rfl (h I35099 true [undef, undef, .pointer none, .bool x35093, .bool true, undef, undef, undef, undef, undef, undef] _ hf s kk rp34956)
    · have hf := iteF h35100 hf
      refine RW.seg hT 2 [] [(7, .bool false)] [.bool false, .pointer (some ⟨b34950, 0, none⟩)] [.veq (.bool (x35093)) (.bool false)] (by kernel_rfl) (b_f h35100) ?_
      obtain ⟨x35101, hx35102, hf⟩ := bindS hf
      refine RW.op (by kernel_rfl) (OK.call' en34 (by kernel_rfl) (c34 (F := F) p1 b34950 A34951 n34952 c34953 cl34954 hn34955 rp34956 s hx35102) ?_)
      intro X35105 hX35106
      refine fun _ _ hJ => hJ X35105 ?_
      intro I35107 w35103 s k35104
      refine hX35106 _ _ ?_
      replace rp34956 := rp34956.st k35104
      replace kk := kk.trans k35104
      refine RW.seg hT 1 [] [] [.bool x35101] [] (by kernel_rfl) (trivial) ?_
      refine RW.nil ?_
      exact fun X h => kc (by kernel_rfl) rfl (h I35107 x35101 [undef, undef, .pointer none, .bool x35093, .bool false, .pointer (some ⟨b34950, 0, none⟩), .bool x35101, undef, undef, undef, undef] _ hf s kk rp34956)
theorem c5 {w0 w : World} {M I : Nat → Prop} {F : List It} (p0 : Int) (p1 : (List Int)) (p2 : (List Int)) (A35940 : Option Addr) (c35941 : Nat) (A35944 : Option Addr) (c35945 : Nat) (hc35942 : (p1.length ≤ c35941 ∧ c35941 ≤ 9223372036854775807)) (e35943 : Elems (Rp.int .i64) I w A35940 p1) (hc35946 : (p2.length ≤ c35945 ∧ c35945 ≤ 9223372036854775807)) (e35947 : Elems (Rp.int .i64) I w A35944 p2) (eg0 : Elems (Rp.int .u8) I w (some ⟨0, 0, none⟩) TAB0) (s : St w0 M I (F) w) {r : Bool} (hf : g5 p0 p1 p2 = some r) :
    Ret Tryd.prog 5 [.int .i64 p0, .slice A35940 p1.length c35941, .slice A35944 p2.length c35945] w fun v wz => ∀ X : Value → World → Prop, (∀ (I' : Nat → Prop) (w' : World), St w0 M I' (F) w' → Kp I w I' w' → X (.bool r) w') → X v wz := by
  have kk : Kp I w I w := Kp.refl
  unfold g5 at hf
  refine Ret.of Tryd.func5 rfl ?_
  refine WPK.seq ?_
  refine WPK.region ?_
  refine RW.seg hT 1 [] [] [.bool false] [] (by kernel_rfl) (trivial) ?_
  refine RW.nil ?_
  refine WPK.seq ?_
  refine WPK.seq ?_
  refine WPK.cut' (fun E ds wz => ∀ X : Kont, (∀ (I36021 : Nat → Prop) (x36019 : Bool) (D36018 : List Value) (w' : World), g5_j1 p0 p1 p2 x36019 = some r → St w0 M I36021 (F) w' → Kp I w I36021 w' → Elems (Rp.int .i64) I36021 w' A35940 p1 → Elems (Rp.int .i64) I36021 w' A35944 p2 → Elems (Rp.int .u8) I36021 w' (some ⟨0, 0, none⟩) TAB0 → X [.int .i64 p0, .slice A35940 p1.length c35941, .slice A35944 p2.length c35945, (D36018.getD 0 undef), (D36018.getD 1 undef), (D36018.getD 2 undef), .bool false, undef, undef, undef, undef, undef, (D36018.getD 3 undef), (D36018.getD 4 undef), (D36018.getD 5 undef), (D36018.getD 6 undef), (D36018.getD 7 undef), (D36018.getD 8 undef), (D36018.getD 9 undef), (D36018.getD 10 undef), (D36018.getD 11 undef), (D36018.getD 12 undef), (D36018.getD 13 undef), (D36018.getD 14 undef), .bool x36019, undef, (D36018.getD 15 undef), (D36018.getD 16 undef), undef, (D36018.getD 17 undef), (D36018.getD 18 undef), undef, undef, undef, undef, undef, undef, undef, (D36018.getD 19 undef), undef, undef, undef, undef, (D36018.getD 20 undef), undef, undef, undef, undef, undef, (D36018.getD 21 undef), undef, (D36018.getD 22 undef), undef, undef, undef, undef, undef, undef, (D36018.getD 23 undef), (D36018.getD 24 undef), undef, undef, undef, (D36018.getD 25 undef), (D36018.getD 26 undef), (D36018.getD 27 undef), undef, undef, undef, undef, undef, undef, undef, (D36018.getD 28 undef), (D36018.getD 29 undef), undef, (D36018.getD 30 undef), (D36018.getD 31 undef), undef, undef, undef, undef, (D36018.getD 32 undef), (D36018.getD 33 undef), undef, (D36018.getD 34 undef), (D36018.getD 35 undef), undef, undef, undef, undef, (D36018.getD 36 undef), (D36018.getD 37 undef), undef, undef, undef, undef, (D36018.getD 38 undef), (D36018.getD 39 undef), undef, undef, undef, undef] [] w') → X E ds wz) ?_ ?_
  · intro X36960 hX36961
    refine fun _ _ _ hJ => hJ X36960 ?_
    intro I36021 x36019 D36018 w36020 hf s kk e35943 e35947 eg0
    refine hX36961 _ _ _ ?_
    unfold g5_j1 at hf
    by_cases h36022 : x36019 = true
    · have hf := iteT h36022 hf
      refine WPK.condT (Eq.trans (b := .bool x36019) (by kernel_rfl) (b_t h36022)) ?_
      refine WPK.seq ?_
      refine WPK.region ?_
      obtain ⟨x36023, hx36024, hf⟩ := bindS hf
      refine RW.op (by kernel_rfl) (OK.call' en8 (by kernel_rfl) (c8 (F := F) eg0 s hx36024) ?_)
      intro X36027 hX36028
      refine fun _ _ hJ => hJ X36027 ?_
      intro I36029 w36025 s k36026
      refine hX36028 _ _ ?_
      replace e35943 := e35943.st k36026
      replace e35947 := e35947.st k36026
      replace eg0 := eg0.st k36026
      replace kk := kk.trans k36026
      refine RW.seg hT 1 [] [] [.bool x36023] [] (by kernel_rfl) (trivial) ?_
      refine RW.nil ?_
      refine WPK.ret (?_)
      obtain rfl := someS hf
      refine Fin.of (rs := [.tmp 6]) hT [] (.bool x36023) [] rfl (by kernel_rfl) (trivial) ?_
      exact fun X h => vc rfl (h I36029 _ s kk)
    · have hf := iteF h36022 hf
      refine WPK.condF (Eq.trans (b := .bool x36019) (by kernel_rfl) (b_f h36022)) ?_
      refine WPK.skip ?_
      refine WPK.seq ?_
      refine WPK.region ?_
      refine RW.seg hT 2 [] [] [.int .i64 p0, .slice A35940 p1.length c35941] [] (by kernel_rfl) (trivial) ?_
      obtain ⟨x36030, hx36031, hf⟩ := bindS hf
      refine RW.op (by kernel_rfl) (OK.call' en10 (by kernel_rfl) (c10 (F := F) p0 p1 A35940 c35941 hc35942 e35943 s hx36031) ?_)
      intro X36034 hX36035
      refine fun _ _ hJ => hJ X36034 ?_ ?_
      · intro I36036 w36032 hv s k36033
        refine hX36035 _ _ ?_
        replace hf := optN hv hf
        replace e35943 := e35943.st k36033
        replace e35947 := e35947.st k36033
        replace eg0 := eg0.st k36033
        replace kk := kk.trans k36033
        refine RW.seg hT 2 [] [] [.int .i64 p0, .slice A35944 p2.length c35945] [] (by kernel_rfl) (trivial) ?_
        obtain ⟨x36047, hx36048, hf⟩ := bindS hf
        refine RW.op (by kernel_rfl) (OK.call' en10 (by kernel_rfl) (c10 (F := F) p0 p2 A35944 c35945 hc35946 e35947 s hx36048) ?_)
        intro X36051 hX36052
        refine fun _ _ hJ => hJ X36051 ?_ ?_
        · intro I36053 w36049 hv s k36050
          refine hX36052 _ _ ?_
          replace hf := optN hv hf
          replace e35943 := e35943.st k36050
          replace e35947 := e35947.st k36050
          replace eg0 := eg0.st k36050
          replace kk := kk.trans k36050
          refine RW.seg hT 2 [] [] [.pointer none, .pointer none] [] (by kernel_rfl) (trivial) ?_
          refine RW.nil ?_
          refine WPK.seq ?_
          refine WPK.seq ?_
          refine WPK.region ?_
          refine RW.seg hT 6 [] [] [.pointer none, .bool true, .bool true, undef, undef, .bool true] [] (by kernel_rfl) (trivial) ?_
          refine RW.nil ?_
          refine WPK.condT (by kernel_rfl) ?_
          refine WPK.seq ?_
          refine WPK.region ?_
          refine RW.seg hT 1 [] [] [.bool false] [] (by kernel_rfl) (trivial) ?_
          refine RW.nil ?_
          refine WPK.ret (?_)
          obtain rfl := someS hf
          refine Fin.of (rs := [.tmp 6]) hT [] (.bool false) [] rfl (by kernel_rfl) (trivial) ?_
          exact fun X h => vc rfl (h I36053 _ s kk)
        · intro x36055 I36054 b36056 A36057 n36058 c36059 cl36060 w36049 hv s k36050 hn36061 rp36062
          refine hX36052 _ _ ?_
          replace hf := optS hv hf
          replace e35943 := e35943.st k36050
          replace e35947 := e35947.st k36050
          replace eg0 := eg0.st k36050
          replace kk := kk.trans k36050
          refine RW.seg hT 2 [] [] [.pointer none, .pointer (some ⟨b36056, 0, none⟩)] [] (by kernel_rfl) (trivial) ?_
          refine RW.nil ?_
          refine WPK.seq ?_
          refine WPK.seq ?_
          refine WPK.region ?_
          refine RW.seg hT 6 [] [] [.pointer none, .bool true, .bool true, undef, undef, .bool true] [] (by kernel_rfl) (trivial) ?_
          refine RW.nil ?_
          refine WPK.condT (by kernel_rfl) ?_
          refine WPK.seq ?_
          refine WPK.region ?_
          refine RW.seg hT 1 [] [] [.bool false] [] (by kernel_rfl) (trivial) ?_
          refine RW.nil ?_
          refine WPK.ret (?_)
          obtain rfl := someS hf
          refine Fin.of (rs := [.tmp 6]) hT [] (.bool false) [] rfl (by kernel_rfl) (trivial) ?_
          replace s := s.pick [] 2 rfl
          exact fun X h => vc rfl (h I36054 _ s kk)
      · intro x36038 I36037 b36039 A36040 n36041 c36042 cl36043 w36032 hv s k36033 hn36044 rp36045
        refine hX36035 _ _ ?_
        replace hf := optS hv hf
        replace e35943 := e35943.st k36033
        replace e35947 := e35947.st k36033
        replace eg0 := eg0.st k36033
        replace kk := kk.trans k36033
        refine RW.seg hT 2 [] [] [.int .i64 p0, .slice A35944 p2.length c35945] [] (by kernel_rfl) (trivial) ?_
        obtain ⟨x36064, hx36065, hf⟩ := bindS hf
        refine RW.op (by kernel_rfl) (OK.call' en10 (by kernel_rfl) (c10 (F := (.blk b36039 (.cells #[.int .i64 x36038.n, .slice A36040 n36041 c36042] 53 (0, 0))) :: (.sl (.slice A36040 n36041 c36042) 61 1 n36041 cl36043) :: F) p0 p2 A35944 c35945 hc35946 e35947 s hx36065) ?_)
        intro X36068 hX36069
        refine fun _ _ hJ => hJ X36068 ?_ ?_
        · intro I36070 w36066 hv s k36067
          refine hX36069 _ _ ?_
          replace hf := optN hv hf
          replace e35943 := e35943.st k36067
          replace e35947 := e35947.st k36067
          replace rp36045 := rp36045.st k36067
          replace eg0 := eg0.st k36067
          replace kk := kk.trans k36067
          refine RW.seg hT 2 [] [] [.pointer (some ⟨b36039, 0, none⟩), .pointer none] [] (by kernel_rfl) (trivial) ?_
          refine RW.nil ?_
          refine WPK.seq ?_
          refine WPK.seq ?_
          refine WPK.region ?_
          refine RW.seg hT 6 [] [] [.pointer (some ⟨b36039, 0, none⟩), .bool false, .bool false, .pointer none, .bool true, .bool true] [] (by kernel_rfl) (trivial) ?_
          refine RW.nil ?_
          refine WPK.condT (by kernel_rfl) ?_
          refine WPK.seq ?_
          refine WPK.region ?_
          refine RW.seg hT 1 [] [] [.bool false] [] (by kernel_rfl) (trivial) ?_
          refine RW.nil ?_
          refine WPK.ret (?_)
          obtain rfl := someS hf
          refine Fin.of (rs := [.tmp 6]) hT [] (.bool false) [] rfl (by kernel_rfl) (trivial) ?_
          replace s := s.pick [] 2 rfl
          exact fun X h => vc rfl (h I36070 _ s kk)
        · intro x36072 I36071 b36073 A36074 n36075 c36076 cl36077 w36066 hv s k36067 hn36078 rp36079
          refine hX36069 _ _ ?_
          replace hf := optS hv hf
          replace e35943 := e35943.st k36067
          replace e35947 := e35947.st k36067
          replace rp36045 := rp36045.st k36067
          replace eg0 := eg0.st k36067
          replace kk := kk.trans k36067
          refine RW.seg hT 2 [] [] [.pointer (some ⟨b36039, 0, none⟩), .pointer (some ⟨b36073, 0, none⟩)] [] (by kernel_rfl) (trivial) ?_
          refine RW.nil ?_
          refine WPK.seq ?_
          refine WPK.seq ?_
          refine WPK.region ?_
          refine RW.seg hT 6 [] [] [.pointer (some ⟨b36039, 0, none⟩), .bool false, .bool false, .pointer (some ⟨b36073, 0, none⟩), .bool false, .bool false] [] (by kernel_rfl) (trivial) ?_
          refine RW.nil ?_
          refine WPK.condF (by kernel_rfl) ?_
          refine WPK.skip ?_
          refine WPK.seq ?_
          refine WPK.region ?_
          refine RW.seg hT 1 [] [] [.pointer (some ⟨b36039, 0, none⟩)] [] (by kernel_rfl) (trivial) ?_
          replace s := s.pick [2, 3, 0, 1] 4 rfl
          obtain ⟨x36081, hx36082, hf⟩ := bindS hf
          refine RW.op (by kernel_rfl) (OK.call' en16 (by kernel_rfl) (c16 (F := (.blk b36073 (.cells #[.int .i64 x36072.n, .slice A36074 n36075 c36076] 53 (0, 0))) :: (.sl (.slice A36074 n36075 c36076) 61 1 n36075 cl36077) :: F) x36038 b36039 A36040 n36041 c36042 cl36043 hn36044 rp36045 s hx36082) ?_)
          intro X36085 hX36086
          refine fun _ _ hJ => hJ X36085 ?_ ?_
          · intro I36087 w36083 hv s k36084
            refine hX36086 _ _ ?_
            replace hf := optN hv hf
            replace e35943 := e35943.st k36084
            replace e35947 := e35947.st k36084
            replace rp36045 := rp36045.st k36084
            replace rp36079 := rp36079.st k36084
            replace eg0 := eg0.st k36084
            replace kk := kk.trans k36084
            refine RW.seg hT 1 [] [] [.pointer none] [] (by kernel_rfl) (trivial) ?_
            refine RW.nil ?_
            refine WPK.seq ?_
            refine WPK.seq ?_
            refine WPK.region ?_
            refine RW.seg hT 29 [] [] [.pointer none, .bool true, .bool true, undef, undef, undef, undef, .bool true, .bool true, undef, undef, undef, undef, undef, undef, undef, .bool true, .bool true, undef, undef, undef, .bool true, .bool true, undef, undef, undef, undef, undef, .bool true] [] (by kernel_rfl) (trivial) ?_
            refine RW.nil ?_
            refine WPK.condT (by kernel_rfl) ?_
            refine WPK.seq ?_
            refine WPK.region ?_
            refine RW.seg hT 1 [] [] [.bool false] [] (by kernel_rfl) (trivial) ?_
            refine RW.nil ?_
            refine WPK.ret (?_)
            obtain rfl := someS hf
            refine Fin.of (rs := [.tmp 6]) hT [] (.bool false) [] rfl (by kernel_rfl) (trivial) ?_
            replace s := s.pick [] 4 rfl
            exact fun X h => vc rfl (h I36087 _ s kk)
          · intro x36089 I36088 b36090 A36091 n36092 c36093 cl36094 w36083 hv s k36084 hn36095 rp36096
            refine hX36086 _ _ ?_
            replace hf := optS hv hf
            replace e35943 := e35943.st k36084
            replace e35947 := e35947.st k36084
            replace rp36045 := rp36045.st k36084
            replace rp36079 := rp36079.st k36084
            replace eg0 := eg0.st k36084
            replace kk := kk.trans k36084
            refine RW.seg hT 1 [] [] [.pointer (some ⟨b36090, 0, none⟩)] [] (by kernel_rfl) (trivial) ?_
            refine RW.nil ?_
            refine WPK.seq ?_
            refine WPK.seq ?_
            refine WPK.cut' (fun E ds wz => ∀ X : Kont, (∀ (I36294 : Nat → Prop) (x36292 : Bool) (D36291 : List Value) (w' : World), g5_j2 p0 x36038 x36072 x36089 x36292 = some r → St w0 M I36294 ((.blk b36090 (.cells #[.int .i64 x36089.n, .slice A36091 n36092 c36093] 53 (0, 0))) :: (.sl (.slice A36091 n36092 c36093) 61 1 n36092 cl36094) :: (.blk b36039 (.cells #[.int .i64 x36038.n, .slice A36040 n36041 c36042] 53 (0, 0))) :: (.sl (.slice A36040 n36041 c36042) 61 1 n36041 cl36043) :: (.blk b36073 (.cells #[.int .i64 x36072.n, .slice A36074 n36075 c36076] 53 (0, 0))) :: (.sl (.slice A36074 n36075 c36076) 61 1 n36075 cl36077) :: F) w' → Kp I w I36294 w' → RepL (Rp.int .u64) I36294 w' cl36094 x36089.w → RepL (Rp.int .u64) I36294 w' cl36043 x36038.w → RepL (Rp.int .u64) I36294 w' cl36077 x36072.w → Elems (Rp.int .u8) I36294 w' (some ⟨0, 0, none⟩) TAB0 → X [.int .i64 p0, (D36291.getD 0 undef), (D36291.getD 1 undef), (D36291.getD 2 undef), (D36291.getD 3 undef), (D36291.getD 4 undef), .bool false, .pointer (some ⟨b36039, 0, none⟩), .pointer (some ⟨b36073, 0, none⟩), .pointer (some ⟨b36090, 0, none⟩), undef, undef, (D36291.getD 5 undef), (D36291.getD 6 undef), (D36291.getD 7 undef), (D36291.getD 8 undef), (D36291.getD 9 undef), (D36291.getD 10 undef), (D36291.getD 11 undef), (D36291.getD 12 undef), (D36291.getD 13 undef), (D36291.getD 14 undef), (D36291.getD 15 undef), (D36291.getD 16 undef), (D36291.getD 17 undef), (D36291.getD 18 undef), (D36291.getD 19 undef), (D36291.getD 20 undef), (D36291.getD 21 undef), (D36291.getD 22 undef), (D36291.getD 23 undef), (D36291.getD 24 undef), (D36291.getD 25 undef), (D36291.getD 26 undef), (D36291.getD 27 undef), (D36291.getD 28 undef), (D36291.getD 29 undef), (D36291.getD 30 undef), (D36291.getD 31 undef), (D36291.getD 32 undef), (D36291.getD 33 undef), (D36291.getD 34 undef), (D36291.getD 35 undef), (D36291.getD 36 undef), (D36291.getD 37 undef), (D36291.getD 38 undef), (D36291.getD 39 undef), (D36291.getD 40 undef), (D36291.getD 41 undef), (D36291.getD 42 undef), (D36291.getD 43 undef), (D36291.getD 44 undef), (D36291.getD 45 undef), (D36291.getD 46 undef), (D36291.getD 47 undef), (D36291.getD 48 undef), (D36291.getD 49 undef), (D36291.getD 50 undef), (D36291.getD 51 undef), (D36291.getD 52 undef), (D36291.getD 53 undef), (D36291.getD 54 undef), (D36291.getD 55 undef), (D36291.getD 56 undef), (D36291.getD 57 undef), (D36291.getD 58 undef), (D36291.getD 59 undef), (D36291.getD 60 undef), .bool x36292, undef, undef, undef, undef, (D36291.getD 61 undef), (D36291.getD 62 undef), undef, (D36291.getD 63 undef), (D36291.getD 64 undef), undef, undef, undef, undef, (D36291.getD 65 undef), (D36291.getD 66 undef), undef, (D36291.getD 67 undef), (D36291.getD 68 undef), undef, undef, undef, undef, (D36291.getD 69 undef), (D36291.getD 70 undef), undef, undef, undef, undef, (D36291.getD 71 undef), (D36291.getD 72 undef), undef, undef, undef, undef] [] w') → X E ds wz) ?_ ?_
            · intro X36896 hX36897
              refine fun _ _ _ hJ => hJ X36896 ?_
              intro I36294 x36292 D36291 w36293 hf s kk rp36096 rp36045 rp36079 eg0
              refine hX36897 _ _ _ ?_
              unfold g5_j2 at hf
              by_cases h36295 : x36292 = true
              · have hf := iteT h36295 hf
                refine WPK.condT (Eq.trans (b := .bool x36292) (by kernel_rfl) (b_t h36295)) ?_
                refine WPK.seq ?_
                refine WPK.region ?_
                refine RW.seg hT 1 [] [] [.bool false] [] (by kernel_rfl) (trivial) ?_
                refine RW.nil ?_
                refine WPK.ret (?_)
                obtain rfl := someS hf
                refine Fin.of (rs := [.tmp 6]) hT [] (.bool false) [] rfl (by kernel_rfl) (trivial) ?_
                replace s := s.pick [] 6 rfl
                exact fun X h => vc rfl (h I36294 _ s kk)
              · have hf := iteF h36295 hf
                refine WPK.condF (Eq.trans (b := .bool x36292) (by kernel_rfl) (b_f h36295)) ?_
                refine WPK.skip ?_
                refine WPK.seq ?_
                refine WPK.region ?_
                refine RW.seg hT 1 [] [] [.bool true] [] (by kernel_rfl) (trivial) ?_
                refine RW.nil ?_
                refine WPK.seq ?_
                refine WPK.seq ?_
                refine WPK.region ?_
                refine RW.seg hT 2 [] [] [.int .i64 p0, .int .i64 0] [] (by kernel_rfl) (trivial) ?_
                refine RW.nil ?_
                refine WPK.block ?_
                refine WPK.loop' (J := fun n36770 E ds wz => ∀ X : Kont, (∀ (I36676 : Nat → Prop) (x36673 : Bool) (x36674 : Int) (D36672 : List Value) (w' : World), g5_l3 p0 x36038 x36072 x36089 n36770 x36673 x36674 = some r → St w0 M I36676 ((.blk b36090 (.cells #[.int .i64 x36089.n, .slice A36091 n36092 c36093] 53 (0, 0))) :: (.sl (.slice A36091 n36092 c36093) 61 1 n36092 cl36094) :: (.blk b36039 (.cells #[.int .i64 x36038.n, .slice A36040 n36041 c36042] 53 (0, 0))) :: (.sl (.slice A36040 n36041 c36042) 61 1 n36041 cl36043) :: (.blk b36073 (.cells #[.int .i64 x36072.n, .slice A36074 n36075 c36076] 53 (0, 0))) :: (.sl (.slice A36074 n36075 c36076) 61 1 n36075 cl36077) :: F) w' → Kp I w I36676 w' → RepL (Rp.int .u64) I36676 w' cl36094 x36089.w → RepL (Rp.int .u64) I36676 w' cl36043 x36038.w → RepL (Rp.int .u64) I36676 w' cl36077 x36072.w → Elems (Rp.int .u8) I36676 w' (some ⟨0, 0, none⟩) TAB0 → X [(D36672.getD 0 undef), (D36672.getD 1 undef), (D36672.getD 2 undef), (D36672.getD 3 undef), (D36672.getD 4 undef), (D36672.getD 5 undef), .bool false, .pointer (some ⟨b36039, 0, none⟩), .pointer (some ⟨b36073, 0, none⟩), .pointer (some ⟨b36090, 0, none⟩), .bool x36673, (D36672.getD 6 undef), (D36672.getD 7 undef), (D36672.getD 8 undef), (D36672.getD 9 undef), (D36672.getD 10 undef), (D36672.getD 11 undef), (D36672.getD 12 undef), (D36672.getD 13 undef), (D36672.getD 14 undef), (D36672.getD 15 undef), (D36672.getD 16 undef), (D36672.getD 17 undef), (D36672.getD 18 undef), (D36672.getD 19 undef), (D36672.getD 20 undef), (D36672.getD 21 undef), (D36672.getD 22 undef), (D36672.getD 23 undef), (D36672.getD 24 undef), (D36672.getD 25 undef), (D36672.getD 26 undef), (D36672.getD 27 undef), (D36672.getD 28 undef), (D36672.getD 29 undef), (D36672.getD 30 undef), (D36672.getD 31 undef), (D36672.getD 32 undef), (D36672.getD 33 undef), (D36672.getD 34 undef), (D36672.getD 35 undef), (D36672.getD 36 undef), (D36672.getD 37 undef), (D36672.getD 38 undef), (D36672.getD 39 undef), (D36672.getD 40 undef), (D36672.getD 41 undef), (D36672.getD 42 undef), (D36672.getD 43 undef), (D36672.getD 44 undef), (D36672.getD 45 undef), (D36672.getD 46 undef), (D36672.getD 47 undef), (D36672.getD 48 undef), (D36672.getD 49 undef), (D36672.getD 50 undef), (D36672.getD 51 undef), (D36672.getD 52 undef), (D36672.getD 53 undef), (D36672.getD 54 undef), (D36672.getD 55 undef), (D36672.getD 56 undef), (D36672.getD 57 undef), (D36672.getD 58 undef), (D36672.getD 59 undef), (D36672.getD 60 undef), (D36672.getD 61 undef), (D36672.getD 62 undef), (D36672.getD 63 undef), .int .i64 p0, .int .i64 x36674, (D36672.getD 64 undef), (D36672.getD 65 undef), (D36672.getD 66 undef), (D36672.getD 67 undef), (D36672.getD 68 undef), (D36672.getD 69 undef), (D36672.getD 70 undef), (D36672.getD 71 undef), (D36672.getD 72 undef), (D36672.getD 73 undef), (D36672.getD 74 undef), (D36672.getD 75 undef), (D36672.getD 76 undef), (D36672.getD 77 undef), (D36672.getD 78 undef), (D36672.getD 79 undef), (D36672.getD 80 undef), (D36672.getD 81 undef), (D36672.getD 82 undef), (D36672.getD 83 undef), (D36672.getD 84 undef), (D36672.getD 85 undef), undef, undef, undef, undef, (D36672.getD 86 undef), (D36672.getD 87 undef), undef, undef, undef, undef] [] w') → X E ds wz) FUEL (fun X h => kc (by kernel_rfl) rfl (h I36294 true 0 [.int .i64 p0, (D36291.getD 0 undef), (D36291.getD 1 undef), (D36291.getD 2 undef), (D36291.getD 3 undef), (D36291.getD 4 undef), undef, (D36291.getD 5 undef), (D36291.getD 6 undef), (D36291.getD 7 undef), (D36291.getD 8 undef), (D36291.getD 9 undef), (D36291.getD 10 undef), (D36291.getD 11 undef), (D36291.getD 12 undef), (D36291.getD 13 undef), (D36291.getD 14 undef), (D36291.getD 15 undef), (D36291.getD 16 undef), (D36291.getD 17 undef), (D36291.getD 18 undef), (D36291.getD 19 undef), (D36291.getD 20 undef), (D36291.getD 21 undef), (D36291.getD 22 undef), (D36291.getD 23 undef), (D36291.getD 24 undef), (D36291.getD 25 undef), (D36291.getD 26 undef), (D36291.getD 27 undef), (D36291.getD 28 undef), (D36291.getD 29 undef), (D36291.getD 30 undef), (D36291.getD 31 undef), (D36291.getD 32 undef), (D36291.getD 33 undef), (D36291.getD 34 undef), (D36291.getD 35 undef), (D36291.getD 36 undef), (D36291.getD 37 undef), (D36291.getD 38 undef), (D36291.getD 39 undef), (D36291.getD 40 undef), (D36291.getD 41 undef), (D36291.getD 42 undef), (D36291.getD 43 undef), (D36291.getD 44 undef), (D36291.getD 45 undef), (D36291.getD 46 undef), (D36291.getD 47 undef), (D36291.getD 48 undef), (D36291.getD 49 undef), (D36291.getD 50 undef), (D36291.getD 51 undef), (D36291.getD 52 undef), (D36291.getD 53 undef), (D36291.getD 54 undef), (D36291.getD 55 undef), (D36291.getD 56 undef), (D36291.getD 57 undef), (D36291.getD 58 undef), (D36291.getD 59 undef), (D36291.getD 60 undef), .bool x36292, undef, undef, (D36291.getD 61 undef), (D36291.getD 62 undef), undef, (D36291.getD 63 undef), (D36291.getD 64 undef), undef, undef, undef, undef, (D36291.getD 65 undef), (D36291.getD 66 undef), undef, (D36291.getD 67 undef), (D36291.getD 68 undef), undef, undef, undef, undef, (D36291.getD 69 undef), (D36291.getD 70 undef), (D36291.getD 71 undef), (D36291.getD 72 undef)] _ hf s kk rp36096 rp36045 rp36079 eg0)) (fun _ _ _ hJ => hJ (fun _ _ _ => False) (by intro I36676 x36673 x36674 D36672 w36675 hf s kk rp36096 rp36045 rp36079 eg0; exact noneS hf)) ?_
                intro X36894 hX36895
                refine fun n36770 _ _ _ hJ => hJ (X36894 n36770) ?_
                intro I36676 x36673 x36674 D36672 w36675 hf s kk rp36096 rp36045 rp36079 eg0
                refine hX36895 _ _ _ _ ?_
                replace hf : g5_l3B p0 x36038 x36072 x36089 (g5_l3 p0 x36038 x36072 x36089 n36770) x36673 x36674 = some r := hf
                generalize hrec36771 : g5_l3 p0 x36038 x36072 x36089 n36770 = rec36769 at hf
                unfold g5_l3B at hf
                refine WPK.seq ?_
                refine WPK.region ?_
                refine RW.seg hT 1 [] [] [.bool (decide (x36674 < p0))] [] (by kernel_rfl) (trivial) ?_
                refine RW.nil ?_
                refine WPK.seq ?_
                by_cases h36773 : x36674 < p0
                · have hf := iteT h36773 hf
                  refine WPK.condT (Eq.trans (b := .bool (decide (x36674 < p0))) (by kernel_rfl) (bo_t h36773)) ?_
                  refine WPK.skip ?_
                  refine WPK.seq ?_
                  refine WPK.block ?_
                  refine WPK.seq ?_
                  refine WPK.region ?_
                  refine RW.seg hT 2 [] [] [.int .i64 x36674, .int .i64 x36674] [] (by kernel_rfl) (trivial) ?_
                  refine RW.nil ?_
                  refine WPK.seq ?_
                  refine WPK.seq ?_
                  refine WPK.region ?_
                  refine RW.seg hT 2 [] [] [.pointer (some ⟨b36039, 0, none⟩), .int .i64 x36674] [] (by kernel_rfl) (trivial) ?_
                  replace s := s.pick [2, 3, 0, 1, 4, 5] 6 rfl
                  obtain ⟨x36834, hx36835, hf⟩ := bindS hf
                  refine RW.op (by kernel_rfl) (OK.call' en13 (by kernel_rfl) (c13 (F := (.blk b36090 (.cells #[.int .i64 x36089.n, .slice A36091 n36092 c36093] 53 (0, 0))) :: (.sl (.slice A36091 n36092 c36093) 61 1 n36092 cl36094) :: (.blk b36073 (.cells #[.int .i64 x36072.n, .slice A36074 n36075 c36076] 53 (0, 0))) :: (.sl (.slice A36074 n36075 c36076) 61 1 n36075 cl36077) :: F) x36038 x36674 b36039 A36040 n36041 c36042 cl36043 hn36044 rp36045 s hx36835) ?_)
                  intro X36838 hX36839
                  refine fun _ _ hJ => hJ X36838 ?_
                  intro I36840 w36836 s k36837
                  refine hX36839 _ _ ?_
                  replace rp36045 := rp36045.st k36837
                  replace rp36096 := rp36096.st k36837
                  replace rp36079 := rp36079.st k36837
                  replace eg0 := eg0.st k36837
                  replace kk := kk.trans k36837
                  refine RW.seg hT 2 [] [] [.pointer (some ⟨b36090, 0, none⟩), .int .i64 x36674] [] (by kernel_rfl) (trivial) ?_
                  replace s := s.pick [2, 3, 0, 1, 4, 5] 6 rfl
                  obtain ⟨x36841, hx36842, hf⟩ := bindS hf
                  refine RW.op (by kernel_rfl) (OK.call' en13 (by kernel_rfl) (c13 (F := (.blk b36039 (.cells #[.int .i64 x36038.n, .slice A36040 n36041 c36042] 53 (0, 0))) :: (.sl (.slice A36040 n36041 c36042) 61 1 n36041 cl36043) :: (.blk b36073 (.cells #[.int .i64 x36072.n, .slice A36074 n36075 c36076] 53 (0, 0))) :: (.sl (.slice A36074 n36075 c36076) 61 1 n36075 cl36077) :: F) x36089 x36674 b36090 A36091 n36092 c36093 cl36094 hn36095 rp36096 s hx36842) ?_)
                  intro X36845 hX36846
                  refine fun _ _ hJ => hJ X36845 ?_
                  intro I36847 w36843 s k36844
                  refine hX36846 _ _ ?_
                  replace rp36096 := rp36096.st k36844
                  replace rp36045 := rp36045.st k36844
                  replace rp36079 := rp36079.st k36844
                  replace eg0 := eg0.st k36844
                  replace kk := kk.trans k36844
                  refine RW.seg hT 1 [] [(79, .bool (decide (x36834 = x36841)))] [.bool (decide (x36834 = x36841))] [.veq (.bool (x36834 == x36841)) (.bool (decide (x36834 = x36841)))] (by kernel_rfl) (beq_v) ?_
                  refine RW.nil ?_
                  by_cases h36848 : x36834 = x36841
                  · have hf := iteT h36848 hf
                    refine WPK.condT (Eq.trans (b := .bool (decide (x36834 = x36841))) (by kernel_rfl) (bo_t h36848)) ?_
                    refine WPK.seq ?_
                    refine WPK.region ?_
                    refine RW.seg hT 1 [] [] [.bool false] [] (by kernel_rfl) (trivial) ?_
                    refine RW.nil ?_
                    refine WPK.ret (blockQ.ret (blockQ.ret (?_)))
                    obtain rfl := someS hf
                    refine Fin.of (rs := [.tmp 6]) hT [] (.bool false) [] rfl (by kernel_rfl) (trivial) ?_
                    replace s := s.pick [] 6 rfl
                    exact fun X h => vc rfl (h I36847 _ s kk)
                  · have hf := iteF h36848 hf
                    refine WPK.condF (Eq.trans (b := .bool (decide (x36834 = x36841))) (by kernel_rfl) (bo_f h36848)) ?_
                    refine WPK.skip ?_
                    refine WPK.region ?_
                    refine RW.seg hT 1 [] [] [.bool x36673] [] (by kernel_rfl) (trivial) ?_
                    by_cases h36849 : x36673 = true
                    · have hf := iteT h36849 hf
                      refine RW.seg hT 3 [] [(81, .bool true)] [.bool true, .pointer (some ⟨b36039, 0, none⟩), .int .i64 x36674] [.veq (.bool (x36673)) (.bool true)] (by kernel_rfl) (b_t h36849) ?_
                      replace s := s.pick [2, 3, 0, 1, 4, 5] 6 rfl
                      obtain ⟨x36850, hx36851, hf⟩ := bindS hf
                      refine RW.op (by kernel_rfl) (OK.call' en13 (by kernel_rfl) (c13 (F := (.blk b36090 (.cells #[.int .i64 x36089.n, .slice A36091 n36092 c36093] 53 (0, 0))) :: (.sl (.slice A36091 n36092 c36093) 61 1 n36092 cl36094) :: (.blk b36073 (.cells #[.int .i64 x36072.n, .slice A36074 n36075 c36076] 53 (0, 0))) :: (.sl (.slice A36074 n36075 c36076) 61 1 n36075 cl36077) :: F) x36038 x36674 b36039 A36040 n36041 c36042 cl36043 hn36044 rp36045 s hx36851) ?_)
                      intro X36854 hX36855
                      refine fun _ _ hJ => hJ X36854 ?_
                      intro I36856 w36852 s k36853
                      refine hX36855 _ _ ?_
                      replace rp36045 := rp36045.st k36853
                      replace rp36096 := rp36096.st k36853
                      replace rp36079 := rp36079.st k36853
                      replace eg0 := eg0.st k36853
                      replace kk := kk.trans k36853
                      refine RW.seg hT 2 [] [] [.pointer (some ⟨b36073, 0, none⟩), .int .i64 x36674] [] (by kernel_rfl) (trivial) ?_
                      replace s := s.pick [4, 5, 0, 1, 2, 3] 6 rfl
                      obtain ⟨x36857, hx36858, hf⟩ := bindS hf
                      refine RW.op (by kernel_rfl) (OK.call' en13 (by kernel_rfl) (c13 (F := (.blk b36039 (.cells #[.int .i64 x36038.n, .slice A36040 n36041 c36042] 53 (0, 0))) :: (.sl (.slice A36040 n36041 c36042) 61 1 n36041 cl36043) :: (.blk b36090 (.cells #[.int .i64 x36089.n, .slice A36091 n36092 c36093] 53 (0, 0))) :: (.sl (.slice A36091 n36092 c36093) 61 1 n36092 cl36094) :: F) x36072 x36674 b36073 A36074 n36075 c36076 cl36077 hn36078 rp36079 s hx36858) ?_)
                      intro X36861 hX36862
                      refine fun _ _ hJ => hJ X36861 ?_
                      intro I36863 w36859 s k36860
                      refine hX36862 _ _ ?_
                      replace rp36079 := rp36079.st k36860
                      replace rp36045 := rp36045.st k36860
                      replace rp36096 := rp36096.st k36860
                      replace eg0 := eg0.st k36860
                      replace kk := kk.trans k36860
                      refine RW.seg hT 3 [] [(88, .bool (decide (x36850 = x36857)))] [.bool (decide (x36850 = x36857)), .bool (decide (x36850 = x36857)), .bool (decide (x36850 = x36857))] [.veq (.bool (x36850 == x36857)) (.bool (decide (x36850 = x36857)))] (by kernel_rfl) (beq_v) ?_
                      refine RW.nil ?_
                      refine WPK.region ?_
                      refine RW.seg hT 2 [] [] [.int .i64 (IntKind.i64.wrap (x36674 + 1)), .int .i64 (IntKind.i64.wrap (x36674 + 1))] [] (by kernel_rfl) (trivial) ?_
                      refine RW.nil ?_
                      subst hrec36771
                      replace s := s.pick [4, 5, 2, 3, 0, 1] 6 rfl
                      exact ⟨n36770, Nat.le_refl _, fun X h => kc (by kernel_rfl) rfl (h I36863 (decide (x36850 = x36857)) (IntKind.i64.wrap (x36674 + 1)) [(D36672.getD 0 undef), (D36672.getD 1 undef), (D36672.getD 2 undef), (D36672.getD 3 undef), (D36672.getD 4 undef), (D36672.getD 5 undef), .int .i64 x36674, (D36672.getD 7 undef), (D36672.getD 8 undef), (D36672.getD 9 undef), (D36672.getD 10 undef), (D36672.getD 11 undef), (D36672.getD 12 undef), (D36672.getD 13 undef), (D36672.getD 14 undef), (D36672.getD 15 undef), (D36672.getD 16 undef), (D36672.getD 17 undef), (D36672.getD 18 undef), (D36672.getD 19 undef), (D36672.getD 20 undef), (D36672.getD 21 undef), (D36672.getD 22 undef), (D36672.getD 23 undef), (D36672.getD 24 undef), (D36672.getD 25 undef), (D36672.getD 26 undef), (D36672.getD 27 undef), (D36672.getD 28 undef), (D36672.getD 29 undef), (D36672.getD 30 undef), (D36672.getD 31 undef), (D36672.getD 32 undef), (D36672.getD 33 undef), (D36672.getD 34 undef), (D36672.getD 35 undef), (D36672.getD 36 undef), (D36672.getD 37 undef), (D36672.getD 38 undef), (D36672.getD 39 undef), (D36672.getD 40 undef), (D36672.getD 41 undef), (D36672.getD 42 undef), (D36672.getD 43 undef), (D36672.getD 44 undef), (D36672.getD 45 undef), (D36672.getD 46 undef), (D36672.getD 47 undef), (D36672.getD 48 undef), (D36672.getD 49 undef), (D36672.getD 50 undef), (D36672.getD 51 undef), (D36672.getD 52 undef), (D36672.getD 53 undef), (D36672.getD 54 undef), (D36672.getD 55 undef), (D36672.getD 56 undef), (D36672.getD 57 undef), (D36672.getD 58 undef), (D36672.getD 59 undef), (D36672.getD 60 undef), (D36672.getD 61 undef), (D36672.getD 62 undef), (D36672.getD 63 undef), .bool (decide (x36674 < p0)), .int .i64 x36674, .pointer (some ⟨b36039, 0, none⟩), .int .i64 x36674, .bool x36834, .pointer (some ⟨b36090, 0, none⟩), .int .i64 x36674, .bool x36841, .bool (decide (x36834 = x36841)), .bool x36673, .bool true, .pointer (some ⟨b36039, 0, none⟩), .int .i64 x36674, .bool x36850, .pointer (some ⟨b36073, 0, none⟩), .int .i64 x36674, .bool x36857, .bool (decide (x36850 = x36857)), .bool (decide (x36850 = x36857)), .int .i64 (IntKind.i64.wrap (x36674 + 1)), (D36672.getD 84 undef), (D36672.getD 85 undef), (D36672.getD 86 undef), (D36672.getD 87 undef)] _ hf s kk rp36096 rp36045 rp36079 eg0)⟩
                    · have hf := iteF h36849 hf
                      refine RW.seg hT 10 [] [(81, .bool false)] [.bool false, undef, undef, undef, undef, undef, undef, undef, .bool false, .bool false] [.veq (.bool (x36673)) (.bool false)] (by kernel_rfl) (b_f h36849) ?_
                      refine RW.nil ?_
                      refine WPK.region ?_
                      refine RW.seg hT 2 [] [] [.int .i64 (IntKind.i64.wrap (x36674 + 1)), .int .i64 (IntKind.i64.wrap (x36674 + 1))] [] (by kernel_rfl) (trivial) ?_
                      refine RW.nil ?_
                      subst hrec36771
                      exact ⟨n36770, Nat.le_refl _, fun X h => kc (by kernel_rfl) rfl (h I36847 false (IntKind.i64.wrap (x36674 + 1)) [(D36672.getD 0 undef), (D36672.getD 1 undef), (D36672.getD 2 undef), (D36672.getD 3 undef), (D36672.getD 4 undef), (D36672.getD 5 undef), .int .i64 x36674, (D36672.getD 7 undef), (D36672.getD 8 undef), (D36672.getD 9 undef), (D36672.getD 10 undef), (D36672.getD 11 undef), (D36672.getD 12 undef), (D36672.getD 13 undef), (D36672.getD 14 undef), (D36672.getD 15 undef), (D36672.getD 16 undef), (D36672.getD 17 undef), (D36672.getD 18 undef), (D36672.getD 19 undef), (D36672.getD 20 undef), (D36672.getD 21 undef), (D36672.getD 22 undef), (D36672.getD 23 undef), (D36672.getD 24 undef), (D36672.getD 25 undef), (D36672.getD 26 undef), (D36672.getD 27 undef), (D36672.getD 28 undef), (D36672.getD 29 undef), (D36672.getD 30 undef), (D36672.getD 31 undef), (D36672.getD 32 undef), (D36672.getD 33 undef), (D36672.getD 34 undef), (D36672.getD 35 undef), (D36672.getD 36 undef), (D36672.getD 37 undef), (D36672.getD 38 undef), (D36672.getD 39 undef), (D36672.getD 40 undef), (D36672.getD 41 undef), (D36672.getD 42 undef), (D36672.getD 43 undef), (D36672.getD 44 undef), (D36672.getD 45 undef), (D36672.getD 46 undef), (D36672.getD 47 undef), (D36672.getD 48 undef), (D36672.getD 49 undef), (D36672.getD 50 undef), (D36672.getD 51 undef), (D36672.getD 52 undef), (D36672.getD 53 undef), (D36672.getD 54 undef), (D36672.getD 55 undef), (D36672.getD 56 undef), (D36672.getD 57 undef), (D36672.getD 58 undef), (D36672.getD 59 undef), (D36672.getD 60 undef), (D36672.getD 61 undef), (D36672.getD 62 undef), (D36672.getD 63 undef), .bool (decide (x36674 < p0)), .int .i64 x36674, .pointer (some ⟨b36039, 0, none⟩), .int .i64 x36674, .bool x36834, .pointer (some ⟨b36090, 0, none⟩), .int .i64 x36674, .bool x36841, .bool (decide (x36834 = x36841)), .bool x36673, .bool false, undef, undef, undef, undef, undef, undef, undef, .bool false, .int .i64 (IntKind.i64.wrap (x36674 + 1)), (D36672.getD 84 undef), (D36672.getD 85 undef), (D36672.getD 86 undef), (D36672.getD 87 undef)] _ hf s kk rp36096 rp36045 rp36079 eg0)⟩
                · have hf := iteF h36773 hf
                  refine WPK.condF (Eq.trans (b := .bool (decide (x36674 < p0))) (by kernel_rfl) (bo_f h36773)) ?_
                  refine WPK.exit (blockQ.same ?_)
                  refine WPK.seq ?_
                  refine WPK.region ?_
                  refine RW.seg hT 2 [] [] [.pointer (some ⟨b36039, 0, none⟩), .pointer (some ⟨b36073, 0, none⟩)] [] (by kernel_rfl) (trivial) ?_
                  replace s := s.pick [2, 3, 4, 5, 0, 1] 6 rfl
                  obtain ⟨x36879, hx36880, hf⟩ := bindS hf
                  refine RW.op (by kernel_rfl) (OK.call' en18 (by kernel_rfl) (c18 (F := (.blk b36090 (.cells #[.int .i64 x36089.n, .slice A36091 n36092 c36093] 53 (0, 0))) :: (.sl (.slice A36091 n36092 c36093) 61 1 n36092 cl36094) :: F) x36038 x36072 b36039 A36040 n36041 c36042 cl36043 b36073 A36074 n36075 c36076 cl36077 hn36044 rp36045 hn36078 rp36079 s hx36880) ?_)
                  intro X36883 hX36884
                  refine fun _ _ hJ => hJ X36883 ?_
                  intro I36885 w36881 s k36882
                  refine hX36884 _ _ ?_
                  replace rp36045 := rp36045.st k36882
                  replace rp36079 := rp36079.st k36882
                  replace rp36096 := rp36096.st k36882
                  replace eg0 := eg0.st k36882
                  replace kk := kk.trans k36882
                  refine RW.seg hT 2 [] [(95, .bool (decide (x36879 = x36673)))] [.bool x36673, .bool (decide (x36879 = x36673))] [.veq (.bool (x36879 == x36673)) (.bool (decide (x36879 = x36673)))] (by kernel_rfl) (beq_v) ?_
                  by_cases h36886 : x36879 = x36673
                  · have hf := iteT h36886 hf
                    refine RW.seg hT 3 [] [(96, .bool true)] [.bool true, .pointer (some ⟨b36073, 0, none⟩), .pointer (some ⟨b36039, 0, none⟩)] [.veq (.bool (decide (x36879 = x36673))) (.bool true)] (by kernel_rfl) (bo_t h36886) ?_
                    replace s := s.pick [2, 3, 0, 1, 4, 5] 6 rfl
                    obtain ⟨x36887, hx36888, hf⟩ := bindS hf
                    refine RW.op (by kernel_rfl) (OK.call' en18 (by kernel_rfl) (c18 (F := (.blk b36090 (.cells #[.int .i64 x36089.n, .slice A36091 n36092 c36093] 53 (0, 0))) :: (.sl (.slice A36091 n36092 c36093) 61 1 n36092 cl36094) :: F) x36072 x36038 b36073 A36074 n36075 c36076 cl36077 b36039 A36040 n36041 c36042 cl36043 hn36078 rp36079 hn36044 rp36045 s hx36888) ?_)
                    intro X36891 hX36892
                    refine fun _ _ hJ => hJ X36891 ?_
                    intro I36893 w36889 s k36890
                    refine hX36892 _ _ ?_
                    replace rp36079 := rp36079.st k36890
                    replace rp36045 := rp36045.st k36890
                    replace rp36096 := rp36096.st k36890
                    replace eg0 := eg0.st k36890
                    replace kk := kk.trans k36890
                    refine RW.seg hT 4 [] [(101, .bool (decide (x36887 = x36673)))] [.bool x36673, .bool (decide (x36887 = x36673)), .bool (decide (x36887 = x36673)), .bool (decide (x36887 = x36673))] [.veq (.bool (x36887 == x36673)) (.bool (decide (x36887 = x36673)))] (by kernel_rfl) (beq_v) ?_
                    refine RW.nil ?_
                    refine WPK.ret (?_)
                    obtain rfl := someS hf
                    refine Fin.of (rs := [.tmp 6]) hT [] (.bool (decide (x36887 = x36673))) [] rfl (by kernel_rfl) (trivial) ?_
                    replace s := s.pick [] 6 rfl
                    exact fun X h => vc rfl (h I36893 _ s kk)
                  · have hf := iteF h36886 hf
                    refine RW.seg hT 8 [] [(96, .bool false)] [.bool false, undef, undef, undef, undef, undef, .bool false, .bool false] [.veq (.bool (decide (x36879 = x36673))) (.bool false)] (by kernel_rfl) (bo_f h36886) ?_
                    refine RW.nil ?_
                    refine WPK.ret (?_)
                    obtain rfl := someS hf
                    refine Fin.of (rs := [.tmp 6]) hT [] (.bool false) [] rfl (by kernel_rfl) (trivial) ?_
                    replace s := s.pick [] 6 rfl
                    exact fun X h => vc rfl (h I36885 _ s kk)
            · refine WPK.region ?_
              refine RW.seg hT 4 [] [] [.pointer (some ⟨b36090, 0, none⟩), .bool false, .bool false, .pointer (some ⟨b36090, 0, none⟩)] [] (by kernel_rfl) (trivial) ?_
              obtain ⟨x36898, hx36899, hf⟩ := bindS hf
              refine RW.op (by kernel_rfl) (OK.call' en17 (by kernel_rfl) (c17 (F := (.blk b36039 (.cells #[.int .i64 x36038.n, .slice A36040 n36041 c36042] 53 (0, 0))) :: (.sl (.slice A36040 n36041 c36042) 61 1 n36041 cl36043) :: (.blk b36073 (.cells #[.int .i64 x36072.n, .slice A36074 n36075 c36076] 53 (0, 0))) :: (.sl (.slice A36074 n36075 c36076) 61 1 n36075 cl36077) :: F) x36089 b36090 A36091 n36092 c36093 cl36094 hn36095 rp36096 s hx36899) ?_)
              intro X36902 hX36903
              refine fun _ _ hJ => hJ X36902 ?_
              intro I36904 w36900 s k36901
              refine hX36903 _ _ ?_
              replace e35943 := e35943.st k36901
              replace e35947 := e35947.st k36901
              replace rp36096 := rp36096.st k36901
              replace rp36045 := rp36045.st k36901
              replace rp36079 := rp36079.st k36901
              replace eg0 := eg0.st k36901
              replace kk := kk.trans k36901
              refine RW.seg hT 3 [] [(46, .bool (decide (x36898 ≠ p0)))] [.int .i64 p0, .bool (decide (x36898 ≠ p0)), .bool (decide (x36898 ≠ p0))] [.veq (.bool (x36898 != p0)) (.bool (decide (x36898 ≠ p0)))] (by kernel_rfl) (ne_v) ?_
              by_cases h36905 : x36898 ≠ p0
              · have hf := iteT h36905 hf
                refine RW.seg hT 21 [] [(48, .bool true)] [.bool true, undef, undef, undef, undef, undef, undef, undef, .bool true, .bool true, undef, undef, undef, .bool true, .bool true, undef, undef, undef, undef, undef, .bool true] [.veq (.bool (decide (x36898 ≠ p0))) (.bool true)] (by kernel_rfl) (bo_t h36905) ?_
                refine RW.nil ?_
                exact fun X h => kc (by kernel_rfl) rfl (h I36904 true [.slice A35940 p1.length c35941, .slice A35944 p2.length c35945, (D36018.getD 0 undef), (D36018.getD 1 undef), (D36018.getD 2 undef), (D36018.getD 3 undef), (D36018.getD 4 undef), (D36018.getD 5 undef), (D36018.getD 6 undef), (D36018.getD 7 undef), (D36018.getD 8 undef), (D36018.getD 9 undef), (D36018.getD 10 undef), (D36018.getD 11 undef), (D36018.getD 12 undef), (D36018.getD 13 undef), (D36018.getD 14 undef), .bool x36019, undef, .int .i64 p0, .slice A35940 p1.length c35941, .pointer (some ⟨b36039, 0, none⟩), .int .i64 p0, .slice A35944 p2.length c35945, .pointer (some ⟨b36073, 0, none⟩), .pointer (some ⟨b36039, 0, none⟩), .bool false, .bool false, .pointer (some ⟨b36073, 0, none⟩), .bool false, .bool false, .pointer (some ⟨b36039, 0, none⟩), .pointer (some ⟨b36090, 0, none⟩), .pointer (some ⟨b36090, 0, none⟩), .bool false, .bool false, .pointer (some ⟨b36090, 0, none⟩), .int .i64 x36898, .int .i64 p0, .bool (decide (x36898 ≠ p0)), .bool (decide (x36898 ≠ p0)), .bool true, undef, undef, undef, undef, undef, undef, undef, .bool true, .bool true, undef, undef, undef, .bool true, .bool true, undef, undef, undef, undef, undef, (D36018.getD 28 undef), (D36018.getD 29 undef), (D36018.getD 30 undef), (D36018.getD 31 undef), (D36018.getD 32 undef), (D36018.getD 33 undef), (D36018.getD 34 undef), (D36018.getD 35 undef), (D36018.getD 36 undef), (D36018.getD 37 undef), (D36018.getD 38 undef), (D36018.getD 39 undef)] _ hf s kk rp36096 rp36045 rp36079 eg0)
              · have hf := iteF h36905 hf
                refine RW.seg hT 2 [] [(48, .bool false)] [.bool false, .pointer (some ⟨b36090, 0, none⟩)] [.veq (.bool (decide (x36898 ≠ p0))) (.bool false)] (by kernel_rfl) (bo_f h36905) ?_
                obtain ⟨x36906, hx36907, hf⟩ := bindS hf
                refine RW.op (by kernel_rfl) (OK.call' en14 (by kernel_rfl) (c14 (F := (.blk b36039 (.cells #[.int .i64 x36038.n, .slice A36040 n36041 c36042] 53 (0, 0))) :: (.sl (.slice A36040 n36041 c36042) 61 1 n36041 cl36043) :: (.blk b36073 (.cells #[.int .i64 x36072.n, .slice A36074 n36075 c36076] 53 (0, 0))) :: (.sl (.slice A36074 n36075 c36076) 61 1 n36075 cl36077) :: F) x36089 b36090 A36091 n36092 c36093 cl36094 hn36095 rp36096 s hx36907) ?_)
                intro X36910 hX36911
                refine fun _ _ hJ => hJ X36910 ?_
                intro I36912 w36908 s k36909
                refine hX36911 _ _ ?_
                replace e35943 := e35943.st k36909
                replace e35947 := e35947.st k36909
                replace rp36096 := rp36096.st k36909
                replace rp36045 := rp36045.st k36909
                replace rp36079 := rp36079.st k36909
                replace eg0 := eg0.st k36909
                replace kk := kk.trans k36909
                refine RW.seg hT 1 [] [] [.pointer (some ⟨b36039, 0, none⟩)] [] (by kernel_rfl) (trivial) ?_
                replace s := s.pick [2, 3, 0, 1, 4, 5] 6 rfl
                obtain ⟨x36913, hx36914, hf⟩ := bindS hf
                refine RW.op (by kernel_rfl) (OK.call' en14 (by kernel_rfl) (c14 (F := (.blk b36090 (.cells #[.int .i64 x36089.n, .slice A36091 n36092 c36093] 53 (0, 0))) :: (.sl (.slice A36091 n36092 c36093) 61 1 n36092 cl36094) :: (.blk b36073 (.cells #[.int .i64 x36072.n, .slice A36074 n36075 c36076] 53 (0, 0))) :: (.sl (.slice A36074 n36075 c36076) 61 1 n36075 cl36077) :: F) x36038 b36039 A36040 n36041 c36042 cl36043 hn36044 rp36045 s hx36914) ?_)
                intro X36917 hX36918
                refine fun _ _ hJ => hJ X36917 ?_
                intro I36919 w36915 s k36916
                refine hX36918 _ _ ?_
                replace e35943 := e35943.st k36916
                replace e35947 := e35947.st k36916
                replace rp36045 := rp36045.st k36916
                replace rp36096 := rp36096.st k36916
                replace rp36079 := rp36079.st k36916
                replace eg0 := eg0.st k36916
                replace kk := kk.trans k36916
                refine RW.seg hT 4 [] [(55, .bool (decide ((IntKind.i64.wrap (x36906 + x36913)) ≠ p0)))] [.int .i64 (IntKind.i64.wrap (x36906 + x36913)), .int .i64 p0, .bool (decide ((IntKind.i64.wrap (x36906 + x36913)) ≠ p0)), .bool (decide ((IntKind.i64.wrap (x36906 + x36913)) ≠ p0))] [.veq (.bool ((IntKind.i64.wrap (x36906 + x36913)) != p0)) (.bool (decide ((IntKind.i64.wrap (x36906 + x36913)) ≠ p0)))] (by kernel_rfl) (ne_v) ?_
                by_cases h36920 : (IntKind.i64.wrap (x36906 + x36913)) ≠ p0
                · have hf := iteT h36920 hf
                  refine RW.seg hT 12 [] [(57, .bool true)] [.bool true, undef, undef, undef, .bool true, .bool true, undef, undef, undef, undef, undef, .bool true] [.veq (.bool (decide ((IntKind.i64.wrap (x36906 + x36913)) ≠ p0))) (.bool true)] (by kernel_rfl) (bo_t h36920) ?_
                  refine RW.nil ?_
                  replace s := s.pick [2, 3, 0, 1, 4, 5] 6 rfl
                  exact fun X h => kc (by kernel_rfl) rfl (h I36919 true [.slice A35940 p1.length c35941, .slice A35944 p2.length c35945, (D36018.getD 0 undef), (D36018.getD 1 undef), (D36018.getD 2 undef), (D36018.getD 3 undef), (D36018.getD 4 undef), (D36018.getD 5 undef), (D36018.getD 6 undef), (D36018.getD 7 undef), (D36018.getD 8 undef), (D36018.getD 9 undef), (D36018.getD 10 undef), (D36018.getD 11 undef), (D36018.getD 12 undef), (D36018.getD 13 undef), (D36018.getD 14 undef), .bool x36019, undef, .int .i64 p0, .slice A35940 p1.length c35941, .pointer (some ⟨b36039, 0, none⟩), .int .i64 p0, .slice A35944 p2.length c35945, .pointer (some ⟨b36073, 0, none⟩), .pointer (some ⟨b36039, 0, none⟩), .bool false, .bool false, .pointer (some ⟨b36073, 0, none⟩), .bool false, .bool false, .pointer (some ⟨b36039, 0, none⟩), .pointer (some ⟨b36090, 0, none⟩), .pointer (some ⟨b36090, 0, none⟩), .bool false, .bool false, .pointer (some ⟨b36090, 0, none⟩), .int .i64 x36898, .int .i64 p0, .bool (decide (x36898 ≠ p0)), .bool (decide (x36898 ≠ p0)), .bool false, .pointer (some ⟨b36090, 0, none⟩), .int .i64 x36906, .pointer (some ⟨b36039, 0, none⟩), .int .i64 x36913, .int .i64 (IntKind.i64.wrap (x36906 + x36913)), .int .i64 p0, .bool (decide ((IntKind.i64.wrap (x36906 + x36913)) ≠ p0)), .bool (decide ((IntKind.i64.wrap (x36906 + x36913)) ≠ p0)), .bool true, undef, undef, undef, .bool true, .bool true, undef, undef, undef, undef, undef, (D36018.getD 28 undef), (D36018.getD 29 undef), (D36018.getD 30 undef), (D36018.getD 31 undef), (D36018.getD 32 undef), (D36018.getD 33 undef), (D36018.getD 34 undef), (D36018.getD 35 undef), (D36018.getD 36 undef), (D36018.getD 37 undef), (D36018.getD 38 undef), (D36018.getD 39 undef)] _ hf s kk rp36096 rp36045 rp36079 eg0)
                · have hf := iteF h36920 hf
                  refine RW.seg hT 3 [] [(57, .bool false)] [.bool false, .pointer (some ⟨b36039, 0, none⟩), .pointer (some ⟨b36090, 0, none⟩)] [.veq (.bool (decide ((IntKind.i64.wrap (x36906 + x36913)) ≠ p0))) (.bool false)] (by kernel_rfl) (bo_f h36920) ?_
                  obtain ⟨x36921, hx36922, hf⟩ := bindS hf
                  refine RW.op (by kernel_rfl) (OK.call' en18 (by kernel_rfl) (c18 (F := (.blk b36073 (.cells #[.int .i64 x36072.n, .slice A36074 n36075 c36076] 53 (0, 0))) :: (.sl (.slice A36074 n36075 c36076) 61 1 n36075 cl36077) :: F) x36038 x36089 b36039 A36040 n36041 c36042 cl36043 b36090 A36091 n36092 c36093 cl36094 hn36044 rp36045 hn36095 rp36096 s hx36922) ?_)
                  intro X36925 hX36926
                  refine fun _ _ hJ => hJ X36925 ?_
                  intro I36927 w36923 s k36924
                  refine hX36926 _ _ ?_
                  replace e35943 := e35943.st k36924
                  replace e35947 := e35947.st k36924
                  replace rp36045 := rp36045.st k36924
                  replace rp36096 := rp36096.st k36924
                  replace rp36079 := rp36079.st k36924
                  replace eg0 := eg0.st k36924
                  replace kk := kk.trans k36924
                  refine RW.seg hT 1 [] [] [.bool x36921] [] (by kernel_rfl) (trivial) ?_
                  by_cases h36928 : x36921 = true
                  · have hf := iteT h36928 hf
                    refine RW.seg hT 7 [] [(62, .bool true)] [.bool true, undef, undef, undef, undef, undef, .bool true] [.veq (.bool (x36921)) (.bool true)] (by kernel_rfl) (b_t h36928) ?_
                    refine RW.nil ?_
                    replace s := s.pick [2, 3, 0, 1, 4, 5] 6 rfl
                    exact fun X h => kc (by kernel_rfl) rfl (h I36927 true [.slice A35940 p1.length c35941, .slice A35944 p2.length c35945, (D36018.getD 0 undef), (D36018.getD 1 undef), (D36018.getD 2 undef), (D36018.getD 3 undef), (D36018.getD 4 undef), (D36018.getD 5 undef), (D36018.getD 6 undef), (D36018.getD 7 undef), (D36018.getD 8 undef), (D36018.getD 9 undef), (D36018.getD 10 undef), (D36018.getD 11 undef), (D36018.getD 12 undef), (D36018.getD 13 undef), (D36018.getD 14 undef), .bool x36019, undef, .int .i64 p0, .slice A35940 p1.length c35941, .pointer (some ⟨b36039, 0, none⟩), .int .i64 p0, .slice A35944 p2.length c35945, .pointer (some ⟨b36073, 0, none⟩), .pointer (some ⟨b36039, 0, none⟩), .bool false, .bool false, .pointer (some ⟨b36073, 0, none⟩), .bool false, .bool false, .pointer (some ⟨b36039, 0, none⟩), .pointer (some ⟨b36090, 0, none⟩), .pointer (some ⟨b36090, 0, none⟩), .bool false, .bool false, .pointer (some ⟨b36090, 0, none⟩), .int .i64 x36898, .int .i64 p0, .bool (decide (x36898 ≠ p0)), .bool (decide (x36898 ≠ p0)), .bool false, .pointer (some ⟨b36090, 0, none⟩), .int .i64 x36906, .pointer (some ⟨b36039, 0, none⟩), .int .i64 x36913, .int .i64 (IntKind.i64.wrap (x36906 + x36913)), .int .i64 p0, .bool (decide ((IntKind.i64.wrap (x36906 + x36913)) ≠ p0)), .bool (decide ((IntKind.i64.wrap (x36906 + x36913)) ≠ p0)), .bool false, .pointer (some ⟨b36039, 0, none⟩), .pointer (some ⟨b36090, 0, none⟩), .bool x36921, .bool x36921, .bool true, undef, undef, undef, undef, undef, (D36018.getD 28 undef), (D36018.getD 29 undef), (D36018.getD 30 undef), (D36018.getD 31 undef), (D36018.getD 32 undef), (D36018.getD 33 undef), (D36018.getD 34 undef), (D36018.getD 35 undef), (D36018.getD 36 undef), (D36018.getD 37 undef), (D36018.getD 38 undef), (D36018.getD 39 undef)] _ hf s kk rp36096 rp36045 rp36079 eg0)
                  · have hf := iteF h36928 hf
                    refine RW.seg hT 2 [] [(62, .bool false)] [.bool false, .pointer (some ⟨b36090, 0, none⟩)] [.veq (.bool (x36921)) (.bool false)] (by kernel_rfl) (b_f h36928) ?_
                    replace s := s.pick [2, 3, 0, 1, 4, 5] 6 rfl
                    obtain ⟨x36929, hx36930, hf⟩ := bindS hf
                    refine RW.op (by kernel_rfl) (OK.call' en16 (by kernel_rfl) (c16 (F := (.blk b36039 (.cells #[.int .i64 x36038.n, .slice A36040 n36041 c36042] 53 (0, 0))) :: (.sl (.slice A36040 n36041 c36042) 61 1 n36041 cl36043) :: (.blk b36073 (.cells #[.int .i64 x36072.n, .slice A36074 n36075 c36076] 53 (0, 0))) :: (.sl (.slice A36074 n36075 c36076) 61 1 n36075 cl36077) :: F) x36089 b36090 A36091 n36092 c36093 cl36094 hn36095 rp36096 s hx36930) ?_)
                    intro X36933 hX36934
                    refine fun _ _ hJ => hJ X36933 ?_ ?_
                    · intro I36935 w36931 hv s k36932
                      refine hX36934 _ _ ?_
                      replace hf := optN hv hf
                      replace e35943 := e35943.st k36932
                      replace e35947 := e35947.st k36932
                      replace rp36096 := rp36096.st k36932
                      replace rp36045 := rp36045.st k36932
                      replace rp36079 := rp36079.st k36932
                      replace eg0 := eg0.st k36932
                      replace kk := kk.trans k36932
                      refine RW.seg hT 1 [] [] [.pointer (some ⟨b36039, 0, none⟩)] [] (by kernel_rfl) (trivial) ?_
                      replace s := s.pick [2, 3, 0, 1, 4, 5] 6 rfl
                      obtain ⟨x36946, hx36947, hf⟩ := bindS hf
                      refine RW.op (by kernel_rfl) (OK.call' en18 (by kernel_rfl) (c18_1 (F := (.blk b36090 (.cells #[.int .i64 x36089.n, .slice A36091 n36092 c36093] 53 (0, 0))) :: (.sl (.slice A36091 n36092 c36093) 61 1 n36092 cl36094) :: (.blk b36073 (.cells #[.int .i64 x36072.n, .slice A36074 n36075 c36076] 53 (0, 0))) :: (.sl (.slice A36074 n36075 c36076) 61 1 n36075 cl36077) :: F) x36038 b36039 A36040 n36041 c36042 cl36043 hn36044 rp36045 s hx36947) ?_)
                      intro X36950 hX36951
                      refine fun _ _ hJ => hJ X36950 ?_
                      intro I36952 w36948 s k36949
                      refine hX36951 _ _ ?_
                      replace e35943 := e35943.st k36949
                      replace e35947 := e35947.st k36949
                      replace rp36045 := rp36045.st k36949
                      replace rp36096 := rp36096.st k36949
                      replace rp36079 := rp36079.st k36949
                      replace eg0 := eg0.st k36949
                      replace kk := kk.trans k36949
                      refine RW.seg hT 2 [] [(67, .bool (decide (¬ (x36946 = true))))] [.bool (decide (¬ (x36946 = true))), .bool (decide (¬ (x36946 = true)))] [.veq (.bool (!x36946)) (.bool (decide (¬ (x36946 = true))))] (by kernel_rfl) (not_b) ?_
                      refine RW.nil ?_
                      replace s := s.pick [2, 3, 0, 1, 4, 5] 6 rfl
                      exact fun X h => kc (by kernel_rfl) rfl (h I36952 (decide (¬ (x36946 = true))) [.slice A35940 p1.length c35941, .slice A35944 p2.length c35945, (D36018.getD 0 undef), (D36018.getD 1 undef), (D36018.getD 2 undef), (D36018.getD 3 undef), (D36018.getD 4 undef), (D36018.getD 5 undef), (D36018.getD 6 undef), (D36018.getD 7 undef), (D36018.getD 8 undef), (D36018.getD 9 undef), (D36018.getD 10 undef), (D36018.getD 11 undef), (D36018.getD 12 undef), (D36018.getD 13 undef), (D36018.getD 14 undef), .bool x36019, undef, .int .i64 p0, .slice A35940 p1.length c35941, .pointer (some ⟨b36039, 0, none⟩), .int .i64 p0, .slice A35944 p2.length c35945, .pointer (some ⟨b36073, 0, none⟩), .pointer (some ⟨b36039, 0, none⟩), .bool false, .bool false, .pointer (some ⟨b36073, 0, none⟩), .bool false, .bool false, .pointer (some ⟨b36039, 0, none⟩), .pointer (some ⟨b36090, 0, none⟩), .pointer (some ⟨b36090, 0, none⟩), .bool false, .bool false, .pointer (some ⟨b36090, 0, none⟩), .int .i64 x36898, .int .i64 p0, .bool (decide (x36898 ≠ p0)), .bool (decide (x36898 ≠ p0)), .bool false, .pointer (some ⟨b36090, 0, none⟩), .int .i64 x36906, .pointer (some ⟨b36039, 0, none⟩), .int .i64 x36913, .int .i64 (IntKind.i64.wrap (x36906 + x36913)), .int .i64 p0, .bool (decide ((IntKind.i64.wrap (x36906 + x36913)) ≠ p0)), .bool (decide ((IntKind.i64.wrap (x36906 + x36913)) ≠ p0)), .bool false, .pointer (some ⟨b36039, 0, none⟩), .pointer (some ⟨b36090, 0, none⟩), .bool x36921, .bool x36921, .bool false, .pointer (some ⟨b36090, 0, none⟩), .pointer none, .pointer (some ⟨b36039, 0, none⟩), .bool x36946, .bool (decide (¬ (x36946 = true))), (D36018.getD 28 undef), (D36018.getD 29 undef), (D36018.getD 30 undef), (D36018.getD 31 undef), (D36018.getD 32 undef), (D36018.getD 33 undef), (D36018.getD 34 undef), (D36018.getD 35 undef), (D36018.getD 36 undef), (D36018.getD 37 undef), (D36018.getD 38 undef), (D36018.getD 39 undef)] _ hf s kk rp36096 rp36045 rp36079 eg0)
                    · intro x36937 I36936 b36938 A36939 n36940 c36941 cl36942 w36931 hv s k36932 hn36943 rp36944
                      refine hX36934 _ _ ?_
                      replace hf := optS hv hf
                      replace e35943 := e35943.st k36932
                      replace e35947 := e35947.st k36932
                      replace rp36096 := rp36096.st k36932
                      replace rp36045 := rp36045.st k36932
                      replace rp36079 := rp36079.st k36932
                      replace eg0 := eg0.st k36932
                      replace kk := kk.trans k36932
                      refine RW.seg hT 1 [] [] [.pointer (some ⟨b36039, 0, none⟩)] [] (by kernel_rfl) (trivial) ?_
                      replace s := s.pick [0, 1, 4, 5, 2, 3, 6, 7] 8 rfl
                      obtain ⟨x36953, hx36954, hf⟩ := bindS hf
                      refine RW.op (by kernel_rfl) (OK.call' en18 (by kernel_rfl) (c18 (F := (.blk b36090 (.cells #[.int .i64 x36089.n, .slice A36091 n36092 c36093] 53 (0, 0))) :: (.sl (.slice A36091 n36092 c36093) 61 1 n36092 cl36094) :: (.blk b36073 (.cells #[.int .i64 x36072.n, .slice A36074 n36075 c36076] 53 (0, 0))) :: (.sl (.slice A36074 n36075 c36076) 61 1 n36075 cl36077) :: F) x36937 x36038 b36938 A36939 n36940 c36941 cl36942 b36039 A36040 n36041 c36042 cl36043 hn36943 rp36944 hn36044 rp36045 s hx36954) ?_)
                      intro X36957 hX36958
                      refine fun _ _ hJ => hJ X36957 ?_
                      intro I36959 w36955 s k36956
                      refine hX36958 _ _ ?_
                      replace e35943 := e35943.st k36956
                      replace e35947 := e35947.st k36956
                      replace rp36944 := rp36944.st k36956
                      replace rp36045 := rp36045.st k36956
                      replace rp36096 := rp36096.st k36956
                      replace rp36079 := rp36079.st k36956
                      replace eg0 := eg0.st k36956
                      replace kk := kk.trans k36956
                      refine RW.seg hT 2 [] [(67, .bool (decide (¬ (x36953 = true))))] [.bool (decide (¬ (x36953 = true))), .bool (decide (¬ (x36953 = true)))] [.veq (.bool (!x36953)) (.bool (decide (¬ (x36953 = true))))] (by kernel_rfl) (not_b) ?_
                      refine RW.nil ?_
                      replace s := s.pick [4, 5, 2, 3, 6, 7] 8 rfl
                      exact fun X h => kc (by kernel_rfl) rfl (h I36959 (decide (¬ (x36953 = true))) [.slice A35940 p1.length c35941, .slice A35944 p2.length c35945, (D36018.getD 0 undef), (D36018.getD 1 undef), (D36018.getD 2 undef), (D36018.getD 3 undef), (D36018.getD 4 undef), (D36018.getD 5 undef), (D36018.getD 6 undef), (D36018.getD 7 undef), (D36018.getD 8 undef), (D36018.getD 9 undef), (D36018.getD 10 undef), (D36018.getD 11 undef), (D36018.getD 12 undef), (D36018.getD 13 undef), (D36018.getD 14 undef), .bool x36019, undef, .int .i64 p0, .slice A35940 p1.length c35941, .pointer (some ⟨b36039, 0, none⟩), .int .i64 p0, .slice A35944 p2.length c35945, .pointer (some ⟨b36073, 0, none⟩), .pointer (some ⟨b36039, 0, none⟩), .bool false, .bool false, .pointer (some ⟨b36073, 0, none⟩), .bool false, .bool false, .pointer (some ⟨b36039, 0, none⟩), .pointer (some ⟨b36090, 0, none⟩), .pointer (some ⟨b36090, 0, none⟩), .bool false, .bool false, .pointer (some ⟨b36090, 0, none⟩), .int .i64 x36898, .int .i64 p0, .bool (decide (x36898 ≠ p0)), .bool (decide (x36898 ≠ p0)), .bool false, .pointer (some ⟨b36090, 0, none⟩), .int .i64 x36906, .pointer (some ⟨b36039, 0, none⟩), .int .i64 x36913, .int .i64 (IntKind.i64.wrap (x36906 + x36913)), .int .i64 p0, .bool (decide ((IntKind.i64.wrap (x36906 + x36913)) ≠ p0)), .bool (decide ((IntKind.i64.wrap (x36906 + x36913)) ≠ p0)), .bool false, .pointer (some ⟨b36039, 0, none⟩), .pointer (some ⟨b36090, 0, none⟩), .bool x36921, .bool x36921, .bool false, .pointer (some ⟨b36090, 0, none⟩), .pointer (some ⟨b36938, 0, none⟩), .pointer (some ⟨b36039, 0, none⟩), .bool x36953, .bool (decide (¬ (x36953 = true))), (D36018.getD 28 undef), (D36018.getD 29 undef), (D36018.getD 30 undef), (D36018.getD 31 undef), (D36018.getD 32 undef), (D36018.getD 33 undef), (D36018.getD 34 undef), (D36018.getD 35 undef), (D36018.getD 36 undef), (D36018.getD 37 undef), (D36018.getD 38 undef), (D36018.getD 39 undef)] _ hf s kk rp36096 rp36045 rp36079 eg0)
  · refine WPK.region ?_
    obtain ⟨x36962, hx36963, hf⟩ := bindS hf
    refine RW.op (by kernel_rfl) (OK.call' en8 (by kernel_rfl) (c8 (F := F) eg0 s hx36963) ?_)
    intro X36966 hX36967
    refine fun _ _ hJ => hJ X36966 ?_
    intro I36968 w36964 s k36965
    refine hX36967 _ _ ?_
    replace e35943 := e35943.st k36965
    replace e35947 := e35947.st k36965
    replace eg0 := eg0.st k36965
    replace kk := kk.trans k36965
    refine RW.seg hT 1 [] [(13, .bool (decide (¬ (x36962 = true))))] [.bool (decide (¬ (x36962 = true)))] [.veq (.bool (!x36962)) (.bool (decide (¬ (x36962 = true))))] (by kernel_rfl) (not_b) ?_
    by_cases h36969 : ¬ (x36962 = true)
    · have hf := iteT h36969 hf
      refine RW.seg hT 11 [] [(14, .bool true)] [.bool true, undef, undef, undef, undef, .bool true, .bool true, undef, undef, undef, .bool true] [.veq (.bool (decide (¬ (x36962 = true)))) (.bool true)] (by kernel_rfl) (bo_t h36969) ?_
      refine RW.nil ?_
      exact fun X h => kc (by kernel_rfl) rfl (h I36968 true [undef, undef, undef, .bool x36962, .bool (decide (¬ (x36962 = true))), .bool true, undef, undef, undef, undef, .bool true, .bool true, undef, undef, undef, undef, undef, undef, undef, undef, undef, undef, undef, undef, undef, undef, undef, undef, undef, undef, undef, undef, undef, undef, undef, undef, undef, undef, undef, undef] _ hf s kk e35943 e35947 eg0)
    · have hf := iteF h36969 hf
      refine RW.seg hT 3 [] [(14, .bool false)] [.bool false, .int .i64 p0, .slice A35940 p1.length c35941] [.veq (.bool (decide (¬ (x36962 = true)))) (.bool false)] (by kernel_rfl) (bo_f h36969) ?_
      obtain ⟨x36970, hx36971, hf⟩ := bindS hf
      refine RW.op (by kernel_rfl) (OK.call' en9 (by kernel_rfl) (c9 (F := F) p0 p1 A35940 c35941 hc35942 e35943 s hx36971) ?_)
      intro X36974 hX36975
      refine fun _ _ hJ => hJ X36974 ?_
      intro I36976 w36972 s k36973
      refine hX36975 _ _ ?_
      replace e35943 := e35943.st k36973
      replace e35947 := e35947.st k36973
      replace eg0 := eg0.st k36973
      replace kk := kk.trans k36973
      refine RW.seg hT 2 [] [(18, .bool (decide (¬ (x36970 = true))))] [.bool (decide (¬ (x36970 = true))), .bool (decide (¬ (x36970 = true)))] [.veq (.bool (!x36970)) (.bool (decide (¬ (x36970 = true))))] (by kernel_rfl) (not_b) ?_
      by_cases h36977 : ¬ (x36970 = true)
      · have hf := iteT h36977 hf
        refine RW.seg hT 5 [] [(20, .bool true)] [.bool true, undef, undef, undef, .bool true] [.veq (.bool (decide (¬ (x36970 = true)))) (.bool true)] (by kernel_rfl) (bo_t h36977) ?_
        refine RW.nil ?_
        exact fun X h => kc (by kernel_rfl) rfl (h I36976 true [undef, undef, undef, .bool x36962, .bool (decide (¬ (x36962 = true))), .bool false, .int .i64 p0, .slice A35940 p1.length c35941, .bool x36970, .bool (decide (¬ (x36970 = true))), .bool (decide (¬ (x36970 = true))), .bool true, undef, undef, undef, undef, undef, undef, undef, undef, undef, undef, undef, undef, undef, undef, undef, undef, undef, undef, undef, undef, undef, undef, undef, undef, undef, undef, undef, undef] _ hf s kk e35943 e35947 eg0)
      · have hf := iteF h36977 hf
        refine RW.seg hT 5 [] [(20, .bool false)] [.bool false, .slice A35944 p2.length c35945, .int .i64 (p2.length : Int), .bool (decide ((p2.length : Int) > 400)), .bool (decide ((p2.length : Int) > 400))] [.veq (.bool (decide (¬ (x36970 = true)))) (.bool false)] (by kernel_rfl) (bo_f h36977) ?_
        refine RW.nil ?_
        exact fun X h => kc (by kernel_rfl) rfl (h I36976 (decide ((p2.length : Int) > 400)) [undef, undef, undef, .bool x36962, .bool (decide (¬ (x36962 = true))), .bool false, .int .i64 p0, .slice A35940 p1.length c35941, .bool x36970, .bool (decide (¬ (x36970 = true))), .bool (decide (¬ (x36970 = true))), .bool false, .slice A35944 p2.length c35945, .int .i64 (p2.length : Int), .bool (decide ((p2.length : Int) > 400)), undef, undef, undef, undef, undef, undef, undef, undef, undef, undef, undef, undef, undef, undef, undef, undef, undef, undef, undef, undef, undef, undef, undef, undef, undef] _ hf s kk e35943 e35947 eg0)
end Go.Proofs.YtgcielbnmlfjbaaDoor
