/- PRINTED BY sy.py: each call computes what the plain function of its number tells. -/
import Derived.Test.YtjkghheeeiacmaaDoorW1
namespace Go.Proofs.YtjkghheeeiacmaaDoor
open Go Go.SX Go.RowKit
set_option maxRecDepth 100000
set_option linter.unusedVariables false
attribute [local irreducible] WPK RW RD Ret SX.Fin SX.Any opK RoundBeg RoundEnd RangeEnd Rounds
theorem c28 {w0 w : World} {M I : Nat → Prop} {F : List It} (p0 : T_api_Frame) (A7571 : Option Addr) (c7572 : Nat) (hc7573 : (p0.Data.length ≤ c7572 ∧ c7572 ≤ 9223372036854775807)) (e7574 : Elems (Rp.int .u8) I w A7571 p0.Data) (eg0 : Elems (Rp.int .u32) I w (some ⟨0, 0, none⟩) TAB0) (s : St w0 M I (F) w) {r : (List Int)} (hf : g28 p0 = some r) :
    Ret Tryd.prog 28 [.agg #[.int .i64 p0.Kind, .int .i64 p0.Page, .int .u64 p0.Epoch, .slice A7571 p0.Data.length c7572]] w fun v wz => ∀ X : Value → World → Prop, (∀ (I' : Nat → Prop) (w' : World), St w0 M I' (F) w' → Kp I w I' w' → 256 = r.length → X (.agg (List.map (Value.int .u8) r).toArray) w') → X v wz := by
  have kk : Kp I w I w := Kp.refl
  unfold g28 at hf
  refine Ret.of Tryd.func28 rfl ?_
  refine WPK.seq ?_
  refine WPK.region ?_
  refine RW.op (by kernel_rfl) (OK.new hT (f := fun b => .pointer (some ⟨b, 0, none⟩)) (cs := [.int .i64 p0.Kind, .int .i64 p0.Page, .int .u64 p0.Epoch, .slice A7571 p0.Data.length c7572]) (e := 25) (c := .tt) s (by kernel_rfl) trivial ?_)
  rintro w7575 b7576 s k7577 -
  replace e7574 := e7574.st k7577
  replace eg0 := eg0.st k7577
  replace kk := kk.trans k7577
  refine RW.op (by kernel_rfl) (OK.new hT (f := fun b => .pointer (some ⟨b, 0, none⟩)) (cs := (List.replicate 256 (Value.int .u8 0))) (e := 49) (c := .tt) s (by kernel_rfl) trivial ?_)
  rintro w7578 b7579 s k7580 -
  have hn7584 : 256 = ((List.replicate 256 (0 : Int))).length := by simp
  obtain ⟨cl7581, hcl7582⟩ : ∃ q, q = (List.replicate 256 (Value.int .u8 0)) := ⟨_, rfl⟩
  replace s := s.blkSl (i := 0) (n := 256) (c := 256) (size := 1) rfl (by simp) (Nat.le_refl _) (by decide)
  rw [List.take_of_length_le (by simp), ← hcl7582] at s
  replace e7574 := e7574.st k7580
  replace eg0 := eg0.st k7580
  replace kk := kk.trans k7580
  have rp7583 : RepL (Rp.int .u8) I w7578 cl7581 (List.replicate 256 (0 : Int)) := by rw [hcl7582]; exact RepL.rep rfl _
  refine RW.nil ?_
  refine WPK.seq ?_
  refine WPK.region ?_
  refine RW.op (by kernel_rfl) (OK.new hT (f := fun b => .pointer (some ⟨b, 0, none⟩)) (cs := (List.replicate 256 (Value.int .u8 0))) (e := 49) (c := .tt) s (by kernel_rfl) trivial ?_)
  rintro w7585 b7586 s k7587 -
  have hn7591 : 256 = ((List.replicate 256 (0 : Int))).length := by simp
  obtain ⟨cl7588, hcl7589⟩ : ∃ q, q = (List.replicate 256 (Value.int .u8 0)) := ⟨_, rfl⟩
  replace s := s.blkSl (i := 0) (n := 256) (c := 256) (size := 1) rfl (by simp) (Nat.le_refl _) (by decide)
  rw [List.take_of_length_le (by simp), ← hcl7589] at s
  replace e7574 := e7574.st k7587
  replace rp7583 := rp7583.st k7587
  replace eg0 := eg0.st k7587
  replace kk := kk.trans k7587
  have rp7590 : RepL (Rp.int .u8) I w7585 cl7588 (List.replicate 256 (0 : Int)) := by rw [hcl7589]; exact RepL.rep rfl _
  refine RW.nil ?_
  refine WPK.seq ?_
  refine WPK.region ?_
  obtain ⟨x7592, hx7593, hf⟩ := bindS hf
  obtain ⟨h7594, hx7593⟩ := getS hx7593
  rw [← hn7591] at h7594
  refine RW.seg hT 4 [.int .i64 p0.Kind, undef] [] [.pointer (some ⟨b7576, 0, none⟩), .int .i64 p0.Kind, .int .u8 (IntKind.u8.wrap p0.Kind), .pointer (some ⟨b7586, 0 + (4 : Int).toNat * 1, none⟩)] [.cell ⟨b7576, 0, none⟩ (.int .i64 p0.Kind), .idx 4 256] (by kernel_rfl) (⟨s.cell (i := 2) (off := 0) rfl rfl, h7594⟩) ?_
  obtain ⟨y7597, hy7598, hf⟩ := bindS hf
  obtain ⟨h7599, hq7600⟩ := setS hy7598
  obtain ⟨cl7601, hcl7602⟩ : ∃ q, setL cl7588 (0 + (4 : Int).toNat * 1) [.int .u8 (IntKind.u8.wrap p0.Kind)] = q := ⟨_, rfl⟩
  have rp7603 : RepL (Rp.int .u8) I w7585 cl7601 y7597 := by rw [hq7600, ← hcl7602, Nat.zero_add]; exact RepL.set rp7590 (by omega) (rfl)
  have hn7604 : 256 = y7597.length := by rw [hq7600, List.length_set]; exact hn7591
  refine RW.op (by kernel_rfl) (OK.storeSl hT (i := 0) (b := b7586) (off := 0 + (4 : Int).toNat * 1) (m := 1) (vs := [.int .u8 (IntKind.u8.wrap p0.Kind)]) (c := 256) (e := 49) (size := 1) (n := 256) (cl := cl7588) (cl' := cl7601) s (by kernel_rfl) rfl rfl (flat_ok rfl) (by have h1 := RepL.length rp7590; simp only [List.length_cons, List.length_nil, h1]; exact row_bd (n := 1) h7599 rfl) hcl7602 ?_)
  rintro w7595 s k7596
  replace e7574 := e7574.st k7596
  replace rp7603 := rp7603.st k7596
  replace rp7583 := rp7583.st k7596
  replace eg0 := eg0.st k7596
  replace kk := kk.trans k7596
  refine RW.nil ?_
  refine WPK.seq ?_
  have e7574S7605 := e7574
  have rp7603S7605 := rp7603
  have rp7583S7605 := rp7583
  have eg0S7605 := eg0
  have kS7609 : Kp I w7595 I w7595 := Kp.refl
  refine WPK.draw (fun w' => ∃ I' : Nat → Prop, St w0 M I' ((.sl (.slice (some ⟨b7586, 0, none⟩) 256 256) 49 1 256 cl7601) :: (.sl (.slice (some ⟨b7579, 0, none⟩) 256 256) 49 1 256 cl7581) :: (.blk b7576 (.cells #[.int .i64 p0.Kind, .int .i64 p0.Page, .int .u64 p0.Epoch, .slice A7571 p0.Data.length c7572] 25 (0, 0))) :: F) w' ∧ Kp I w7595 I' w') 8 (by kernel_rfl) ?_
  intro w7606 hd7607
  have k7608 := Kp.dr s hd7607
  replace s := s.dr hd7607
  replace e7574 := e7574.st k7608
  replace rp7603 := rp7603.st k7608
  replace rp7583 := rp7583.st k7608
  replace eg0 := eg0.st k7608
  replace kk := kk.trans k7608
  replace kS7609 := kS7609.trans k7608
  refine RD.seg hT (by kernel_rfl) [0, 1, 2, 4, 5] [.int .i64 p0.Page, undef, .int .u64 p0.Epoch] [] [.pointer (some ⟨b7576, 1, none⟩), .int .i64 p0.Page, .int .u16 (IntKind.u16.wrap p0.Page), .pointer (some ⟨b7576, 2, none⟩), .int .u64 p0.Epoch] [.cell ⟨b7576, 1, none⟩ (.int .i64 p0.Page), .cell ⟨b7576, 2, none⟩ (.int .u64 p0.Epoch)] (by kernel_rfl) (by rintro w' ⟨I', s, k⟩; have e7574 := e7574S7605.st k; have rp7603 := rp7603S7605.st k; have rp7583 := rp7583S7605.st k; have eg0 := eg0S7605.st k; exact ⟨s.cell (i := 2) (off := 1) rfl rfl, s.cell (i := 2) (off := 2) rfl rfl⟩) ⟨_, s.pick [0, 1, 2] 3 rfl, kS7609⟩ ?_
  obtain ⟨x7610, hx7611, hf⟩ := bindS hf
  refine RD.op (i := 3) rfl (by kernel_rfl) (by kernel_rfl) (OK.call' en42 (by kernel_rfl) (c42 (F := (.sl (.slice (some ⟨b7586, 0, none⟩) 256 256) 49 1 256 cl7601) :: (.sl (.slice (some ⟨b7579, 0, none⟩) 256 256) 49 1 256 cl7581) :: (.blk b7576 (.cells #[.int .i64 p0.Kind, .int .i64 p0.Page, .int .u64 p0.Epoch, .slice A7571 p0.Data.length c7572] 25 (0, 0))) :: F) [] (IntKind.u16.wrap p0.Page) none 0 nil_hc Elems.nil s hx7611) ?_)
  intro X7614 hX7615
  refine fun _ _ hJ => hJ X7614 ?_
  intro I7616 A7617 n7618 c7619 cl7620 w7612 s k7613 hn7621 rp7622
  refine hX7615 _ _ ?_
  replace e7574 := e7574.st k7613
  replace rp7603 := rp7603.st k7613
  replace rp7583 := rp7583.st k7613
  replace eg0 := eg0.st k7613
  replace kk := kk.trans k7613
  replace kS7609 := kS7609.trans k7613
  refine ⟨fun _ => ⟨_, s.pick [1, 2, 3] 4 rfl, kS7609⟩, RD.fold ?_⟩
  have sa7624 := s
  obtain ⟨hc7625, e7626⟩ := St.lend s (i := 0) rfl hn7621 rp7622
  have k7627 := Kp.shut (I := I7616) (w := w7612) (p := .sl (.slice A7617 n7618 c7619) 5 1 n7618 cl7620)
  replace s := s.shut 0 rfl
  obtain ⟨x7628, hx7629, hf⟩ := bindS hf
  have hc7632 := c41 (F := (.sl (.slice (some ⟨b7586, 0, none⟩) 256 256) 49 1 256 cl7601) :: (.sl (.slice (some ⟨b7579, 0, none⟩) 256 256) 49 1 256 cl7581) :: (.blk b7576 (.cells #[.int .i64 p0.Kind, .int .i64 p0.Page, .int .u64 p0.Epoch, .slice A7571 p0.Data.length c7572] 25 (0, 0))) :: F) x7610 p0.Epoch A7617 c7619 hc7625 e7626 s hx7629
  rw [← hn7621] at hc7632
  refine RD.op (i := 6) rfl (by kernel_rfl) (by kernel_rfl) (OK.call' en41 (by kernel_rfl) (hc7632) ?_)
  intro X7633 hX7634
  refine fun _ _ hJ => hJ X7633 ?_
  intro I7635 A7636 n7637 c7638 cl7639 w7630 s k7631 hn7640 rp7641
  refine hX7634 _ _ ?_
  have s' := St.back sa7624 (i := 0) rfl s k7631
  replace k7631 := Kp.back sa7624 (i := 0) rfl k7631
  replace s := s'; clear s'
  obtain ⟨I7644, s, k7631⟩ : ∃ I : Nat → Prop, St w0 M I ((.sl (.slice A7617 n7618 c7619) 5 1 n7618 cl7620) :: (.sl (.slice A7636 n7637 c7638) 5 1 n7637 cl7639) :: (.sl (.slice (some ⟨b7586, 0, none⟩) 256 256) 49 1 256 cl7601) :: (.sl (.slice (some ⟨b7579, 0, none⟩) 256 256) 49 1 256 cl7581) :: (.blk b7576 (.cells #[.int .i64 p0.Kind, .int .i64 p0.Page, .int .u64 p0.Epoch, .slice A7571 p0.Data.length c7572] 25 (0, 0))) :: F) w7630 ∧ Kp _ _ I _ := ⟨_, s, k7631⟩
  replace rp7641 := RepL.free (I' := I7644) (w' := w7630) free_int rp7641
  replace e7574 := e7574.st k7631
  replace rp7603 := rp7603.st k7631
  replace rp7583 := rp7583.st k7631
  replace eg0 := eg0.st k7631
  replace rp7622 := rp7622.st k7631
  replace kk := kk.trans k7631
  replace kS7609 := kS7609.trans k7631
  refine ⟨fun _ => ⟨_, s.pick [2, 3, 4] 5 rfl, kS7609⟩, RD.fold ?_⟩
  refine RD.seg hT (by kernel_rfl) [7] [] [] [.slice A7636 n7637 c7638] [] (by kernel_rfl) (fun _ _ => trivial) ⟨_, s.pick [2, 3, 4] 5 rfl, kS7609⟩ ?_
  refine RD.done (by kernel_rfl) ?_
  refine WPK.seq ?_
  refine WPK.region ?_
  have h7654 : 0 ≤ (6 : Int) ∧ (6 : Int) ≤ 16 ∧ (16 : Int) ≤ ((256 : Nat) : Int) - 0 := by decide
  obtain ⟨o7645, n7646, c7647, q7648, q7649, q7650, q7651, q7652, pt7653⟩ := partS (b := b7586) (c := 256) (Pt.whole (size := 1) (row_hc (s.at (i := 2) rfl)).1) (Nat.le_refl _) h7654
  rw [Int.zero_add, Int.zero_add] at pt7653
  refine RW.seg hT 2 [] [(16, .slice (some ⟨b7586, o7645, none⟩) n7646 c7647)] [.slice (some ⟨b7586, o7645, none⟩) n7646 c7647, .slice A7636 n7637 c7638] [.both (.cut 6 16 256 256) (.veq (.slice (cutA (some ⟨b7586, 0, none⟩) (6 : Int).toNat 256 1) ((16 : Int).toNat - (6 : Int).toNat) (256 - (6 : Int).toNat)) (.slice (some ⟨b7586, o7645, none⟩) n7646 c7647))] (by kernel_rfl) (⟨⟨(q7652).1, (q7652).2.1, by have := (q7652).2.2.1; omega, by omega⟩, sl_eq q7648 q7649 q7650⟩) ?_
  have hs7656 := St.src s (i := 1) rfl hn7640 rp7641
  have rq7657 := rp7641
  obtain ⟨x7663, hx7664, hf⟩ := bindS hf
  replace hx7664 := someS hx7664
  refine RW.op (by kernel_rfl) (OK.copy hT (r := (Rp.int .u8)) (xs := y7597) (ys := x7628) (i := 2) (c := 256) (e := 49) (size := 1) (t := 23) (t' := 23) (et := 5) (l := 6) (h := 16) s (by kernel_rfl) rfl rfl rfl rfl rfl flat_int rfl rfl hn7604 rp7603 pt7653 hn7640 hs7656 rq7657 ?_)
  rintro w7658 cl7659 s k7660 rp7661 hn7662
  replace e7574 := e7574.st k7660
  replace rp7622 := rp7622.st k7660
  replace rp7641 := rp7641.st k7660
  replace rp7603 := rp7603.st k7660
  replace rp7583 := rp7583.st k7660
  replace eg0 := eg0.st k7660
  replace kk := kk.trans k7660
  rw [hx7664] at rp7661 hn7662
  refine RW.nil ?_
  refine WPK.seq ?_
  have e7574S7690 := e7574
  have rp7622S7690 := rp7622
  have rp7641S7690 := rp7641
  have rp7661S7690 := rp7661
  have rp7583S7690 := rp7583
  have eg0S7690 := eg0
  have kS7694 : Kp I7644 w7658 I7644 w7658 := Kp.refl
  refine WPK.draw (fun w' => ∃ I' : Nat → Prop, St w0 M I' ((.sl (.slice A7617 n7618 c7619) 5 1 n7618 cl7620) :: (.sl (.slice A7636 n7637 c7638) 5 1 n7637 cl7639) :: (.sl (.slice (some ⟨b7579, 0, none⟩) 256 256) 49 1 256 cl7581) :: (.blk b7576 (.cells #[.int .i64 p0.Kind, .int .i64 p0.Page, .int .u64 p0.Epoch, .slice A7571 p0.Data.length c7572] 25 (0, 0))) :: F) w' ∧ Kp I7644 w7658 I' w') 4 (by kernel_rfl) ?_
  intro w7691 hd7692
  have k7693 := Kp.dr s hd7692
  replace s := s.dr hd7692
  replace e7574 := e7574.st k7693
  replace rp7622 := rp7622.st k7693
  replace rp7641 := rp7641.st k7693
  replace rp7661 := rp7661.st k7693
  replace rp7583 := rp7583.st k7693
  replace eg0 := eg0.st k7693
  replace kk := kk.trans k7693
  replace kS7694 := kS7694.trans k7693
  obtain ⟨h7704, hf⟩ := iteS hf
  replace h7704 : (0 : Int) ≤ 16 ∧ 16 ≤ (x7663.length : Int) ∧ (x7663.length : Int) ≤ ((256 : Nat) : Int) - 0 := by have hnn := hn7662; omega
  obtain ⟨o7695, n7696, c7697, q7698, q7699, q7700, q7701, q7702, pt7703⟩ := partS (b := b7586) (c := 256) (Pt.whole (size := 1) (row_hc (s.at (i := 2) rfl)).1) (Nat.le_refl _) h7704
  rw [Int.zero_add, Int.zero_add] at pt7703
  replace q7699 : 256 - (16 : Int).toNat = n7696 := by rw [← q7699]; have hnn := hn7662; omega
  refine RD.seg hT (by kernel_rfl) [0, 1, 2] [.slice A7571 p0.Data.length c7572] [(19, .slice (some ⟨b7586, o7695, none⟩) n7696 c7697)] [.slice (some ⟨b7586, o7695, none⟩) n7696 c7697, .pointer (some ⟨b7576, 3, none⟩), .slice A7571 p0.Data.length c7572] [.both (.cut 16 (256 : Nat) 256 256) (.veq (.slice (cutA (some ⟨b7586, 0, none⟩) (16 : Int).toNat 256 1) (256 - (16 : Int).toNat) (256 - (16 : Int).toNat)) (.slice (some ⟨b7586, o7695, none⟩) n7696 c7697)), .cell ⟨b7576, 3, none⟩ (.slice A7571 p0.Data.length c7572)] (by kernel_rfl) (by rintro w' ⟨I', s, k⟩; have e7574 := e7574S7690.st k; have rp7622 := rp7622S7690.st k; have rp7641 := rp7641S7690.st k; have rp7661 := rp7661S7690.st k; have rp7583 := rp7583S7690.st k; have eg0 := eg0S7690.st k; exact ⟨⟨⟨(q7702).1, by have h1 := (q7702).2.1; have h2 := (q7702).2.2.1; omega, by have := (q7702).2.2.2; omega, by omega⟩, sl_eq q7698 q7699 q7700⟩, s.cell (i := 3) (off := 3) rfl rfl⟩) ⟨_, s.pick [0, 1, 3, 4] 5 rfl, kS7694⟩ ?_
  obtain ⟨nw7705, hs7706, rq7707⟩ := Elems.src e7574
  obtain ⟨x7713, hx7714, hf⟩ := bindS hf
  replace hx7714 := someS hx7714
  refine RD.op (i := 3) rfl (by kernel_rfl) (by kernel_rfl) (OK.copy hT (r := (Rp.int .u8)) (xs := x7663) (ys := p0.Data) (i := 2) (c := 256) (e := 49) (size := 1) (t := 23) (t' := 23) (et := 5) (l := 16) (h := (x7663.length : Int)) s (by kernel_rfl) rfl rfl rfl rfl rfl flat_int rfl rfl hn7662 rp7661 pt7703 rfl hs7706 rq7707 ?_)
  rintro w7708 cl7709 s k7710 rp7711 hn7712
  replace e7574 := e7574.st k7710
  replace rp7622 := rp7622.st k7710
  replace rp7641 := rp7641.st k7710
  replace rp7661 := rp7661.st k7710
  replace rp7583 := rp7583.st k7710
  replace eg0 := eg0.st k7710
  replace kk := kk.trans k7710
  replace kS7694 := kS7694.trans k7710
  rw [hx7714] at rp7711 hn7712
  refine ⟨fun _ => ⟨_, s.pick [0, 1, 3, 4] 5 rfl, kS7694⟩, RD.fold ?_⟩
  refine RD.done (by kernel_rfl) ?_
  refine WPK.seq ?_
  have e7574S8178 := e7574
  have rp7622S8178 := rp7622
  have rp7641S8178 := rp7641
  have rp7711S8178 := rp7711
  have rp7583S8178 := rp7583
  have eg0S8178 := eg0
  have kS8182 : Kp I7644 w7708 I7644 w7708 := Kp.refl
  refine WPK.draw (fun w' => ∃ I' : Nat → Prop, St w0 M I' ((.sl (.slice A7617 n7618 c7619) 5 1 n7618 cl7620) :: (.sl (.slice A7636 n7637 c7638) 5 1 n7637 cl7639) :: (.sl (.slice (some ⟨b7579, 0, none⟩) 256 256) 49 1 256 cl7581) :: (.blk b7576 (.cells #[.int .i64 p0.Kind, .int .i64 p0.Page, .int .u64 p0.Epoch, .slice A7571 p0.Data.length c7572] 25 (0, 0))) :: F) w' ∧ Kp I7644 w7708 I' w') 4 (by kernel_rfl) ?_
  intro w8179 hd8180
  have k8181 := Kp.dr s hd8180
  replace s := s.dr hd8180
  replace e7574 := e7574.st k8181
  replace rp7622 := rp7622.st k8181
  replace rp7641 := rp7641.st k8181
  replace rp7711 := rp7711.st k8181
  replace rp7583 := rp7583.st k8181
  replace eg0 := eg0.st k8181
  replace kk := kk.trans k8181
  replace kS8182 := kS8182.trans k8181
  have h8192 : 0 ≤ (0 : Int) ∧ (0 : Int) ≤ 4 ∧ (4 : Int) ≤ ((256 : Nat) : Int) - 0 := by decide
  obtain ⟨o8183, n8184, c8185, q8186, q8187, q8188, q8189, q8190, pt8191⟩ := partS (b := b7586) (c := 256) (Pt.whole (size := 1) (row_hc (s.at (i := 2) rfl)).1) (Nat.le_refl _) h8192
  rw [Int.zero_add, Int.zero_add] at pt8191
  refine RD.seg hT (by kernel_rfl) [0] [] [(23, .slice (some ⟨b7586, o8183, none⟩) n8184 c8185)] [.slice (some ⟨b7586, o8183, none⟩) n8184 c8185] [.both (.cut 0 4 256 256) (.veq (.slice (cutA (some ⟨b7586, 0, none⟩) (0 : Int).toNat 256 1) ((4 : Int).toNat - (0 : Int).toNat) (256 - (0 : Int).toNat)) (.slice (some ⟨b7586, o8183, none⟩) n8184 c8185))] (by kernel_rfl) (by rintro w' ⟨I', s, k⟩; have e7574 := e7574S8178.st k; have rp7622 := rp7622S8178.st k; have rp7641 := rp7641S8178.st k; have rp7711 := rp7711S8178.st k; have rp7583 := rp7583S8178.st k; have eg0 := eg0S8178.st k; exact ⟨⟨(q8190).1, (q8190).2.1, by have := (q8190).2.2.1; omega, by omega⟩, sl_eq q8186 q8187 q8188⟩) ⟨_, s.pick [0, 1, 3, 4] 5 rfl, kS8182⟩ ?_
  refine RD.op (i := 1) rfl (by kernel_rfl) (by kernel_rfl) (OK.inl (args := [.pointer (some ⟨b7586, 0, none⟩)]) en26 (by kernel_rfl) ?_)
  intro R8193 hR8194
  refine Ret.of Tryd.func26 rfl ?_
  refine WPK.seq ?_
  refine WPK.region ?_
  refine RW.seg hT 1 [] [] [.int .u32 0] [] (by kernel_rfl) (trivial) ?_
  refine RW.nil ?_
  refine WPK.seq ?_
  refine WPK.region ?_
  obtain ⟨h8415, hf⟩ := iteS hf
  replace h8415 : (0 : Int) ≤ 4 ∧ 4 ≤ (x7713.length : Int) ∧ (x7713.length : Int) ≤ ((256 : Nat) : Int) - 0 := by have hnn := hn7712; omega
  obtain ⟨o8406, n8407, c8408, q8409, q8410, q8411, q8412, q8413, pt8414⟩ := partS (b := b7586) (c := 256) (Pt.whole (size := 1) (row_hc (s.at (i := 2) rfl)).1) (Nat.le_refl _) h8415
  rw [Int.zero_add, Int.zero_add] at pt8414
  replace q8410 : 256 - (4 : Int).toNat = n8407 := by rw [← q8410]; have hnn := hn7712; omega
  refine RW.seg hT 3 [] [(5, .slice (some ⟨b7586, o8406, none⟩) n8407 c8408)] [.pointer (some ⟨b7586, 0, none⟩), .pointer (some ⟨b7586, 0, none⟩), .slice (some ⟨b7586, o8406, none⟩) n8407 c8408] [.both (.cut 4 (256 : Nat) 256 256) (.veq (.slice (cutA (some ⟨b7586, 0, none⟩) (4 : Int).toNat 256 1) (256 - (4 : Int).toNat) (256 - (4 : Int).toNat)) (.slice (some ⟨b7586, o8406, none⟩) n8407 c8408))] (by kernel_rfl) (⟨⟨(q8413).1, by have h1 := (q8413).2.1; have h2 := (q8413).2.2.1; omega, by have := (q8413).2.2.2; omega, by omega⟩, sl_eq q8409 q8410 q8411⟩) ?_
  refine RW.op (by kernel_rfl) (OK.new hT (f := fun b => .slice (some ⟨b, 0, none⟩) 1 1) (cs := [.slice (some ⟨b7586, o8406, none⟩) n8407 c8408]) (e := 23) (c := .tt) s (by kernel_rfl) trivial ?_)
  rintro w8416 b8417 s k8418 -
  replace e7574 := e7574.st k8418
  replace rp7622 := rp7622.st k8418
  replace rp7641 := rp7641.st k8418
  replace rp7711 := rp7711.st k8418
  replace rp7583 := rp7583.st k8418
  replace eg0 := eg0.st k8418
  replace kk := kk.trans k8418
  replace kS8182 := kS8182.trans k8418
  refine RW.op (by kernel_rfl) (OK.inl (args := [.slice (some ⟨b8417, 0, none⟩) 1 1]) en40 (by kernel_rfl) ?_)
  intro R8419 hR8420
  refine Ret.of Tryd.func40 rfl ?_
  refine WPK.seq ?_
  refine WPK.region ?_
  refine RW.seg hT 1 [] [] [.int .u32 0] [] (by kernel_rfl) (trivial) ?_
  refine RW.nil ?_
  refine WPK.seq ?_
  refine WPK.region ?_
  refine RW.seg hT 1 [] [] [.slice (some ⟨b8417, 0, none⟩) 1 1] [] (by kernel_rfl) (trivial) ?_
  refine RW.op (by kernel_rfl) (OK.inl (args := [.int .u32 0, .slice (some ⟨b8417, 0, none⟩) 1 1]) en52 (by kernel_rfl) ?_)
  intro R8519 hR8520
  refine Ret.of Tryd.func52 rfl ?_
  refine WPK.seq ?_
  refine WPK.region ?_
  refine RW.seg hT 1 [] [] [.int .u32 0] [] (by kernel_rfl) (trivial) ?_
  refine RW.nil ?_
  refine WPK.seq ?_
  refine WPK.region ?_
  refine RW.seg hT 1 [] [] [.int .u32 0] [] (by kernel_rfl) (trivial) ?_
  obtain ⟨x8569, hx8570, hf⟩ := bindS hf
  refine RW.op (by kernel_rfl) (OK.call' en59 (by kernel_rfl) (c59 (F := (.blk b8417 (.cells #[.slice (some ⟨b7586, o8406, none⟩) n8407 c8408] 23 (0, 0))) :: (.sl (.slice A7617 n7618 c7619) 5 1 n7618 cl7620) :: (.sl (.slice A7636 n7637 c7638) 5 1 n7637 cl7639) :: (.sl (.slice (some ⟨b7586, 0, none⟩) 256 256) 49 1 256 cl7709) :: (.sl (.slice (some ⟨b7579, 0, none⟩) 256 256) 49 1 256 cl7581) :: (.blk b7576 (.cells #[.int .i64 p0.Kind, .int .i64 p0.Page, .int .u64 p0.Epoch, .slice A7571 p0.Data.length c7572] 25 (0, 0))) :: F) 0 s hx8570) ?_)
  intro X8573 hX8574
  refine fun _ _ hJ => hJ X8573 ?_
  intro I8575 w8571 s k8572
  refine hX8574 _ _ ?_
  replace e7574 := e7574.st k8572
  replace rp7622 := rp7622.st k8572
  replace rp7641 := rp7641.st k8572
  replace rp7711 := rp7711.st k8572
  replace rp7583 := rp7583.st k8572
  replace eg0 := eg0.st k8572
  replace kk := kk.trans k8572
  replace kS8182 := kS8182.trans k8572
  refine RW.seg hT 1 [] [] [.int .u32 x8569] [] (by kernel_rfl) (trivial) ?_
  refine RW.nil ?_
  refine WPK.seq ?_
  refine WPK.seq ?_
  refine WPK.region ?_
  refine RW.seg hT 3 [] [] [.slice (some ⟨b8417, 0, none⟩) 1 1, .int .i64 1, .int .i64 0] [] (by kernel_rfl) (trivial) ?_
  refine RW.nil ?_
  refine WPK.block ?_
  refine WPK.rounds 12 ?_
  refine Rounds.go ?_
  refine WPK.seq ?_
  refine WPK.region ?_
  refine RW.seg hT 1 [] [] [.bool true] [] (by kernel_rfl) (trivial) ?_
  refine RW.nil ?_
  refine WPK.seq ?_
  refine WPK.condT (by kernel_rfl) ?_
  refine WPK.skip ?_
  refine WPK.seq ?_
  refine WPK.block ?_
  refine WPK.seq ?_
  refine WPK.region ?_
  refine RW.seg hT 3 [.slice (some ⟨b7586, o8406, none⟩) n8407 c8408] [] [.pointer (some ⟨b8417, 0, none⟩), .slice (some ⟨b7586, o8406, none⟩) n8407 c8408, .slice (some ⟨b7586, o8406, none⟩) n8407 c8408] [.idx 0 1, .cell ⟨b8417, 0, none⟩ (.slice (some ⟨b7586, o8406, none⟩) n8407 c8408)] (by kernel_rfl) (⟨⟨by decide, by decide⟩, s.cell (i := 0) (off := 0) rfl rfl⟩) ?_
  refine RW.nil ?_
  refine WPK.region ?_
  refine RW.seg hT 2 [] [] [.int .u32 x8569, .slice (some ⟨b7586, o8406, none⟩) n8407 c8408] [] (by kernel_rfl) (trivial) ?_
  obtain ⟨y8597, hy8598, hf⟩ := bindS hf
  have sa8593 := s
  obtain ⟨hm8599, hc8594, e8595⟩ := St.lendPt s (i := 3) rfl rfl rp7711 pt8414 (q8412) hy8598
  have k8596 := Kp.shut (I := I8575) (w := w8571) (p := .sl (.slice (some ⟨b7586, 0, none⟩) 256 256) 49 1 256 cl7709)
  replace s := s.shut 3 rfl
  obtain ⟨x8600, hx8601, hf⟩ := bindS hf
  have hc8604 := c60 (F := (.blk b8417 (.cells #[.slice (some ⟨b7586, o8406, none⟩) n8407 c8408] 23 (0, 0))) :: (.sl (.slice A7617 n7618 c7619) 5 1 n7618 cl7620) :: (.sl (.slice A7636 n7637 c7638) 5 1 n7637 cl7639) :: (.sl (.slice (some ⟨b7579, 0, none⟩) 256 256) 49 1 256 cl7581) :: (.blk b7576 (.cells #[.int .i64 p0.Kind, .int .i64 p0.Page, .int .u64 p0.Epoch, .slice A7571 p0.Data.length c7572] 25 (0, 0))) :: F) x8569 y8597 (some ⟨b7586, o8406, none⟩) c8408 hc8594 e8595 (eg0.st k8596) s hx8601
  rw [← hm8599] at hc8604
  refine RW.op (by kernel_rfl) (OK.call' en60 (by kernel_rfl) (hc8604) ?_)
  intro X8605 hX8606
  refine fun _ _ hJ => hJ X8605 ?_
  intro I8607 w8602 s k8603
  refine hX8606 _ _ ?_
  have s' := St.back sa8593 (i := 3) rfl s k8603
  replace k8603 := Kp.back sa8593 (i := 3) rfl k8603
  replace s := s'; clear s'
  obtain ⟨I8609, s, k8603⟩ : ∃ I : Nat → Prop, St w0 M I ((.sl (.slice (some ⟨b7586, 0, none⟩) 256 256) 49 1 256 cl7709) :: (.blk b8417 (.cells #[.slice (some ⟨b7586, o8406, none⟩) n8407 c8408] 23 (0, 0))) :: (.sl (.slice A7617 n7618 c7619) 5 1 n7618 cl7620) :: (.sl (.slice A7636 n7637 c7638) 5 1 n7637 cl7639) :: (.sl (.slice (some ⟨b7579, 0, none⟩) 256 256) 49 1 256 cl7581) :: (.blk b7576 (.cells #[.int .i64 p0.Kind, .int .i64 p0.Page, .int .u64 p0.Epoch, .slice A7571 p0.Data.length c7572] 25 (0, 0))) :: F) w8602 ∧ Kp _ _ I _ := ⟨_, s, k8603⟩
  replace e7574 := e7574.st k8603
  replace rp7622 := rp7622.st k8603
  replace rp7641 := rp7641.st k8603
  replace rp7583 := rp7583.st k8603
  replace eg0 := eg0.st k8603
  replace rp7711 := rp7711.st k8603
  replace kk := kk.trans k8603
  replace kS8182 := kS8182.trans k8603
  refine RW.seg hT 1 [] [] [.int .u32 x8600] [] (by kernel_rfl) (trivial) ?_
  refine RW.nil ?_
  refine WPK.region ?_
  refine RW.seg hT 2 [] [] [.int .i64 1, .int .i64 1] [] (by kernel_rfl) (trivial) ?_
  refine RW.nil ?_
  refine Rounds.go ?_
  refine WPK.seq ?_
  refine WPK.region ?_
  refine RW.seg hT 1 [] [] [.bool false] [] (by kernel_rfl) (trivial) ?_
  refine RW.nil ?_
  refine WPK.seq ?_
  refine WPK.condF (by kernel_rfl) ?_
  refine WPK.exit (blockQ.same ?_)
  refine WPK.seq ?_
  refine WPK.region ?_
  refine RW.seg hT 1 [] [] [.int .u32 x8600] [] (by kernel_rfl) (trivial) ?_
  obtain ⟨x8610, hx8611, hf⟩ := bindS hf
  refine RW.op (by kernel_rfl) (OK.call' en61 (by kernel_rfl) (c61 (F := (.sl (.slice (some ⟨b7586, 0, none⟩) 256 256) 49 1 256 cl7709) :: (.blk b8417 (.cells #[.slice (some ⟨b7586, o8406, none⟩) n8407 c8408] 23 (0, 0))) :: (.sl (.slice A7617 n7618 c7619) 5 1 n7618 cl7620) :: (.sl (.slice A7636 n7637 c7638) 5 1 n7637 cl7639) :: (.sl (.slice (some ⟨b7579, 0, none⟩) 256 256) 49 1 256 cl7581) :: (.blk b7576 (.cells #[.int .i64 p0.Kind, .int .i64 p0.Page, .int .u64 p0.Epoch, .slice A7571 p0.Data.length c7572] 25 (0, 0))) :: F) x8600 s hx8611) ?_)
  intro X8614 hX8615
  refine fun _ _ hJ => hJ X8614 ?_
  intro I8616 w8612 s k8613
  refine hX8615 _ _ ?_
  replace e7574 := e7574.st k8613
  replace rp7711 := rp7711.st k8613
  replace rp7622 := rp7622.st k8613
  replace rp7641 := rp7641.st k8613
  replace rp7583 := rp7583.st k8613
  replace eg0 := eg0.st k8613
  replace kk := kk.trans k8613
  replace kS8182 := kS8182.trans k8613
  refine RW.seg hT 1 [] [] [.int .u32 x8610] [] (by kernel_rfl) (trivial) ?_
  refine RW.nil ?_
  refine WPK.ret (?_)
  refine Fin.of (rs := [.tmp 4]) hT [] (.int .u32 x8610) [] rfl (by kernel_rfl) (trivial) ?_
  refine hR8520 _ _ ?_
  refine RW.seg hT 1 [] [] [.int .u32 x8610] [] (by kernel_rfl) (trivial) ?_
  refine RW.nil ?_
  refine WPK.ret (?_)
  refine Fin.of (rs := [.tmp 2]) hT [] (.int .u32 x8610) [] rfl (by kernel_rfl) (trivial) ?_
  refine hR8420 _ _ ?_
  refine RW.seg hT 1 [] [] [.int .u32 x8610] [] (by kernel_rfl) (trivial) ?_
  refine RW.nil ?_
  refine WPK.ret (?_)
  refine Fin.of (rs := [.tmp 2]) hT [] (.int .u32 x8610) [] rfl (by kernel_rfl) (trivial) ?_
  refine hR8194 _ _ ?_
  refine ⟨fun _ => ⟨_, s.pick [2, 3, 4, 5] 6 rfl, kS8182⟩, RD.fold ?_⟩
  obtain ⟨x8617, hx8618, hf⟩ := bindS hf
  refine RD.op (i := 2) rfl (by kernel_rfl) (by kernel_rfl) (OK.call' en43 (by kernel_rfl) (c43 (F := (.sl (.slice (some ⟨b7586, 0, none⟩) 256 256) 49 1 256 cl7709) :: (.blk b8417 (.cells #[.slice (some ⟨b7586, o8406, none⟩) n8407 c8408] 23 (0, 0))) :: (.sl (.slice A7617 n7618 c7619) 5 1 n7618 cl7620) :: (.sl (.slice A7636 n7637 c7638) 5 1 n7637 cl7639) :: (.sl (.slice (some ⟨b7579, 0, none⟩) 256 256) 49 1 256 cl7581) :: (.blk b7576 (.cells #[.int .i64 p0.Kind, .int .i64 p0.Page, .int .u64 p0.Epoch, .slice A7571 p0.Data.length c7572] 25 (0, 0))) :: F) [] x8610 none 0 nil_hc Elems.nil s hx8618) ?_)
  intro X8621 hX8622
  refine fun _ _ hJ => hJ X8621 ?_
  intro I8623 A8624 n8625 c8626 cl8627 w8619 s k8620 hn8628 rp8629
  refine hX8622 _ _ ?_
  replace e7574 := e7574.st k8620
  replace rp7711 := rp7711.st k8620
  replace rp7622 := rp7622.st k8620
  replace rp7641 := rp7641.st k8620
  replace rp7583 := rp7583.st k8620
  replace eg0 := eg0.st k8620
  replace kk := kk.trans k8620
  replace kS8182 := kS8182.trans k8620
  refine ⟨fun _ => ⟨_, s.pick [3, 4, 5, 6] 7 rfl, kS8182⟩, RD.fold ?_⟩
  have hs8632 := St.src s (i := 0) rfl hn8628 rp8629
  have rq8633 := rp8629
  obtain ⟨x8639, hx8640, hf⟩ := bindS hf
  replace hx8640 := someS hx8640
  refine RD.op (i := 3) rfl (by kernel_rfl) (by kernel_rfl) (OK.copy hT (r := (Rp.int .u8)) (xs := x7713) (ys := x8617) (i := 1) (c := 256) (e := 49) (size := 1) (t := 23) (t' := 23) (et := 5) (l := 0) (h := 4) s (by kernel_rfl) rfl rfl rfl rfl rfl flat_int rfl rfl hn7712 rp7711 pt8191 hn8628 hs8632 rq8633 ?_)
  rintro w8634 cl8635 s k8636 rp8637 hn8638
  replace e7574 := e7574.st k8636
  replace rp8629 := rp8629.st k8636
  replace rp7711 := rp7711.st k8636
  replace rp7622 := rp7622.st k8636
  replace rp7641 := rp7641.st k8636
  replace rp7583 := rp7583.st k8636
  replace eg0 := eg0.st k8636
  replace kk := kk.trans k8636
  replace kS8182 := kS8182.trans k8636
  rw [hx8640] at rp8637 hn8638
  refine ⟨fun _ => ⟨_, s.pick [3, 4, 5, 6] 7 rfl, kS8182⟩, RD.fold ?_⟩
  refine RD.done (by kernel_rfl) ?_
  refine WPK.seq ?_
  refine WPK.region ?_
  refine RW.seg hT 1 [.agg (List.map (Value.int .u8) x8639).toArray] [] [.agg (List.map (Value.int .u8) x8639).toArray] [.cells ⟨b7586, 0, none⟩ (List.map (Value.int .u8) x8639) 256] (by kernel_rfl) (St.arr s (i := 1) rfl rp8637 hn8638) ?_
  obtain ⟨cl8643, hcl8644⟩ : ∃ q, q = List.map (Value.int .u8) x8639 := ⟨_, rfl⟩
  have rp8645 : RepL (Rp.int .u8) I8623 w8634 cl8643 x8639 := by rw [hcl8644]; exact repl_map
  have hn8646 := hn8638
  refine RW.op (by kernel_rfl) (OK.storeAt hT (i := 5) (b := b7579) (off := 0) (m := 256) (vs := (List.map (Value.int .u8) x8639)) (c := 256) (e := 49) (size := 1) (n := 256) (cl := cl7581) (cl' := cl8643) s (by kernel_rfl) rfl (by rw [List.length_map]; exact (hn8638).symm) (RepL.flat flat_int (repl_map (I := I8623) (w := w8634))) (by have h1 := RepL.length rp7583; have h2 := (hn7584).symm.trans hn8638; have h3 : (Rp.int .u8).n = 1 := rfl; rw [h3] at h1; simp only [List.length_map]; omega) (by rw [hcl8644]; have h1 := RepL.length rp7583; have h3 : (Rp.int .u8).n = 1 := rfl; rw [h3, Nat.mul_one, ← hn7584] at h1; exact setL_all (by rw [List.length_map, h1]; exact (hn8638).symm)) ?_)
  rintro w8641 s k8642
  replace e7574 := e7574.st k8642
  replace rp8629 := rp8629.st k8642
  replace rp8637 := rp8637.st k8642
  replace rp7622 := rp7622.st k8642
  replace rp7641 := rp7641.st k8642
  replace rp8645 := rp8645.st k8642
  replace eg0 := eg0.st k8642
  replace kk := kk.trans k8642
  refine RW.nil ?_
  refine WPK.ret (?_)
  obtain rfl := someS hf
  refine Fin.of (rs := [.cell 2 49]) hT [.agg (List.map (Value.int .u8) x8639).toArray] (.agg (List.map (Value.int .u8) x8639).toArray) [.cells ⟨b7579, 0, none⟩ (List.map (Value.int .u8) x8639) 256] rfl (by kernel_rfl) (St.arr s (i := 5) rfl rp8645 hn8646) ?_
  replace s := s.pick [] 7 rfl
  exact fun X h => vc rfl (h I8623 _ s kk hn8646)
theorem c11 {w0 w : World} {M I : Nat → Prop} {F : List It} (p0 : T_api_Frame) (A8669 : Option Addr) (c8670 : Nat) (hc8671 : (p0.Data.length ≤ c8670 ∧ c8670 ≤ 9223372036854775807)) (e8672 : Elems (Rp.int .u8) I w A8669 p0.Data) (eg0 : Elems (Rp.int .u32) I w (some ⟨0, 0, none⟩) TAB0) (s : St w0 M I (F) w) {r : ((List Int) × Int)} (hf : g11 p0 = some r) :
    Ret Tryd.prog 11 [.agg #[.int .i64 p0.Kind, .int .i64 p0.Page, .int .u64 p0.Epoch, .slice A8669 p0.Data.length c8670]] w fun v wz => ∀ X : Value → World → Prop, (∀ (I' : Nat → Prop) (A8715 : Option Addr) (n8716 : Nat) (c8717 : Nat) (cl8718 : List Value) (w' : World), St w0 M I' ((.sl (.slice A8715 n8716 c8717) 49 1 n8716 cl8718) :: F) w' → Kp I w I' w' → n8716 = r.1.length → RepL (Rp.int .u8) I' w' cl8718 r.1 → X (.tuple #[.slice A8715 n8716 c8717, .int .i64 r.2]) w') → X v wz := by
  have kk : Kp I w I w := Kp.refl
  unfold g11 at hf
  refine Ret.of Tryd.func11 rfl ?_
  refine WPK.seq ?_
  refine WPK.region ?_
  refine RW.op (by kernel_rfl) (OK.new hT (f := fun b => .pointer (some ⟨b, 0, none⟩)) (cs := [.int .i64 p0.Kind, .int .i64 p0.Page, .int .u64 p0.Epoch, .slice A8669 p0.Data.length c8670]) (e := 25) (c := .tt) s (by kernel_rfl) trivial ?_)
  rintro w8673 b8674 s k8675 -
  replace e8672 := e8672.st k8675
  replace eg0 := eg0.st k8675
  replace kk := kk.trans k8675
  refine RW.seg hT 2 [] [] [.slice none 0 0, .int .i64 0] [] (by kernel_rfl) (trivial) ?_
  refine RW.nil ?_
  refine WPK.seq ?_
  refine WPK.seq ?_
  refine WPK.region ?_
  refine RW.seg hT 1 [.agg #[.int .i64 p0.Kind, .int .i64 p0.Page, .int .u64 p0.Epoch, .slice A8669 p0.Data.length c8670]] [] [.agg #[.int .i64 p0.Kind, .int .i64 p0.Page, .int .u64 p0.Epoch, .slice A8669 p0.Data.length c8670]] [.cells ⟨b8674, 0, none⟩ [.int .i64 p0.Kind, .int .i64 p0.Page, .int .u64 p0.Epoch, .slice A8669 p0.Data.length c8670] 4] (by kernel_rfl) (s.cells (i := 0) rfl rfl rfl) ?_
  obtain ⟨x8685, hx8686, hf⟩ := bindS hf
  refine RW.op (by kernel_rfl) (OK.call' en22 (by kernel_rfl) (c22 (F := (.blk b8674 (.cells #[.int .i64 p0.Kind, .int .i64 p0.Page, .int .u64 p0.Epoch, .slice A8669 p0.Data.length c8670] 25 (0, 0))) :: F) p0 A8669 c8670 hc8671 e8672 s hx8686) ?_)
  intro X8689 hX8690
  refine fun _ _ hJ => hJ X8689 ?_
  intro I8691 w8687 s k8688
  refine hX8690 _ _ ?_
  replace e8672 := e8672.st k8688
  replace eg0 := eg0.st k8688
  replace kk := kk.trans k8688
  refine RW.seg hT 1 [] [] [.int .i64 x8685] [] (by kernel_rfl) (trivial) ?_
  refine RW.nil ?_
  refine WPK.seq ?_
  refine WPK.region ?_
  refine RW.seg hT 2 [] [(9, .bool (decide (x8685 ≠ 0)))] [.int .i64 x8685, .bool (decide (x8685 ≠ 0))] [.veq (.bool (x8685 != 0)) (.bool (decide (x8685 ≠ 0)))] (by kernel_rfl) (ne_v) ?_
  refine RW.nil ?_
  by_cases h8692 : x8685 ≠ 0
  · have hf := iteT h8692 hf
    refine WPK.condT (Eq.trans (b := .bool (decide (x8685 ≠ 0))) (by kernel_rfl) (bo_t h8692)) ?_
    refine WPK.seq ?_
    refine WPK.region ?_
    refine RW.seg hT 3 [] [] [.int .i64 x8685, .slice none 0 0, .int .i64 x8685] [] (by kernel_rfl) (trivial) ?_
    refine RW.nil ?_
    refine WPK.ret (?_)
    obtain rfl := someS hf
    refine Fin.of (rs := [.tmp 2, .tmp 3]) hT [] (.tuple #[.slice none 0 0, .int .i64 x8685]) [] rfl (by kernel_rfl) (trivial) ?_
    replace s := s.pushNil 49 1
    replace s := s.pick [0] 2 rfl
    exact fun X h => vc rfl (h I8691 none 0 0 [] _ s kk rfl (RepL.nil (r := (Rp.int .u8))))
  · have hf := iteF h8692 hf
    refine WPK.condF (Eq.trans (b := .bool (decide (x8685 ≠ 0))) (by kernel_rfl) (bo_f h8692)) ?_
    refine WPK.skip ?_
    refine WPK.seq ?_
    refine WPK.region ?_
    refine RW.seg hT 1 [.agg #[.int .i64 p0.Kind, .int .i64 p0.Page, .int .u64 p0.Epoch, .slice A8669 p0.Data.length c8670]] [] [.agg #[.int .i64 p0.Kind, .int .i64 p0.Page, .int .u64 p0.Epoch, .slice A8669 p0.Data.length c8670]] [.cells ⟨b8674, 0, none⟩ [.int .i64 p0.Kind, .int .i64 p0.Page, .int .u64 p0.Epoch, .slice A8669 p0.Data.length c8670] 4] (by kernel_rfl) (s.cells (i := 0) rfl rfl rfl) ?_
    obtain ⟨x8694, hx8695, hf⟩ := bindS hf
    refine RW.op (by kernel_rfl) (OK.call' en28 (by kernel_rfl) (c28 (F := (.blk b8674 (.cells #[.int .i64 p0.Kind, .int .i64 p0.Page, .int .u64 p0.Epoch, .slice A8669 p0.Data.length c8670] 25 (0, 0))) :: F) p0 A8669 c8670 hc8671 e8672 eg0 s hx8695) ?_)
    intro X8698 hX8699
    refine fun _ _ hJ => hJ X8698 ?_
    intro I8700 w8696 s k8697 hl8701
    refine hX8699 _ _ ?_
    replace e8672 := e8672.st k8697
    replace eg0 := eg0.st k8697
    replace kk := kk.trans k8697
    refine RW.op (by kernel_rfl) (OK.new hT (f := fun b => .pointer (some ⟨b, 0, none⟩)) (cs := (List.replicate 256 (Value.int .u8 0))) (e := 49) (c := .tt) s (by kernel_rfl) trivial ?_)
    rintro w8702 b8703 s k8704 -
    have hn8708 : 256 = ((List.replicate 256 (0 : Int))).length := by simp
    obtain ⟨cl8705, hcl8706⟩ : ∃ q, q = (List.replicate 256 (Value.int .u8 0)) := ⟨_, rfl⟩
    replace s := s.blkSl (i := 0) (n := 256) (c := 256) (size := 1) rfl (by simp) (Nat.le_refl _) (by decide)
    rw [List.take_of_length_le (by simp), ← hcl8706] at s
    replace e8672 := e8672.st k8704
    replace eg0 := eg0.st k8704
    replace kk := kk.trans k8704
    have rp8707 : RepL (Rp.int .u8) I8700 w8702 cl8705 (List.replicate 256 (0 : Int)) := by rw [hcl8706]; exact RepL.rep rfl _
    obtain ⟨cl8711, hcl8712⟩ : ∃ q, q = List.map (Value.int .u8) x8694 := ⟨_, rfl⟩
    have rp8713 : RepL (Rp.int .u8) I8700 w8702 cl8711 x8694 := by rw [hcl8712]; exact repl_map
    have hn8714 := hl8701
    refine RW.op (by kernel_rfl) (OK.storeAt hT (i := 0) (b := b8703) (off := 0) (m := 256) (vs := (List.map (Value.int .u8) x8694)) (c := 256) (e := 49) (size := 1) (n := 256) (cl := cl8705) (cl' := cl8711) s (by kernel_rfl) rfl (by rw [List.length_map]; exact (hl8701).symm) (RepL.flat flat_int (repl_map (I := I8700) (w := w8702))) (by have h1 := RepL.length rp8707; have h2 := (hn8708).symm.trans hl8701; have h3 : (Rp.int .u8).n = 1 := rfl; rw [h3] at h1; simp only [List.length_map]; omega) (by rw [hcl8712]; have h1 := RepL.length rp8707; have h3 : (Rp.int .u8).n = 1 := rfl; rw [h3, Nat.mul_one, ← hn8708] at h1; exact setL_all (by rw [List.length_map, h1]; exact (hl8701).symm)) ?_)
    rintro w8709 s k8710
    replace e8672 := e8672.st k8710
    replace rp8713 := rp8713.st k8710
    replace eg0 := eg0.st k8710
    replace kk := kk.trans k8710
    refine RW.nil ?_
    refine WPK.seq ?_
    refine WPK.region ?_
    refine RW.seg hT 3 [] [] [.slice (some ⟨b8703, 0, none⟩) 256 256, .slice (some ⟨b8703, 0, none⟩) 256 256, .int .i64 0] [] (by kernel_rfl) (trivial) ?_
    refine RW.nil ?_
    refine WPK.ret (?_)
    obtain rfl := someS hf
    refine Fin.of (rs := [.tmp 2, .tmp 3]) hT [] (.tuple #[.slice (some ⟨b8703, 0, none⟩) 256 256, .int .i64 0]) [] rfl (by kernel_rfl) (trivial) ?_
    replace s := s.pick [0] 2 rfl
    exact fun X h => vc rfl (h I8700 (some ⟨b8703, 0, none⟩) 256 256 cl8711 _ s kk hn8714 rp8713)
theorem c20 {w0 w : World} {M I : Nat → Prop} {F : List It} (p0 : (List Int)) (p1 : (List Int)) (A10664 : Option Addr) (c10665 : Nat) (A10668 : Option Addr) (c10669 : Nat) (hc10666 : (p0.length ≤ c10665 ∧ c10665 ≤ 9223372036854775807)) (e10667 : Elems (Rp.int .u8) I w A10664 p0) (hc10670 : (p1.length ≤ c10669 ∧ c10669 ≤ 9223372036854775807)) (e10671 : Elems (Rp.int .u8) I w A10668 p1) (s : St w0 M I (F) w) {r : Bool} (hf : g20 p0 p1 = some r) :
    Ret Tryd.prog 20 [.slice A10664 p0.length c10665, .slice A10668 p1.length c10669] w fun v wz => ∀ X : Value → World → Prop, (∀ (I' : Nat → Prop) (w' : World), St w0 M I' (F) w' → Kp I w I' w' → X (.bool r) w') → X v wz := by
  have kk : Kp I w I w := Kp.refl
  unfold g20 at hf
  refine Ret.of Tryd.func20 rfl ?_
  refine WPK.seq ?_
  refine WPK.region ?_
  refine RW.seg hT 1 [] [] [.bool false] [] (by kernel_rfl) (trivial) ?_
  refine RW.nil ?_
  refine WPK.seq ?_
  refine WPK.region ?_
  refine RW.seg hT 6 [.string (strOfNums p0), .string (strOfNums p1)] [(9, .bool (decide ((strOfNums p0).toList = (strOfNums p1).toList)))] [.slice A10664 p0.length c10665, .string (strOfNums p0), .slice A10668 p1.length c10669, .string (strOfNums p1), .bool (decide ((strOfNums p0).toList = (strOfNums p1).toList)), .bool (decide ((strOfNums p0).toList = (strOfNums p1).toList))] [.bytes A10664 p0.length (strOfNums p0), .bytes A10668 p1.length (strOfNums p1), .veq (.bool ((strOfNums p0).toList == (strOfNums p1).toList)) (.bool (decide ((strOfNums p0).toList = (strOfNums p1).toList)))] (by kernel_rfl) (⟨Elems.bytes e10667, Elems.bytes e10671, beq_v⟩) ?_
  refine RW.nil ?_
  refine WPK.ret (?_)
  obtain rfl := someS hf
  refine Fin.of (rs := [.tmp 4]) hT [] (.bool (decide ((strOfNums p0).toList = (strOfNums p1).toList))) [] rfl (by kernel_rfl) (trivial) ?_
  exact fun X h => vc rfl (h I _ s kk)
theorem c9 {w0 w : World} {M I : Nat → Prop} {F : List It}  (eg0 : Elems (Rp.int .u32) I w (some ⟨0, 0, none⟩) TAB0) (s : St w0 M I (F) w) {r : Bool} (hf : g9 = some r) :
    Ret Tryd.prog 9 [] w fun v wz => ∀ X : Value → World → Prop, (∀ (I' : Nat → Prop) (w' : World), St w0 M I' (F) w' → Kp I w I' w' → X (.bool r) w') → X v wz := by
  have kk : Kp I w I w := Kp.refl
  unfold g9 at hf
  refine Ret.of Tryd.func9 rfl ?_
  refine WPK.seq ?_
  refine WPK.region ?_
  refine RW.seg hT 1 [] [] [.bool false] [] (by kernel_rfl) (trivial) ?_
  refine RW.nil ?_
  refine WPK.seq ?_
  refine WPK.region ?_
  refine RW.op (by kernel_rfl) (OK.new hT (f := fun b => .slice (some ⟨b, 0, none⟩) 2 2) (cs := [.int .u8 7, .int .u8 8]) (e := 5) (c := .tt) s (by kernel_rfl) trivial ?_)
  rintro w12586 b12587 s k12588 -
  replace eg0 := eg0.st k12588
  replace kk := kk.trans k12588
  have rp12589 : RepL (Rp.int .u8) I w12586 [.int .u8 7, .int .u8 8] ([7, 8] : List Int) := RepL.cons (c := [.int .u8 7]) (d := [.int .u8 8]) (rfl) (RepL.cons (c := [.int .u8 8]) (d := []) (rfl) (RepL.nil))
  replace s : St w0 M I ((.sl (.slice (some ⟨b12587, 0, none⟩) 2 2) 5 1 2 [.int .u8 7, .int .u8 8]) :: F) w12586 := s.blkSl (i := 0) (n := 2) (c := 2) (size := 1) rfl rfl (Nat.le_refl _) (by decide)
  refine RW.seg hT 1 [] [] [.agg #[.int .i64 2, .int .i64 5, .int .u64 1, .slice (some ⟨b12587, 0, none⟩) 2 2]] [] (by kernel_rfl) (trivial) ?_
  have sa12591 := s
  obtain ⟨hc12592, e12593⟩ := St.lend s (i := 0) rfl rfl rp12589
  have k12594 := Kp.shut (I := I) (w := w12586) (p := .sl (.slice (some ⟨b12587, 0, none⟩) 2 2) 5 1 2 [.int .u8 7, .int .u8 8])
  replace s := s.shut 0 rfl
  obtain ⟨x12595, hx12596, hf⟩ := bindS hf
  refine RW.op (by kernel_rfl) (OK.call' en11 (by kernel_rfl) (c11 (F := F) (T_api_Frame.mk 2 5 1 ([7, 8] : List Int)) (some ⟨b12587, 0, none⟩) 2 hc12592 e12593 (eg0.st k12594) s hx12596) ?_)
  intro X12599 hX12600
  refine fun _ _ hJ => hJ X12599 ?_
  intro I12601 A12602 n12603 c12604 cl12605 w12597 s k12598 hn12606 rp12607
  refine hX12600 _ _ ?_
  have s' := St.back sa12591 (i := 0) rfl s k12598
  replace k12598 := Kp.back sa12591 (i := 0) rfl k12598
  replace s := s'; clear s'
  obtain ⟨I12610, s, k12598⟩ : ∃ I : Nat → Prop, St w0 M I ((.sl (.slice (some ⟨b12587, 0, none⟩) 2 2) 5 1 2 [.int .u8 7, .int .u8 8]) :: (.sl (.slice A12602 n12603 c12604) 49 1 n12603 cl12605) :: F) w12597 ∧ Kp _ _ I _ := ⟨_, s, k12598⟩
  replace rp12607 := RepL.free (I' := I12610) (w' := w12597) free_int rp12607
  replace eg0 := eg0.st k12598
  replace rp12589 := rp12589.st k12598
  replace kk := kk.trans k12598
  refine RW.seg hT 5 [] [] [.tuple #[.slice A12602 n12603 c12604, .int .i64 x12595.2], .slice A12602 n12603 c12604, .int .i64 x12595.2, .slice A12602 n12603 c12604, .int .i64 x12595.2] [] (by kernel_rfl) (trivial) ?_
  refine RW.nil ?_
  refine WPK.seq ?_
  refine WPK.region ?_
  refine RW.seg hT 1 [] [] [.slice A12602 n12603 c12604] [] (by kernel_rfl) (trivial) ?_
  refine RW.op (by kernel_rfl) (OK.inl (args := [.slice A12602 n12603 c12604, .int .i64 5]) en8 (by kernel_rfl) ?_)
  intro R12628 hR12629
  refine Ret.cut (fun v wz => ∀ X : Value → World → Prop, (∀ (I14497 : Nat → Prop) (x14487 : Int) (x14488 : Int) (x14489 : Int) (x14490 : (List Int)) (x14495 : Int) (A14491 : Option Addr) (c14492 : Nat) (w' : World), g9_j1 x12595 x14487 x14488 x14489 x14490 x14495 = some r → St w0 M I14497 ((.sl (.slice A12602 n12603 c12604) 49 1 n12603 cl12605) :: F) w' → Kp I w I14497 w' → (x14490.length ≤ c14492 ∧ c14492 ≤ 9223372036854775807) → Elems (Rp.int .u8) I14497 w' A14491 x14490 → RepL (Rp.int .u8) I14497 w' cl12605 x12595.1 → Elems (Rp.int .u32) I14497 w' (some ⟨0, 0, none⟩) TAB0 → X (.tuple #[.agg #[.int .i64 x14487, .int .i64 x14488, .int .u64 x14489, .slice A14491 x14490.length c14492], .int .i64 x14495]) w') → X v wz) ?_ ?_
  · refine fun _ _ hJ => hJ R12628 ?_
    intro I14497 x14487 x14488 x14489 x14490 x14495 A14491 c14492 w14496 hf s kk hc14493 e14494 rp12607 eg0
    refine hR12629 _ _ ?_
    unfold g9_j1 at hf
    refine RW.seg hT 3 [] [] [.tuple #[.agg #[.int .i64 x14487, .int .i64 x14488, .int .u64 x14489, .slice A14491 x14490.length c14492], .int .i64 x14495], .agg #[.int .i64 x14487, .int .i64 x14488, .int .u64 x14489, .slice A14491 x14490.length c14492], .int .i64 x14495] [] (by kernel_rfl) (trivial) ?_
    refine RW.op (by kernel_rfl) (OK.new hT (f := fun b => .pointer (some ⟨b, 0, none⟩)) (cs := [.int .i64 0, .int .i64 0, .int .u64 0, .slice none 0 0]) (e := 25) (c := .tt) s (by kernel_rfl) trivial ?_)
    rintro w14498 b14499 s k14500 -
    replace e14494 := e14494.st k14500
    replace rp12607 := rp12607.st k14500
    replace eg0 := eg0.st k14500
    replace kk := kk.trans k14500
    refine RW.op (by kernel_rfl) (OK.store hT (i := 0) (b := b14499) (off := 0) (n := 4) (vs := [.int .i64 x14487, .int .i64 x14488, .int .u64 x14489, .slice A14491 x14490.length c14492]) (cs := [.int .i64 0, .int .i64 0, .int .u64 0, .slice none 0 0]) (e := 25) s (by kernel_rfl) rfl rfl (flat_ok rfl) (Nat.le_of_ble_eq_true rfl) ?_)
    rintro w14501 s k14502 -
    replace e14494 := e14494.st k14502
    replace rp12607 := rp12607.st k14502
    replace eg0 := eg0.st k14502
    replace kk := kk.trans k14502
    refine RW.seg hT 1 [] [] [.int .i64 x14495] [] (by kernel_rfl) (trivial) ?_
    refine RW.nil ?_
    refine WPK.seq ?_
    refine WPK.cut' (Kn fun E ds wz => ∀ X : Kont, (∀ (I14543 : Nat → Prop) (x14541 : Bool) (D14540 : List Value) (w' : World), g9_j2 x14541 = some r → St w0 M I14543 (F) w' → Kp I w I14543 w' → Elems (Rp.int .u32) I14543 w' (some ⟨0, 0, none⟩) TAB0 → X [.bool x14541, (D14540.getD 0 undef), (D14540.getD 1 undef), (D14540.getD 2 undef), (D14540.getD 3 undef), (D14540.getD 4 undef), (D14540.getD 5 undef), (D14540.getD 6 undef), (D14540.getD 7 undef), (D14540.getD 8 undef), (D14540.getD 9 undef), (D14540.getD 10 undef), (D14540.getD 11 undef), (D14540.getD 12 undef), (D14540.getD 13 undef), (D14540.getD 14 undef), (D14540.getD 15 undef), (D14540.getD 16 undef), (D14540.getD 17 undef), (D14540.getD 18 undef), (D14540.getD 19 undef), (D14540.getD 20 undef), (D14540.getD 21 undef), (D14540.getD 22 undef), (D14540.getD 23 undef), (D14540.getD 24 undef), (D14540.getD 25 undef), (D14540.getD 26 undef), (D14540.getD 27 undef), (D14540.getD 28 undef), (D14540.getD 29 undef), (D14540.getD 30 undef), (D14540.getD 31 undef), (D14540.getD 32 undef), (D14540.getD 33 undef), (D14540.getD 34 undef), (D14540.getD 35 undef), (D14540.getD 36 undef), (D14540.getD 37 undef), (D14540.getD 38 undef), (D14540.getD 39 undef), (D14540.getD 40 undef), (D14540.getD 41 undef), (D14540.getD 42 undef)] [] w') → X E ds wz) ?_ ?_
    · intro X14544 hX14545
      refine fun _ _ _ hJ => hJ X14544 ?_
      intro I14543 x14541 D14540 w14542 hf s kk eg0
      refine hX14545 _ _ _ ?_
      unfold g9_j2 at hf
      refine WPK.ret (?_)
      obtain rfl := someS hf
      refine Fin.of (rs := [.tmp 0]) hT [] (.bool x14541) [] rfl (by kernel_rfl) (trivial) ?_
      exact fun X h => vc rfl (h I14543 _ s kk)
    · refine WPK.region ?_
      refine RW.seg hT 2 [] [(17, .bool (decide (x12595.2 = 0)))] [.int .i64 x12595.2, .bool (decide (x12595.2 = 0))] [.veq (.bool (x12595.2 == 0)) (.bool (decide (x12595.2 = 0)))] (by kernel_rfl) (eq_v) ?_
      by_cases h14546 : x12595.2 = 0
      · have hf := iteT h14546 hf
        refine RW.seg hT 4 [] [(18, .bool true), (20, .bool (decide (x14495 = 0)))] [.bool true, .int .i64 x14495, .bool (decide (x14495 = 0)), .bool (decide (x14495 = 0))] [.veq (.bool (decide (x12595.2 = 0))) (.bool true), .veq (.bool (x14495 == 0)) (.bool (decide (x14495 = 0)))] (by kernel_rfl) (⟨bo_t h14546, eq_v⟩) ?_
        by_cases h14547 : x14495 = 0
        · have hf := iteT h14547 hf
          refine RW.seg hT 5 [] [(22, .bool true), (24, .int .i64 (x12595.1.length : Int)), (25, .bool (decide ((x12595.1.length : Int) = 256)))] [.bool true, .slice A12602 n12603 c12604, .int .i64 (x12595.1.length : Int), .bool (decide ((x12595.1.length : Int) = 256)), .bool (decide ((x12595.1.length : Int) = 256))] [.veq (.bool (decide (x14495 = 0))) (.bool true), .veq (.int .i64 (n12603 : Nat)) (.int .i64 (x12595.1.length : Int)), .veq (.bool ((x12595.1.length : Int) == 256)) (.bool (decide ((x12595.1.length : Int) = 256)))] (by kernel_rfl) (⟨bo_t h14547, len_v hn12606, eq_v⟩) ?_
          by_cases h14548 : (x12595.1.length : Int) = 256
          · have hf := iteT h14548 hf
            refine RW.seg hT 2 [] [(27, .bool true)] [.bool true, .slice A12602 n12603 c12604] [.veq (.bool (decide ((x12595.1.length : Int) = 256))) (.bool true)] (by kernel_rfl) (bo_t h14548) ?_
            rw [hn12606] at s
            try rw [hn12606]
            obtain ⟨I14549, s', k14550, hc14551, e14552⟩ := St.give s (i := 1) rfl rfl rp12607
            replace s := s'; clear s'
            replace e14494 := e14494.st k14550
            replace eg0 := eg0.st k14550
            replace kk := kk.trans k14550
            obtain ⟨y14553, hy14554, hf⟩ := bindS hf
            obtain ⟨A14555, c14556, h14557, hc14558, e14559, q14560, q14561, q14562⟩ := slS (size := 1) rfl hc14551 e14552 hy14554
            refine RW.seg hT 1 [] [(29, .slice A14555 y14553.length c14556)] [.slice A14555 y14553.length c14556] [.both (.cut 4 18 c12604 c12604) (.veq (.slice (cutA A12602 (4 : Int).toNat c12604 1) ((18 : Int).toNat - (4 : Int).toNat) (c12604 - (4 : Int).toNat)) (.slice A14555 y14553.length c14556))] (by kernel_rfl) (⟨⟨by omega, by omega, by omega, by omega⟩, sl_eq q14560 q14561 q14562⟩) ?_
            refine RW.op (by kernel_rfl) (OK.new hT (f := fun b => .slice (some ⟨b, 0, none⟩) 14 14) (cs := [.int .u8 2, .int .u8 0, .int .u8 0, .int .u8 5, .int .u8 0, .int .u8 0, .int .u8 0, .int .u8 0, .int .u8 0, .int .u8 0, .int .u8 0, .int .u8 1, .int .u8 7, .int .u8 8]) (e := 5) (c := .tt) s (by kernel_rfl) trivial ?_)
            rintro w14563 b14564 s k14565 -
            replace e14552 := e14552.st k14565
            replace e14494 := e14494.st k14565
            replace e14559 := e14559.st k14565
            replace eg0 := eg0.st k14565
            replace kk := kk.trans k14565
            have rp14566 : RepL (Rp.int .u8) I14549 w14563 [.int .u8 2, .int .u8 0, .int .u8 0, .int .u8 5, .int .u8 0, .int .u8 0, .int .u8 0, .int .u8 0, .int .u8 0, .int .u8 0, .int .u8 0, .int .u8 1, .int .u8 7, .int .u8 8] ([2, 0, 0, 5, 0, 0, 0, 0, 0, 0, 0, 1, 7, 8] : List Int) := RepL.cons (c := [.int .u8 2]) (d := [.int .u8 0, .int .u8 0, .int .u8 5, .int .u8 0, .int .u8 0, .int .u8 0, .int .u8 0, .int .u8 0, .int .u8 0, .int .u8 0, .int .u8 1, .int .u8 7, .int .u8 8]) (rfl) (RepL.cons (c := [.int .u8 0]) (d := [.int .u8 0, .int .u8 5, .int .u8 0, .int .u8 0, .int .u8 0, .int .u8 0, .int .u8 0, .int .u8 0, .int .u8 0, .int .u8 1, .int .u8 7, .int .u8 8]) (rfl) (RepL.cons (c := [.int .u8 0]) (d := [.int .u8 5, .int .u8 0, .int .u8 0, .int .u8 0, .int .u8 0, .int .u8 0, .int .u8 0, .int .u8 0, .int .u8 1, .int .u8 7, .int .u8 8]) (rfl) (RepL.cons (c := [.int .u8 5]) (d := [.int .u8 0, .int .u8 0, .int .u8 0, .int .u8 0, .int .u8 0, .int .u8 0, .int .u8 0, .int .u8 1, .int .u8 7, .int .u8 8]) (rfl) (RepL.cons (c := [.int .u8 0]) (d := [.int .u8 0, .int .u8 0, .int .u8 0, .int .u8 0, .int .u8 0, .int .u8 0, .int .u8 1, .int .u8 7, .int .u8 8]) (rfl) (RepL.cons (c := [.int .u8 0]) (d := [.int .u8 0, .int .u8 0, .int .u8 0, .int .u8 0, .int .u8 0, .int .u8 1, .int .u8 7, .int .u8 8]) (rfl) (RepL.cons (c := [.int .u8 0]) (d := [.int .u8 0, .int .u8 0, .int .u8 0, .int .u8 0, .int .u8 1, .int .u8 7, .int .u8 8]) (rfl) (RepL.cons (c := [.int .u8 0]) (d := [.int .u8 0, .int .u8 0, .int .u8 0, .int .u8 1, .int .u8 7, .int .u8 8]) (rfl) (RepL.cons (c := [.int .u8 0]) (d := [.int .u8 0, .int .u8 0, .int .u8 1, .int .u8 7, .int .u8 8]) (rfl) (RepL.cons (c := [.int .u8 0]) (d := [.int .u8 0, .int .u8 1, .int .u8 7, .int .u8 8]) (rfl) (RepL.cons (c := [.int .u8 0]) (d := [.int .u8 1, .int .u8 7, .int .u8 8]) (rfl) (RepL.cons (c := [.int .u8 1]) (d := [.int .u8 7, .int .u8 8]) (rfl) (RepL.cons (c := [.int .u8 7]) (d := [.int .u8 8]) (rfl) (RepL.cons (c := [.int .u8 8]) (d := []) (rfl) (RepL.nil))))))))))))))
            replace s : St w0 M I14549 ((.sl (.slice (some ⟨b14564, 0, none⟩) 14 14) 5 1 14 [.int .u8 2, .int .u8 0, .int .u8 0, .int .u8 5, .int .u8 0, .int .u8 0, .int .u8 0, .int .u8 0, .int .u8 0, .int .u8 0, .int .u8 0, .int .u8 1, .int .u8 7, .int .u8 8]) :: (.blk b14499 (.cells #[.int .i64 x14487, .int .i64 x14488, .int .u64 x14489, .slice A14491 x14490.length c14492] 25 (0, 0))) :: F) w14563 := s.blkSl (i := 0) (n := 14) (c := 14) (size := 1) rfl rfl (Nat.le_refl _) (by decide)
            have sa14568 := s
            obtain ⟨hc14569, e14570⟩ := St.lend s (i := 0) rfl rfl rp14566
            have k14571 := Kp.shut (I := I14549) (w := w14563) (p := .sl (.slice (some ⟨b14564, 0, none⟩) 14 14) 5 1 14 [.int .u8 2, .int .u8 0, .int .u8 0, .int .u8 5, .int .u8 0, .int .u8 0, .int .u8 0, .int .u8 0, .int .u8 0, .int .u8 0, .int .u8 0, .int .u8 1, .int .u8 7, .int .u8 8])
            replace s := s.shut 0 rfl
            obtain ⟨x14572, hx14573, hf⟩ := bindS hf
            refine RW.op (by kernel_rfl) (OK.call' en20 (by kernel_rfl) (c20 (F := (.blk b14499 (.cells #[.int .i64 x14487, .int .i64 x14488, .int .u64 x14489, .slice A14491 x14490.length c14492] 25 (0, 0))) :: F) y14553 ([2, 0, 0, 5, 0, 0, 0, 0, 0, 0, 0, 1, 7, 8] : List Int) A14555 c14556 (some ⟨b14564, 0, none⟩) 14 hc14558 (e14559.st k14571) hc14569 e14570 s hx14573) ?_)
            intro X14576 hX14577
            refine fun _ _ hJ => hJ X14576 ?_
            intro I14578 w14574 s k14575
            refine hX14577 _ _ ?_
            have s' := St.back sa14568 (i := 0) rfl s k14575
            replace k14575 := Kp.back sa14568 (i := 0) rfl k14575
            replace s := s'; clear s'
            obtain ⟨I14580, s, k14575⟩ : ∃ I : Nat → Prop, St w0 M I ((.sl (.slice (some ⟨b14564, 0, none⟩) 14 14) 5 1 14 [.int .u8 2, .int .u8 0, .int .u8 0, .int .u8 5, .int .u8 0, .int .u8 0, .int .u8 0, .int .u8 0, .int .u8 0, .int .u8 0, .int .u8 0, .int .u8 1, .int .u8 7, .int .u8 8]) :: (.blk b14499 (.cells #[.int .i64 x14487, .int .i64 x14488, .int .u64 x14489, .slice A14491 x14490.length c14492] 25 (0, 0))) :: F) w14574 ∧ Kp _ _ I _ := ⟨_, s, k14575⟩
            replace e14552 := e14552.st k14575
            replace e14494 := e14494.st k14575
            replace e14559 := e14559.st k14575
            replace eg0 := eg0.st k14575
            replace rp14566 := rp14566.st k14575
            replace kk := kk.trans k14575
            refine RW.seg hT 1 [] [] [.bool x14572] [] (by kernel_rfl) (trivial) ?_
            by_cases h14581 : x14572 = true
            · have hf := iteT h14581 hf
              refine RW.seg hT 5 [.int .u64 x14489] [(33, .bool true), (36, .bool (decide (x14489 = 1)))] [.bool true, .pointer (some ⟨b14499, 2, none⟩), .int .u64 x14489, .bool (decide (x14489 = 1)), .bool (decide (x14489 = 1))] [.veq (.bool (x14572)) (.bool true), .cell ⟨b14499, 2, none⟩ (.int .u64 x14489), .veq (.bool (x14489 == 1)) (.bool (decide (x14489 = 1)))] (by kernel_rfl) (⟨b_t h14581, s.cell (i := 1) (off := 2) rfl rfl, eq_v⟩) ?_
              by_cases h14582 : x14489 = 1
              · have hf := iteT h14582 hf
                refine RW.seg hT 7 [.slice A14491 x14490.length c14492] [(38, .bool true), (42, .bool (decide ((x14490.length : Int) = 240)))] [.bool true, .pointer (some ⟨b14499, 3, none⟩), .slice A14491 x14490.length c14492, .int .i64 (x14490.length : Int), .bool (decide ((x14490.length : Int) = 240)), .bool (decide ((x14490.length : Int) = 240)), .bool (decide ((x14490.length : Int) = 240))] [.veq (.bool (decide (x14489 = 1))) (.bool true), .cell ⟨b14499, 3, none⟩ (.slice A14491 x14490.length c14492), .veq (.bool ((x14490.length : Int) == 240)) (.bool (decide ((x14490.length : Int) = 240)))] (by kernel_rfl) (⟨bo_t h14582, s.cell (i := 1) (off := 3) rfl rfl, eq_v⟩) ?_
                refine RW.nil ?_
                replace s := s.pick [] 2 rfl
                exact fun X h => kc (by kernel_rfl) rfl (h I14580 (decide ((x14490.length : Int) = 240)) [.slice A12602 x12595.1.length c12604, .int .i64 x12595.2, .pointer (some ⟨b14499, 0, none⟩), .int .i64 x14495, (.tuple #[.slice A12602 x12595.1.length c12604, .int .i64 x12595.2]), (.slice (some ⟨b12587, 0, none⟩) 2 2), (.agg #[.int .i64 2, .int .i64 5, .int .u64 1, .slice (some ⟨b12587, 0, none⟩) 2 2]), (.tuple #[.slice A12602 x12595.1.length c12604, .int .i64 x12595.2]), (.slice A12602 x12595.1.length c12604), (.int .i64 x12595.2), .tuple #[.agg #[.int .i64 x14487, .int .i64 x14488, .int .u64 x14489, .slice A14491 x14490.length c14492], .int .i64 x14495], (.slice A12602 x12595.1.length c12604), .tuple #[.agg #[.int .i64 x14487, .int .i64 x14488, .int .u64 x14489, .slice A14491 x14490.length c14492], .int .i64 x14495], .agg #[.int .i64 x14487, .int .i64 x14488, .int .u64 x14489, .slice A14491 x14490.length c14492], .int .i64 x14495, .int .i64 x12595.2, .bool (decide (x12595.2 = 0)), .bool true, .int .i64 x14495, .bool (decide (x14495 = 0)), .bool (decide (x14495 = 0)), .bool true, .slice A12602 x12595.1.length c12604, .int .i64 (x12595.1.length : Int), .bool (decide ((x12595.1.length : Int) = 256)), .bool (decide ((x12595.1.length : Int) = 256)), .bool true, .slice A12602 x12595.1.length c12604, .slice A14555 y14553.length c14556, .slice (some ⟨b14564, 0, none⟩) 14 14, .bool x14572, .bool x14572, .bool true, .pointer (some ⟨b14499, 2, none⟩), .int .u64 x14489, .bool (decide (x14489 = 1)), .bool (decide (x14489 = 1)), .bool true, .pointer (some ⟨b14499, 3, none⟩), .slice A14491 x14490.length c14492, .int .i64 (x14490.length : Int), .bool (decide ((x14490.length : Int) = 240)), .bool (decide ((x14490.length : Int) = 240))] _ hf s kk eg0)
              · have hf := iteF h14582 hf
                refine RW.seg hT 7 [] [(38, .bool false)] [.bool false, undef, undef, undef, undef, .bool false, .bool false] [.veq (.bool (decide (x14489 = 1))) (.bool false)] (by kernel_rfl) (bo_f h14582) ?_
                refine RW.nil ?_
                replace s := s.pick [] 2 rfl
                exact fun X h => kc (by kernel_rfl) rfl (h I14580 false [.slice A12602 x12595.1.length c12604, .int .i64 x12595.2, .pointer (some ⟨b14499, 0, none⟩), .int .i64 x14495, (.tuple #[.slice A12602 x12595.1.length c12604, .int .i64 x12595.2]), (.slice (some ⟨b12587, 0, none⟩) 2 2), (.agg #[.int .i64 2, .int .i64 5, .int .u64 1, .slice (some ⟨b12587, 0, none⟩) 2 2]), (.tuple #[.slice A12602 x12595.1.length c12604, .int .i64 x12595.2]), (.slice A12602 x12595.1.length c12604), (.int .i64 x12595.2), .tuple #[.agg #[.int .i64 x14487, .int .i64 x14488, .int .u64 x14489, .slice A14491 x14490.length c14492], .int .i64 x14495], (.slice A12602 x12595.1.length c12604), .tuple #[.agg #[.int .i64 x14487, .int .i64 x14488, .int .u64 x14489, .slice A14491 x14490.length c14492], .int .i64 x14495], .agg #[.int .i64 x14487, .int .i64 x14488, .int .u64 x14489, .slice A14491 x14490.length c14492], .int .i64 x14495, .int .i64 x12595.2, .bool (decide (x12595.2 = 0)), .bool true, .int .i64 x14495, .bool (decide (x14495 = 0)), .bool (decide (x14495 = 0)), .bool true, .slice A12602 x12595.1.length c12604, .int .i64 (x12595.1.length : Int), .bool (decide ((x12595.1.length : Int) = 256)), .bool (decide ((x12595.1.length : Int) = 256)), .bool true, .slice A12602 x12595.1.length c12604, .slice A14555 y14553.length c14556, .slice (some ⟨b14564, 0, none⟩) 14 14, .bool x14572, .bool x14572, .bool true, .pointer (some ⟨b14499, 2, none⟩), .int .u64 x14489, .bool (decide (x14489 = 1)), .bool (decide (x14489 = 1)), .bool false, undef, undef, undef, undef, .bool false] _ hf s kk eg0)
            · have hf := iteF h14581 hf
              refine RW.seg hT 12 [] [(33, .bool false)] [.bool false, undef, undef, undef, .bool false, .bool false, undef, undef, undef, undef, .bool false, .bool false] [.veq (.bool (x14572)) (.bool false)] (by kernel_rfl) (b_f h14581) ?_
              refine RW.nil ?_
              replace s := s.pick [] 2 rfl
              exact fun X h => kc (by kernel_rfl) rfl (h I14580 false [.slice A12602 x12595.1.length c12604, .int .i64 x12595.2, .pointer (some ⟨b14499, 0, none⟩), .int .i64 x14495, (.tuple #[.slice A12602 x12595.1.length c12604, .int .i64 x12595.2]), (.slice (some ⟨b12587, 0, none⟩) 2 2), (.agg #[.int .i64 2, .int .i64 5, .int .u64 1, .slice (some ⟨b12587, 0, none⟩) 2 2]), (.tuple #[.slice A12602 x12595.1.length c12604, .int .i64 x12595.2]), (.slice A12602 x12595.1.length c12604), (.int .i64 x12595.2), .tuple #[.agg #[.int .i64 x14487, .int .i64 x14488, .int .u64 x14489, .slice A14491 x14490.length c14492], .int .i64 x14495], (.slice A12602 x12595.1.length c12604), .tuple #[.agg #[.int .i64 x14487, .int .i64 x14488, .int .u64 x14489, .slice A14491 x14490.length c14492], .int .i64 x14495], .agg #[.int .i64 x14487, .int .i64 x14488, .int .u64 x14489, .slice A14491 x14490.length c14492], .int .i64 x14495, .int .i64 x12595.2, .bool (decide (x12595.2 = 0)), .bool true, .int .i64 x14495, .bool (decide (x14495 = 0)), .bool (decide (x14495 = 0)), .bool true, .slice A12602 x12595.1.length c12604, .int .i64 (x12595.1.length : Int), .bool (decide ((x12595.1.length : Int) = 256)), .bool (decide ((x12595.1.length : Int) = 256)), .bool true, .slice A12602 x12595.1.length c12604, .slice A14555 y14553.length c14556, .slice (some ⟨b14564, 0, none⟩) 14 14, .bool x14572, .bool x14572, .bool false, undef, undef, undef, .bool false, .bool false, undef, undef, undef, undef, .bool false] _ hf s kk eg0)
          · have hf := iteF h14548 hf
            refine RW.seg hT 18 [] [(27, .bool false)] [.bool false, undef, undef, undef, undef, .bool false, .bool false, undef, undef, undef, .bool false, .bool false, undef, undef, undef, undef, .bool false, .bool false] [.veq (.bool (decide ((x12595.1.length : Int) = 256))) (.bool false)] (by kernel_rfl) (bo_f h14548) ?_
            refine RW.nil ?_
            replace s := s.pick [] 2 rfl
            exact fun X h => kc (by kernel_rfl) rfl (h I14497 false [.slice A12602 n12603 c12604, .int .i64 x12595.2, .pointer (some ⟨b14499, 0, none⟩), .int .i64 x14495, (.tuple #[.slice A12602 n12603 c12604, .int .i64 x12595.2]), (.slice (some ⟨b12587, 0, none⟩) 2 2), (.agg #[.int .i64 2, .int .i64 5, .int .u64 1, .slice (some ⟨b12587, 0, none⟩) 2 2]), (.tuple #[.slice A12602 n12603 c12604, .int .i64 x12595.2]), (.slice A12602 n12603 c12604), (.int .i64 x12595.2), .tuple #[.agg #[.int .i64 x14487, .int .i64 x14488, .int .u64 x14489, .slice A14491 x14490.length c14492], .int .i64 x14495], (.slice A12602 n12603 c12604), .tuple #[.agg #[.int .i64 x14487, .int .i64 x14488, .int .u64 x14489, .slice A14491 x14490.length c14492], .int .i64 x14495], .agg #[.int .i64 x14487, .int .i64 x14488, .int .u64 x14489, .slice A14491 x14490.length c14492], .int .i64 x14495, .int .i64 x12595.2, .bool (decide (x12595.2 = 0)), .bool true, .int .i64 x14495, .bool (decide (x14495 = 0)), .bool (decide (x14495 = 0)), .bool true, .slice A12602 n12603 c12604, .int .i64 (x12595.1.length : Int), .bool (decide ((x12595.1.length : Int) = 256)), .bool (decide ((x12595.1.length : Int) = 256)), .bool false, undef, undef, undef, undef, .bool false, .bool false, undef, undef, undef, .bool false, .bool false, undef, undef, undef, undef, .bool false] _ hf s kk eg0)
        · have hf := iteF h14547 hf
          refine RW.seg hT 23 [] [(22, .bool false)] [.bool false, undef, undef, undef, .bool false, .bool false, undef, undef, undef, undef, .bool false, .bool false, undef, undef, undef, .bool false, .bool false, undef, undef, undef, undef, .bool false, .bool false] [.veq (.bool (decide (x14495 = 0))) (.bool false)] (by kernel_rfl) (bo_f h14547) ?_
          refine RW.nil ?_
          replace s := s.pick [] 2 rfl
          exact fun X h => kc (by kernel_rfl) rfl (h I14497 false [.slice A12602 n12603 c12604, .int .i64 x12595.2, .pointer (some ⟨b14499, 0, none⟩), .int .i64 x14495, (.tuple #[.slice A12602 n12603 c12604, .int .i64 x12595.2]), (.slice (some ⟨b12587, 0, none⟩) 2 2), (.agg #[.int .i64 2, .int .i64 5, .int .u64 1, .slice (some ⟨b12587, 0, none⟩) 2 2]), (.tuple #[.slice A12602 n12603 c12604, .int .i64 x12595.2]), (.slice A12602 n12603 c12604), (.int .i64 x12595.2), .tuple #[.agg #[.int .i64 x14487, .int .i64 x14488, .int .u64 x14489, .slice A14491 x14490.length c14492], .int .i64 x14495], (.slice A12602 n12603 c12604), .tuple #[.agg #[.int .i64 x14487, .int .i64 x14488, .int .u64 x14489, .slice A14491 x14490.length c14492], .int .i64 x14495], .agg #[.int .i64 x14487, .int .i64 x14488, .int .u64 x14489, .slice A14491 x14490.length c14492], .int .i64 x14495, .int .i64 x12595.2, .bool (decide (x12595.2 = 0)), .bool true, .int .i64 x14495, .bool (decide (x14495 = 0)), .bool (decide (x14495 = 0)), .bool false, undef, undef, undef, .bool false, .bool false, undef, undef, undef, undef, .bool false, .bool false, undef, undef, undef, .bool false, .bool false, undef, undef, undef, undef, .bool false] _ hf s kk eg0)
      · have hf := iteF h14546 hf
        refine RW.seg hT 27 [] [(18, .bool false)] [.bool false, undef, undef, .bool false, .bool false, undef, undef, undef, .bool false, .bool false, undef, undef, undef, undef, .bool false, .bool false, undef, undef, undef, .bool false, .bool false, undef, undef, undef, undef, .bool false, .bool false] [.veq (.bool (decide (x12595.2 = 0))) (.bool false)] (by kernel_rfl) (bo_f h14546) ?_
        refine RW.nil ?_
        replace s := s.pick [] 2 rfl
        exact fun X h => kc (by kernel_rfl) rfl (h I14497 false [.slice A12602 n12603 c12604, .int .i64 x12595.2, .pointer (some ⟨b14499, 0, none⟩), .int .i64 x14495, (.tuple #[.slice A12602 n12603 c12604, .int .i64 x12595.2]), (.slice (some ⟨b12587, 0, none⟩) 2 2), (.agg #[.int .i64 2, .int .i64 5, .int .u64 1, .slice (some ⟨b12587, 0, none⟩) 2 2]), (.tuple #[.slice A12602 n12603 c12604, .int .i64 x12595.2]), (.slice A12602 n12603 c12604), (.int .i64 x12595.2), .tuple #[.agg #[.int .i64 x14487, .int .i64 x14488, .int .u64 x14489, .slice A14491 x14490.length c14492], .int .i64 x14495], (.slice A12602 n12603 c12604), .tuple #[.agg #[.int .i64 x14487, .int .i64 x14488, .int .u64 x14489, .slice A14491 x14490.length c14492], .int .i64 x14495], .agg #[.int .i64 x14487, .int .i64 x14488, .int .u64 x14489, .slice A14491 x14490.length c14492], .int .i64 x14495, .int .i64 x12595.2, .bool (decide (x12595.2 = 0)), .bool false, undef, undef, .bool false, .bool false, undef, undef, undef, .bool false, .bool false, undef, undef, undef, undef, .bool false, .bool false, undef, undef, undef, .bool false, .bool false, undef, undef, undef, undef, .bool false] _ hf s kk eg0)
  · refine Ret.of Tryd.func8 rfl ?_
    refine WPK.seq ?_
    refine WPK.region ?_
    refine RW.op (by kernel_rfl) (OK.new hT (f := fun b => .pointer (some ⟨b, 0, none⟩)) (cs := [.int .i64 0, .int .i64 0, .int .u64 0, .slice none 0 0]) (e := 25) (c := .tt) s (by kernel_rfl) trivial ?_)
    rintro w14583 b14584 s k14585 -
    replace rp12589 := rp12589.st k14585
    replace rp12607 := rp12607.st k14585
    replace eg0 := eg0.st k14585
    replace kk := kk.trans k14585
    refine RW.seg hT 1 [] [] [.int .i64 0] [] (by kernel_rfl) (trivial) ?_
    refine RW.nil ?_
    refine WPK.seq ?_
    refine WPK.seq ?_
    refine WPK.region ?_
    refine RW.seg hT 3 [] [(10, .int .i64 (x12595.1.length : Int)), (11, .bool (decide ((x12595.1.length : Int) ≠ 256)))] [.slice A12602 n12603 c12604, .int .i64 (x12595.1.length : Int), .bool (decide ((x12595.1.length : Int) ≠ 256))] [.veq (.int .i64 (n12603 : Nat)) (.int .i64 (x12595.1.length : Int)), .veq (.bool ((x12595.1.length : Int) != 256)) (.bool (decide ((x12595.1.length : Int) ≠ 256)))] (by kernel_rfl) (⟨len_v hn12606, ne_v⟩) ?_
    refine RW.nil ?_
    by_cases h14589 : (x12595.1.length : Int) ≠ 256
    · have hf := iteT h14589 hf
      refine WPK.condT (Eq.trans (b := .bool (decide ((x12595.1.length : Int) ≠ 256))) (by kernel_rfl) (bo_t h14589)) ?_
      refine WPK.seq ?_
      refine WPK.region ?_
      refine RW.seg hT 1 [] [] [.agg #[.int .i64 0, .int .i64 0, .int .u64 0, .slice none 0 0]] [] (by kernel_rfl) (trivial) ?_
      refine RW.op (by kernel_rfl) (OK.store hT (i := 0) (b := b14584) (off := 0) (n := 4) (vs := [.int .i64 0, .int .i64 0, .int .u64 0, .slice none 0 0]) (cs := [.int .i64 0, .int .i64 0, .int .u64 0, .slice none 0 0]) (e := 25) s (by kernel_rfl) rfl rfl (flat_ok rfl) (Nat.le_of_ble_eq_true rfl) ?_)
      rintro w14590 s k14591 -
      replace rp12589 := rp12589.st k14591
      replace rp12607 := rp12607.st k14591
      replace eg0 := eg0.st k14591
      replace kk := kk.trans k14591
      refine RW.seg hT 1 [] [] [.int .i64 1] [] (by kernel_rfl) (trivial) ?_
      refine RW.nil ?_
      refine WPK.ret (?_)
      refine Fin.of (rs := [.cell 4 25, .tmp 5]) hT [.agg #[.int .i64 0, .int .i64 0, .int .u64 0, .slice none 0 0]] (.tuple #[.agg #[.int .i64 0, .int .i64 0, .int .u64 0, .slice none 0 0], .int .i64 1]) [.cells ⟨b14584, 0, none⟩ [.int .i64 0, .int .i64 0, .int .u64 0, .slice none 0 0] 4] rfl (by kernel_rfl) (s.cells (i := 0) rfl rfl rfl) ?_
      replace s := s.pick [2] 3 rfl
      exact fun X h => vc rfl (h I12610 0 0 0 [] 1 none 0 _ hf s kk nil_hc Elems.nil rp12607 eg0)
    · have hf := iteF h14589 hf
      refine WPK.condF (Eq.trans (b := .bool (decide ((x12595.1.length : Int) ≠ 256))) (by kernel_rfl) (bo_f h14589)) ?_
      refine WPK.skip ?_
      refine WPK.seq ?_
      refine WPK.region ?_
      refine RW.seg hT 1 [] [] [.slice A12602 n12603 c12604] [] (by kernel_rfl) (trivial) ?_
      obtain ⟨h14593, hf⟩ := iteS hf
      obtain ⟨b14594, rfl⟩ := row_addr (s.at (i := 2) rfl) (by have hnn := hn12606; omega)
      have pt14595 := Pt.whole (size := 1) (row_hc (s.at (i := 2) rfl)).1
      obtain ⟨y14596, hy14597, hf⟩ := bindS hf
      rw [← hn12606] at hy14597
      obtain ⟨h14592, hf⟩ := iteS hf
      have h14598 : 256 ≤ n12603 := by have e1 := (cutS hy14597).2.2; have e2 := (pt14595).len; omega
      refine RW.op (by kernel_rfl) (OK.head hT (t := 49) (N := 256) (e := 5) (A := (some ⟨b14594, 0, none⟩)) (n := n12603) (c := c12604) (by kernel_rfl) rfl rfl h14598 ?_)
      have hl14599 : 256 = ((List.take 256 y14596)).length := by rw [List.length_take]; omega
      refine RW.seg hT 1 [.agg (List.map (Value.int .u8) (List.take 256 y14596)).toArray] [] [.agg (List.map (Value.int .u8) (List.take 256 y14596)).toArray] [.cells ⟨b14594, 0, none⟩ (List.map (Value.int .u8) (List.take 256 y14596)) 256] (by kernel_rfl) (St.arrPt s (i := 2) rfl rfl rp12607 pt14595 hy14597 h14592 (by decide)) ?_
      refine RW.op (by kernel_rfl) (OK.new hT (f := fun b => .pointer (some ⟨b, 0, none⟩)) (cs := (List.replicate 256 (Value.int .u8 0))) (e := 49) (c := .tt) s (by kernel_rfl) trivial ?_)
      rintro w14600 b14601 s k14602 -
      have hn14606 : 256 = ((List.replicate 256 (0 : Int))).length := by simp
      obtain ⟨cl14603, hcl14604⟩ : ∃ q, q = (List.replicate 256 (Value.int .u8 0)) := ⟨_, rfl⟩
      replace s := s.blkSl (i := 0) (n := 256) (c := 256) (size := 1) rfl (by simp) (Nat.le_refl _) (by decide)
      rw [List.take_of_length_le (by simp), ← hcl14604] at s
      replace rp12589 := rp12589.st k14602
      replace rp12607 := rp12607.st k14602
      replace eg0 := eg0.st k14602
      replace kk := kk.trans k14602
      have rp14605 : RepL (Rp.int .u8) I12610 w14600 cl14603 (List.replicate 256 (0 : Int)) := by rw [hcl14604]; exact RepL.rep rfl _
      obtain ⟨cl14609, hcl14610⟩ : ∃ q, q = List.map (Value.int .u8) (List.take 256 y14596) := ⟨_, rfl⟩
      have rp14611 : RepL (Rp.int .u8) I12610 w14600 cl14609 (List.take 256 y14596) := by rw [hcl14610]; exact repl_map
      have hn14612 := hl14599
      refine RW.op (by kernel_rfl) (OK.storeAt hT (i := 0) (b := b14601) (off := 0) (m := 256) (vs := (List.map (Value.int .u8) (List.take 256 y14596))) (c := 256) (e := 49) (size := 1) (n := 256) (cl := cl14603) (cl' := cl14609) s (by kernel_rfl) rfl (by rw [List.length_map]; exact (hl14599).symm) (RepL.flat flat_int (repl_map (I := I12610) (w := w14600))) (by have h1 := RepL.length rp14605; have h2 := (hn14606).symm.trans hl14599; have h3 : (Rp.int .u8).n = 1 := rfl; rw [h3] at h1; simp only [List.length_map]; omega) (by rw [hcl14610]; have h1 := RepL.length rp14605; have h3 : (Rp.int .u8).n = 1 := rfl; rw [h3, Nat.mul_one, ← hn14606] at h1; exact setL_all (by rw [List.length_map, h1]; exact (hl14599).symm)) ?_)
      rintro w14607 s k14608
      replace rp14611 := rp14611.st k14608
      replace rp12589 := rp12589.st k14608
      replace rp12607 := rp12607.st k14608
      replace eg0 := eg0.st k14608
      replace kk := kk.trans k14608
      refine RW.nil ?_
      refine WPK.seq ?_
      refine WPK.region ?_
      refine RW.seg hT 1 [.agg (List.map (Value.int .u8) (List.take 256 y14596)).toArray] [] [.agg (List.map (Value.int .u8) (List.take 256 y14596)).toArray] [.cells ⟨b14601, 0, none⟩ (List.map (Value.int .u8) (List.take 256 y14596)) 256] (by kernel_rfl) (St.arr s (i := 0) rfl rp14611 hn14612) ?_
      obtain ⟨x14613, hx14614, hf⟩ := bindS hf
      refine RW.op (by kernel_rfl) (OK.call' en25 (by kernel_rfl) (c25 (F := (.sl (.slice (some ⟨b14601, 0, none⟩) 256 256) 49 1 256 cl14609) :: (.blk b14584 (.cells #[.int .i64 0, .int .i64 0, .int .u64 0, .slice none 0 0] 25 (0, 0))) :: (.sl (.slice (some ⟨b12587, 0, none⟩) 2 2) 5 1 2 [.int .u8 7, .int .u8 8]) :: (.sl (.slice (some ⟨b14594, 0, none⟩) n12603 c12604) 49 1 n12603 cl12605) :: F) (List.take 256 y14596) hn14612 s hx14614) ?_)
      intro X14617 hX14618
      refine fun _ _ hJ => hJ X14617 ?_
      intro I14619 A14620 c14621 w14615 s k14616 hc14622 e14623
      refine hX14618 _ _ ?_
      replace rp14611 := rp14611.st k14616
      replace rp12589 := rp12589.st k14616
      replace rp12607 := rp12607.st k14616
      replace eg0 := eg0.st k14616
      replace kk := kk.trans k14616
      refine RW.seg hT 3 [] [] [.tuple #[.agg #[.int .i64 x14613.1.Kind, .int .i64 x14613.1.Page, .int .u64 x14613.1.Epoch, .slice A14620 x14613.1.Data.length c14621], .int .u32 x14613.2], .agg #[.int .i64 x14613.1.Kind, .int .i64 x14613.1.Page, .int .u64 x14613.1.Epoch, .slice A14620 x14613.1.Data.length c14621], .int .u32 x14613.2] [] (by kernel_rfl) (trivial) ?_
      refine RW.op (by kernel_rfl) (OK.new hT (f := fun b => .pointer (some ⟨b, 0, none⟩)) (cs := [.int .i64 0, .int .i64 0, .int .u64 0, .slice none 0 0]) (e := 25) (c := .tt) s (by kernel_rfl) trivial ?_)
      rintro w14624 b14625 s k14626 -
      replace e14623 := e14623.st k14626
      replace rp14611 := rp14611.st k14626
      replace rp12589 := rp12589.st k14626
      replace rp12607 := rp12607.st k14626
      replace eg0 := eg0.st k14626
      replace kk := kk.trans k14626
      refine RW.op (by kernel_rfl) (OK.store hT (i := 0) (b := b14625) (off := 0) (n := 4) (vs := [.int .i64 x14613.1.Kind, .int .i64 x14613.1.Page, .int .u64 x14613.1.Epoch, .slice A14620 x14613.1.Data.length c14621]) (cs := [.int .i64 0, .int .i64 0, .int .u64 0, .slice none 0 0]) (e := 25) s (by kernel_rfl) rfl rfl (flat_ok rfl) (Nat.le_of_ble_eq_true rfl) ?_)
      rintro w14627 s k14628 -
      replace e14623 := e14623.st k14628
      replace rp14611 := rp14611.st k14628
      replace rp12589 := rp12589.st k14628
      replace rp12607 := rp12607.st k14628
      replace eg0 := eg0.st k14628
      replace kk := kk.trans k14628
      refine RW.seg hT 1 [] [] [.int .u32 x14613.2] [] (by kernel_rfl) (trivial) ?_
      refine RW.nil ?_
      refine WPK.seq ?_
      refine WPK.block ?_
      refine WPK.seq ?_
      refine WPK.cut' (Kn fun E ds wz => ∀ X : Kont, (∀ (I15960 : Nat → Prop) (x15958 : Bool) (D15957 : List Value) (w' : World), g9_j3 x12595 y14596 x14613 x15958 = some r → St w0 M I15960 ((.blk b14625 (.cells #[.int .i64 x14613.1.Kind, .int .i64 x14613.1.Page, .int .u64 x14613.1.Epoch, .slice A14620 x14613.1.Data.length c14621] 25 (0, 0))) :: (.sl (.slice (some ⟨b14601, 0, none⟩) 256 256) 49 1 256 cl14609) :: (.blk b14584 (.cells #[.int .i64 0, .int .i64 0, .int .u64 0, .slice none 0 0] 25 (0, 0))) :: (.sl (.slice (some ⟨b14594, 0, none⟩) n12603 c12604) 49 1 n12603 cl12605) :: F) w' → Kp I w I15960 w' → Elems (Rp.int .u8) I15960 w' A14620 x14613.1.Data → RepL (Rp.int .u8) I15960 w' cl14609 (List.take 256 y14596) → RepL (Rp.int .u8) I15960 w' cl12605 x12595.1 → Elems (Rp.int .u32) I15960 w' (some ⟨0, 0, none⟩) TAB0 → X [(D15957.getD 0 undef), .int .i64 5, (D15957.getD 1 undef), (D15957.getD 2 undef), .pointer (some ⟨b14584, 0, none⟩), .int .i64 0, .pointer (some ⟨b14601, 0, none⟩), .pointer (some ⟨b14625, 0, none⟩), (D15957.getD 3 undef), (D15957.getD 4 undef), (D15957.getD 5 undef), (D15957.getD 6 undef), (D15957.getD 7 undef), (D15957.getD 8 undef), (D15957.getD 9 undef), (D15957.getD 10 undef), (D15957.getD 11 undef), (D15957.getD 12 undef), (D15957.getD 13 undef), (D15957.getD 14 undef), (D15957.getD 15 undef), .bool x15958, (D15957.getD 16 undef), (D15957.getD 17 undef), (D15957.getD 18 undef), (D15957.getD 19 undef), (D15957.getD 20 undef), (D15957.getD 21 undef), (D15957.getD 22 undef), (D15957.getD 23 undef), undef, undef, undef, (D15957.getD 24 undef), undef, undef, undef, undef, undef, undef, undef, undef, undef, undef, undef, undef, undef, undef, undef, undef, undef, undef, undef, undef] [] w') → X E ds wz) ?_ ?_
      · intro X16012 hX16013
        refine fun _ _ _ hJ => hJ X16012 ?_
        intro I15960 x15958 D15957 w15959 hf s kk e14623 rp14611 rp12607 eg0
        refine hX16013 _ _ _ ?_
        unfold g9_j3 at hf
        by_cases h15961 : x15958 = true
        · have hf := iteT h15961 hf
          refine WPK.condT (Eq.trans (b := .bool x15958) (by kernel_rfl) (b_t h15961)) ?_
          refine WPK.seq ?_
          refine WPK.region ?_
          refine RW.seg hT 1 [] [] [.agg #[.int .i64 0, .int .i64 0, .int .u64 0, .slice none 0 0]] [] (by kernel_rfl) (trivial) ?_
          refine RW.op (by kernel_rfl) (OK.store hT (i := 2) (b := b14584) (off := 0) (n := 4) (vs := [.int .i64 0, .int .i64 0, .int .u64 0, .slice none 0 0]) (cs := [.int .i64 0, .int .i64 0, .int .u64 0, .slice none 0 0]) (e := 25) s (by kernel_rfl) rfl rfl (flat_ok rfl) (Nat.le_of_ble_eq_true rfl) ?_)
          rintro w15962 s k15963 -
          replace e14623 := e14623.st k15963
          replace rp14611 := rp14611.st k15963
          replace rp12607 := rp12607.st k15963
          replace eg0 := eg0.st k15963
          replace kk := kk.trans k15963
          refine RW.seg hT 1 [] [] [.int .i64 40] [] (by kernel_rfl) (trivial) ?_
          refine RW.nil ?_
          refine WPK.ret (blockQ.ret (?_))
          refine Fin.of (rs := [.cell 4 25, .tmp 5]) hT [.agg #[.int .i64 0, .int .i64 0, .int .u64 0, .slice none 0 0]] (.tuple #[.agg #[.int .i64 0, .int .i64 0, .int .u64 0, .slice none 0 0], .int .i64 40]) [.cells ⟨b14584, 0, none⟩ [.int .i64 0, .int .i64 0, .int .u64 0, .slice none 0 0] 4] rfl (by kernel_rfl) (s.cells (i := 2) rfl rfl rfl) ?_
          replace s := s.pick [3] 4 rfl
          exact fun X h => vc rfl (h I15960 0 0 0 [] 40 none 0 _ hf s kk nil_hc Elems.nil rp12607 eg0)
        · have hf := iteF h15961 hf
          refine WPK.condF (Eq.trans (b := .bool x15958) (by kernel_rfl) (b_f h15961)) ?_
          refine WPK.seq ?_
          refine WPK.cut' (Kn fun E ds wz => ∀ X : Kont, (∀ (I15981 : Nat → Prop) (x15979 : Bool) (D15978 : List Value) (w' : World), g9_j4 x12595 x14613 x15979 = some r → St w0 M I15981 ((.blk b14625 (.cells #[.int .i64 x14613.1.Kind, .int .i64 x14613.1.Page, .int .u64 x14613.1.Epoch, .slice A14620 x14613.1.Data.length c14621] 25 (0, 0))) :: (.blk b14584 (.cells #[.int .i64 0, .int .i64 0, .int .u64 0, .slice none 0 0] 25 (0, 0))) :: (.sl (.slice (some ⟨b14594, 0, none⟩) n12603 c12604) 49 1 n12603 cl12605) :: F) w' → Kp I w I15981 w' → Elems (Rp.int .u8) I15981 w' A14620 x14613.1.Data → RepL (Rp.int .u8) I15981 w' cl12605 x12595.1 → Elems (Rp.int .u32) I15981 w' (some ⟨0, 0, none⟩) TAB0 → X [(D15978.getD 0 undef), .int .i64 5, (D15978.getD 1 undef), (D15978.getD 2 undef), .pointer (some ⟨b14584, 0, none⟩), .int .i64 0, (D15978.getD 3 undef), .pointer (some ⟨b14625, 0, none⟩), (D15978.getD 4 undef), (D15978.getD 5 undef), (D15978.getD 6 undef), (D15978.getD 7 undef), (D15978.getD 8 undef), (D15978.getD 9 undef), (D15978.getD 10 undef), (D15978.getD 11 undef), (D15978.getD 12 undef), (D15978.getD 13 undef), (D15978.getD 14 undef), (D15978.getD 15 undef), (D15978.getD 16 undef), (D15978.getD 17 undef), (D15978.getD 18 undef), (D15978.getD 19 undef), (D15978.getD 20 undef), (D15978.getD 21 undef), (D15978.getD 22 undef), (D15978.getD 23 undef), (D15978.getD 24 undef), (D15978.getD 25 undef), (D15978.getD 26 undef), .bool x15979, (D15978.getD 27 undef), (D15978.getD 28 undef), (D15978.getD 29 undef), (D15978.getD 30 undef), (D15978.getD 31 undef), (D15978.getD 32 undef), (D15978.getD 33 undef), (D15978.getD 34 undef), (D15978.getD 35 undef), undef, undef, undef, undef, undef, undef, undef, undef, undef, undef, undef, undef, undef] [] w') → X E ds wz) ?_ ?_
          · intro X15996 hX15997
            refine fun _ _ _ hJ => hJ X15996 ?_
            intro I15981 x15979 D15978 w15980 hf s kk e14623 rp12607 eg0
            refine hX15997 _ _ _ ?_
            unfold g9_j4 at hf
            by_cases h15982 : x15979 = true
            · have hf := iteT h15982 hf
              refine WPK.condT (Eq.trans (b := .bool x15979) (by kernel_rfl) (b_t h15982)) ?_
              refine WPK.seq ?_
              refine WPK.region ?_
              refine RW.seg hT 1 [] [] [.agg #[.int .i64 0, .int .i64 0, .int .u64 0, .slice none 0 0]] [] (by kernel_rfl) (trivial) ?_
              refine RW.op (by kernel_rfl) (OK.store hT (i := 1) (b := b14584) (off := 0) (n := 4) (vs := [.int .i64 0, .int .i64 0, .int .u64 0, .slice none 0 0]) (cs := [.int .i64 0, .int .i64 0, .int .u64 0, .slice none 0 0]) (e := 25) s (by kernel_rfl) rfl rfl (flat_ok rfl) (Nat.le_of_ble_eq_true rfl) ?_)
              rintro w15983 s k15984 -
              replace e14623 := e14623.st k15984
              replace rp12607 := rp12607.st k15984
              replace eg0 := eg0.st k15984
              replace kk := kk.trans k15984
              refine RW.seg hT 1 [] [] [.int .i64 42] [] (by kernel_rfl) (trivial) ?_
              refine RW.nil ?_
              refine WPK.ret (blockQ.ret (?_))
              refine Fin.of (rs := [.cell 4 25, .tmp 5]) hT [.agg #[.int .i64 0, .int .i64 0, .int .u64 0, .slice none 0 0]] (.tuple #[.agg #[.int .i64 0, .int .i64 0, .int .u64 0, .slice none 0 0], .int .i64 42]) [.cells ⟨b14584, 0, none⟩ [.int .i64 0, .int .i64 0, .int .u64 0, .slice none 0 0] 4] rfl (by kernel_rfl) (s.cells (i := 1) rfl rfl rfl) ?_
              replace s := s.pick [2] 3 rfl
              exact fun X h => vc rfl (h I15981 0 0 0 [] 42 none 0 _ hf s kk nil_hc Elems.nil rp12607 eg0)
            · have hf := iteF h15982 hf
              refine WPK.condF (Eq.trans (b := .bool x15979) (by kernel_rfl) (b_f h15982)) ?_
              refine WPK.seq ?_
              refine WPK.cut' (Kn fun E ds wz => ∀ X : Kont, (∀ (x15987 : Bool) (D15986 : List Value), g9_j5 x12595 x14613 x15987 = some r → X [(D15986.getD 0 undef), (D15986.getD 1 undef), (D15986.getD 2 undef), (D15986.getD 3 undef), .pointer (some ⟨b14584, 0, none⟩), .int .i64 0, (D15986.getD 4 undef), .pointer (some ⟨b14625, 0, none⟩), (D15986.getD 5 undef), (D15986.getD 6 undef), (D15986.getD 7 undef), (D15986.getD 8 undef), (D15986.getD 9 undef), (D15986.getD 10 undef), (D15986.getD 11 undef), (D15986.getD 12 undef), (D15986.getD 13 undef), (D15986.getD 14 undef), (D15986.getD 15 undef), (D15986.getD 16 undef), (D15986.getD 17 undef), (D15986.getD 18 undef), (D15986.getD 19 undef), (D15986.getD 20 undef), (D15986.getD 21 undef), (D15986.getD 22 undef), (D15986.getD 23 undef), (D15986.getD 24 undef), (D15986.getD 25 undef), (D15986.getD 26 undef), (D15986.getD 27 undef), (D15986.getD 28 undef), (D15986.getD 29 undef), (D15986.getD 30 undef), (D15986.getD 31 undef), (D15986.getD 32 undef), (D15986.getD 33 undef), (D15986.getD 34 undef), (D15986.getD 35 undef), (D15986.getD 36 undef), (D15986.getD 37 undef), (D15986.getD 38 undef), .bool x15987, (D15986.getD 39 undef), (D15986.getD 40 undef), (D15986.getD 41 undef), (D15986.getD 42 undef), (D15986.getD 43 undef), (D15986.getD 44 undef), (D15986.getD 45 undef), (D15986.getD 46 undef), (D15986.getD 47 undef), undef, undef] [] w15980) → X E ds wz) ?_ ?_
              · intro X15993 hX15994
                refine fun _ _ _ hJ => hJ X15993 ?_
                intro x15987 D15986 hf
                refine hX15994 _ _ _ ?_
                unfold g9_j5 at hf
                by_cases h15988 : x15987 = true
                · have hf := iteT h15988 hf
                  refine WPK.condT (Eq.trans (b := .bool x15987) (by kernel_rfl) (b_t h15988)) ?_
                  refine WPK.seq ?_
                  refine WPK.region ?_
                  refine RW.seg hT 1 [] [] [.agg #[.int .i64 0, .int .i64 0, .int .u64 0, .slice none 0 0]] [] (by kernel_rfl) (trivial) ?_
                  refine RW.op (by kernel_rfl) (OK.store hT (i := 1) (b := b14584) (off := 0) (n := 4) (vs := [.int .i64 0, .int .i64 0, .int .u64 0, .slice none 0 0]) (cs := [.int .i64 0, .int .i64 0, .int .u64 0, .slice none 0 0]) (e := 25) s (by kernel_rfl) rfl rfl (flat_ok rfl) (Nat.le_of_ble_eq_true rfl) ?_)
                  rintro w15989 s k15990 -
                  replace e14623 := e14623.st k15990
                  replace rp12607 := rp12607.st k15990
                  replace eg0 := eg0.st k15990
                  replace kk := kk.trans k15990
                  refine RW.seg hT 1 [] [] [.int .i64 41] [] (by kernel_rfl) (trivial) ?_
                  refine RW.nil ?_
                  refine WPK.ret (blockQ.ret (?_))
                  refine Fin.of (rs := [.cell 4 25, .tmp 5]) hT [.agg #[.int .i64 0, .int .i64 0, .int .u64 0, .slice none 0 0]] (.tuple #[.agg #[.int .i64 0, .int .i64 0, .int .u64 0, .slice none 0 0], .int .i64 41]) [.cells ⟨b14584, 0, none⟩ [.int .i64 0, .int .i64 0, .int .u64 0, .slice none 0 0] 4] rfl (by kernel_rfl) (s.cells (i := 1) rfl rfl rfl) ?_
                  replace s := s.pick [2] 3 rfl
                  exact fun X h => vc rfl (h I15981 0 0 0 [] 41 none 0 _ hf s kk nil_hc Elems.nil rp12607 eg0)
                · have hf := iteF h15988 hf
                  refine WPK.condF (Eq.trans (b := .bool x15987) (by kernel_rfl) (b_f h15988)) ?_
                  refine WPK.skip ?_
                  refine WPK.seq ?_
                  refine WPK.region ?_
                  refine RW.seg hT 1 [.agg #[.int .i64 x14613.1.Kind, .int .i64 x14613.1.Page, .int .u64 x14613.1.Epoch, .slice A14620 x14613.1.Data.length c14621]] [] [.agg #[.int .i64 x14613.1.Kind, .int .i64 x14613.1.Page, .int .u64 x14613.1.Epoch, .slice A14620 x14613.1.Data.length c14621]] [.cells ⟨b14625, 0, none⟩ [.int .i64 x14613.1.Kind, .int .i64 x14613.1.Page, .int .u64 x14613.1.Epoch, .slice A14620 x14613.1.Data.length c14621] 4] (by kernel_rfl) (s.cells (i := 0) rfl rfl rfl) ?_
                  refine RW.op (by kernel_rfl) (OK.store hT (i := 1) (b := b14584) (off := 0) (n := 4) (vs := [.int .i64 x14613.1.Kind, .int .i64 x14613.1.Page, .int .u64 x14613.1.Epoch, .slice A14620 x14613.1.Data.length c14621]) (cs := [.int .i64 0, .int .i64 0, .int .u64 0, .slice none 0 0]) (e := 25) s (by kernel_rfl) rfl rfl (flat_ok rfl) (Nat.le_of_ble_eq_true rfl) ?_)
                  rintro w15991 s k15992 -
                  replace e14623 := e14623.st k15992
                  replace rp12607 := rp12607.st k15992
                  replace eg0 := eg0.st k15992
                  replace kk := kk.trans k15992
                  refine RW.seg hT 1 [] [] [.int .i64 0] [] (by kernel_rfl) (trivial) ?_
                  refine RW.nil ?_
                  refine WPK.ret (?_)
                  refine Fin.of (rs := [.cell 4 25, .tmp 5]) hT [.agg #[.int .i64 x14613.1.Kind, .int .i64 x14613.1.Page, .int .u64 x14613.1.Epoch, .slice A14620 x14613.1.Data.length c14621]] (.tuple #[.agg #[.int .i64 x14613.1.Kind, .int .i64 x14613.1.Page, .int .u64 x14613.1.Epoch, .slice A14620 x14613.1.Data.length c14621], .int .i64 0]) [.cells ⟨b14584, 0, none⟩ [.int .i64 x14613.1.Kind, .int .i64 x14613.1.Page, .int .u64 x14613.1.Epoch, .slice A14620 x14613.1.Data.length c14621] 4] rfl (by kernel_rfl) (s.cells (i := 1) rfl rfl rfl) ?_
                  replace s := s.pick [2] 3 rfl
                  exact fun X h => vc rfl (h I15981 x14613.1.Kind x14613.1.Page x14613.1.Epoch x14613.1.Data 0 A14620 c14621 _ hf s kk hc14622 e14623 rp12607 eg0)
              · refine WPK.region ?_
                refine RW.seg hT 4 [.int .i64 x14613.1.Page] [(46, .bool (decide (x14613.1.Page ≠ 5)))] [.pointer (some ⟨b14625, 1, none⟩), .int .i64 x14613.1.Page, .int .i64 5, .bool (decide (x14613.1.Page ≠ 5))] [.cell ⟨b14625, 1, none⟩ (.int .i64 x14613.1.Page), .veq (.bool (x14613.1.Page != 5)) (.bool (decide (x14613.1.Page ≠ 5)))] (by kernel_rfl) (⟨s.cell (i := 0) (off := 1) rfl rfl, ne_v⟩) ?_
                by_cases h15995 : x14613.1.Page ≠ 5
                · have hf := iteT h15995 hf
                  refine RW.seg hT 6 [] [(47, .bool true)] [.bool true, undef, undef, undef, .bool true, .bool true] [.veq (.bool (decide (x14613.1.Page ≠ 5))) (.bool true)] (by kernel_rfl) (bo_t h15995) ?_
                  refine RW.nil ?_
                  exact fun X h => kc (by kernel_rfl) rfl (h true [(D15978.getD 0 undef), .int .i64 5, (D15978.getD 1 undef), (D15978.getD 2 undef), (D15978.getD 3 undef), (D15978.getD 4 undef), (D15978.getD 5 undef), (D15978.getD 6 undef), (D15978.getD 7 undef), (D15978.getD 8 undef), (D15978.getD 9 undef), (D15978.getD 10 undef), (D15978.getD 11 undef), (D15978.getD 12 undef), (D15978.getD 13 undef), (D15978.getD 14 undef), (D15978.getD 15 undef), (D15978.getD 16 undef), (D15978.getD 17 undef), (D15978.getD 18 undef), (D15978.getD 19 undef), (D15978.getD 20 undef), (D15978.getD 21 undef), (D15978.getD 22 undef), (D15978.getD 23 undef), (D15978.getD 24 undef), (D15978.getD 25 undef), (D15978.getD 26 undef), .bool x15979, (D15978.getD 27 undef), (D15978.getD 28 undef), (D15978.getD 29 undef), (D15978.getD 30 undef), (D15978.getD 31 undef), (D15978.getD 32 undef), (D15978.getD 33 undef), (D15978.getD 34 undef), (D15978.getD 35 undef), undef, .pointer (some ⟨b14625, 1, none⟩), .int .i64 x14613.1.Page, .int .i64 5, .bool (decide (x14613.1.Page ≠ 5)), .bool true, undef, undef, undef, .bool true] hf)
                · have hf := iteF h15995 hf
                  refine RW.seg hT 6 [.int .i64 x14613.1.Page] [(47, .bool false)] [.bool false, .pointer (some ⟨b14625, 1, none⟩), .int .i64 x14613.1.Page, .bool (decide (x14613.1.Page ≥ 2048)), .bool (decide (x14613.1.Page ≥ 2048)), .bool (decide (x14613.1.Page ≥ 2048))] [.veq (.bool (decide (x14613.1.Page ≠ 5))) (.bool false), .cell ⟨b14625, 1, none⟩ (.int .i64 x14613.1.Page)] (by kernel_rfl) (⟨bo_f h15995, s.cell (i := 0) (off := 1) rfl rfl⟩) ?_
                  refine RW.nil ?_
                  exact fun X h => kc (by kernel_rfl) rfl (h (decide (x14613.1.Page ≥ 2048)) [(D15978.getD 0 undef), .int .i64 5, (D15978.getD 1 undef), (D15978.getD 2 undef), (D15978.getD 3 undef), (D15978.getD 4 undef), (D15978.getD 5 undef), (D15978.getD 6 undef), (D15978.getD 7 undef), (D15978.getD 8 undef), (D15978.getD 9 undef), (D15978.getD 10 undef), (D15978.getD 11 undef), (D15978.getD 12 undef), (D15978.getD 13 undef), (D15978.getD 14 undef), (D15978.getD 15 undef), (D15978.getD 16 undef), (D15978.getD 17 undef), (D15978.getD 18 undef), (D15978.getD 19 undef), (D15978.getD 20 undef), (D15978.getD 21 undef), (D15978.getD 22 undef), (D15978.getD 23 undef), (D15978.getD 24 undef), (D15978.getD 25 undef), (D15978.getD 26 undef), .bool x15979, (D15978.getD 27 undef), (D15978.getD 28 undef), (D15978.getD 29 undef), (D15978.getD 30 undef), (D15978.getD 31 undef), (D15978.getD 32 undef), (D15978.getD 33 undef), (D15978.getD 34 undef), (D15978.getD 35 undef), undef, .pointer (some ⟨b14625, 1, none⟩), .int .i64 x14613.1.Page, .int .i64 5, .bool (decide (x14613.1.Page ≠ 5)), .bool false, .pointer (some ⟨b14625, 1, none⟩), .int .i64 x14613.1.Page, .bool (decide (x14613.1.Page ≥ 2048)), .bool (decide (x14613.1.Page ≥ 2048))] hf)
          · refine WPK.region ?_
            refine RW.seg hT 2 [.int .i64 x14613.1.Kind] [] [.pointer (some ⟨b14625, 0, none⟩), .int .i64 x14613.1.Kind] [.cell ⟨b14625, 0, none⟩ (.int .i64 x14613.1.Kind)] (by kernel_rfl) (s.cell (i := 0) (off := 0) rfl rfl) ?_
            obtain ⟨x15998, hx15999, hf⟩ := bindS hf
            refine RW.op (by kernel_rfl) (OK.call' en27 (by kernel_rfl) (c27 (F := (.blk b14625 (.cells #[.int .i64 x14613.1.Kind, .int .i64 x14613.1.Page, .int .u64 x14613.1.Epoch, .slice A14620 x14613.1.Data.length c14621] 25 (0, 0))) :: (.sl (.slice (some ⟨b14601, 0, none⟩) 256 256) 49 1 256 cl14609) :: (.blk b14584 (.cells #[.int .i64 0, .int .i64 0, .int .u64 0, .slice none 0 0] 25 (0, 0))) :: (.sl (.slice (some ⟨b14594, 0, none⟩) n12603 c12604) 49 1 n12603 cl12605) :: F) x14613.1.Kind s hx15999) ?_)
            intro X16002 hX16003
            refine fun _ _ hJ => hJ X16002 ?_
            intro I16004 w16000 s k16001
            refine hX16003 _ _ ?_
            replace e14623 := e14623.st k16001
            replace rp14611 := rp14611.st k16001
            replace rp12607 := rp12607.st k16001
            replace eg0 := eg0.st k16001
            replace kk := kk.trans k16001
            refine RW.seg hT 1 [] [(35, .bool (decide (¬ (x15998 = true))))] [.bool (decide (¬ (x15998 = true)))] [.veq (.bool (!x15998)) (.bool (decide (¬ (x15998 = true))))] (by kernel_rfl) (not_b) ?_
            by_cases h16005 : ¬ (x15998 = true)
            · have hf := iteT h16005 hf
              refine RW.seg hT 6 [] [(36, .bool true)] [.bool true, undef, undef, undef, .bool true, .bool true] [.veq (.bool (decide (¬ (x15998 = true)))) (.bool true)] (by kernel_rfl) (bo_t h16005) ?_
              refine RW.nil ?_
              replace s := s.pick [0, 2, 3] 4 rfl
              exact fun X h => kc (by kernel_rfl) rfl (h I16004 true [(D15957.getD 0 undef), (D15957.getD 1 undef), (D15957.getD 2 undef), .pointer (some ⟨b14601, 0, none⟩), (D15957.getD 3 undef), (D15957.getD 4 undef), (D15957.getD 5 undef), (D15957.getD 6 undef), (D15957.getD 7 undef), (D15957.getD 8 undef), (D15957.getD 9 undef), (D15957.getD 10 undef), (D15957.getD 11 undef), (D15957.getD 12 undef), (D15957.getD 13 undef), (D15957.getD 14 undef), (D15957.getD 15 undef), .bool x15958, (D15957.getD 16 undef), (D15957.getD 17 undef), (D15957.getD 18 undef), (D15957.getD 19 undef), (D15957.getD 20 undef), (D15957.getD 21 undef), (D15957.getD 22 undef), (D15957.getD 23 undef), undef, .pointer (some ⟨b14625, 0, none⟩), .int .i64 x14613.1.Kind, .bool x15998, .bool (decide (¬ (x15998 = true))), .bool true, undef, undef, undef, .bool true] _ hf s kk e14623 rp12607 eg0)
            · have hf := iteF h16005 hf
              obtain ⟨x16006, hx16007, hf⟩ := bindS hf
              obtain ⟨h16008, hx16007⟩ := getS hx16007
              rw [← hn14612] at h16008
              obtain ⟨-, cs16009, hr16010, ha16011⟩ := St.elem s (i := 1) rfl hn14612 rp14611 hx16007
              replace ha16011 := ha16011 _ rfl
              obtain rfl : cs16009 = [.int .u8 x16006] := hr16010
              refine RW.seg hT 6 [.int .u8 x16006] [(36, .bool false), (39, .bool (decide (x16006 ≠ 0)))] [.bool false, .pointer (some ⟨b14601, 0 + (5 : Int).toNat * 1, none⟩), .int .u8 x16006, .bool (decide (x16006 ≠ 0)), .bool (decide (x16006 ≠ 0)), .bool (decide (x16006 ≠ 0))] [.veq (.bool (decide (¬ (x15998 = true)))) (.bool false), .idx 5 256, .cell ⟨b14601, 0 + (5 : Int).toNat * 1, none⟩ (.int .u8 x16006), .veq (.bool (x16006 != 0)) (.bool (decide (x16006 ≠ 0)))] (by kernel_rfl) (⟨bo_f h16005, h16008, ha16011 0 _ rfl, ne_v⟩) ?_
              refine RW.nil ?_
              replace s := s.pick [0, 2, 3] 4 rfl
              exact fun X h => kc (by kernel_rfl) rfl (h I16004 (decide (x16006 ≠ 0)) [(D15957.getD 0 undef), (D15957.getD 1 undef), (D15957.getD 2 undef), .pointer (some ⟨b14601, 0, none⟩), (D15957.getD 3 undef), (D15957.getD 4 undef), (D15957.getD 5 undef), (D15957.getD 6 undef), (D15957.getD 7 undef), (D15957.getD 8 undef), (D15957.getD 9 undef), (D15957.getD 10 undef), (D15957.getD 11 undef), (D15957.getD 12 undef), (D15957.getD 13 undef), (D15957.getD 14 undef), (D15957.getD 15 undef), .bool x15958, (D15957.getD 16 undef), (D15957.getD 17 undef), (D15957.getD 18 undef), (D15957.getD 19 undef), (D15957.getD 20 undef), (D15957.getD 21 undef), (D15957.getD 22 undef), (D15957.getD 23 undef), undef, .pointer (some ⟨b14625, 0, none⟩), .int .i64 x14613.1.Kind, .bool x15998, .bool (decide (¬ (x15998 = true))), .bool false, .pointer (some ⟨b14601, 0 + (5 : Int).toNat * 1, none⟩), .int .u8 x16006, .bool (decide (x16006 ≠ 0)), .bool (decide (x16006 ≠ 0))] _ hf s kk e14623 rp12607 eg0)
      · refine WPK.region ?_
        refine RW.seg hT 2 [.agg (List.map (Value.int .u8) (List.take 256 y14596)).toArray] [] [.agg (List.map (Value.int .u8) (List.take 256 y14596)).toArray, .agg (List.map (Value.int .u8) (List.replicate 256 (0 : Int))).toArray] [.cells ⟨b14601, 0, none⟩ (List.map (Value.int .u8) (List.take 256 y14596)) 256] (by kernel_rfl) (St.arr s (i := 1) rfl rp14611 hn14612) ?_
        refine RW.op (by kernel_rfl) (OK.arrEq hT (t := 49) (N := 256) (e := 5) (k := .u8) (b := true) (xs := (List.take 256 y14596)) (ys := (List.replicate 256 (0 : Int))) (by kernel_rfl) (by kernel_rfl) rfl rfl rfl rfl rfl hn14612 (by simp) ?_)
        by_cases h16014 : (List.take 256 y14596) = (List.replicate 256 (0 : Int))
        · have hf := iteT h16014 hf
          refine RW.seg hT 6 [] [(25, .bool true)] [.bool true, undef, undef, undef, .bool true, .bool true] [.veq (.bool (decide ((List.take 256 y14596) = (List.replicate 256 (0 : Int))))) (.bool true)] (by kernel_rfl) (bo_t h16014) ?_
          refine RW.nil ?_
          replace s := s.pick [0, 1, 2, 4] 5 rfl
          exact fun X h => kc (by kernel_rfl) rfl (h I14619 true [.slice (some ⟨b14594, 0, none⟩) n12603 c12604, undef, undef, .int .u32 x14613.2, .slice (some ⟨b14594, 0, none⟩) n12603 c12604, .int .i64 (x12595.1.length : Int), .bool (decide ((x12595.1.length : Int) ≠ 256)), undef, .slice (some ⟨b14594, 0, none⟩) n12603 c12604, .pointer (some ⟨b14594, 0, none⟩), .agg (List.map (Value.int .u8) (List.take 256 y14596)).toArray, .tuple #[.agg #[.int .i64 x14613.1.Kind, .int .i64 x14613.1.Page, .int .u64 x14613.1.Epoch, .slice A14620 x14613.1.Data.length c14621], .int .u32 x14613.2], .agg (List.map (Value.int .u8) (List.take 256 y14596)).toArray, .tuple #[.agg #[.int .i64 x14613.1.Kind, .int .i64 x14613.1.Page, .int .u64 x14613.1.Epoch, .slice A14620 x14613.1.Data.length c14621], .int .u32 x14613.2], .agg #[.int .i64 x14613.1.Kind, .int .i64 x14613.1.Page, .int .u64 x14613.1.Epoch, .slice A14620 x14613.1.Data.length c14621], .int .u32 x14613.2, .agg (List.map (Value.int .u8) (List.take 256 y14596)).toArray, .agg (List.map (Value.int .u8) (List.replicate 256 (0 : Int))).toArray, .bool (decide ((List.take 256 y14596) = (List.replicate 256 (0 : Int)))), .bool true, undef, undef, undef, .bool true, undef] _ hf s kk e14623 rp14611 rp12607 eg0)
        · have hf := iteF h16014 hf
          refine RW.seg hT 2 [] [(25, .bool false)] [.bool false, .int .u32 x14613.2] [.veq (.bool (decide ((List.take 256 y14596) = (List.replicate 256 (0 : Int))))) (.bool false)] (by kernel_rfl) (bo_f h16014) ?_
          refine RW.op (by kernel_rfl) (OK.inl (args := [.pointer (some ⟨b14601, 0, none⟩)]) en26 (by kernel_rfl) ?_)
          intro R16015 hR16016
          refine Ret.of Tryd.func26 rfl ?_
          refine WPK.seq ?_
          refine WPK.region ?_
          refine RW.seg hT 1 [] [] [.int .u32 0] [] (by kernel_rfl) (trivial) ?_
          refine RW.nil ?_
          refine WPK.seq ?_
          refine WPK.region ?_
          obtain ⟨h16237, hf⟩ := iteS hf
          replace h16237 : (0 : Int) ≤ 4 ∧ 4 ≤ ((List.take 256 y14596).length : Int) ∧ ((List.take 256 y14596).length : Int) ≤ ((256 : Nat) : Int) - 0 := by have hnn := hn14612; omega
          obtain ⟨o16228, n16229, c16230, q16231, q16232, q16233, q16234, q16235, pt16236⟩ := partS (b := b14601) (c := 256) (Pt.whole (size := 1) (row_hc (s.at (i := 1) rfl)).1) (Nat.le_refl _) h16237
          rw [Int.zero_add, Int.zero_add] at pt16236
          replace q16232 : 256 - (4 : Int).toNat = n16229 := by rw [← q16232]; have hnn := hn14612; omega
          refine RW.seg hT 3 [] [(5, .slice (some ⟨b14601, o16228, none⟩) n16229 c16230)] [.pointer (some ⟨b14601, 0, none⟩), .pointer (some ⟨b14601, 0, none⟩), .slice (some ⟨b14601, o16228, none⟩) n16229 c16230] [.both (.cut 4 (256 : Nat) 256 256) (.veq (.slice (cutA (some ⟨b14601, 0, none⟩) (4 : Int).toNat 256 1) (256 - (4 : Int).toNat) (256 - (4 : Int).toNat)) (.slice (some ⟨b14601, o16228, none⟩) n16229 c16230))] (by kernel_rfl) (⟨⟨(q16235).1, by have h1 := (q16235).2.1; have h2 := (q16235).2.2.1; omega, by have := (q16235).2.2.2; omega, by omega⟩, sl_eq q16231 q16232 q16233⟩) ?_
          refine RW.op (by kernel_rfl) (OK.new hT (f := fun b => .slice (some ⟨b, 0, none⟩) 1 1) (cs := [.slice (some ⟨b14601, o16228, none⟩) n16229 c16230]) (e := 23) (c := .tt) s (by kernel_rfl) trivial ?_)
          rintro w16238 b16239 s k16240 -
          replace e14623 := e14623.st k16240
          replace rp14611 := rp14611.st k16240
          replace rp12589 := rp12589.st k16240
          replace rp12607 := rp12607.st k16240
          replace eg0 := eg0.st k16240
          replace kk := kk.trans k16240
          refine RW.op (by kernel_rfl) (OK.inl (args := [.slice (some ⟨b16239, 0, none⟩) 1 1]) en40 (by kernel_rfl) ?_)
          intro R16241 hR16242
          refine Ret.of Tryd.func40 rfl ?_
          refine WPK.seq ?_
          refine WPK.region ?_
          refine RW.seg hT 1 [] [] [.int .u32 0] [] (by kernel_rfl) (trivial) ?_
          refine RW.nil ?_
          refine WPK.seq ?_
          refine WPK.region ?_
          refine RW.seg hT 1 [] [] [.slice (some ⟨b16239, 0, none⟩) 1 1] [] (by kernel_rfl) (trivial) ?_
          refine RW.op (by kernel_rfl) (OK.inl (args := [.int .u32 0, .slice (some ⟨b16239, 0, none⟩) 1 1]) en52 (by kernel_rfl) ?_)
          intro R16341 hR16342
          refine Ret.of Tryd.func52 rfl ?_
          refine WPK.seq ?_
          refine WPK.region ?_
          refine RW.seg hT 1 [] [] [.int .u32 0] [] (by kernel_rfl) (trivial) ?_
          refine RW.nil ?_
          refine WPK.seq ?_
          refine WPK.region ?_
          refine RW.seg hT 1 [] [] [.int .u32 0] [] (by kernel_rfl) (trivial) ?_
          obtain ⟨x16391, hx16392, hf⟩ := bindS hf
          refine RW.op (by kernel_rfl) (OK.call' en59 (by kernel_rfl) (c59 (F := (.blk b16239 (.cells #[.slice (some ⟨b14601, o16228, none⟩) n16229 c16230] 23 (0, 0))) :: (.blk b14625 (.cells #[.int .i64 x14613.1.Kind, .int .i64 x14613.1.Page, .int .u64 x14613.1.Epoch, .slice A14620 x14613.1.Data.length c14621] 25 (0, 0))) :: (.sl (.slice (some ⟨b14601, 0, none⟩) 256 256) 49 1 256 cl14609) :: (.blk b14584 (.cells #[.int .i64 0, .int .i64 0, .int .u64 0, .slice none 0 0] 25 (0, 0))) :: (.sl (.slice (some ⟨b12587, 0, none⟩) 2 2) 5 1 2 [.int .u8 7, .int .u8 8]) :: (.sl (.slice (some ⟨b14594, 0, none⟩) n12603 c12604) 49 1 n12603 cl12605) :: F) 0 s hx16392) ?_)
          intro X16395 hX16396
          refine fun _ _ hJ => hJ X16395 ?_
          intro I16397 w16393 s k16394
          refine hX16396 _ _ ?_
          replace e14623 := e14623.st k16394
          replace rp14611 := rp14611.st k16394
          replace rp12589 := rp12589.st k16394
          replace rp12607 := rp12607.st k16394
          replace eg0 := eg0.st k16394
          replace kk := kk.trans k16394
          refine RW.seg hT 1 [] [] [.int .u32 x16391] [] (by kernel_rfl) (trivial) ?_
          refine RW.nil ?_
          refine WPK.seq ?_
          refine WPK.seq ?_
          refine WPK.region ?_
          refine RW.seg hT 3 [] [] [.slice (some ⟨b16239, 0, none⟩) 1 1, .int .i64 1, .int .i64 0] [] (by kernel_rfl) (trivial) ?_
          refine RW.nil ?_
          refine WPK.block ?_
          refine WPK.rounds 12 ?_
          refine Rounds.go ?_
          refine WPK.seq ?_
          refine WPK.region ?_
          refine RW.seg hT 1 [] [] [.bool true] [] (by kernel_rfl) (trivial) ?_
          refine RW.nil ?_
          refine WPK.seq ?_
          refine WPK.condT (by kernel_rfl) ?_
          refine WPK.skip ?_
          refine WPK.seq ?_
          refine WPK.block ?_
          refine WPK.seq ?_
          refine WPK.region ?_
          refine RW.seg hT 3 [.slice (some ⟨b14601, o16228, none⟩) n16229 c16230] [] [.pointer (some ⟨b16239, 0, none⟩), .slice (some ⟨b14601, o16228, none⟩) n16229 c16230, .slice (some ⟨b14601, o16228, none⟩) n16229 c16230] [.idx 0 1, .cell ⟨b16239, 0, none⟩ (.slice (some ⟨b14601, o16228, none⟩) n16229 c16230)] (by kernel_rfl) (⟨⟨by decide, by decide⟩, s.cell (i := 0) (off := 0) rfl rfl⟩) ?_
          refine RW.nil ?_
          refine WPK.region ?_
          refine RW.seg hT 2 [] [] [.int .u32 x16391, .slice (some ⟨b14601, o16228, none⟩) n16229 c16230] [] (by kernel_rfl) (trivial) ?_
          obtain ⟨y16419, hy16420, hf⟩ := bindS hf
          have sa16415 := s
          obtain ⟨hm16421, hc16416, e16417⟩ := St.lendPt s (i := 2) rfl rfl rp14611 pt16236 (q16234) hy16420
          have k16418 := Kp.shut (I := I16397) (w := w16393) (p := .sl (.slice (some ⟨b14601, 0, none⟩) 256 256) 49 1 256 cl14609)
          replace s := s.shut 2 rfl
          obtain ⟨x16422, hx16423, hf⟩ := bindS hf
          have hc16426 := c60 (F := (.blk b16239 (.cells #[.slice (some ⟨b14601, o16228, none⟩) n16229 c16230] 23 (0, 0))) :: (.blk b14625 (.cells #[.int .i64 x14613.1.Kind, .int .i64 x14613.1.Page, .int .u64 x14613.1.Epoch, .slice A14620 x14613.1.Data.length c14621] 25 (0, 0))) :: (.blk b14584 (.cells #[.int .i64 0, .int .i64 0, .int .u64 0, .slice none 0 0] 25 (0, 0))) :: (.sl (.slice (some ⟨b12587, 0, none⟩) 2 2) 5 1 2 [.int .u8 7, .int .u8 8]) :: (.sl (.slice (some ⟨b14594, 0, none⟩) n12603 c12604) 49 1 n12603 cl12605) :: F) x16391 y16419 (some ⟨b14601, o16228, none⟩) c16230 hc16416 e16417 (eg0.st k16418) s hx16423
          rw [← hm16421] at hc16426
          refine RW.op (by kernel_rfl) (OK.call' en60 (by kernel_rfl) (hc16426) ?_)
          intro X16427 hX16428
          refine fun _ _ hJ => hJ X16427 ?_
          intro I16429 w16424 s k16425
          refine hX16428 _ _ ?_
          have s' := St.back sa16415 (i := 2) rfl s k16425
          replace k16425 := Kp.back sa16415 (i := 2) rfl k16425
          replace s := s'; clear s'
          obtain ⟨I16431, s, k16425⟩ : ∃ I : Nat → Prop, St w0 M I ((.sl (.slice (some ⟨b14601, 0, none⟩) 256 256) 49 1 256 cl14609) :: (.blk b16239 (.cells #[.slice (some ⟨b14601, o16228, none⟩) n16229 c16230] 23 (0, 0))) :: (.blk b14625 (.cells #[.int .i64 x14613.1.Kind, .int .i64 x14613.1.Page, .int .u64 x14613.1.Epoch, .slice A14620 x14613.1.Data.length c14621] 25 (0, 0))) :: (.blk b14584 (.cells #[.int .i64 0, .int .i64 0, .int .u64 0, .slice none 0 0] 25 (0, 0))) :: (.sl (.slice (some ⟨b12587, 0, none⟩) 2 2) 5 1 2 [.int .u8 7, .int .u8 8]) :: (.sl (.slice (some ⟨b14594, 0, none⟩) n12603 c12604) 49 1 n12603 cl12605) :: F) w16424 ∧ Kp _ _ I _ := ⟨_, s, k16425⟩
          replace e14623 := e14623.st k16425
          replace rp12589 := rp12589.st k16425
          replace rp12607 := rp12607.st k16425
          replace eg0 := eg0.st k16425
          replace rp14611 := rp14611.st k16425
          replace kk := kk.trans k16425
          refine RW.seg hT 1 [] [] [.int .u32 x16422] [] (by kernel_rfl) (trivial) ?_
          refine RW.nil ?_
          refine WPK.region ?_
          refine RW.seg hT 2 [] [] [.int .i64 1, .int .i64 1] [] (by kernel_rfl) (trivial) ?_
          refine RW.nil ?_
          refine Rounds.go ?_
          refine WPK.seq ?_
          refine WPK.region ?_
          refine RW.seg hT 1 [] [] [.bool false] [] (by kernel_rfl) (trivial) ?_
          refine RW.nil ?_
          refine WPK.seq ?_
          refine WPK.condF (by kernel_rfl) ?_
          refine WPK.exit (blockQ.same ?_)
          refine WPK.seq ?_
          refine WPK.region ?_
          refine RW.seg hT 1 [] [] [.int .u32 x16422] [] (by kernel_rfl) (trivial) ?_
          obtain ⟨x16432, hx16433, hf⟩ := bindS hf
          refine RW.op (by kernel_rfl) (OK.call' en61 (by kernel_rfl) (c61 (F := (.sl (.slice (some ⟨b14601, 0, none⟩) 256 256) 49 1 256 cl14609) :: (.blk b16239 (.cells #[.slice (some ⟨b14601, o16228, none⟩) n16229 c16230] 23 (0, 0))) :: (.blk b14625 (.cells #[.int .i64 x14613.1.Kind, .int .i64 x14613.1.Page, .int .u64 x14613.1.Epoch, .slice A14620 x14613.1.Data.length c14621] 25 (0, 0))) :: (.blk b14584 (.cells #[.int .i64 0, .int .i64 0, .int .u64 0, .slice none 0 0] 25 (0, 0))) :: (.sl (.slice (some ⟨b12587, 0, none⟩) 2 2) 5 1 2 [.int .u8 7, .int .u8 8]) :: (.sl (.slice (some ⟨b14594, 0, none⟩) n12603 c12604) 49 1 n12603 cl12605) :: F) x16422 s hx16433) ?_)
          intro X16436 hX16437
          refine fun _ _ hJ => hJ X16436 ?_
          intro I16438 w16434 s k16435
          refine hX16437 _ _ ?_
          replace e14623 := e14623.st k16435
          replace rp14611 := rp14611.st k16435
          replace rp12589 := rp12589.st k16435
          replace rp12607 := rp12607.st k16435
          replace eg0 := eg0.st k16435
          replace kk := kk.trans k16435
          refine RW.seg hT 1 [] [] [.int .u32 x16432] [] (by kernel_rfl) (trivial) ?_
          refine RW.nil ?_
          refine WPK.ret (?_)
          refine Fin.of (rs := [.tmp 4]) hT [] (.int .u32 x16432) [] rfl (by kernel_rfl) (trivial) ?_
          refine hR16342 _ _ ?_
          refine RW.seg hT 1 [] [] [.int .u32 x16432] [] (by kernel_rfl) (trivial) ?_
          refine RW.nil ?_
          refine WPK.ret (?_)
          refine Fin.of (rs := [.tmp 2]) hT [] (.int .u32 x16432) [] rfl (by kernel_rfl) (trivial) ?_
          refine hR16242 _ _ ?_
          refine RW.seg hT 1 [] [] [.int .u32 x16432] [] (by kernel_rfl) (trivial) ?_
          refine RW.nil ?_
          refine WPK.ret (?_)
          refine Fin.of (rs := [.tmp 2]) hT [] (.int .u32 x16432) [] rfl (by kernel_rfl) (trivial) ?_
          refine hR16016 _ _ ?_
          refine RW.seg hT 3 [] [(28, .bool (decide (x14613.2 ≠ x16432)))] [.bool (decide (x14613.2 ≠ x16432)), .bool (decide (x14613.2 ≠ x16432)), .bool (decide (x14613.2 ≠ x16432))] [.veq (.bool (x14613.2 != x16432)) (.bool (decide (x14613.2 ≠ x16432)))] (by kernel_rfl) (ne_v) ?_
          refine RW.nil ?_
          replace s := s.pick [2, 0, 3, 5] 6 rfl
          exact fun X h => kc (by kernel_rfl) rfl (h I16438 (decide (x14613.2 ≠ x16432)) [.slice (some ⟨b14594, 0, none⟩) n12603 c12604, undef, undef, .int .u32 x14613.2, .slice (some ⟨b14594, 0, none⟩) n12603 c12604, .int .i64 (x12595.1.length : Int), .bool (decide ((x12595.1.length : Int) ≠ 256)), undef, .slice (some ⟨b14594, 0, none⟩) n12603 c12604, .pointer (some ⟨b14594, 0, none⟩), .agg (List.map (Value.int .u8) (List.take 256 y14596)).toArray, .tuple #[.agg #[.int .i64 x14613.1.Kind, .int .i64 x14613.1.Page, .int .u64 x14613.1.Epoch, .slice A14620 x14613.1.Data.length c14621], .int .u32 x14613.2], .agg (List.map (Value.int .u8) (List.take 256 y14596)).toArray, .tuple #[.agg #[.int .i64 x14613.1.Kind, .int .i64 x14613.1.Page, .int .u64 x14613.1.Epoch, .slice A14620 x14613.1.Data.length c14621], .int .u32 x14613.2], .agg #[.int .i64 x14613.1.Kind, .int .i64 x14613.1.Page, .int .u64 x14613.1.Epoch, .slice A14620 x14613.1.Data.length c14621], .int .u32 x14613.2, .agg (List.map (Value.int .u8) (List.take 256 y14596)).toArray, .agg (List.map (Value.int .u8) (List.replicate 256 (0 : Int))).toArray, .bool (decide ((List.take 256 y14596) = (List.replicate 256 (0 : Int)))), .bool false, .int .u32 x14613.2, .int .u32 x16432, .bool (decide (x14613.2 ≠ x16432)), .bool (decide (x14613.2 ≠ x16432)), undef] _ hf s kk e14623 rp14611 rp12607 eg0)
theorem c10 {w0 w : World} {M I : Nat → Prop} {F : List It} (p0 : (List T_api_Frame)) (A16873 : Option Addr) (c16874 : Nat) (hc16875 : (p0.length ≤ c16874 ∧ c16874 ≤ 9223372036854775807)) (e16876 : Elems rp_T_api_Frame I w A16873 p0) (s : St w0 M I (F) w) {r : Bool} (hf : g10 p0 = some r) :
    Ret Tryd.prog 10 [.slice A16873 p0.length c16874] w fun v wz => ∀ X : Value → World → Prop, (∀ (I' : Nat → Prop) (w' : World), St w0 M I' (F) w' → Kp I w I' w' → X (.bool r) w') → X v wz := by
  have kk : Kp I w I w := Kp.refl
  unfold g10 at hf
  refine Ret.of Tryd.func10 rfl ?_
  refine WPK.seq ?_
  refine WPK.region ?_
  refine RW.seg hT 1 [] [] [.bool false] [] (by kernel_rfl) (trivial) ?_
  refine RW.nil ?_
  refine WPK.seq ?_
  refine WPK.seq ?_
  refine WPK.region ?_
  refine RW.seg hT 3 [] [] [.slice A16873 p0.length c16874, .int .i64 (p0.length : Int), .int .i64 0] [] (by kernel_rfl) (trivial) ?_
  refine RW.nil ?_
  refine WPK.block ?_
  refine WPK.loop' (J := fun n17223 E ds wz => ∀ X : Kont, (∀ (I17155 : Nat → Prop) (x17153 : Int) (D17152 : List Value) (w' : World), g10_l1 p0 n17223 x17153 = some r → St w0 M I17155 (F) w' → Kp I w I17155 w' → Elems rp_T_api_Frame I17155 w' A16873 p0 → X [(D17152.getD 0 undef), (D17152.getD 1 undef), .bool false, (D17152.getD 2 undef), (D17152.getD 3 undef), .slice A16873 p0.length c16874, .int .i64 (p0.length : Int), .int .i64 x17153, (D17152.getD 4 undef), (D17152.getD 5 undef), (D17152.getD 6 undef), (D17152.getD 7 undef), (D17152.getD 8 undef), (D17152.getD 9 undef), (D17152.getD 10 undef), (D17152.getD 11 undef)] [] w') → X E ds wz) FUEL (fun X h => kc (by kernel_rfl) rfl (h I 0 [.slice A16873 p0.length c16874, undef, undef, undef, undef, undef, undef, undef, undef, undef, undef, undef] _ hf s kk e16876)) (fun _ _ _ hJ => hJ (fun _ _ _ => False) (by intro I17155 x17153 D17152 w17154 hf s kk e16876; exact noneS hf)) ?_
  intro X17291 hX17292
  refine fun n17223 _ _ _ hJ => hJ (X17291 n17223) ?_
  intro I17155 x17153 D17152 w17154 hf s kk e16876
  refine hX17292 _ _ _ _ ?_
  replace hf : g10_l1B p0 (g10_l1 p0 n17223) x17153 = some r := hf
  generalize hrec17224 : g10_l1 p0 n17223 = rec17222 at hf
  unfold g10_l1B at hf
  refine WPK.seq ?_
  refine WPK.region ?_
  refine RW.seg hT 1 [] [] [.bool (decide (x17153 < (p0.length : Int)))] [] (by kernel_rfl) (trivial) ?_
  refine RW.nil ?_
  refine WPK.seq ?_
  by_cases h17226 : x17153 < (p0.length : Int)
  · have hf := iteT h17226 hf
    refine WPK.condT (Eq.trans (b := .bool (decide (x17153 < (p0.length : Int)))) (by kernel_rfl) (bo_t h17226)) ?_
    refine WPK.skip ?_
    refine WPK.seq ?_
    refine WPK.block ?_
    refine WPK.seq ?_
    refine WPK.region ?_
    obtain ⟨x17259, hx17260, hf⟩ := bindS hf
    obtain ⟨h17261, hx17260⟩ := getS hx17260
    obtain ⟨b17262, o17263, rfl⟩ := Elems.opn e16876 hx17260
    obtain ⟨cs17264, hr17265, ha17266⟩ := Elems.get e16876 hx17260
    obtain ⟨cs17267, cs17268, rfl, hr17269, hr17270⟩ := hr17265
    obtain rfl : cs17267 = [.int .i64 x17259.Kind] := hr17269
    obtain ⟨cs17271, cs17272, rfl, hr17273, hr17274⟩ := hr17270
    obtain rfl : cs17271 = [.int .i64 x17259.Page] := hr17273
    obtain ⟨cs17275, cs17276, rfl, hr17277, hr17278⟩ := hr17274
    obtain rfl : cs17275 = [.int .u64 x17259.Epoch] := hr17277
    obtain ⟨A17279, c17280, rfl, q17281, q17282, e17283⟩ := hr17278
    have hc17284 := And.intro q17281 q17282
    refine RW.seg hT 2 [.agg #[.int .i64 x17259.Kind, .int .i64 x17259.Page, .int .u64 x17259.Epoch, .slice A17279 x17259.Data.length c17280]] [] [.pointer (some ⟨b17262, o17263 + x17153.toNat * 4, none⟩), .agg #[.int .i64 x17259.Kind, .int .i64 x17259.Page, .int .u64 x17259.Epoch, .slice A17279 x17259.Data.length c17280]] [.idx x17153 p0.length, .cells ⟨b17262, o17263 + x17153.toNat * 4, none⟩ [.int .i64 x17259.Kind, .int .i64 x17259.Page, .int .u64 x17259.Epoch, .slice A17279 x17259.Data.length c17280] 4] (by kernel_rfl) (⟨h17261, at_cells ha17266 (off := 0) rfl rfl⟩) ?_
    refine RW.op (by kernel_rfl) (OK.new hT (f := fun b => .pointer (some ⟨b, 0, none⟩)) (cs := [.int .i64 0, .int .i64 0, .int .u64 0, .slice none 0 0]) (e := 25) (c := .tt) s (by kernel_rfl) trivial ?_)
    rintro w17285 b17286 s k17287 -
    replace e16876 := e16876.st k17287
    replace e17283 := e17283.st k17287
    replace kk := kk.trans k17287
    refine RW.op (by kernel_rfl) (OK.store hT (i := 0) (b := b17286) (off := 0) (n := 4) (vs := [.int .i64 x17259.Kind, .int .i64 x17259.Page, .int .u64 x17259.Epoch, .slice A17279 x17259.Data.length c17280]) (cs := [.int .i64 0, .int .i64 0, .int .u64 0, .slice none 0 0]) (e := 25) s (by kernel_rfl) rfl rfl (flat_ok rfl) (Nat.le_of_ble_eq_true rfl) ?_)
    rintro w17288 s k17289 -
    replace e16876 := e16876.st k17289
    replace e17283 := e17283.st k17289
    replace kk := kk.trans k17289
    refine RW.nil ?_
    refine WPK.seq ?_
    refine WPK.region ?_
    refine RW.seg hT 4 [.slice A17279 x17259.Data.length c17280] [] [.pointer (some ⟨b17286, 3, none⟩), .slice A17279 x17259.Data.length c17280, .int .i64 (x17259.Data.length : Int), .bool (decide ((x17259.Data.length : Int) > 3000))] [.cell ⟨b17286, 3, none⟩ (.slice A17279 x17259.Data.length c17280)] (by kernel_rfl) (s.cell (i := 0) (off := 3) rfl rfl) ?_
    refine RW.nil ?_
    by_cases h17290 : (x17259.Data.length : Int) > 3000
    · have hf := iteT h17290 hf
      refine WPK.condT (Eq.trans (b := .bool (decide ((x17259.Data.length : Int) > 3000))) (by kernel_rfl) (bo_t h17290)) ?_
      refine WPK.seq ?_
      refine WPK.region ?_
      refine RW.seg hT 1 [] [] [.bool false] [] (by kernel_rfl) (trivial) ?_
      refine RW.nil ?_
      refine WPK.ret (blockQ.ret (blockQ.ret (?_)))
      obtain rfl := someS hf
      refine Fin.of (rs := [.tmp 2]) hT [] (.bool false) [] rfl (by kernel_rfl) (trivial) ?_
      replace s := s.pick [] 1 rfl
      exact fun X h => vc rfl (h I17155 _ s kk)
    · have hf := iteF h17290 hf
      refine WPK.condF (Eq.trans (b := .bool (decide ((x17259.Data.length : Int) > 3000))) (by kernel_rfl) (bo_f h17290)) ?_
      refine WPK.skip ?_
      refine WPK.region ?_
      refine RW.seg hT 2 [] [] [.int .i64 (IntKind.i64.wrap (x17153 + 1)), .int .i64 (IntKind.i64.wrap (x17153 + 1))] [] (by kernel_rfl) (trivial) ?_
      refine RW.nil ?_
      subst hrec17224
      replace s := s.pick [] 1 rfl
      exact ⟨n17223, Nat.le_refl _, fun X h => kc (by kernel_rfl) rfl (h I17155 (IntKind.i64.wrap (x17153 + 1)) [(D17152.getD 0 undef), (D17152.getD 1 undef), (D17152.getD 2 undef), .pointer (some ⟨b17286, 0, none⟩), .bool (decide (x17153 < (p0.length : Int))), .pointer (some ⟨b17262, o17263 + x17153.toNat * 4, none⟩), .agg #[.int .i64 x17259.Kind, .int .i64 x17259.Page, .int .u64 x17259.Epoch, .slice A17279 x17259.Data.length c17280], .pointer (some ⟨b17286, 3, none⟩), .slice A17279 x17259.Data.length c17280, .int .i64 (x17259.Data.length : Int), .bool (decide ((x17259.Data.length : Int) > 3000)), .int .i64 (IntKind.i64.wrap (x17153 + 1))] _ hf s kk e16876)⟩
  · have hf := iteF h17226 hf
    refine WPK.condF (Eq.trans (b := .bool (decide (x17153 < (p0.length : Int)))) (by kernel_rfl) (bo_f h17226)) ?_
    refine WPK.exit (blockQ.same ?_)
    refine WPK.seq ?_
    refine WPK.region ?_
    refine RW.seg hT 1 [] [] [.bool true] [] (by kernel_rfl) (trivial) ?_
    refine RW.nil ?_
    refine WPK.ret (?_)
    obtain rfl := someS hf
    refine Fin.of (rs := [.tmp 2]) hT [] (.bool true) [] rfl (by kernel_rfl) (trivial) ?_
    exact fun X h => vc rfl (h I17155 _ s kk)
end Go.Proofs.YtjkghheeeiacmaaDoor
