/- PRINTED BY sy.py: each call computes what the plain function of its number tells. -/
import Derived.Test.YtgcielbnmlfjbaaDoorNW3
namespace Go.Proofs.YtgcielbnmlfjbaaDoor
open Go Go.SX Go.RowKit
set_option maxRecDepth 100000
set_option linter.unusedVariables false
attribute [local irreducible] WPK RW RD Ret SX.Fin SX.Any opK RoundBeg RoundEnd RangeEnd Rounds
theorem c7 {w0 w : World} {M I : Nat → Prop} {F : List It} (p0 : Int) (eg0 : Elems (Rp.int .u8) I w (some ⟨0, 0, none⟩) TAB0) (s : St w0 M I (F) w) {r : Bool} (hf : g7 p0 = some r) :
    Ret Tryd.prog 7 [.int .i64 p0] w fun v wz => ∀ X : Value → World → Prop, (∀ (I' : Nat → Prop) (w' : World), St w0 M I' (F) w' → Kp I w I' w' → X (.bool r) w') → X v wz := by
  have kk : Kp I w I w := Kp.refl
  unfold g7 at hf
  refine Ret.of Tryd.func7 rfl ?_
  refine WPK.seq ?_
  refine WPK.region ?_
  refine RW.seg hT 1 [] [] [.bool false] [] (by kernel_rfl) (trivial) ?_
  refine RW.nil ?_
  refine WPK.seq ?_
  refine WPK.seq ?_
  refine WPK.region ?_
  refine RW.seg hT 1 [] [] [.agg #[.int .i64 0, .slice none 0 0]] [] (by kernel_rfl) (trivial) ?_
  refine RW.op (by kernel_rfl) (OK.new hT (f := fun b => .pointer (some ⟨b, 0, none⟩)) (cs := [.int .i64 0, .slice none 0 0]) (e := 53) (c := .tt) s (by kernel_rfl) trivial ?_)
  rintro w68574 b68575 s k68576 -
  replace eg0 := eg0.st k68576
  replace kk := kk.trans k68576
  refine RW.op (by kernel_rfl) (OK.new hT (f := fun b => .slice (some ⟨b, 0, none⟩) 2 2) (cs := [.pointer none, .pointer (some ⟨b68575, 0, none⟩)]) (e := 25) (c := .tt) s (by kernel_rfl) trivial ?_)
  rintro w68577 b68578 s k68579 -
  replace eg0 := eg0.st k68579
  replace kk := kk.trans k68579
  refine RW.seg hT 2 [] [] [.int .i64 2, .int .i64 0] [] (by kernel_rfl) (trivial) ?_
  refine RW.nil ?_
  refine WPK.block ?_
  refine WPK.rounds 12 ?_
  refine Rounds.go ?_
  refine WPK.seq ?_
  refine WPK.region ?_
  refine RW.seg hT 1 [] [] [.bool true] [] (by kernel_rfl) (trivial) ?_
  refine RW.nil ?_
  refine WPK.seq ?_
  refine WPK.condT (by kernel_rfl) ?_
  refine WPK.skip ?_
  refine WPK.seq ?_
  refine WPK.block ?_
  refine WPK.seq ?_
  refine WPK.region ?_
  refine RW.seg hT 3 [.pointer none] [] [.pointer (some ⟨b68578, 0, none⟩), .pointer none, .pointer none] [.idx 0 2, .cell ⟨b68578, 0, none⟩ (.pointer none)] (by kernel_rfl) (⟨⟨by decide, by decide⟩, s.cell (i := 0) (off := 0) rfl rfl⟩) ?_
  refine RW.nil ?_
  refine WPK.seq ?_
  refine WPK.region ?_
  refine RW.seg hT 1 [] [] [.pointer none] [] (by kernel_rfl) (trivial) ?_
  refine RW.op (by kernel_rfl) (OK.inl (args := [.pointer none]) en12 (by kernel_rfl) ?_)
  intro R72296 hR72297
  refine Ret.of Tryd.func12 rfl ?_
  refine WPK.seq ?_
  refine WPK.region ?_
  refine RW.op (by kernel_rfl) (OK.new hT (f := fun b => .pointer (some ⟨b, 0, none⟩)) (cs := [.pointer none]) (e := 25) (c := .tt) s (by kernel_rfl) trivial ?_)
  rintro w72301 b72302 s k72303 -
  replace eg0 := eg0.st k72303
  replace kk := kk.trans k72303
  refine RW.seg hT 1 [] [] [.nilFunc] [] (by kernel_rfl) (trivial) ?_
  refine RW.nil ?_
  refine WPK.seq ?_
  refine WPK.region ?_
  refine RW.seg hT 2 [] [] [.func (.func 31) #[] #[.pointer (some ⟨b72302, 0, none⟩)], .func (.func 31) #[] #[.pointer (some ⟨b72302, 0, none⟩)]] [] (by kernel_rfl) (trivial) ?_
  refine RW.nil ?_
  refine WPK.ret (?_)
  refine Fin.of (rs := [.tmp 2]) hT [] (.func (.func 31) #[] #[.pointer (some ⟨b72302, 0, none⟩)]) [] rfl (by kernel_rfl) (trivial) ?_
  refine hR72297 _ _ ?_
  refine RW.op (by kernel_rfl) (OK.inl (args := [.func (.func 31) #[] #[.pointer (some ⟨b72302, 0, none⟩)], .int .i64 9]) en11 (by kernel_rfl) ?_)
  intro R72304 hR72305
  refine Ret.of Tryd.func11 rfl ?_
  refine WPK.seq ?_
  refine WPK.region ?_
  refine RW.op (by kernel_rfl) (OK.new hT (f := fun b => .pointer (some ⟨b, 0, none⟩)) (cs := [.int .i64 9]) (e := 3) (c := .tt) s (by kernel_rfl) trivial ?_)
  rintro w73104 b73105 s k73106 -
  replace eg0 := eg0.st k73106
  replace kk := kk.trans k73106
  refine RW.seg hT 2 [] [] [.slice none 0 0, .slice none 0 0] [] (by kernel_rfl) (trivial) ?_
  refine RW.nil ?_
  refine WPK.seq ?_
  refine WPK.region ?_
  refine RW.op (by kernel_rfl) (OK.new hT (f := fun b => .pointer (some ⟨b, 0, none⟩)) (cs := [.slice none 0 0]) (e := 22) (c := .tt) s (by kernel_rfl) trivial ?_)
  rintro w73107 b73108 s k73109 -
  replace eg0 := eg0.st k73109
  replace kk := kk.trans k73109
  refine RW.op (by kernel_rfl) (OK.new hT (f := fun b => .pointer (some ⟨b, 0, none⟩)) (cs := [.slice none 0 0]) (e := 22) (c := .tt) s (by kernel_rfl) trivial ?_)
  rintro w73110 b73111 s k73112 -
  replace eg0 := eg0.st k73112
  replace kk := kk.trans k73112
  refine RW.nil ?_
  refine WPK.seq ?_
  refine WPK.seq ?_
  refine WPK.region ?_
  refine RW.seg hT 2 [] [] [.func (.func 31) #[] #[.pointer (some ⟨b72302, 0, none⟩)], .bool false] [] (by kernel_rfl) (trivial) ?_
  refine RW.nil ?_
  refine WPK.condF (by kernel_rfl) ?_
  refine WPK.skip ?_
  refine WPK.seq ?_
  refine WPK.cut' (fun E ds wz => ∀ X : Kont, (∀ (I73512 : Nat → Prop) (x73495 : (List Int)) (x73503 : (List Int)) (d73493 : Nat) (D73494 : List Value) (A73496 : Option Addr) (c73498 : Nat) (cl73499 : List Value) (A73504 : Option Addr) (c73506 : Nat) (cl73507 : List Value) (w' : World), g7_j1 p0 x73495 x73503 = some r → St w0 M I73512 ((.blk b73111 (.cells #[.slice A73496 x73495.length c73498] 22 (0, 0))) :: (.blk b73108 (.cells #[.slice A73504 x73503.length c73506] 22 (0, 0))) :: (.blk b68578 (.cells #[.pointer none, .pointer (some ⟨b68575, 0, none⟩)] 25 (0, 0))) :: (.blk b68575 (.cells #[.int .i64 0, .slice none 0 0] 53 (0, 0))) :: (.sl (.slice A73496 x73495.length c73498) 3 1 x73495.length cl73499) :: (.sl (.slice A73504 x73503.length c73506) 3 1 x73503.length cl73507) :: (.blk d73493 (.deferred (some []))) :: F) w' → Kp I w I73512 w' → RepL (Rp.int .i64) I73512 w' cl73499 x73495 → RepL (Rp.int .i64) I73512 w' cl73507 x73503 → Elems (Rp.int .u8) I73512 w' (some ⟨0, 0, none⟩) TAB0 → X [(D73494.getD 0 undef), (D73494.getD 1 undef), (D73494.getD 2 undef), (D73494.getD 3 undef), .slice none 0 0, .slice none 0 0, .pointer (some ⟨b73108, 0, none⟩), .pointer (some ⟨b73111, 0, none⟩), (D73494.getD 4 undef), (D73494.getD 5 undef), (D73494.getD 6 undef), (D73494.getD 7 undef), (D73494.getD 8 undef), (D73494.getD 9 undef), (D73494.getD 10 undef), (D73494.getD 11 undef), (D73494.getD 12 undef), (D73494.getD 13 undef), (D73494.getD 14 undef), (D73494.getD 15 undef), (D73494.getD 16 undef), (D73494.getD 17 undef), (D73494.getD 18 undef), (D73494.getD 19 undef), (D73494.getD 20 undef), (D73494.getD 21 undef), (D73494.getD 22 undef), undef, undef] [mk d73493] w') → X E ds wz) ?_ ?_
  · intro X86526 hX86527
    refine fun _ _ _ hJ => hJ X86526 ?_
    intro I73512 x73495 x73503 d73493 D73494 A73496 c73498 cl73499 A73504 c73506 cl73507 w73511 hf s kk rp73501 rp73509 eg0
    refine hX86527 _ _ _ ?_
    unfold g7_j1 at hf
    refine WPK.seq ?_
    have rp73501S73513 := rp73501
    have rp73509S73513 := rp73509
    have eg0S73513 := eg0
    have kS73517 : Kp I73512 w73511 I73512 w73511 := Kp.refl
    refine WPK.draw (fun w' => ∃ I' : Nat → Prop, St w0 M I' ((.blk b73111 (.cells #[.slice A73496 x73495.length c73498] 22 (0, 0))) :: (.blk b73108 (.cells #[.slice A73504 x73503.length c73506] 22 (0, 0))) :: (.blk b68578 (.cells #[.pointer none, .pointer (some ⟨b68575, 0, none⟩)] 25 (0, 0))) :: (.blk b68575 (.cells #[.int .i64 0, .slice none 0 0] 53 (0, 0))) :: (.sl (.slice A73496 x73495.length c73498) 3 1 x73495.length cl73499) :: (.sl (.slice A73504 x73503.length c73506) 3 1 x73503.length cl73507) :: (.blk d73493 (.deferred (some []))) :: F) w' ∧ Kp I73512 w73511 I' w') 4 (by kernel_rfl) ?_
    intro w73514 hd73515
    have k73516 := Kp.dr s hd73515
    replace s := s.dr hd73515
    replace rp73501 := rp73501.st k73516
    replace rp73509 := rp73509.st k73516
    replace eg0 := eg0.st k73516
    replace kk := kk.trans k73516
    replace kS73517 := kS73517.trans k73516
    refine RD.seg hT (by kernel_rfl) [0, 1, 2, 3] [.slice A73504 x73503.length c73506, .slice A73496 x73495.length c73498] [] [.slice A73504 x73503.length c73506, .slice A73496 x73495.length c73498, .slice A73504 x73503.length c73506, .slice A73496 x73495.length c73498] [.cell ⟨b73108, 0, none⟩ (.slice A73504 x73503.length c73506), .cell ⟨b73111, 0, none⟩ (.slice A73496 x73495.length c73498)] (by kernel_rfl) (by rintro w' ⟨I', s, k⟩; have rp73501 := rp73501S73513.st k; have rp73509 := rp73509S73513.st k; have eg0 := eg0S73513.st k; exact ⟨s.cell (i := 1) (off := 0) rfl rfl, s.cell (i := 0) (off := 0) rfl rfl⟩) ⟨_, s.pick [0, 1, 2, 3, 4, 5, 6] 7 rfl, kS73517⟩ ?_
    refine RD.done (by kernel_rfl) ?_
    refine WPK.ret (?_)
    refine Fin.mark (i := 6) s rfl ?_
    intro w73518 s k73519
    replace rp73501 := rp73501.st k73519
    replace rp73509 := rp73509.st k73519
    replace eg0 := eg0.st k73519
    replace kk := kk.trans k73519
    refine Fin.of (rs := [.tmp 4, .tmp 5]) hT [] (.tuple #[.slice A73504 x73503.length c73506, .slice A73496 x73495.length c73498]) [] rfl (by kernel_rfl) (trivial) ?_
    refine hR72305 _ _ ?_
    refine RW.seg hT 5 [] [] [.tuple #[.slice A73504 x73503.length c73506, .slice A73496 x73495.length c73498], .slice A73504 x73503.length c73506, .slice A73496 x73495.length c73498, .slice A73504 x73503.length c73506, .slice A73496 x73495.length c73498] [] (by kernel_rfl) (trivial) ?_
    refine RW.nil ?_
    refine WPK.seq ?_
    refine WPK.cut' (fun E ds wz => ∀ X : Kont, (∀ (I74586 : Nat → Prop) (x74561 : Int) (x74562 : Int) (x74563 : Int) (x74564 : Bool) (x74565 : Bool) (x74566 : Bool) (x74567 : Bool) (x74568 : Bool) (x74569 : Bool) (x74570 : Bool) (x74571 : Bool) (x74572 : Bool) (x74573 : Bool) (x74574 : Bool) (x74575 : Bool) (x74576 : Bool) (x74577 : Bool) (x74578 : Bool) (x74579 : Bool) (x74580 : Bool) (x74581 : Bool) (x74582 : Bool) (x74583 : Bool) (x74584 : Bool) (D74560 : List Value) (w' : World), g7_j2 p0 x74561 x74562 x74563 x74564 x74565 x74566 x74567 x74568 x74569 x74570 x74571 x74572 x74573 x74574 x74575 x74576 x74577 x74578 x74579 x74580 x74581 x74582 x74583 x74584 = some r → St w0 M I74586 ((.blk b68578 (.cells #[.pointer none, .pointer (some ⟨b68575, 0, none⟩)] 25 (0, 0))) :: (.blk b68575 (.cells #[.int .i64 0, .slice none 0 0] 53 (0, 0))) :: (.sl (.slice A73496 x73495.length c73498) 3 1 x73495.length cl73499) :: (.sl (.slice A73504 x73503.length c73506) 3 1 x73503.length cl73507) :: F) w' → Kp I w I74586 w' → RepL (Rp.int .i64) I74586 w' cl73499 x73495 → RepL (Rp.int .i64) I74586 w' cl73507 x73503 → Elems (Rp.int .u8) I74586 w' (some ⟨0, 0, none⟩) TAB0 → X [.int .i64 p0, (D74560.getD 0 undef), .bool false, (D74560.getD 1 undef), .pointer none, .slice A73504 x73503.length c73506, (D74560.getD 2 undef), (D74560.getD 3 undef), (D74560.getD 4 undef), .slice (some ⟨b68578, 0, none⟩) 2 2, .int .i64 2, .int .i64 0, .bool true, .pointer (some ⟨b68578, 0, none⟩), .pointer none, .tuple #[.slice A73504 x73503.length c73506, .slice A73496 x73495.length c73498], (D74560.getD 5 undef), (D74560.getD 6 undef), .tuple #[.slice A73504 x73503.length c73506, .slice A73496 x73495.length c73498], .slice A73504 x73503.length c73506, .slice A73496 x73495.length c73498, (D74560.getD 7 undef), .int .i64 x74561, (D74560.getD 8 undef), .int .i64 x74562, .int .i64 x74563, .bool x74564, .bool x74565, (D74560.getD 9 undef), (D74560.getD 10 undef), (D74560.getD 11 undef), (D74560.getD 12 undef), .bool x74566, .bool x74567, (D74560.getD 13 undef), (D74560.getD 14 undef), (D74560.getD 15 undef), (D74560.getD 16 undef), .bool x74568, .bool x74569, (D74560.getD 17 undef), (D74560.getD 18 undef), (D74560.getD 19 undef), .bool x74570, .bool x74571, (D74560.getD 20 undef), (D74560.getD 21 undef), (D74560.getD 22 undef), (D74560.getD 23 undef), .bool x74572, .bool x74573, (D74560.getD 24 undef), (D74560.getD 25 undef), (D74560.getD 26 undef), (D74560.getD 27 undef), .bool x74574, .bool x74575, (D74560.getD 28 undef), (D74560.getD 29 undef), (D74560.getD 30 undef), (D74560.getD 31 undef), (D74560.getD 32 undef), .bool x74576, .bool x74577, (D74560.getD 33 undef), (D74560.getD 34 undef), (D74560.getD 35 undef), .bool x74578, .bool x74579, (D74560.getD 36 undef), (D74560.getD 37 undef), (D74560.getD 38 undef), .bool x74580, .bool x74581, (D74560.getD 39 undef), (D74560.getD 40 undef), (D74560.getD 41 undef), .bool x74582, .bool x74583, (D74560.getD 42 undef), (D74560.getD 43 undef), (D74560.getD 44 undef), .bool x74584, undef, undef, undef, (D74560.getD 45 undef), undef, undef, undef] [] w') → X E ds wz) ?_ ?_
    · intro X85484 hX85485
      refine fun _ _ _ hJ => hJ X85484 ?_
      intro I74586 x74561 x74562 x74563 x74564 x74565 x74566 x74567 x74568 x74569 x74570 x74571 x74572 x74573 x74574 x74575 x74576 x74577 x74578 x74579 x74580 x74581 x74582 x74583 x74584 D74560 w74585 hf s kk rp73501 rp73509 eg0
      refine hX85485 _ _ _ ?_
      unfold g7_j2 at hf
      by_cases h74587 : x74584 = true
      · have hf := iteT h74587 hf
        refine WPK.condT (Eq.trans (b := .bool x74584) (by kernel_rfl) (b_t h74587)) ?_
        refine WPK.seq ?_
        refine WPK.region ?_
        refine RW.seg hT 1 [] [] [.bool false] [] (by kernel_rfl) (trivial) ?_
        refine RW.nil ?_
        refine WPK.ret (blockQ.ret (blockQ.ret (?_)))
        obtain rfl := someS hf
        refine Fin.of (rs := [.tmp 2]) hT [] (.bool false) [] rfl (by kernel_rfl) (trivial) ?_
        replace s := s.pick [] 4 rfl
        exact fun X h => vc rfl (h I74586 _ s kk)
      · have hf := iteF h74587 hf
        refine WPK.condF (Eq.trans (b := .bool x74584) (by kernel_rfl) (b_f h74587)) ?_
        refine WPK.skip ?_
        refine WPK.region ?_
        refine RW.seg hT 2 [] [] [.int .i64 1, .int .i64 1] [] (by kernel_rfl) (trivial) ?_
        refine RW.nil ?_
        refine Rounds.go ?_
        refine WPK.seq ?_
        refine WPK.region ?_
        refine RW.seg hT 1 [] [] [.bool true] [] (by kernel_rfl) (trivial) ?_
        refine RW.nil ?_
        refine WPK.seq ?_
        refine WPK.condT (by kernel_rfl) ?_
        refine WPK.skip ?_
        refine WPK.seq ?_
        refine WPK.block ?_
        refine WPK.seq ?_
        refine WPK.region ?_
        refine RW.seg hT 3 [.pointer (some ⟨b68575, 0, none⟩)] [] [.pointer (some ⟨b68578, 1, none⟩), .pointer (some ⟨b68575, 0, none⟩), .pointer (some ⟨b68575, 0, none⟩)] [.idx 1 2, .cell ⟨b68578, 1, none⟩ (.pointer (some ⟨b68575, 0, none⟩))] (by kernel_rfl) (⟨⟨by decide, by decide⟩, s.cell (i := 0) (off := 1) rfl rfl⟩) ?_
        refine RW.nil ?_
        refine WPK.seq ?_
        refine WPK.region ?_
        refine RW.seg hT 1 [] [] [.pointer (some ⟨b68575, 0, none⟩)] [] (by kernel_rfl) (trivial) ?_
        refine RW.op (by kernel_rfl) (OK.inl (args := [.pointer (some ⟨b68575, 0, none⟩)]) en12 (by kernel_rfl) ?_)
        intro R79997 hR79998
        refine Ret.of Tryd.func12 rfl ?_
        refine WPK.seq ?_
        refine WPK.region ?_
        refine RW.op (by kernel_rfl) (OK.new hT (f := fun b => .pointer (some ⟨b, 0, none⟩)) (cs := [.pointer (some ⟨b68575, 0, none⟩)]) (e := 25) (c := .tt) s (by kernel_rfl) trivial ?_)
        rintro w80002 b80003 s k80004 -
        replace rp73501 := rp73501.st k80004
        replace rp73509 := rp73509.st k80004
        replace eg0 := eg0.st k80004
        replace kk := kk.trans k80004
        refine RW.seg hT 1 [] [] [.nilFunc] [] (by kernel_rfl) (trivial) ?_
        refine RW.nil ?_
        refine WPK.seq ?_
        refine WPK.region ?_
        refine RW.seg hT 2 [] [] [.func (.func 31) #[] #[.pointer (some ⟨b80003, 0, none⟩)], .func (.func 31) #[] #[.pointer (some ⟨b80003, 0, none⟩)]] [] (by kernel_rfl) (trivial) ?_
        refine RW.nil ?_
        refine WPK.ret (?_)
        refine Fin.of (rs := [.tmp 2]) hT [] (.func (.func 31) #[] #[.pointer (some ⟨b80003, 0, none⟩)]) [] rfl (by kernel_rfl) (trivial) ?_
        refine hR79998 _ _ ?_
        refine RW.op (by kernel_rfl) (OK.inl (args := [.func (.func 31) #[] #[.pointer (some ⟨b80003, 0, none⟩)], .int .i64 9]) en11 (by kernel_rfl) ?_)
        intro R80005 hR80006
        refine Ret.of Tryd.func11 rfl ?_
        refine WPK.seq ?_
        refine WPK.region ?_
        refine RW.op (by kernel_rfl) (OK.new hT (f := fun b => .pointer (some ⟨b, 0, none⟩)) (cs := [.int .i64 9]) (e := 3) (c := .tt) s (by kernel_rfl) trivial ?_)
        rintro w81613 b81614 s k81615 -
        replace rp73501 := rp73501.st k81615
        replace rp73509 := rp73509.st k81615
        replace eg0 := eg0.st k81615
        replace kk := kk.trans k81615
        refine RW.seg hT 2 [] [] [.slice none 0 0, .slice none 0 0] [] (by kernel_rfl) (trivial) ?_
        refine RW.nil ?_
        refine WPK.seq ?_
        refine WPK.region ?_
        refine RW.op (by kernel_rfl) (OK.new hT (f := fun b => .pointer (some ⟨b, 0, none⟩)) (cs := [.slice none 0 0]) (e := 22) (c := .tt) s (by kernel_rfl) trivial ?_)
        rintro w81616 b81617 s k81618 -
        replace rp73501 := rp73501.st k81618
        replace rp73509 := rp73509.st k81618
        replace eg0 := eg0.st k81618
        replace kk := kk.trans k81618
        refine RW.op (by kernel_rfl) (OK.new hT (f := fun b => .pointer (some ⟨b, 0, none⟩)) (cs := [.slice none 0 0]) (e := 22) (c := .tt) s (by kernel_rfl) trivial ?_)
        rintro w81619 b81620 s k81621 -
        replace rp73501 := rp73501.st k81621
        replace rp73509 := rp73509.st k81621
        replace eg0 := eg0.st k81621
        replace kk := kk.trans k81621
        refine RW.nil ?_
        refine WPK.seq ?_
        refine WPK.seq ?_
        refine WPK.region ?_
        refine RW.seg hT 2 [] [] [.func (.func 31) #[] #[.pointer (some ⟨b80003, 0, none⟩)], .bool false] [] (by kernel_rfl) (trivial) ?_
        refine RW.nil ?_
        refine WPK.condF (by kernel_rfl) ?_
        refine WPK.skip ?_
        refine WPK.seq ?_
        refine WPK.cut' (fun E ds wz => ∀ X : Kont, (∀ (I82429 : Nat → Prop) (x82404 : (List Int)) (x82412 : (List Int)) (x82420 : (List Int)) (d82402 : Nat) (D82403 : List Value) (A82405 : Option Addr) (c82407 : Nat) (cl82408 : List Value) (A82413 : Option Addr) (c82415 : Nat) (cl82416 : List Value) (A82421 : Option Addr) (c82423 : Nat) (cl82424 : List Value) (w' : World), g7_j3 p0 x82404 x82412 x82420 = some r → St w0 M I82429 ((.blk b68575 (.cells #[.int .i64 0, .slice A82405 x82404.length c82407] 53 (0, 0))) :: (.sl (.slice A82405 x82404.length c82407) 61 1 x82404.length cl82408) :: (.blk b81620 (.cells #[.slice A82413 x82412.length c82415] 22 (0, 0))) :: (.blk b81617 (.cells #[.slice A82421 x82420.length c82423] 22 (0, 0))) :: (.blk b68578 (.cells #[.pointer none, .pointer (some ⟨b68575, 0, none⟩)] 25 (0, 0))) :: (.sl (.slice A73496 x73495.length c73498) 3 1 x73495.length cl73499) :: (.sl (.slice A73504 x73503.length c73506) 3 1 x73503.length cl73507) :: (.sl (.slice A82413 x82412.length c82415) 3 1 x82412.length cl82416) :: (.sl (.slice A82421 x82420.length c82423) 3 1 x82420.length cl82424) :: (.blk d82402 (.deferred (some []))) :: F) w' → Kp I w I82429 w' → RepL (Rp.int .u64) I82429 w' cl82408 x82404 → RepL (Rp.int .i64) I82429 w' cl82416 x82412 → RepL (Rp.int .i64) I82429 w' cl82424 x82420 → RepL (Rp.int .i64) I82429 w' cl73499 x73495 → RepL (Rp.int .i64) I82429 w' cl73507 x73503 → Elems (Rp.int .u8) I82429 w' (some ⟨0, 0, none⟩) TAB0 → X [(D82403.getD 0 undef), (D82403.getD 1 undef), (D82403.getD 2 undef), (D82403.getD 3 undef), .slice none 0 0, .slice none 0 0, .pointer (some ⟨b81617, 0, none⟩), .pointer (some ⟨b81620, 0, none⟩), (D82403.getD 4 undef), (D82403.getD 5 undef), (D82403.getD 6 undef), (D82403.getD 7 undef), (D82403.getD 8 undef), (D82403.getD 9 undef), (D82403.getD 10 undef), (D82403.getD 11 undef), (D82403.getD 12 undef), (D82403.getD 13 undef), (D82403.getD 14 undef), (D82403.getD 15 undef), (D82403.getD 16 undef), (D82403.getD 17 undef), (D82403.getD 18 undef), (D82403.getD 19 undef), (D82403.getD 20 undef), (D82403.getD 21 undef), (D82403.getD 22 undef), undef, undef] [mk d82402] w') → X E ds wz) ?_ ?_
        · intro X84702 hX84703
          refine fun _ _ _ hJ => hJ X84702 ?_
          intro I82429 x82404 x82412 x82420 d82402 D82403 A82405 c82407 cl82408 A82413 c82415 cl82416 A82421 c82423 cl82424 w82428 hf s kk rp82410 rp82418 rp82426 rp73501 rp73509 eg0
          refine hX84703 _ _ _ ?_
          unfold g7_j3 at hf
          refine WPK.seq ?_
          have rp82410S82430 := rp82410
          have rp73501S82430 := rp73501
          have rp73509S82430 := rp73509
          have rp82418S82430 := rp82418
          have rp82426S82430 := rp82426
          have eg0S82430 := eg0
          have kS82434 : Kp I82429 w82428 I82429 w82428 := Kp.refl
          refine WPK.draw (fun w' => ∃ I' : Nat → Prop, St w0 M I' ((.blk b68575 (.cells #[.int .i64 0, .slice A82405 x82404.length c82407] 53 (0, 0))) :: (.sl (.slice A82405 x82404.length c82407) 61 1 x82404.length cl82408) :: (.blk b81620 (.cells #[.slice A82413 x82412.length c82415] 22 (0, 0))) :: (.blk b81617 (.cells #[.slice A82421 x82420.length c82423] 22 (0, 0))) :: (.blk b68578 (.cells #[.pointer none, .pointer (some ⟨b68575, 0, none⟩)] 25 (0, 0))) :: (.sl (.slice A73496 x73495.length c73498) 3 1 x73495.length cl73499) :: (.sl (.slice A73504 x73503.length c73506) 3 1 x73503.length cl73507) :: (.sl (.slice A82413 x82412.length c82415) 3 1 x82412.length cl82416) :: (.sl (.slice A82421 x82420.length c82423) 3 1 x82420.length cl82424) :: (.blk d82402 (.deferred (some []))) :: F) w' ∧ Kp I82429 w82428 I' w') 4 (by kernel_rfl) ?_
          intro w82431 hd82432
          have k82433 := Kp.dr s hd82432
          replace s := s.dr hd82432
          replace rp82410 := rp82410.st k82433
          replace rp73501 := rp73501.st k82433
          replace rp73509 := rp73509.st k82433
          replace rp82418 := rp82418.st k82433
          replace rp82426 := rp82426.st k82433
          replace eg0 := eg0.st k82433
          replace kk := kk.trans k82433
          replace kS82434 := kS82434.trans k82433
          refine RD.seg hT (by kernel_rfl) [0, 1, 2, 3] [.slice A82421 x82420.length c82423, .slice A82413 x82412.length c82415] [] [.slice A82421 x82420.length c82423, .slice A82413 x82412.length c82415, .slice A82421 x82420.length c82423, .slice A82413 x82412.length c82415] [.cell ⟨b81617, 0, none⟩ (.slice A82421 x82420.length c82423), .cell ⟨b81620, 0, none⟩ (.slice A82413 x82412.length c82415)] (by kernel_rfl) (by rintro w' ⟨I', s, k⟩; have rp82410 := rp82410S82430.st k; have rp73501 := rp73501S82430.st k; have rp73509 := rp73509S82430.st k; have rp82418 := rp82418S82430.st k; have rp82426 := rp82426S82430.st k; have eg0 := eg0S82430.st k; exact ⟨s.cell (i := 3) (off := 0) rfl rfl, s.cell (i := 2) (off := 0) rfl rfl⟩) ⟨_, s.pick [0, 1, 2, 3, 4, 5, 6, 7, 8, 9] 10 rfl, kS82434⟩ ?_
          refine RD.done (by kernel_rfl) ?_
          refine WPK.ret (?_)
          refine Fin.mark (i := 9) s rfl ?_
          intro w82435 s k82436
          replace rp82410 := rp82410.st k82436
          replace rp73501 := rp73501.st k82436
          replace rp73509 := rp73509.st k82436
          replace rp82418 := rp82418.st k82436
          replace rp82426 := rp82426.st k82436
          replace eg0 := eg0.st k82436
          replace kk := kk.trans k82436
          refine Fin.of (rs := [.tmp 4, .tmp 5]) hT [] (.tuple #[.slice A82421 x82420.length c82423, .slice A82413 x82412.length c82415]) [] rfl (by kernel_rfl) (trivial) ?_
          refine hR80006 _ _ ?_
          refine RW.seg hT 5 [] [] [.tuple #[.slice A82421 x82420.length c82423, .slice A82413 x82412.length c82415], .slice A82421 x82420.length c82423, .slice A82413 x82412.length c82415, .slice A82421 x82420.length c82423, .slice A82413 x82412.length c82415] [] (by kernel_rfl) (trivial) ?_
          refine RW.nil ?_
          refine WPK.seq ?_
          refine WPK.cut' (fun E ds wz => ∀ X : Kont, (∀ (I83546 : Nat → Prop) (x83512 : Int) (x83513 : Int) (x83514 : Int) (x83515 : Bool) (x83516 : Bool) (x83517 : Bool) (x83518 : Bool) (x83519 : Bool) (x83520 : Bool) (x83521 : Bool) (x83522 : Bool) (x83523 : Bool) (x83524 : Bool) (x83525 : Bool) (x83526 : Bool) (x83527 : Bool) (x83528 : Bool) (x83529 : Bool) (x83530 : Bool) (x83531 : Bool) (x83532 : Bool) (x83533 : Bool) (x83534 : Bool) (x83535 : Bool) (x83536 : Int) (x83537 : (List Int)) (D83511 : List Value) (A83538 : Option Addr) (n83539 : Nat) (c83540 : Nat) (cl83541 : List Value) (w' : World), g7_j4 x83512 x83513 x83514 x83515 x83516 x83517 x83518 x83519 x83520 x83521 x83522 x83523 x83524 x83525 x83526 x83527 x83528 x83529 x83530 x83531 x83532 x83533 x83534 x83535 x83536 x83537 = some r → St w0 M I83546 ((.blk b68575 (.cells #[.int .i64 x83536, .slice A83538 n83539 c83540] 53 (0, 0))) :: (.sl (.slice A83538 n83539 c83540) 61 1 n83539 cl83541) :: (.blk b68578 (.cells #[.pointer none, .pointer (some ⟨b68575, 0, none⟩)] 25 (0, 0))) :: (.sl (.slice A82413 x82412.length c82415) 3 1 x82412.length cl82416) :: (.sl (.slice A82421 x82420.length c82423) 3 1 x82420.length cl82424) :: F) w' → Kp I w I83546 w' → n83539 = x83537.length → RepL (Rp.int .u64) I83546 w' cl83541 x83537 → RepL (Rp.int .i64) I83546 w' cl82416 x82412 → RepL (Rp.int .i64) I83546 w' cl82424 x82420 → Elems (Rp.int .u8) I83546 w' (some ⟨0, 0, none⟩) TAB0 → X [.int .i64 p0, (D83511.getD 0 undef), .bool false, (D83511.getD 1 undef), .pointer (some ⟨b68575, 0, none⟩), .slice A82421 x82420.length c82423, (D83511.getD 2 undef), (D83511.getD 3 undef), (D83511.getD 4 undef), .slice (some ⟨b68578, 0, none⟩) 2 2, .int .i64 2, .int .i64 1, .bool true, .pointer (some ⟨b68578, 1, none⟩), .pointer (some ⟨b68575, 0, none⟩), .tuple #[.slice A82421 x82420.length c82423, .slice A82413 x82412.length c82415], (D83511.getD 5 undef), (D83511.getD 6 undef), .tuple #[.slice A82421 x82420.length c82423, .slice A82413 x82412.length c82415], .slice A82421 x82420.length c82423, .slice A82413 x82412.length c82415, (D83511.getD 7 undef), .int .i64 x83512, (D83511.getD 8 undef), .int .i64 x83513, .int .i64 x83514, .bool x83515, .bool x83516, (D83511.getD 9 undef), (D83511.getD 10 undef), (D83511.getD 11 undef), (D83511.getD 12 undef), .bool x83517, .bool x83518, (D83511.getD 13 undef), (D83511.getD 14 undef), (D83511.getD 15 undef), (D83511.getD 16 undef), .bool x83519, .bool x83520, (D83511.getD 17 undef), (D83511.getD 18 undef), (D83511.getD 19 undef), .bool x83521, .bool x83522, (D83511.getD 20 undef), (D83511.getD 21 undef), (D83511.getD 22 undef), (D83511.getD 23 undef), .bool x83523, .bool x83524, (D83511.getD 24 undef), (D83511.getD 25 undef), (D83511.getD 26 undef), (D83511.getD 27 undef), .bool x83525, .bool x83526, (D83511.getD 28 undef), (D83511.getD 29 undef), (D83511.getD 30 undef), (D83511.getD 31 undef), (D83511.getD 32 undef), .bool x83527, .bool x83528, (D83511.getD 33 undef), (D83511.getD 34 undef), (D83511.getD 35 undef), .bool x83529, .bool x83530, (D83511.getD 36 undef), (D83511.getD 37 undef), (D83511.getD 38 undef), .bool x83531, .bool x83532, (D83511.getD 39 undef), (D83511.getD 40 undef), (D83511.getD 41 undef), .bool x83533, .bool x83534, (D83511.getD 42 undef), (D83511.getD 43 undef), (D83511.getD 44 undef), .bool x83535, .int .i64 1, undef, undef, (D83511.getD 45 undef), undef, undef, undef] [] w') → X E ds wz) ?_ ?_
          · intro X83626 hX83627
            refine fun _ _ _ hJ => hJ X83626 ?_
            intro I83546 x83512 x83513 x83514 x83515 x83516 x83517 x83518 x83519 x83520 x83521 x83522 x83523 x83524 x83525 x83526 x83527 x83528 x83529 x83530 x83531 x83532 x83533 x83534 x83535 x83536 x83537 D83511 A83538 n83539 c83540 cl83541 w83545 hf s kk hn83542 rp83543 rp82418 rp82426 eg0
            refine hX83627 _ _ _ ?_
            unfold g7_j4 at hf
            by_cases h83547 : x83535 = true
            · have hf := iteT h83547 hf
              refine WPK.condT (Eq.trans (b := .bool x83535) (by kernel_rfl) (b_t h83547)) ?_
              refine WPK.seq ?_
              refine WPK.region ?_
              refine RW.seg hT 1 [] [] [.bool false] [] (by kernel_rfl) (trivial) ?_
              refine RW.nil ?_
              refine WPK.ret (blockQ.ret (blockQ.ret (?_)))
              obtain rfl := someS hf
              refine Fin.of (rs := [.tmp 2]) hT [] (.bool false) [] rfl (by kernel_rfl) (trivial) ?_
              replace s := s.pick [] 5 rfl
              exact fun X h => vc rfl (h I83546 _ s kk)
            · have hf := iteF h83547 hf
              refine WPK.condF (Eq.trans (b := .bool x83535) (by kernel_rfl) (b_f h83547)) ?_
              refine WPK.skip ?_
              refine WPK.region ?_
              refine RW.seg hT 2 [] [] [.int .i64 2, .int .i64 2] [] (by kernel_rfl) (trivial) ?_
              refine RW.nil ?_
              refine Rounds.go ?_
              refine WPK.seq ?_
              refine WPK.region ?_
              refine RW.seg hT 1 [] [] [.bool false] [] (by kernel_rfl) (trivial) ?_
              refine RW.nil ?_
              refine WPK.seq ?_
              refine WPK.condF (by kernel_rfl) ?_
              refine WPK.exit (blockQ.same ?_)
              refine WPK.seq ?_
              refine WPK.region ?_
              obtain ⟨x83587, hx83588, hf⟩ := bindS hf
              refine RW.op (by kernel_rfl) (OK.call' en8 (by kernel_rfl) (c8 (F := (.blk b68575 (.cells #[.int .i64 x83536, .slice A83538 n83539 c83540] 53 (0, 0))) :: (.sl (.slice A83538 n83539 c83540) 61 1 n83539 cl83541) :: (.blk b68578 (.cells #[.pointer none, .pointer (some ⟨b68575, 0, none⟩)] 25 (0, 0))) :: (.sl (.slice A82413 x82412.length c82415) 3 1 x82412.length cl82416) :: (.sl (.slice A82421 x82420.length c82423) 3 1 x82420.length cl82424) :: F) eg0 s hx83588) ?_)
              intro X83591 hX83592
              refine fun _ _ hJ => hJ X83591 ?_
              intro I83593 w83589 s k83590
              refine hX83592 _ _ ?_
              replace rp83543 := rp83543.st k83590
              replace rp82418 := rp82418.st k83590
              replace rp82426 := rp82426.st k83590
              replace eg0 := eg0.st k83590
              replace kk := kk.trans k83590
              by_cases h83594 : x83587 = true
              · have hf := iteT h83594 hf
                refine RW.seg hT 1 [] [(85, .bool true)] [.bool true] [.veq (.bool (x83587)) (.bool true)] (by kernel_rfl) (b_t h83594) ?_
                obtain ⟨x83595, hx83596, hf⟩ := bindS hf
                refine RW.op (by kernel_rfl) (OK.call' en10 (by kernel_rfl) (c10 (F := (.blk b68575 (.cells #[.int .i64 x83536, .slice A83538 n83539 c83540] 53 (0, 0))) :: (.sl (.slice A83538 n83539 c83540) 61 1 n83539 cl83541) :: (.blk b68578 (.cells #[.pointer none, .pointer (some ⟨b68575, 0, none⟩)] 25 (0, 0))) :: (.sl (.slice A82413 x82412.length c82415) 3 1 x82412.length cl82416) :: (.sl (.slice A82421 x82420.length c82423) 3 1 x82420.length cl82424) :: F) 8 [] none 0 nil_hc Elems.nil s hx83596) ?_)
                intro X83599 hX83600
                refine fun _ _ hJ => hJ X83599 ?_ ?_
                · intro I83601 w83597 hv s k83598
                  refine hX83600 _ _ ?_
                  replace hf := optN hv hf
                  replace rp83543 := rp83543.st k83598
                  replace rp82418 := rp82418.st k83598
                  replace rp82426 := rp82426.st k83598
                  replace eg0 := eg0.st k83598
                  replace kk := kk.trans k83598
                  obtain ⟨x83612, hx83613, hf⟩ := bindS hf
                  refine RW.op (by kernel_rfl) (OK.call' en18 (by kernel_rfl) (c18 (F := (.blk b68575 (.cells #[.int .i64 x83536, .slice A83538 n83539 c83540] 53 (0, 0))) :: (.sl (.slice A83538 n83539 c83540) 61 1 n83539 cl83541) :: (.blk b68578 (.cells #[.pointer none, .pointer (some ⟨b68575, 0, none⟩)] 25 (0, 0))) :: (.sl (.slice A82413 x82412.length c82415) 3 1 x82412.length cl82416) :: (.sl (.slice A82421 x82420.length c82423) 3 1 x82420.length cl82424) :: F) s hx83613) ?_)
                  intro X83616 hX83617
                  refine fun _ _ hJ => hJ X83616 ?_
                  intro I83618 w83614 s k83615
                  refine hX83617 _ _ ?_
                  replace rp83543 := rp83543.st k83615
                  replace rp82418 := rp82418.st k83615
                  replace rp82426 := rp82426.st k83615
                  replace eg0 := eg0.st k83615
                  replace kk := kk.trans k83615
                  refine RW.seg hT 3 [] [(88, .bool (decide (¬ (x83612 = true))))] [.bool (decide (¬ (x83612 = true))), .bool (decide (¬ (x83612 = true))), .bool (decide (¬ (x83612 = true)))] [.veq (.bool (!x83612)) (.bool (decide (¬ (x83612 = true))))] (by kernel_rfl) (not_b) ?_
                  refine RW.nil ?_
                  refine WPK.ret (?_)
                  obtain rfl := someS hf
                  refine Fin.of (rs := [.tmp 2]) hT [] (.bool (decide (¬ (x83612 = true)))) [] rfl (by kernel_rfl) (trivial) ?_
                  replace s := s.pick [] 5 rfl
                  exact fun X h => vc rfl (h I83618 _ s kk)
                · intro x83603 I83602 b83604 A83605 n83606 c83607 cl83608 w83597 hv s k83598 hn83609 rp83610
                  refine hX83600 _ _ ?_
                  replace hf := optS hv hf
                  replace rp83543 := rp83543.st k83598
                  replace rp82418 := rp82418.st k83598
                  replace rp82426 := rp82426.st k83598
                  replace eg0 := eg0.st k83598
                  replace kk := kk.trans k83598
                  obtain ⟨x83619, hx83620, hf⟩ := bindS hf
                  refine RW.op (by kernel_rfl) (OK.call' en18 (by kernel_rfl) (c18_1 (F := (.blk b68575 (.cells #[.int .i64 x83536, .slice A83538 n83539 c83540] 53 (0, 0))) :: (.sl (.slice A83538 n83539 c83540) 61 1 n83539 cl83541) :: (.blk b68578 (.cells #[.pointer none, .pointer (some ⟨b68575, 0, none⟩)] 25 (0, 0))) :: (.sl (.slice A82413 x82412.length c82415) 3 1 x82412.length cl82416) :: (.sl (.slice A82421 x82420.length c82423) 3 1 x82420.length cl82424) :: F) x83603 b83604 A83605 n83606 c83607 cl83608 hn83609 rp83610 s hx83620) ?_)
                  intro X83623 hX83624
                  refine fun _ _ hJ => hJ X83623 ?_
                  intro I83625 w83621 s k83622
                  refine hX83624 _ _ ?_
                  replace rp83610 := rp83610.st k83622
                  replace rp83543 := rp83543.st k83622
                  replace rp82418 := rp82418.st k83622
                  replace rp82426 := rp82426.st k83622
                  replace eg0 := eg0.st k83622
                  replace kk := kk.trans k83622
                  refine RW.seg hT 3 [] [(88, .bool (decide (¬ (x83619 = true))))] [.bool (decide (¬ (x83619 = true))), .bool (decide (¬ (x83619 = true))), .bool (decide (¬ (x83619 = true)))] [.veq (.bool (!x83619)) (.bool (decide (¬ (x83619 = true))))] (by kernel_rfl) (not_b) ?_
                  refine RW.nil ?_
                  refine WPK.ret (?_)
                  obtain rfl := someS hf
                  refine Fin.of (rs := [.tmp 2]) hT [] (.bool (decide (¬ (x83619 = true)))) [] rfl (by kernel_rfl) (trivial) ?_
                  replace s := s.pick [] 7 rfl
                  exact fun X h => vc rfl (h I83625 _ s kk)
              · have hf := iteF h83594 hf
                refine RW.seg hT 6 [] [(85, .bool false)] [.bool false, undef, undef, undef, .bool false, .bool false] [.veq (.bool (x83587)) (.bool false)] (by kernel_rfl) (b_f h83594) ?_
                refine RW.nil ?_
                refine WPK.ret (?_)
                obtain rfl := someS hf
                refine Fin.of (rs := [.tmp 2]) hT [] (.bool false) [] rfl (by kernel_rfl) (trivial) ?_
                replace s := s.pick [] 5 rfl
                exact fun X h => vc rfl (h I83593 _ s kk)
          · refine WPK.region ?_
            refine RW.seg hT 1 [] [] [.pointer (some ⟨b68575, 0, none⟩)] [] (by kernel_rfl) (trivial) ?_
            obtain ⟨x83628, hx83629, hf⟩ := bindS hf
            refine RW.op (by kernel_rfl) (OK.call' en17 (by kernel_rfl) (c17_1 (F := (.blk b81620 (.cells #[.slice A82413 x82412.length c82415] 22 (0, 0))) :: (.blk b81617 (.cells #[.slice A82421 x82420.length c82423] 22 (0, 0))) :: (.blk b68578 (.cells #[.pointer none, .pointer (some ⟨b68575, 0, none⟩)] 25 (0, 0))) :: (.sl (.slice A73496 x73495.length c73498) 3 1 x73495.length cl73499) :: (.sl (.slice A73504 x73503.length c73506) 3 1 x73503.length cl73507) :: (.sl (.slice A82413 x82412.length c82415) 3 1 x82412.length cl82416) :: (.sl (.slice A82421 x82420.length c82423) 3 1 x82420.length cl82424) :: F) (T_extent_Set.mk 0 x82404) b68575 A82405 x82404.length c82407 cl82408 rfl rp82410 s hx83629) ?_)
            intro X83632 hX83633
            refine fun _ _ hJ => hJ X83632 ?_
            intro I83634 w83630 s k83631
            refine hX83633 _ _ ?_
            replace rp82410 := rp82410.st k83631
            replace rp73501 := rp73501.st k83631
            replace rp73509 := rp73509.st k83631
            replace rp82418 := rp82418.st k83631
            replace rp82426 := rp82426.st k83631
            replace eg0 := eg0.st k83631
            replace kk := kk.trans k83631
            refine RW.seg hT 1 [] [] [.pointer (some ⟨b68575, 0, none⟩)] [] (by kernel_rfl) (trivial) ?_
            obtain ⟨x83635, hx83636, hf⟩ := bindS hf
            refine RW.op (by kernel_rfl) (OK.call' en14 (by kernel_rfl) (c14_1 (F := (.blk b81620 (.cells #[.slice A82413 x82412.length c82415] 22 (0, 0))) :: (.blk b81617 (.cells #[.slice A82421 x82420.length c82423] 22 (0, 0))) :: (.blk b68578 (.cells #[.pointer none, .pointer (some ⟨b68575, 0, none⟩)] 25 (0, 0))) :: (.sl (.slice A73496 x73495.length c73498) 3 1 x73495.length cl73499) :: (.sl (.slice A73504 x73503.length c73506) 3 1 x73503.length cl73507) :: (.sl (.slice A82413 x82412.length c82415) 3 1 x82412.length cl82416) :: (.sl (.slice A82421 x82420.length c82423) 3 1 x82420.length cl82424) :: F) (T_extent_Set.mk 0 x82404) b68575 A82405 x82404.length c82407 cl82408 rfl rp82410 s hx83636) ?_)
            intro X83639 hX83640
            refine fun _ _ hJ => hJ X83639 ?_
            intro I83641 w83637 s k83638
            refine hX83640 _ _ ?_
            replace rp82410 := rp82410.st k83638
            replace rp73501 := rp73501.st k83638
            replace rp73509 := rp73509.st k83638
            replace rp82418 := rp82418.st k83638
            replace rp82426 := rp82426.st k83638
            replace eg0 := eg0.st k83638
            replace kk := kk.trans k83638
            refine RW.seg hT 2 [] [(26, .bool (decide ((IntKind.i64.wrap (x83628 + x83635)) ≠ 0)))] [.int .i64 (IntKind.i64.wrap (x83628 + x83635)), .bool (decide ((IntKind.i64.wrap (x83628 + x83635)) ≠ 0))] [.veq (.bool ((IntKind.i64.wrap (x83628 + x83635)) != 0)) (.bool (decide ((IntKind.i64.wrap (x83628 + x83635)) ≠ 0)))] (by kernel_rfl) (ne_v) ?_
            by_cases h83642 : (IntKind.i64.wrap (x83628 + x83635)) ≠ 0
            · have hf := iteT h83642 hf
              refine RW.seg hT 56 [] [(27, .bool true)] [.bool true, undef, undef, undef, undef, .bool true, .bool true, undef, undef, undef, undef, .bool true, .bool true, undef, undef, undef, .bool true, .bool true, undef, undef, undef, undef, .bool true, .bool true, undef, undef, undef, undef, .bool true, .bool true, undef, undef, undef, undef, undef, .bool true, .bool true, undef, undef, undef, .bool true, .bool true, undef, undef, undef, .bool true, .bool true, undef, undef, undef, .bool true, .bool true, undef, undef, undef, .bool true] [.veq (.bool (decide ((IntKind.i64.wrap (x83628 + x83635)) ≠ 0))) (.bool true)] (by kernel_rfl) (bo_t h83642) ?_
              refine RW.nil ?_
              replace s := s.pick [0, 1, 4, 7, 8] 9 rfl
              exact fun X h => kc (by kernel_rfl) rfl (h I83641 x83628 x83635 (IntKind.i64.wrap (x83628 + x83635)) (decide ((IntKind.i64.wrap (x83628 + x83635)) ≠ 0)) true true true true true true true true true true true true true true true true true true true true 0 x82404 [(D74560.getD 0 undef), (D74560.getD 1 undef), .slice A82413 x82412.length c82415, (D74560.getD 3 undef), (D74560.getD 4 undef), .pointer (some ⟨b68575, 0, none⟩), .func (.func 31) #[] #[.pointer (some ⟨b80003, 0, none⟩)], .pointer (some ⟨b68575, 0, none⟩), .pointer (some ⟨b68575, 0, none⟩), undef, undef, undef, undef, undef, undef, undef, undef, undef, undef, undef, undef, undef, undef, undef, undef, undef, undef, undef, undef, undef, undef, undef, undef, undef, undef, undef, undef, undef, undef, undef, undef, undef, undef, undef, undef, (D74560.getD 45 undef)] A82405 x82404.length c82407 cl82408 _ hf s kk rfl rp82410 rp82418 rp82426 eg0)
            · have hf := iteF h83642 hf
              refine RW.seg hT 3 [] [(27, .bool false)] [.bool false, .pointer (some ⟨b68575, 0, none⟩), .int .i64 p0] [.veq (.bool (decide ((IntKind.i64.wrap (x83628 + x83635)) ≠ 0))) (.bool false)] (by kernel_rfl) (bo_f h83642) ?_
              obtain ⟨x83643, hx83644, hf⟩ := bindS hf
              refine RW.op (by kernel_rfl) (OK.call' en22 (by kernel_rfl) (c22_1 (F := (.blk b81620 (.cells #[.slice A82413 x82412.length c82415] 22 (0, 0))) :: (.blk b81617 (.cells #[.slice A82421 x82420.length c82423] 22 (0, 0))) :: (.blk b68578 (.cells #[.pointer none, .pointer (some ⟨b68575, 0, none⟩)] 25 (0, 0))) :: (.sl (.slice A73496 x73495.length c73498) 3 1 x73495.length cl73499) :: (.sl (.slice A73504 x73503.length c73506) 3 1 x73503.length cl73507) :: (.sl (.slice A82413 x82412.length c82415) 3 1 x82412.length cl82416) :: (.sl (.slice A82421 x82420.length c82423) 3 1 x82420.length cl82424) :: F) (T_extent_Set.mk 0 x82404) p0 b68575 A82405 x82404.length c82407 cl82408 rfl rp82410 s hx83644) ?_)
              intro X83647 hX83648
              refine fun _ _ hJ => hJ X83647 ?_
              intro I83649 A83650 n83651 c83652 cl83653 w83645 s k83646 hn83654 rp83655
              refine hX83648 _ _ ?_
              replace rp82410 := rp82410.st k83646
              replace rp73501 := rp73501.st k83646
              replace rp73509 := rp73509.st k83646
              replace rp82418 := rp82418.st k83646
              replace rp82426 := rp82426.st k83646
              replace eg0 := eg0.st k83646
              replace kk := kk.trans k83646
              refine RW.seg hT 2 [] [(31, .bool (decide (x83643.1 ≠ 2)))] [.bool (decide (x83643.1 ≠ 2)), .bool (decide (x83643.1 ≠ 2))] [.veq (.bool (x83643.1 != 2)) (.bool (decide (x83643.1 ≠ 2)))] (by kernel_rfl) (ne_v) ?_
              by_cases h83657 : x83643.1 ≠ 2
              · have hf := iteT h83657 hf
                refine RW.seg hT 50 [] [(33, .bool true)] [.bool true, undef, undef, undef, undef, .bool true, .bool true, undef, undef, undef, .bool true, .bool true, undef, undef, undef, undef, .bool true, .bool true, undef, undef, undef, undef, .bool true, .bool true, undef, undef, undef, undef, undef, .bool true, .bool true, undef, undef, undef, .bool true, .bool true, undef, undef, undef, .bool true, .bool true, undef, undef, undef, .bool true, .bool true, undef, undef, undef, .bool true] [.veq (.bool (decide (x83643.1 ≠ 2))) (.bool true)] (by kernel_rfl) (bo_t h83657) ?_
                refine RW.nil ?_
                replace s := s.pick [0, 1, 4, 7, 8] 9 rfl
                exact fun X h => kc (by kernel_rfl) rfl (h I83649 x83628 x83635 (IntKind.i64.wrap (x83628 + x83635)) (decide ((IntKind.i64.wrap (x83628 + x83635)) ≠ 0)) false (decide (x83643.1 ≠ 2)) true true true true true true true true true true true true true true true true true true x83643.2.n x83643.2.w [(D74560.getD 0 undef), (D74560.getD 1 undef), .slice A82413 x82412.length c82415, (D74560.getD 3 undef), (D74560.getD 4 undef), .pointer (some ⟨b68575, 0, none⟩), .func (.func 31) #[] #[.pointer (some ⟨b80003, 0, none⟩)], .pointer (some ⟨b68575, 0, none⟩), .pointer (some ⟨b68575, 0, none⟩), .pointer (some ⟨b68575, 0, none⟩), .int .i64 p0, .int .i64 x83643.1, .bool (decide (x83643.1 ≠ 2)), undef, undef, undef, undef, undef, undef, undef, undef, undef, undef, undef, undef, undef, undef, undef, undef, undef, undef, undef, undef, undef, undef, undef, undef, undef, undef, undef, undef, undef, undef, undef, undef, (D74560.getD 45 undef)] A83650 n83651 c83652 cl83653 _ hf s kk hn83654 rp83655 rp82418 rp82426 eg0)
              · have hf := iteF h83657 hf
                refine RW.seg hT 3 [] [(33, .bool false)] [.bool false, .pointer (some ⟨b68575, 0, none⟩), .int .i64 p0] [.veq (.bool (decide (x83643.1 ≠ 2))) (.bool false)] (by kernel_rfl) (bo_f h83657) ?_
                obtain ⟨x83658, hx83659, hf⟩ := bindS hf
                refine RW.op (by kernel_rfl) (OK.call' en23 (by kernel_rfl) (c23_1 (F := (.blk b81620 (.cells #[.slice A82413 x82412.length c82415] 22 (0, 0))) :: (.blk b81617 (.cells #[.slice A82421 x82420.length c82423] 22 (0, 0))) :: (.blk b68578 (.cells #[.pointer none, .pointer (some ⟨b68575, 0, none⟩)] 25 (0, 0))) :: (.sl (.slice A73496 x73495.length c73498) 3 1 x73495.length cl73499) :: (.sl (.slice A73504 x73503.length c73506) 3 1 x73503.length cl73507) :: (.sl (.slice A82413 x82412.length c82415) 3 1 x82412.length cl82416) :: (.sl (.slice A82421 x82420.length c82423) 3 1 x82420.length cl82424) :: F) x83643.2 p0 b68575 A83650 n83651 c83652 cl83653 hn83654 rp83655 s hx83659) ?_)
                intro X83662 hX83663
                refine fun _ _ hJ => hJ X83662 ?_
                intro I83664 A83665 n83666 c83667 cl83668 w83660 s k83661 hn83669 rp83670
                refine hX83663 _ _ ?_
                replace rp83655 := rp83655.st k83661
                replace rp73501 := rp73501.st k83661
                replace rp73509 := rp73509.st k83661
                replace rp82418 := rp82418.st k83661
                replace rp82426 := rp82426.st k83661
                replace eg0 := eg0.st k83661
                replace kk := kk.trans k83661
                refine RW.seg hT 2 [] [(37, .bool (decide (x83658.1 ≠ 2)))] [.bool (decide (x83658.1 ≠ 2)), .bool (decide (x83658.1 ≠ 2))] [.veq (.bool (x83658.1 != 2)) (.bool (decide (x83658.1 ≠ 2)))] (by kernel_rfl) (ne_v) ?_
                by_cases h83672 : x83658.1 ≠ 2
                · have hf := iteT h83672 hf
                  refine RW.seg hT 44 [] [(39, .bool true)] [.bool true, undef, undef, undef, .bool true, .bool true, undef, undef, undef, undef, .bool true, .bool true, undef, undef, undef, undef, .bool true, .bool true, undef, undef, undef, undef, undef, .bool true, .bool true, undef, undef, undef, .bool true, .bool true, undef, undef, undef, .bool true, .bool true, undef, undef, undef, .bool true, .bool true, undef, undef, undef, .bool true] [.veq (.bool (decide (x83658.1 ≠ 2))) (.bool true)] (by kernel_rfl) (bo_t h83672) ?_
                  refine RW.nil ?_
                  replace s := s.pick [0, 1, 4, 7, 8] 9 rfl
                  exact fun X h => kc (by kernel_rfl) rfl (h I83664 x83628 x83635 (IntKind.i64.wrap (x83628 + x83635)) (decide ((IntKind.i64.wrap (x83628 + x83635)) ≠ 0)) false (decide (x83643.1 ≠ 2)) false (decide (x83658.1 ≠ 2)) true true true true true true true true true true true true true true true true x83658.2.n x83658.2.w [(D74560.getD 0 undef), (D74560.getD 1 undef), .slice A82413 x82412.length c82415, (D74560.getD 3 undef), (D74560.getD 4 undef), .pointer (some ⟨b68575, 0, none⟩), .func (.func 31) #[] #[.pointer (some ⟨b80003, 0, none⟩)], .pointer (some ⟨b68575, 0, none⟩), .pointer (some ⟨b68575, 0, none⟩), .pointer (some ⟨b68575, 0, none⟩), .int .i64 p0, .int .i64 x83643.1, .bool (decide (x83643.1 ≠ 2)), .pointer (some ⟨b68575, 0, none⟩), .int .i64 p0, .int .i64 x83658.1, .bool (decide (x83658.1 ≠ 2)), undef, undef, undef, undef, undef, undef, undef, undef, undef, undef, undef, undef, undef, undef, undef, undef, undef, undef, undef, undef, undef, undef, undef, undef, undef, undef, undef, undef, (D74560.getD 45 undef)] A83665 n83666 c83667 cl83668 _ hf s kk hn83669 rp83670 rp82418 rp82426 eg0)
                · have hf := iteF h83672 hf
                  refine RW.seg hT 3 [] [(39, .bool false)] [.bool false, .pointer (some ⟨b68575, 0, none⟩), .int .i64 p0] [.veq (.bool (decide (x83658.1 ≠ 2))) (.bool false)] (by kernel_rfl) (bo_f h83672) ?_
                  obtain ⟨x83673, hx83674, hf⟩ := bindS hf
                  refine RW.op (by kernel_rfl) (OK.call' en13 (by kernel_rfl) (c13_1 (F := (.blk b81620 (.cells #[.slice A82413 x82412.length c82415] 22 (0, 0))) :: (.blk b81617 (.cells #[.slice A82421 x82420.length c82423] 22 (0, 0))) :: (.blk b68578 (.cells #[.pointer none, .pointer (some ⟨b68575, 0, none⟩)] 25 (0, 0))) :: (.sl (.slice A73496 x73495.length c73498) 3 1 x73495.length cl73499) :: (.sl (.slice A73504 x73503.length c73506) 3 1 x73503.length cl73507) :: (.sl (.slice A82413 x82412.length c82415) 3 1 x82412.length cl82416) :: (.sl (.slice A82421 x82420.length c82423) 3 1 x82420.length cl82424) :: F) x83658.2 p0 b68575 A83665 n83666 c83667 cl83668 hn83669 rp83670 s hx83674) ?_)
                  intro X83677 hX83678
                  refine fun _ _ hJ => hJ X83677 ?_
                  intro I83679 w83675 s k83676
                  refine hX83678 _ _ ?_
                  replace rp83670 := rp83670.st k83676
                  replace rp73501 := rp73501.st k83676
                  replace rp73509 := rp73509.st k83676
                  replace rp82418 := rp82418.st k83676
                  replace rp82426 := rp82426.st k83676
                  replace eg0 := eg0.st k83676
                  replace kk := kk.trans k83676
                  refine RW.seg hT 1 [] [] [.bool x83673] [] (by kernel_rfl) (trivial) ?_
                  by_cases h83680 : x83673 = true
                  · have hf := iteT h83680 hf
                    refine RW.seg hT 39 [] [(44, .bool true)] [.bool true, undef, undef, undef, undef, .bool true, .bool true, undef, undef, undef, undef, .bool true, .bool true, undef, undef, undef, undef, undef, .bool true, .bool true, undef, undef, undef, .bool true, .bool true, undef, undef, undef, .bool true, .bool true, undef, undef, undef, .bool true, .bool true, undef, undef, undef, .bool true] [.veq (.bool (x83673)) (.bool true)] (by kernel_rfl) (b_t h83680) ?_
                    refine RW.nil ?_
                    replace s := s.pick [0, 1, 4, 7, 8] 9 rfl
                    exact fun X h => kc (by kernel_rfl) rfl (h I83679 x83628 x83635 (IntKind.i64.wrap (x83628 + x83635)) (decide ((IntKind.i64.wrap (x83628 + x83635)) ≠ 0)) false (decide (x83643.1 ≠ 2)) false (decide (x83658.1 ≠ 2)) false x83673 true true true true true true true true true true true true true true x83658.2.n x83658.2.w [(D74560.getD 0 undef), (D74560.getD 1 undef), .slice A82413 x82412.length c82415, (D74560.getD 3 undef), (D74560.getD 4 undef), .pointer (some ⟨b68575, 0, none⟩), .func (.func 31) #[] #[.pointer (some ⟨b80003, 0, none⟩)], .pointer (some ⟨b68575, 0, none⟩), .pointer (some ⟨b68575, 0, none⟩), .pointer (some ⟨b68575, 0, none⟩), .int .i64 p0, .int .i64 x83643.1, .bool (decide (x83643.1 ≠ 2)), .pointer (some ⟨b68575, 0, none⟩), .int .i64 p0, .int .i64 x83658.1, .bool (decide (x83658.1 ≠ 2)), .pointer (some ⟨b68575, 0, none⟩), .int .i64 p0, .bool x83673, undef, undef, undef, undef, undef, undef, undef, undef, undef, undef, undef, undef, undef, undef, undef, undef, undef, undef, undef, undef, undef, undef, undef, undef, undef, (D74560.getD 45 undef)] A83665 n83666 c83667 cl83668 _ hf s kk hn83669 rp83670 rp82418 rp82426 eg0)
                  · have hf := iteF h83680 hf
                    refine RW.seg hT 3 [] [(44, .bool false)] [.bool false, .pointer (some ⟨b68575, 0, none⟩), .int .i64 p0] [.veq (.bool (x83673)) (.bool false)] (by kernel_rfl) (b_f h83680) ?_
                    obtain ⟨x83681, hx83682, hf⟩ := bindS hf
                    refine RW.op (by kernel_rfl) (OK.call' en27 (by kernel_rfl) (c27_1 (F := (.blk b81620 (.cells #[.slice A82413 x82412.length c82415] 22 (0, 0))) :: (.blk b81617 (.cells #[.slice A82421 x82420.length c82423] 22 (0, 0))) :: (.blk b68578 (.cells #[.pointer none, .pointer (some ⟨b68575, 0, none⟩)] 25 (0, 0))) :: (.sl (.slice A73496 x73495.length c73498) 3 1 x73495.length cl73499) :: (.sl (.slice A73504 x73503.length c73506) 3 1 x73503.length cl73507) :: (.sl (.slice A82413 x82412.length c82415) 3 1 x82412.length cl82416) :: (.sl (.slice A82421 x82420.length c82423) 3 1 x82420.length cl82424) :: F) x83658.2 p0 b68575 A83665 n83666 c83667 cl83668 hn83669 rp83670 eg0 s hx83682) ?_)
                    intro X83685 hX83686
                    refine fun _ _ hJ => hJ X83685 ?_
                    intro I83687 w83683 s k83684
                    refine hX83686 _ _ ?_
                    replace rp83670 := rp83670.st k83684
                    replace rp73501 := rp73501.st k83684
                    replace rp73509 := rp73509.st k83684
                    replace rp82418 := rp82418.st k83684
                    replace rp82426 := rp82426.st k83684
                    replace eg0 := eg0.st k83684
                    replace kk := kk.trans k83684
                    refine RW.seg hT 2 [] [(48, .bool (decide (x83681 ≠ (-1))))] [.bool (decide (x83681 ≠ (-1))), .bool (decide (x83681 ≠ (-1)))] [.veq (.bool (x83681 != (-1))) (.bool (decide (x83681 ≠ (-1))))] (by kernel_rfl) (ne_v) ?_
                    by_cases h83688 : x83681 ≠ (-1)
                    · have hf := iteT h83688 hf
                      refine RW.seg hT 33 [] [(50, .bool true)] [.bool true, undef, undef, undef, undef, .bool true, .bool true, undef, undef, undef, undef, undef, .bool true, .bool true, undef, undef, undef, .bool true, .bool true, undef, undef, undef, .bool true, .bool true, undef, undef, undef, .bool true, .bool true, undef, undef, undef, .bool true] [.veq (.bool (decide (x83681 ≠ (-1)))) (.bool true)] (by kernel_rfl) (bo_t h83688) ?_
                      refine RW.nil ?_
                      replace s := s.pick [0, 1, 4, 7, 8] 9 rfl
                      exact fun X h => kc (by kernel_rfl) rfl (h I83687 x83628 x83635 (IntKind.i64.wrap (x83628 + x83635)) (decide ((IntKind.i64.wrap (x83628 + x83635)) ≠ 0)) false (decide (x83643.1 ≠ 2)) false (decide (x83658.1 ≠ 2)) false x83673 false (decide (x83681 ≠ (-1))) true true true true true true true true true true true true x83658.2.n x83658.2.w [(D74560.getD 0 undef), (D74560.getD 1 undef), .slice A82413 x82412.length c82415, (D74560.getD 3 undef), (D74560.getD 4 undef), .pointer (some ⟨b68575, 0, none⟩), .func (.func 31) #[] #[.pointer (some ⟨b80003, 0, none⟩)], .pointer (some ⟨b68575, 0, none⟩), .pointer (some ⟨b68575, 0, none⟩), .pointer (some ⟨b68575, 0, none⟩), .int .i64 p0, .int .i64 x83643.1, .bool (decide (x83643.1 ≠ 2)), .pointer (some ⟨b68575, 0, none⟩), .int .i64 p0, .int .i64 x83658.1, .bool (decide (x83658.1 ≠ 2)), .pointer (some ⟨b68575, 0, none⟩), .int .i64 p0, .bool x83673, .pointer (some ⟨b68575, 0, none⟩), .int .i64 p0, .int .i64 x83681, .bool (decide (x83681 ≠ (-1))), undef, undef, undef, undef, undef, undef, undef, undef, undef, undef, undef, undef, undef, undef, undef, undef, undef, undef, undef, undef, undef, (D74560.getD 45 undef)] A83665 n83666 c83667 cl83668 _ hf s kk hn83669 rp83670 rp82418 rp82426 eg0)
                    · have hf := iteF h83688 hf
                      refine RW.seg hT 3 [] [(50, .bool false)] [.bool false, .pointer (some ⟨b68575, 0, none⟩), .int .i64 p0] [.veq (.bool (decide (x83681 ≠ (-1)))) (.bool false)] (by kernel_rfl) (bo_f h83688) ?_
                      obtain ⟨x83689, hx83690, hf⟩ := bindS hf
                      refine RW.op (by kernel_rfl) (OK.call' en15 (by kernel_rfl) (c15_1 (F := (.blk b81620 (.cells #[.slice A82413 x82412.length c82415] 22 (0, 0))) :: (.blk b81617 (.cells #[.slice A82421 x82420.length c82423] 22 (0, 0))) :: (.blk b68578 (.cells #[.pointer none, .pointer (some ⟨b68575, 0, none⟩)] 25 (0, 0))) :: (.sl (.slice A73496 x73495.length c73498) 3 1 x73495.length cl73499) :: (.sl (.slice A73504 x73503.length c73506) 3 1 x73503.length cl73507) :: (.sl (.slice A82413 x82412.length c82415) 3 1 x82412.length cl82416) :: (.sl (.slice A82421 x82420.length c82423) 3 1 x82420.length cl82424) :: F) x83658.2 p0 b68575 A83665 n83666 c83667 cl83668 hn83669 rp83670 eg0 s hx83690) ?_)
                      intro X83693 hX83694
                      refine fun _ _ hJ => hJ X83693 ?_
                      intro I83695 w83691 s k83692
                      refine hX83694 _ _ ?_
                      replace rp83670 := rp83670.st k83692
                      replace rp73501 := rp73501.st k83692
                      replace rp73509 := rp73509.st k83692
                      replace rp82418 := rp82418.st k83692
                      replace rp82426 := rp82426.st k83692
                      replace eg0 := eg0.st k83692
                      replace kk := kk.trans k83692
                      refine RW.seg hT 2 [] [(54, .bool (decide (x83689 ≠ (-1))))] [.bool (decide (x83689 ≠ (-1))), .bool (decide (x83689 ≠ (-1)))] [.veq (.bool (x83689 != (-1))) (.bool (decide (x83689 ≠ (-1))))] (by kernel_rfl) (ne_v) ?_
                      by_cases h83696 : x83689 ≠ (-1)
                      · have hf := iteT h83696 hf
                        refine RW.seg hT 27 [] [(56, .bool true)] [.bool true, undef, undef, undef, undef, undef, .bool true, .bool true, undef, undef, undef, .bool true, .bool true, undef, undef, undef, .bool true, .bool true, undef, undef, undef, .bool true, .bool true, undef, undef, undef, .bool true] [.veq (.bool (decide (x83689 ≠ (-1)))) (.bool true)] (by kernel_rfl) (bo_t h83696) ?_
                        refine RW.nil ?_
                        replace s := s.pick [0, 1, 4, 7, 8] 9 rfl
                        exact fun X h => kc (by kernel_rfl) rfl (h I83695 x83628 x83635 (IntKind.i64.wrap (x83628 + x83635)) (decide ((IntKind.i64.wrap (x83628 + x83635)) ≠ 0)) false (decide (x83643.1 ≠ 2)) false (decide (x83658.1 ≠ 2)) false x83673 false (decide (x83681 ≠ (-1))) false (decide (x83689 ≠ (-1))) true true true true true true true true true true x83658.2.n x83658.2.w [(D74560.getD 0 undef), (D74560.getD 1 undef), .slice A82413 x82412.length c82415, (D74560.getD 3 undef), (D74560.getD 4 undef), .pointer (some ⟨b68575, 0, none⟩), .func (.func 31) #[] #[.pointer (some ⟨b80003, 0, none⟩)], .pointer (some ⟨b68575, 0, none⟩), .pointer (some ⟨b68575, 0, none⟩), .pointer (some ⟨b68575, 0, none⟩), .int .i64 p0, .int .i64 x83643.1, .bool (decide (x83643.1 ≠ 2)), .pointer (some ⟨b68575, 0, none⟩), .int .i64 p0, .int .i64 x83658.1, .bool (decide (x83658.1 ≠ 2)), .pointer (some ⟨b68575, 0, none⟩), .int .i64 p0, .bool x83673, .pointer (some ⟨b68575, 0, none⟩), .int .i64 p0, .int .i64 x83681, .bool (decide (x83681 ≠ (-1))), .pointer (some ⟨b68575, 0, none⟩), .int .i64 p0, .int .i64 x83689, .bool (decide (x83689 ≠ (-1))), undef, undef, undef, undef, undef, undef, undef, undef, undef, undef, undef, undef, undef, undef, undef, undef, undef, (D74560.getD 45 undef)] A83665 n83666 c83667 cl83668 _ hf s kk hn83669 rp83670 rp82418 rp82426 eg0)
                      · have hf := iteF h83696 hf
                        refine RW.seg hT 2 [] [(56, .bool false)] [.bool false, .pointer (some ⟨b68575, 0, none⟩)] [.veq (.bool (decide (x83689 ≠ (-1)))) (.bool false)] (by kernel_rfl) (bo_f h83696) ?_
                        refine RW.op (by kernel_rfl) (OK.inl (args := [.pointer (some ⟨b68575, 0, none⟩)]) en29 (by kernel_rfl) ?_)
                        intro R83697 hR83698
                        refine Ret.of Tryd.func29 rfl ?_
                        refine WPK.seq ?_
                        refine WPK.region ?_
                        refine RW.op (by kernel_rfl) (OK.new hT (f := fun b => .pointer (some ⟨b, 0, none⟩)) (cs := [.pointer (some ⟨b68575, 0, none⟩)]) (e := 25) (c := .tt) s (by kernel_rfl) trivial ?_)
                        rintro w83702 b83703 s k83704 -
                        replace rp83670 := rp83670.st k83704
                        replace rp73501 := rp73501.st k83704
                        replace rp73509 := rp73509.st k83704
                        replace rp82418 := rp82418.st k83704
                        replace rp82426 := rp82426.st k83704
                        replace eg0 := eg0.st k83704
                        replace kk := kk.trans k83704
                        refine RW.seg hT 1 [] [] [.nilFunc] [] (by kernel_rfl) (trivial) ?_
                        refine RW.nil ?_
                        refine WPK.seq ?_
                        refine WPK.region ?_
                        refine RW.seg hT 2 [] [] [.func (.func 45) #[] #[.pointer (some ⟨b83703, 0, none⟩)], .func (.func 45) #[] #[.pointer (some ⟨b83703, 0, none⟩)]] [] (by kernel_rfl) (trivial) ?_
                        refine RW.nil ?_
                        refine WPK.ret (?_)
                        refine Fin.of (rs := [.tmp 2]) hT [] (.func (.func 45) #[] #[.pointer (some ⟨b83703, 0, none⟩)]) [] rfl (by kernel_rfl) (trivial) ?_
                        refine hR83698 _ _ ?_
                        refine RW.op (by kernel_rfl) (OK.inl (args := [.func (.func 45) #[] #[.pointer (some ⟨b83703, 0, none⟩)], .int .i64 9]) en28 (by kernel_rfl) ?_)
                        intro R83705 hR83706
                        refine Ret.of Tryd.func28 rfl ?_
                        refine WPK.seq ?_
                        refine WPK.region ?_
                        refine RW.op (by kernel_rfl) (OK.new hT (f := fun b => .pointer (some ⟨b, 0, none⟩)) (cs := [.int .i64 9]) (e := 3) (c := .tt) s (by kernel_rfl) trivial ?_)
                        rintro w84183 b84184 s k84185 -
                        replace rp83670 := rp83670.st k84185
                        replace rp73501 := rp73501.st k84185
                        replace rp73509 := rp73509.st k84185
                        replace rp82418 := rp82418.st k84185
                        replace rp82426 := rp82426.st k84185
                        replace eg0 := eg0.st k84185
                        replace kk := kk.trans k84185
                        refine RW.seg hT 1 [] [] [.slice none 0 0] [] (by kernel_rfl) (trivial) ?_
                        refine RW.nil ?_
                        refine WPK.seq ?_
                        refine WPK.region ?_
                        refine RW.op (by kernel_rfl) (OK.new hT (f := fun b => .pointer (some ⟨b, 0, none⟩)) (cs := [.slice none 0 0]) (e := 22) (c := .tt) s (by kernel_rfl) trivial ?_)
                        rintro w84186 b84187 s k84188 -
                        replace rp83670 := rp83670.st k84188
                        replace rp73501 := rp73501.st k84188
                        replace rp73509 := rp73509.st k84188
                        replace rp82418 := rp82418.st k84188
                        replace rp82426 := rp82426.st k84188
                        replace eg0 := eg0.st k84188
                        replace kk := kk.trans k84188
                        refine RW.nil ?_
                        refine WPK.seq ?_
                        refine WPK.seq ?_
                        refine WPK.region ?_
                        refine RW.seg hT 2 [] [] [.func (.func 45) #[] #[.pointer (some ⟨b83703, 0, none⟩)], .bool false] [] (by kernel_rfl) (trivial) ?_
                        refine RW.nil ?_
                        refine WPK.condF (by kernel_rfl) ?_
                        refine WPK.skip ?_
                        refine WPK.seq ?_
                        refine WPK.cut' (fun E ds wz => ∀ X : Kont, (∀ (I84427 : Nat → Prop) (x84418 : (List Int)) (d84416 : Nat) (D84417 : List Value) (A84419 : Option Addr) (c84421 : Nat) (cl84422 : List Value) (w' : World), g7_j5 x82420 x83628 x83635 x83643 x83658 x83673 x83681 x83689 x84418 = some r → St w0 M I84427 ((.blk b68575 (.cells #[.int .i64 x83658.2.n, .slice A83665 n83666 c83667] 53 (0, 0))) :: (.sl (.slice A83665 n83666 c83667) 61 1 n83666 cl83668) :: (.blk b84187 (.cells #[.slice A84419 x84418.length c84421] 22 (0, 0))) :: (.blk b68578 (.cells #[.pointer none, .pointer (some ⟨b68575, 0, none⟩)] 25 (0, 0))) :: (.sl (.slice A82413 x82412.length c82415) 3 1 x82412.length cl82416) :: (.sl (.slice A82421 x82420.length c82423) 3 1 x82420.length cl82424) :: (.sl (.slice A84419 x84418.length c84421) 3 1 x84418.length cl84422) :: (.blk d84416 (.deferred (some []))) :: F) w' → Kp I w I84427 w' → RepL (Rp.int .i64) I84427 w' cl84422 x84418 → RepL (Rp.int .u64) I84427 w' cl83668 x83658.2.w → RepL (Rp.int .i64) I84427 w' cl82416 x82412 → RepL (Rp.int .i64) I84427 w' cl82424 x82420 → Elems (Rp.int .u8) I84427 w' (some ⟨0, 0, none⟩) TAB0 → X [(D84417.getD 0 undef), (D84417.getD 1 undef), (D84417.getD 2 undef), (D84417.getD 3 undef), .slice none 0 0, .pointer (some ⟨b84187, 0, none⟩), (D84417.getD 4 undef), (D84417.getD 5 undef), (D84417.getD 6 undef), (D84417.getD 7 undef), (D84417.getD 8 undef), (D84417.getD 9 undef), (D84417.getD 10 undef), (D84417.getD 11 undef), (D84417.getD 12 undef), (D84417.getD 13 undef), (D84417.getD 14 undef), (D84417.getD 15 undef), (D84417.getD 16 undef), undef] [mk d84416] w') → X E ds wz) ?_ ?_
                        · intro X84473 hX84474
                          refine fun _ _ _ hJ => hJ X84473 ?_
                          intro I84427 x84418 d84416 D84417 A84419 c84421 cl84422 w84426 hf s kk rp84424 rp83670 rp82418 rp82426 eg0
                          refine hX84474 _ _ _ ?_
                          unfold g7_j5 at hf
                          refine WPK.seq ?_
                          refine WPK.region ?_
                          refine RW.seg hT 2 [.slice A84419 x84418.length c84421] [] [.slice A84419 x84418.length c84421, .slice A84419 x84418.length c84421] [.cell ⟨b84187, 0, none⟩ (.slice A84419 x84418.length c84421)] (by kernel_rfl) (s.cell (i := 2) (off := 0) rfl rfl) ?_
                          refine RW.nil ?_
                          refine WPK.ret (?_)
                          refine Fin.mark (i := 7) s rfl ?_
                          intro w84428 s k84429
                          replace rp83670 := rp83670.st k84429
                          replace rp82418 := rp82418.st k84429
                          replace rp82426 := rp82426.st k84429
                          replace rp84424 := rp84424.st k84429
                          replace eg0 := eg0.st k84429
                          replace kk := kk.trans k84429
                          refine Fin.of (rs := [.tmp 4]) hT [] (.slice A84419 x84418.length c84421) [] rfl (by kernel_rfl) (trivial) ?_
                          refine hR83706 _ _ ?_
                          refine RW.seg hT 3 [] [(60, .int .i64 (x84418.length : Int)), (61, .bool (decide ((x84418.length : Int) ≠ 0)))] [.int .i64 (x84418.length : Int), .bool (decide ((x84418.length : Int) ≠ 0)), .bool (decide ((x84418.length : Int) ≠ 0))] [.veq (.int .i64 (x84418.length : Nat)) (.int .i64 (x84418.length : Int)), .veq (.bool ((x84418.length : Int) != 0)) (.bool (decide ((x84418.length : Int) ≠ 0)))] (by kernel_rfl) (⟨len_v rfl, ne_v⟩) ?_
                          by_cases h84430 : (x84418.length : Int) ≠ 0
                          · have hf := iteT h84430 hf
                            refine RW.seg hT 20 [] [(63, .bool true)] [.bool true, undef, undef, undef, .bool true, .bool true, undef, undef, undef, .bool true, .bool true, undef, undef, undef, .bool true, .bool true, undef, undef, undef, .bool true] [.veq (.bool (decide ((x84418.length : Int) ≠ 0))) (.bool true)] (by kernel_rfl) (bo_t h84430) ?_
                            refine RW.nil ?_
                            replace s := s.pick [0, 1, 3, 4, 5] 7 rfl
                            exact fun X h => kc (by kernel_rfl) rfl (h I84427 x83628 x83635 (IntKind.i64.wrap (x83628 + x83635)) (decide ((IntKind.i64.wrap (x83628 + x83635)) ≠ 0)) false (decide (x83643.1 ≠ 2)) false (decide (x83658.1 ≠ 2)) false x83673 false (decide (x83681 ≠ (-1))) false (decide (x83689 ≠ (-1))) false (decide ((x84418.length : Int) ≠ 0)) true true true true true true true true x83658.2.n x83658.2.w [(D74560.getD 0 undef), (D74560.getD 1 undef), .slice A82413 x82412.length c82415, (D74560.getD 3 undef), (D74560.getD 4 undef), .pointer (some ⟨b68575, 0, none⟩), .func (.func 31) #[] #[.pointer (some ⟨b80003, 0, none⟩)], .pointer (some ⟨b68575, 0, none⟩), .pointer (some ⟨b68575, 0, none⟩), .pointer (some ⟨b68575, 0, none⟩), .int .i64 p0, .int .i64 x83643.1, .bool (decide (x83643.1 ≠ 2)), .pointer (some ⟨b68575, 0, none⟩), .int .i64 p0, .int .i64 x83658.1, .bool (decide (x83658.1 ≠ 2)), .pointer (some ⟨b68575, 0, none⟩), .int .i64 p0, .bool x83673, .pointer (some ⟨b68575, 0, none⟩), .int .i64 p0, .int .i64 x83681, .bool (decide (x83681 ≠ (-1))), .pointer (some ⟨b68575, 0, none⟩), .int .i64 p0, .int .i64 x83689, .bool (decide (x83689 ≠ (-1))), .pointer (some ⟨b68575, 0, none⟩), .func (.func 45) #[] #[.pointer (some ⟨b83703, 0, none⟩)], .slice A84419 x84418.length c84421, .int .i64 (x84418.length : Int), .bool (decide ((x84418.length : Int) ≠ 0)), undef, undef, undef, undef, undef, undef, undef, undef, undef, undef, undef, undef, (D74560.getD 45 undef)] A83665 n83666 c83667 cl83668 _ hf s kk hn83669 rp83670 rp82418 rp82426 eg0)
                          · have hf := iteF h84430 hf
                            refine RW.seg hT 5 [] [(63, .bool false), (65, .int .i64 (x82420.length : Int)), (66, .bool (decide ((x82420.length : Int) ≠ 0)))] [.bool false, .slice A82421 x82420.length c82423, .int .i64 (x82420.length : Int), .bool (decide ((x82420.length : Int) ≠ 0)), .bool (decide ((x82420.length : Int) ≠ 0))] [.veq (.bool (decide ((x84418.length : Int) ≠ 0))) (.bool false), .veq (.int .i64 (x82420.length : Nat)) (.int .i64 (x82420.length : Int)), .veq (.bool ((x82420.length : Int) != 0)) (.bool (decide ((x82420.length : Int) ≠ 0)))] (by kernel_rfl) (⟨bo_f h84430, len_v rfl, ne_v⟩) ?_
                            by_cases h84431 : (x82420.length : Int) ≠ 0
                            · have hf := iteT h84431 hf
                              refine RW.seg hT 15 [] [(68, .bool true)] [.bool true, undef, undef, undef, .bool true, .bool true, undef, undef, undef, .bool true, .bool true, undef, undef, undef, .bool true] [.veq (.bool (decide ((x82420.length : Int) ≠ 0))) (.bool true)] (by kernel_rfl) (bo_t h84431) ?_
                              refine RW.nil ?_
                              replace s := s.pick [0, 1, 3, 4, 5] 7 rfl
                              exact fun X h => kc (by kernel_rfl) rfl (h I84427 x83628 x83635 (IntKind.i64.wrap (x83628 + x83635)) (decide ((IntKind.i64.wrap (x83628 + x83635)) ≠ 0)) false (decide (x83643.1 ≠ 2)) false (decide (x83658.1 ≠ 2)) false x83673 false (decide (x83681 ≠ (-1))) false (decide (x83689 ≠ (-1))) false (decide ((x84418.length : Int) ≠ 0)) false (decide ((x82420.length : Int) ≠ 0)) true true true true true true x83658.2.n x83658.2.w [(D74560.getD 0 undef), (D74560.getD 1 undef), .slice A82413 x82412.length c82415, (D74560.getD 3 undef), (D74560.getD 4 undef), .pointer (some ⟨b68575, 0, none⟩), .func (.func 31) #[] #[.pointer (some ⟨b80003, 0, none⟩)], .pointer (some ⟨b68575, 0, none⟩), .pointer (some ⟨b68575, 0, none⟩), .pointer (some ⟨b68575, 0, none⟩), .int .i64 p0, .int .i64 x83643.1, .bool (decide (x83643.1 ≠ 2)), .pointer (some ⟨b68575, 0, none⟩), .int .i64 p0, .int .i64 x83658.1, .bool (decide (x83658.1 ≠ 2)), .pointer (some ⟨b68575, 0, none⟩), .int .i64 p0, .bool x83673, .pointer (some ⟨b68575, 0, none⟩), .int .i64 p0, .int .i64 x83681, .bool (decide (x83681 ≠ (-1))), .pointer (some ⟨b68575, 0, none⟩), .int .i64 p0, .int .i64 x83689, .bool (decide (x83689 ≠ (-1))), .pointer (some ⟨b68575, 0, none⟩), .func (.func 45) #[] #[.pointer (some ⟨b83703, 0, none⟩)], .slice A84419 x84418.length c84421, .int .i64 (x84418.length : Int), .bool (decide ((x84418.length : Int) ≠ 0)), .slice A82421 x82420.length c82423, .int .i64 (x82420.length : Int), .bool (decide ((x82420.length : Int) ≠ 0)), undef, undef, undef, undef, undef, undef, undef, undef, undef, (D74560.getD 45 undef)] A83665 n83666 c83667 cl83668 _ hf s kk hn83669 rp83670 rp82418 rp82426 eg0)
                            · have hf := iteF h84431 hf
                              refine RW.seg hT 2 [] [(68, .bool false)] [.bool false, .pointer (some ⟨b68575, 0, none⟩)] [.veq (.bool (decide ((x82420.length : Int) ≠ 0))) (.bool false)] (by kernel_rfl) (bo_f h84431) ?_
                              obtain ⟨x84432, hx84433, hf⟩ := bindS hf
                              refine RW.op (by kernel_rfl) (OK.call' en16 (by kernel_rfl) (c16_1 (F := (.blk b84187 (.cells #[.slice A84419 x84418.length c84421] 22 (0, 0))) :: (.blk b68578 (.cells #[.pointer none, .pointer (some ⟨b68575, 0, none⟩)] 25 (0, 0))) :: (.sl (.slice A82413 x82412.length c82415) 3 1 x82412.length cl82416) :: (.sl (.slice A82421 x82420.length c82423) 3 1 x82420.length cl82424) :: (.sl (.slice A84419 x84418.length c84421) 3 1 x84418.length cl84422) :: F) x83658.2 b68575 A83665 n83666 c83667 cl83668 hn83669 rp83670 s hx84433) ?_)
                              intro X84436 hX84437
                              refine fun _ _ hJ => hJ X84436 ?_ ?_
                              · intro I84438 w84434 hv s k84435
                                refine hX84437 _ _ ?_
                                replace hf := optN hv hf
                                replace rp83670 := rp83670.st k84435
                                replace rp82418 := rp82418.st k84435
                                replace rp82426 := rp82426.st k84435
                                replace rp84424 := rp84424.st k84435
                                replace eg0 := eg0.st k84435
                                replace kk := kk.trans k84435
                                refine RW.seg hT 4 [] [] [.bool false, .bool false, .bool false, .pointer (some ⟨b68575, 0, none⟩)] [] (by kernel_rfl) (trivial) ?_
                                obtain ⟨x84449, hx84450, hf⟩ := bindS hf
                                refine RW.op (by kernel_rfl) (OK.call' en21 (by kernel_rfl) (c21_1 (F := (.blk b84187 (.cells #[.slice A84419 x84418.length c84421] 22 (0, 0))) :: (.blk b68578 (.cells #[.pointer none, .pointer (some ⟨b68575, 0, none⟩)] 25 (0, 0))) :: (.sl (.slice A82413 x82412.length c82415) 3 1 x82412.length cl82416) :: (.sl (.slice A82421 x82420.length c82423) 3 1 x82420.length cl82424) :: (.sl (.slice A84419 x84418.length c84421) 3 1 x84418.length cl84422) :: F) x83658.2 b68575 A83665 n83666 c83667 cl83668 hn83669 rp83670 s hx84450) ?_)
                                intro X84453 hX84454
                                refine fun _ _ hJ => hJ X84453 ?_ ?_
                                · intro I84455 w84451 hv s k84452
                                  refine hX84454 _ _ ?_
                                  replace hf := optN hv hf
                                  replace rp83670 := rp83670.st k84452
                                  replace rp82418 := rp82418.st k84452
                                  replace rp82426 := rp82426.st k84452
                                  replace rp84424 := rp84424.st k84452
                                  replace eg0 := eg0.st k84452
                                  replace kk := kk.trans k84452
                                  refine RW.seg hT 4 [] [] [.bool false, .bool false, .bool false, .pointer (some ⟨b68575, 0, none⟩)] [] (by kernel_rfl) (trivial) ?_
                                  obtain ⟨x84466, hx84467, hf⟩ := bindS hf
                                  refine RW.op (by kernel_rfl) (OK.call' en18 (by kernel_rfl) (c18_1 (F := (.blk b84187 (.cells #[.slice A84419 x84418.length c84421] 22 (0, 0))) :: (.blk b68578 (.cells #[.pointer none, .pointer (some ⟨b68575, 0, none⟩)] 25 (0, 0))) :: (.sl (.slice A82413 x82412.length c82415) 3 1 x82412.length cl82416) :: (.sl (.slice A82421 x82420.length c82423) 3 1 x82420.length cl82424) :: (.sl (.slice A84419 x84418.length c84421) 3 1 x84418.length cl84422) :: F) x83658.2 b68575 A83665 n83666 c83667 cl83668 hn83669 rp83670 s hx84467) ?_)
                                  intro X84470 hX84471
                                  refine fun _ _ hJ => hJ X84470 ?_
                                  intro I84472 w84468 s k84469
                                  refine hX84471 _ _ ?_
                                  replace rp83670 := rp83670.st k84469
                                  replace rp82418 := rp82418.st k84469
                                  replace rp82426 := rp82426.st k84469
                                  replace rp84424 := rp84424.st k84469
                                  replace eg0 := eg0.st k84469
                                  replace kk := kk.trans k84469
                                  refine RW.seg hT 2 [] [(81, .bool (decide (¬ (x84466 = true))))] [.bool (decide (¬ (x84466 = true))), .bool (decide (¬ (x84466 = true)))] [.veq (.bool (!x84466)) (.bool (decide (¬ (x84466 = true))))] (by kernel_rfl) (not_b) ?_
                                  refine RW.nil ?_
                                  replace s := s.pick [0, 1, 3, 4, 5] 7 rfl
                                  exact fun X h => kc (by kernel_rfl) rfl (h I84472 x83628 x83635 (IntKind.i64.wrap (x83628 + x83635)) (decide ((IntKind.i64.wrap (x83628 + x83635)) ≠ 0)) false (decide (x83643.1 ≠ 2)) false (decide (x83658.1 ≠ 2)) false x83673 false (decide (x83681 ≠ (-1))) false (decide (x83689 ≠ (-1))) false (decide ((x84418.length : Int) ≠ 0)) false (decide ((x82420.length : Int) ≠ 0)) false false false false false (decide (¬ (x84466 = true))) x83658.2.n x83658.2.w [(D74560.getD 0 undef), (D74560.getD 1 undef), .slice A82413 x82412.length c82415, (D74560.getD 3 undef), (D74560.getD 4 undef), .pointer (some ⟨b68575, 0, none⟩), .func (.func 31) #[] #[.pointer (some ⟨b80003, 0, none⟩)], .pointer (some ⟨b68575, 0, none⟩), .pointer (some ⟨b68575, 0, none⟩), .pointer (some ⟨b68575, 0, none⟩), .int .i64 p0, .int .i64 x83643.1, .bool (decide (x83643.1 ≠ 2)), .pointer (some ⟨b68575, 0, none⟩), .int .i64 p0, .int .i64 x83658.1, .bool (decide (x83658.1 ≠ 2)), .pointer (some ⟨b68575, 0, none⟩), .int .i64 p0, .bool x83673, .pointer (some ⟨b68575, 0, none⟩), .int .i64 p0, .int .i64 x83681, .bool (decide (x83681 ≠ (-1))), .pointer (some ⟨b68575, 0, none⟩), .int .i64 p0, .int .i64 x83689, .bool (decide (x83689 ≠ (-1))), .pointer (some ⟨b68575, 0, none⟩), .func (.func 45) #[] #[.pointer (some ⟨b83703, 0, none⟩)], .slice A84419 x84418.length c84421, .int .i64 (x84418.length : Int), .bool (decide ((x84418.length : Int) ≠ 0)), .slice A82421 x82420.length c82423, .int .i64 (x82420.length : Int), .bool (decide ((x82420.length : Int) ≠ 0)), .pointer (some ⟨b68575, 0, none⟩), .pointer none, .bool false, .pointer (some ⟨b68575, 0, none⟩), .pointer none, .bool false, .pointer (some ⟨b68575, 0, none⟩), .bool x84466, .bool (decide (¬ (x84466 = true))), (D74560.getD 45 undef)] A83665 n83666 c83667 cl83668 _ hf s kk hn83669 rp83670 rp82418 rp82426 eg0)
                                · intro x84457 I84456 b84458 A84459 n84460 c84461 cl84462 w84451 hv s k84452 hn84463 rp84464
                                  refine hX84454 _ _ ?_
                                  replace hf := optS hv hf
                                  replace rp83670 := rp83670.st k84452
                                  replace rp82418 := rp82418.st k84452
                                  replace rp82426 := rp82426.st k84452
                                  replace rp84424 := rp84424.st k84452
                                  replace eg0 := eg0.st k84452
                                  replace kk := kk.trans k84452
                                  refine RW.seg hT 7 [] [] [.bool true, .bool true, .bool true, undef, undef, undef, .bool true] [] (by kernel_rfl) (trivial) ?_
                                  refine RW.nil ?_
                                  replace s := s.pick [2, 3, 5, 6, 7] 9 rfl
                                  exact fun X h => kc (by kernel_rfl) rfl (h I84456 x83628 x83635 (IntKind.i64.wrap (x83628 + x83635)) (decide ((IntKind.i64.wrap (x83628 + x83635)) ≠ 0)) false (decide (x83643.1 ≠ 2)) false (decide (x83658.1 ≠ 2)) false x83673 false (decide (x83681 ≠ (-1))) false (decide (x83689 ≠ (-1))) false (decide ((x84418.length : Int) ≠ 0)) false (decide ((x82420.length : Int) ≠ 0)) false false false true true true x83658.2.n x83658.2.w [(D74560.getD 0 undef), (D74560.getD 1 undef), .slice A82413 x82412.length c82415, (D74560.getD 3 undef), (D74560.getD 4 undef), .pointer (some ⟨b68575, 0, none⟩), .func (.func 31) #[] #[.pointer (some ⟨b80003, 0, none⟩)], .pointer (some ⟨b68575, 0, none⟩), .pointer (some ⟨b68575, 0, none⟩), .pointer (some ⟨b68575, 0, none⟩), .int .i64 p0, .int .i64 x83643.1, .bool (decide (x83643.1 ≠ 2)), .pointer (some ⟨b68575, 0, none⟩), .int .i64 p0, .int .i64 x83658.1, .bool (decide (x83658.1 ≠ 2)), .pointer (some ⟨b68575, 0, none⟩), .int .i64 p0, .bool x83673, .pointer (some ⟨b68575, 0, none⟩), .int .i64 p0, .int .i64 x83681, .bool (decide (x83681 ≠ (-1))), .pointer (some ⟨b68575, 0, none⟩), .int .i64 p0, .int .i64 x83689, .bool (decide (x83689 ≠ (-1))), .pointer (some ⟨b68575, 0, none⟩), .func (.func 45) #[] #[.pointer (some ⟨b83703, 0, none⟩)], .slice A84419 x84418.length c84421, .int .i64 (x84418.length : Int), .bool (decide ((x84418.length : Int) ≠ 0)), .slice A82421 x82420.length c82423, .int .i64 (x82420.length : Int), .bool (decide ((x82420.length : Int) ≠ 0)), .pointer (some ⟨b68575, 0, none⟩), .pointer none, .bool false, .pointer (some ⟨b68575, 0, none⟩), .pointer (some ⟨b84458, 0, none⟩), .bool true, undef, undef, undef, (D74560.getD 45 undef)] A83665 n83666 c83667 cl83668 _ hf s kk hn83669 rp83670 rp82418 rp82426 eg0)
                              · intro x84440 I84439 b84441 A84442 n84443 c84444 cl84445 w84434 hv s k84435 hn84446 rp84447
                                refine hX84437 _ _ ?_
                                replace hf := optS hv hf
                                replace rp83670 := rp83670.st k84435
                                replace rp82418 := rp82418.st k84435
                                replace rp82426 := rp82426.st k84435
                                replace rp84424 := rp84424.st k84435
                                replace eg0 := eg0.st k84435
                                replace kk := kk.trans k84435
                                refine RW.seg hT 12 [] [] [.bool true, .bool true, .bool true, undef, undef, undef, .bool true, .bool true, undef, undef, undef, .bool true] [] (by kernel_rfl) (trivial) ?_
                                refine RW.nil ?_
                                replace s := s.pick [2, 3, 5, 6, 7] 9 rfl
                                exact fun X h => kc (by kernel_rfl) rfl (h I84439 x83628 x83635 (IntKind.i64.wrap (x83628 + x83635)) (decide ((IntKind.i64.wrap (x83628 + x83635)) ≠ 0)) false (decide (x83643.1 ≠ 2)) false (decide (x83658.1 ≠ 2)) false x83673 false (decide (x83681 ≠ (-1))) false (decide (x83689 ≠ (-1))) false (decide ((x84418.length : Int) ≠ 0)) false (decide ((x82420.length : Int) ≠ 0)) false true true true true true x83658.2.n x83658.2.w [(D74560.getD 0 undef), (D74560.getD 1 undef), .slice A82413 x82412.length c82415, (D74560.getD 3 undef), (D74560.getD 4 undef), .pointer (some ⟨b68575, 0, none⟩), .func (.func 31) #[] #[.pointer (some ⟨b80003, 0, none⟩)], .pointer (some ⟨b68575, 0, none⟩), .pointer (some ⟨b68575, 0, none⟩), .pointer (some ⟨b68575, 0, none⟩), .int .i64 p0, .int .i64 x83643.1, .bool (decide (x83643.1 ≠ 2)), .pointer (some ⟨b68575, 0, none⟩), .int .i64 p0, .int .i64 x83658.1, .bool (decide (x83658.1 ≠ 2)), .pointer (some ⟨b68575, 0, none⟩), .int .i64 p0, .bool x83673, .pointer (some ⟨b68575, 0, none⟩), .int .i64 p0, .int .i64 x83681, .bool (decide (x83681 ≠ (-1))), .pointer (some ⟨b68575, 0, none⟩), .int .i64 p0, .int .i64 x83689, .bool (decide (x83689 ≠ (-1))), .pointer (some ⟨b68575, 0, none⟩), .func (.func 45) #[] #[.pointer (some ⟨b83703, 0, none⟩)], .slice A84419 x84418.length c84421, .int .i64 (x84418.length : Int), .bool (decide ((x84418.length : Int) ≠ 0)), .slice A82421 x82420.length c82423, .int .i64 (x82420.length : Int), .bool (decide ((x82420.length : Int) ≠ 0)), .pointer (some ⟨b68575, 0, none⟩), .pointer (some ⟨b84441, 0, none⟩), .bool true, undef, undef, undef, undef, undef, undef, (D74560.getD 45 undef)] A83665 n83666 c83667 cl83668 _ hf s kk hn83669 rp83670 rp82418 rp82426 eg0)
                        · refine WPK.seq ?_
                          refine WPK.region ?_
                          refine RW.seg hT 1 [] [] [.func (.func 45) #[] #[.pointer (some ⟨b83703, 0, none⟩)]] [] (by kernel_rfl) (trivial) ?_
                          refine RW.nil ?_
                          refine WPK.block ?_
                          refine WPK.range (gf := 45) (first := []) (cap := [.pointer (some ⟨b83703, 0, none⟩)]) s (by kernel_rfl) en45 ?_
                          intro l84475 d84476 rec84477 w84479 R84481 hrec84478 s k84480 hR84482
                          replace rp83670 := rp83670.st k84480
                          replace rp73501 := rp73501.st k84480
                          replace rp73509 := rp73509.st k84480
                          replace rp82418 := rp82418.st k84480
                          replace rp82426 := rp82426.st k84480
                          replace eg0 := eg0.st k84480
                          replace kk := kk.trans k84480
                          refine Ret.of Tryd.func45 rfl ?_
                          refine WPK.seq ?_
                          refine WPK.region ?_
                          refine RW.seg hT 1 [.pointer (some ⟨b68575, 0, none⟩)] [] [.pointer (some ⟨b68575, 0, none⟩)] [.cell ⟨b83703, 0, none⟩ (.pointer (some ⟨b68575, 0, none⟩))] (by kernel_rfl) (s.cell (i := 4) (off := 0) rfl rfl) ?_
                          replace s := s.pick [5, 6, 0, 1, 2, 3, 4, 7, 8, 9, 10, 11, 12, 13] 14 rfl
                          obtain ⟨x84483, hx84484, hf⟩ := bindS hf
                          refine RW.op (by kernel_rfl) (OK.call' en27 (by kernel_rfl) (c27_1 (F := (.blk l84475 (rec84477 .ready none)) :: (.blk d84476 (.deferred (some []))) :: (.blk b84187 (.cells #[.slice none 0 0] 22 (0, 0))) :: (.blk b84184 (.cells #[.int .i64 9] 3 (0, 0))) :: (.blk b83703 (.cells #[.pointer (some ⟨b68575, 0, none⟩)] 25 (0, 0))) :: (.blk b81620 (.cells #[.slice A82413 x82412.length c82415] 22 (0, 0))) :: (.blk b81617 (.cells #[.slice A82421 x82420.length c82423] 22 (0, 0))) :: (.blk b68578 (.cells #[.pointer none, .pointer (some ⟨b68575, 0, none⟩)] 25 (0, 0))) :: (.sl (.slice A73496 x73495.length c73498) 3 1 x73495.length cl73499) :: (.sl (.slice A73504 x73503.length c73506) 3 1 x73503.length cl73507) :: (.sl (.slice A82413 x82412.length c82415) 3 1 x82412.length cl82416) :: (.sl (.slice A82421 x82420.length c82423) 3 1 x82420.length cl82424) :: F) x83658.2 0 b68575 A83665 n83666 c83667 cl83668 hn83669 rp83670 eg0 s hx84484) ?_)
                          intro X84487 hX84488
                          refine fun _ _ hJ => hJ X84487 ?_
                          intro I84489 w84485 s k84486
                          refine hX84488 _ _ ?_
                          replace rp83670 := rp83670.st k84486
                          replace rp73501 := rp73501.st k84486
                          replace rp73509 := rp73509.st k84486
                          replace rp82418 := rp82418.st k84486
                          replace rp82426 := rp82426.st k84486
                          replace eg0 := eg0.st k84486
                          replace kk := kk.trans k84486
                          refine RW.seg hT 1 [] [] [.int .i64 x84483] [] (by kernel_rfl) (trivial) ?_
                          refine RW.nil ?_
                          refine WPK.block ?_
                          replace s := s.pushNil 3 1
                          replace s := s.pick [1, 2, 3, 4, 5, 6, 7, 10, 13, 14, 0] 15 rfl
                          refine WPK.loop' (J := fun n84628 E ds wz => ∀ X : Kont, (∀ (I84561 : Nat → Prop) (x84551 : Int) (x84552 : (List Int)) (D84550 : List Value) (A84553 : Option Addr) (c84555 : Nat) (cl84556 : List Value) (w' : World), g7_l6 x82420 x83628 x83635 x83643 x83658 x83673 x83681 x83689 n84628 x84551 x84552 = some r → St w0 M I84561 ((.blk b68575 (.cells #[.int .i64 x83658.2.n, .slice A83665 n83666 c83667] 53 (0, 0))) :: (.sl (.slice A83665 n83666 c83667) 61 1 n83666 cl83668) :: (.blk l84475 (rec84477 .ready none)) :: (.blk d84476 (.deferred (some []))) :: (.blk b84187 (.cells #[.slice A84553 x84552.length c84555] 22 (0, 0))) :: (.blk b84184 (.cells #[.int .i64 9] 3 (0, 0))) :: (.blk b83703 (.cells #[.pointer (some ⟨b68575, 0, none⟩)] 25 (0, 0))) :: (.blk b68578 (.cells #[.pointer none, .pointer (some ⟨b68575, 0, none⟩)] 25 (0, 0))) :: (.sl (.slice A82413 x82412.length c82415) 3 1 x82412.length cl82416) :: (.sl (.slice A82421 x82420.length c82423) 3 1 x82420.length cl82424) :: (.sl (.slice A84553 x84552.length c84555) 3 1 x84552.length cl84556) :: F) w' → Kp I w I84561 w' → RepL (Rp.int .i64) I84561 w' cl84556 x84552 → RepL (Rp.int .u64) I84561 w' cl83668 x83658.2.w → RepL (Rp.int .i64) I84561 w' cl82416 x82412 → RepL (Rp.int .i64) I84561 w' cl82424 x82420 → Elems (Rp.int .u8) I84561 w' (some ⟨0, 0, none⟩) TAB0 → X [.func (.yield l84475) #[] #[], .pointer (some ⟨b83703, 0, none⟩), (D84550.getD 0 undef), .int .i64 x84551, (D84550.getD 1 undef), (D84550.getD 2 undef), (D84550.getD 3 undef), (D84550.getD 4 undef), (D84550.getD 5 undef), (D84550.getD 6 undef), (D84550.getD 7 undef), (D84550.getD 8 undef), (D84550.getD 9 undef), (D84550.getD 10 undef), (D84550.getD 11 undef), (D84550.getD 12 undef)] [] w') → X E ds wz) FUEL (fun X h => kc (by kernel_rfl) rfl (h I84489 x84483 ([] : List Int) [undef, .pointer (some ⟨b68575, 0, none⟩), .int .i64 x84483, undef, undef, undef, undef, undef, undef, undef, undef, undef, undef] none 0 [] _ hf s kk (RepL.nil (r := (Rp.int .i64))) rp83670 rp82418 rp82426 eg0)) (fun _ _ _ hJ => hJ (fun _ _ _ => False) (by intro I84561 x84551 x84552 D84550 A84553 c84555 cl84556 w84560 hf s kk rp84558 rp83670 rp82418 rp82426 eg0; exact noneS hf)) ?_
                          intro X84700 hX84701
                          refine fun n84628 _ _ _ hJ => hJ (X84700 n84628) ?_
                          intro I84561 x84551 x84552 D84550 A84553 c84555 cl84556 w84560 hf s kk rp84558 rp83670 rp82418 rp82426 eg0
                          refine hX84701 _ _ _ _ ?_
                          replace hf : g7_l6B x82420 x83628 x83635 x83643 x83658 x83673 x83681 x83689 (g7_l6 x82420 x83628 x83635 x83643 x83658 x83673 x83681 x83689 n84628) x84551 x84552 = some r := hf
                          generalize hrec84629 : g7_l6 x82420 x83628 x83635 x83643 x83658 x83673 x83681 x83689 n84628 = rec84627 at hf
                          unfold g7_l6B at hf
                          refine WPK.seq ?_
                          refine WPK.seq ?_
                          refine WPK.region ?_
                          refine RW.seg hT 2 [] [] [.int .i64 x84551, .bool (decide (x84551 ≥ 0))] [] (by kernel_rfl) (trivial) ?_
                          refine RW.nil ?_
                          by_cases h84631 : x84551 ≥ 0
                          · have hf := iteT h84631 hf
                            refine WPK.condT (Eq.trans (b := .bool (decide (x84551 ≥ 0))) (by kernel_rfl) (bo_t h84631)) ?_
                            refine WPK.skip ?_
                            refine WPK.seq ?_
                            refine WPK.block ?_
                            refine WPK.seq ?_
                            refine WPK.region ?_
                            refine RW.seg hT 2 [] [] [.func (.yield l84475) #[] #[], .int .i64 x84551] [] (by kernel_rfl) (trivial) ?_
                            refine RW.op (by kernel_rfl) (OK.yield (args := [.int .i64 x84551]) hrec84478 s (i := 2) rfl (by kernel_rfl) rfl ?_)
                            intro R84660 hR84661
                            refine WPK.region ?_
                            refine RW.seg hT 1 [] [] [.int .i64 x84551] [] (by kernel_rfl) (trivial) ?_
                            refine RW.nil ?_
                            refine RoundBeg.of hrec84478 s (i := 2) rfl ?_
                            intro w84662 s k84663
                            replace rp83670 := rp83670.st k84663
                            replace rp82418 := rp82418.st k84663
                            replace rp82426 := rp82426.st k84663
                            replace rp84558 := rp84558.st k84663
                            replace eg0 := eg0.st k84663
                            replace kk := kk.trans k84663
                            refine WPK.block ?_
                            refine WPK.seq ?_
                            refine WPK.seq ?_
                            refine WPK.region ?_
                            refine RW.seg hT 4 [.slice A84553 x84552.length c84555, .int .i64 9] [(12, .int .i64 (x84552.length : Int))] [.slice A84553 x84552.length c84555, .int .i64 (x84552.length : Int), .int .i64 9, .bool (decide ((x84552.length : Int) ≥ 9))] [.cell ⟨b84187, 0, none⟩ (.slice A84553 x84552.length c84555), .veq (.int .i64 (x84552.length : Nat)) (.int .i64 (x84552.length : Int)), .cell ⟨b84184, 0, none⟩ (.int .i64 9)] (by kernel_rfl) (⟨s.cell (i := 4) (off := 0) rfl rfl, len_v rfl, s.cell (i := 5) (off := 0) rfl rfl⟩) ?_
                            refine RW.nil ?_
                            by_cases h84665 : (x84552.length : Int) ≥ 9
                            · have hf := iteT h84665 hf
                              refine WPK.condT (Eq.trans (b := .bool (decide ((x84552.length : Int) ≥ 9))) (by kernel_rfl) (bo_t h84665)) ?_
                              refine WPK.exit (blockQ.other rfl (?_))
                              refine RoundEnd.stop (Code.exit 0) hrec84478 s (i := 2) rfl ?_
                              intro w84666 s k84667
                              replace rp83670 := rp83670.st k84667
                              replace rp82418 := rp82418.st k84667
                              replace rp82426 := rp82426.st k84667
                              replace rp84558 := rp84558.st k84667
                              replace eg0 := eg0.st k84667
                              replace kk := kk.trans k84667
                              refine hR84661 _ _ ?_
                              refine RW.seg hT 1 [] [] [.bool true] [] (by kernel_rfl) (trivial) ?_
                              refine RW.nil ?_
                              refine WPK.condT (by kernel_rfl) ?_
                              refine WPK.ret (blockQ.ret (blockQ.ret (?_)))
                              refine Fin.of (rs := []) hT [] (.tuple #[]) [] rfl (by kernel_rfl) (trivial) ?_
                              refine hR84482 _ _ (RangeEnd.jump hrec84478 s (i := 2) rfl ?_)
                              intro w84668 s k84669
                              replace rp83670 := rp83670.st k84669
                              replace rp82418 := rp82418.st k84669
                              replace rp82426 := rp82426.st k84669
                              replace rp84558 := rp84558.st k84669
                              replace eg0 := eg0.st k84669
                              replace kk := kk.trans k84669
                              refine WPK.exit (blockQ.same ?_)
                              replace s := s.pick [0, 1, 3, 6, 7, 8, 9, 2] 10 rfl
                              exact fun X h => kc (by kernel_rfl) rfl (h I84561 x84552 d84476 [.func (.func 45) #[] #[.pointer (some ⟨b83703, 0, none⟩)], .int .i64 9, undef, .pointer (some ⟨b84184, 0, none⟩), undef, .func (.func 45) #[] #[.pointer (some ⟨b83703, 0, none⟩)], .bool false, .func (.func 45) #[] #[.pointer (some ⟨b83703, 0, none⟩)], undef, undef, undef, undef, undef, undef, undef, undef, undef] A84553 c84555 cl84556 _ hf s kk rp84558 rp83670 rp82418 rp82426 eg0)
                            · have hf := iteF h84665 hf
                              refine WPK.condF (Eq.trans (b := .bool (decide ((x84552.length : Int) ≥ 9))) (by kernel_rfl) (bo_f h84665)) ?_
                              refine WPK.skip ?_
                              refine WPK.region ?_
                              refine RW.seg hT 2 [.slice A84553 x84552.length c84555] [] [.slice A84553 x84552.length c84555, .int .i64 x84551] [.cell ⟨b84187, 0, none⟩ (.slice A84553 x84552.length c84555)] (by kernel_rfl) (s.cell (i := 4) (off := 0) rfl rfl) ?_
                              refine RW.op (by kernel_rfl) (OK.new hT (f := fun b => .slice (some ⟨b, 0, none⟩) 1 1) (cs := [.int .i64 x84551]) (e := 3) (c := .tt) s (by kernel_rfl) trivial ?_)
                              rintro w84670 b84671 s k84672 -
                              replace rp83670 := rp83670.st k84672
                              replace rp82418 := rp82418.st k84672
                              replace rp82426 := rp82426.st k84672
                              replace rp84558 := rp84558.st k84672
                              replace eg0 := eg0.st k84672
                              replace kk := kk.trans k84672
                              have rp84673 : RepL (Rp.int .i64) I84561 w84670 [.int .i64 x84551] ([x84551] : List Int) := RepL.cons (c := [.int .i64 x84551]) (d := []) (rfl) (RepL.nil)
                              replace s : St w0 M I84561 ((.sl (.slice (some ⟨b84671, 0, none⟩) 1 1) 3 1 1 [.int .i64 x84551]) :: (.blk b68575 (.cells #[.int .i64 x83658.2.n, .slice A83665 n83666 c83667] 53 (0, 0))) :: (.sl (.slice A83665 n83666 c83667) 61 1 n83666 cl83668) :: (.blk l84475 (rec84477 .busy none)) :: (.blk d84476 (.deferred (some []))) :: (.blk b84187 (.cells #[.slice A84553 x84552.length c84555] 22 (0, 0))) :: (.blk b84184 (.cells #[.int .i64 9] 3 (0, 0))) :: (.blk b83703 (.cells #[.pointer (some ⟨b68575, 0, none⟩)] 25 (0, 0))) :: (.blk b68578 (.cells #[.pointer none, .pointer (some ⟨b68575, 0, none⟩)] 25 (0, 0))) :: (.sl (.slice A82413 x82412.length c82415) 3 1 x82412.length cl82416) :: (.sl (.slice A82421 x82420.length c82423) 3 1 x82420.length cl82424) :: (.sl (.slice A84553 x84552.length c84555) 3 1 x84552.length cl84556) :: F) w84670 := s.blkSl (i := 0) (n := 1) (c := 1) (size := 1) rfl rfl (Nat.le_refl _) (by decide)
                              have hs84676 := St.src s (i := 0) rfl rfl rp84673
                              have rq84677 := rp84673
                              obtain ⟨x84678, hx84679, hf⟩ := bindS hf
                              refine RW.op (by kernel_rfl) (OK.app hT (r := (Rp.int .i64)) (i := 11) (t := 22) (e := 3) (size := 1) (bytes := 8) (c := c84555) (n := x84552.length) (m := 1) s (by kernel_rfl) rfl rfl rfl rfl rfl (by decide) rfl rfl rfl rfl rp84558 hs84676 rq84677 flat_int rfl hx84679 ?_)
                              rintro A84680 c84681 cl84682 w84683 s k84684 rp84685
                              replace rp84673 := rp84673.st k84684
                              replace rp83670 := rp83670.st k84684
                              replace rp82418 := rp82418.st k84684
                              replace rp82426 := rp82426.st k84684
                              replace rp84558 := rp84558.st k84684
                              replace eg0 := eg0.st k84684
                              replace kk := kk.trans k84684
                              refine RW.op (by kernel_rfl) (OK.store hT (i := 5) (b := b84187) (off := 0) (n := 1) (vs := [.slice A84680 x84678.length c84681]) (cs := [(.slice A84553 x84552.length c84555)]) (e := 22) s (by kernel_rfl) rfl rfl (flat_ok rfl) (Nat.le_of_ble_eq_true rfl) ?_)
                              rintro w84686 s k84687 -
                              replace rp84673 := rp84673.st k84687
                              replace rp83670 := rp83670.st k84687
                              replace rp82418 := rp82418.st k84687
                              replace rp82426 := rp82426.st k84687
                              replace rp84685 := rp84685.st k84687
                              replace eg0 := eg0.st k84687
                              replace kk := kk.trans k84687
                              refine RW.nil ?_
                              refine RoundEnd.next hrec84478 s (i := 3) rfl ?_
                              intro w84688 s k84689
                              replace rp84673 := rp84673.st k84689
                              replace rp83670 := rp83670.st k84689
                              replace rp82418 := rp82418.st k84689
                              replace rp82426 := rp82426.st k84689
                              replace rp84685 := rp84685.st k84689
                              replace eg0 := eg0.st k84689
                              replace kk := kk.trans k84689
                              refine hR84661 _ _ ?_
                              refine RW.seg hT 1 [] [] [.bool false] [] (by kernel_rfl) (trivial) ?_
                              refine RW.nil ?_
                              refine WPK.condF (by kernel_rfl) ?_
                              refine WPK.skip ?_
                              refine WPK.region ?_
                              refine RW.seg hT 3 [.pointer (some ⟨b68575, 0, none⟩)] [] [.pointer (some ⟨b68575, 0, none⟩), .int .i64 x84551, .int .i64 (IntKind.i64.wrap (x84551 + 1))] [.cell ⟨b83703, 0, none⟩ (.pointer (some ⟨b68575, 0, none⟩))] (by kernel_rfl) (s.cell (i := 7) (off := 0) rfl rfl) ?_
                              replace s := s.pick [1, 2, 0, 3, 4, 5, 6, 7, 8, 9, 10, 11] 12 rfl
                              obtain ⟨x84690, hx84691, hf⟩ := bindS hf
                              refine RW.op (by kernel_rfl) (OK.call' en27 (by kernel_rfl) (c27_1 (F := (.sl (.slice (some ⟨b84671, 0, none⟩) 1 1) 3 1 1 [.int .i64 x84551]) :: (.blk l84475 (rec84477 .ready none)) :: (.blk d84476 (.deferred (some []))) :: (.blk b84187 (.cells #[.slice A84680 x84678.length c84681] 22 (0, 0))) :: (.blk b84184 (.cells #[.int .i64 9] 3 (0, 0))) :: (.blk b83703 (.cells #[.pointer (some ⟨b68575, 0, none⟩)] 25 (0, 0))) :: (.blk b68578 (.cells #[.pointer none, .pointer (some ⟨b68575, 0, none⟩)] 25 (0, 0))) :: (.sl (.slice A82413 x82412.length c82415) 3 1 x82412.length cl82416) :: (.sl (.slice A82421 x82420.length c82423) 3 1 x82420.length cl82424) :: (.sl (.slice A84680 x84678.length c84681) 3 1 x84678.length cl84682) :: F) x83658.2 (IntKind.i64.wrap (x84551 + 1)) b68575 A83665 n83666 c83667 cl83668 hn83669 rp83670 eg0 s hx84691) ?_)
                              intro X84694 hX84695
                              refine fun _ _ hJ => hJ X84694 ?_
                              intro I84696 w84692 s k84693
                              refine hX84695 _ _ ?_
                              replace rp83670 := rp83670.st k84693
                              replace rp84673 := rp84673.st k84693
                              replace rp82418 := rp82418.st k84693
                              replace rp82426 := rp82426.st k84693
                              replace rp84685 := rp84685.st k84693
                              replace eg0 := eg0.st k84693
                              replace kk := kk.trans k84693
                              refine RW.seg hT 1 [] [] [.int .i64 x84690] [] (by kernel_rfl) (trivial) ?_
                              refine RW.nil ?_
                              subst hrec84629
                              replace s := s.pick [0, 1, 3, 4, 5, 6, 7, 8, 9, 10, 11] 12 rfl
                              exact ⟨n84628, Nat.le_refl _, fun X h => kc (by kernel_rfl) rfl (h I84696 x84690 x84678 [(D84550.getD 0 undef), (D84550.getD 1 undef), (D84550.getD 2 undef), .int .i64 x84551, .bool (decide (x84551 ≥ 0)), .pointer (some ⟨b68575, 0, none⟩), .int .i64 x84551, .int .i64 (IntKind.i64.wrap (x84551 + 1)), .int .i64 x84690, .func (.yield l84475) #[] #[], .int .i64 x84551, .bool true, .bool false] A84680 c84681 cl84682 _ hf s kk rp84685 rp83670 rp82418 rp82426 eg0)⟩
                          · have hf := iteF h84631 hf
                            refine WPK.condF (Eq.trans (b := .bool (decide (x84551 ≥ 0))) (by kernel_rfl) (bo_f h84631)) ?_
                            refine WPK.exit (blockQ.same ?_)
                            refine Fin.of (rs := []) hT [] (.tuple #[]) [] rfl (by kernel_rfl) (trivial) ?_
                            refine hR84482 _ _ (RangeEnd.done hrec84478 s (i := 2) rfl ?_)
                            intro w84697 s k84698
                            replace rp83670 := rp83670.st k84698
                            replace rp82418 := rp82418.st k84698
                            replace rp82426 := rp82426.st k84698
                            replace rp84558 := rp84558.st k84698
                            replace eg0 := eg0.st k84698
                            replace kk := kk.trans k84698
                            replace s := s.pick [0, 1, 3, 6, 7, 8, 9, 2] 10 rfl
                            exact fun X h => kc (by kernel_rfl) rfl (h I84561 x84552 d84476 [.func (.func 45) #[] #[.pointer (some ⟨b83703, 0, none⟩)], .int .i64 9, undef, .pointer (some ⟨b84184, 0, none⟩), undef, .func (.func 45) #[] #[.pointer (some ⟨b83703, 0, none⟩)], .bool false, .func (.func 45) #[] #[.pointer (some ⟨b83703, 0, none⟩)], undef, undef, undef, undef, undef, undef, undef, undef, undef] A84553 c84555 cl84556 _ hf s kk rp84558 rp83670 rp82418 rp82426 eg0)
        · refine WPK.seq ?_
          refine WPK.region ?_
          refine RW.seg hT 1 [] [] [.func (.func 31) #[] #[.pointer (some ⟨b80003, 0, none⟩)]] [] (by kernel_rfl) (trivial) ?_
          refine RW.nil ?_
          refine WPK.block ?_
          refine WPK.range (gf := 31) (first := []) (cap := [.pointer (some ⟨b80003, 0, none⟩)]) s (by kernel_rfl) en31 ?_
          intro l84704 d84705 rec84706 w84708 R84710 hrec84707 s k84709 hR84711
          replace rp73501 := rp73501.st k84709
          replace rp73509 := rp73509.st k84709
          replace eg0 := eg0.st k84709
          replace kk := kk.trans k84709
          refine Ret.of Tryd.func31 rfl ?_
          refine WPK.seq ?_
          refine WPK.region ?_
          refine RW.seg hT 1 [.pointer (some ⟨b68575, 0, none⟩)] [] [.pointer (some ⟨b68575, 0, none⟩)] [.cell ⟨b80003, 0, none⟩ (.pointer (some ⟨b68575, 0, none⟩))] (by kernel_rfl) (s.cell (i := 5) (off := 0) rfl rfl) ?_
          replace s := s.pushNil 61 1
          replace s := s.pick [8, 0, 1, 2, 3, 4, 5, 6, 7, 9, 10] 11 rfl
          obtain ⟨x84713, hx84714, hf⟩ := bindS hf
          refine RW.op (by kernel_rfl) (OK.call' en16 (by kernel_rfl) (c16_1 (F := (.blk l84704 (rec84706 .ready none)) :: (.blk d84705 (.deferred (some []))) :: (.blk b81620 (.cells #[.slice none 0 0] 22 (0, 0))) :: (.blk b81617 (.cells #[.slice none 0 0] 22 (0, 0))) :: (.blk b81614 (.cells #[.int .i64 9] 3 (0, 0))) :: (.blk b80003 (.cells #[.pointer (some ⟨b68575, 0, none⟩)] 25 (0, 0))) :: (.blk b68578 (.cells #[.pointer none, .pointer (some ⟨b68575, 0, none⟩)] 25 (0, 0))) :: (.sl (.slice A73496 x73495.length c73498) 3 1 x73495.length cl73499) :: (.sl (.slice A73504 x73503.length c73506) 3 1 x73503.length cl73507) :: F) (T_extent_Set.mk 0 ([] : List Int)) b68575 none 0 0 [] rfl (RepL.nil (r := (Rp.int .u64))) s hx84714) ?_)
          intro X84717 hX84718
          refine fun _ _ hJ => hJ X84717 ?_ ?_
          · intro I84719 w84715 hv s k84716
            refine hX84718 _ _ ?_
            replace hf := optN hv hf
            replace rp73501 := rp73501.st k84716
            replace rp73509 := rp73509.st k84716
            replace eg0 := eg0.st k84716
            replace kk := kk.trans k84716
            refine RW.seg hT 1 [] [] [.pointer none] [] (by kernel_rfl) (trivial) ?_
            refine RW.nil ?_
            refine WPK.seq ?_
            refine WPK.region ?_
            refine RW.seg hT 1 [.pointer (some ⟨b68575, 0, none⟩)] [] [.pointer (some ⟨b68575, 0, none⟩)] [.cell ⟨b80003, 0, none⟩ (.pointer (some ⟨b68575, 0, none⟩))] (by kernel_rfl) (s.cell (i := 7) (off := 0) rfl rfl) ?_
            obtain ⟨x84730, hx84731, hf⟩ := bindS hf
            refine RW.op (by kernel_rfl) (OK.call' en27 (by kernel_rfl) (c27_1 (F := (.blk l84704 (rec84706 .ready none)) :: (.blk d84705 (.deferred (some []))) :: (.blk b81620 (.cells #[.slice none 0 0] 22 (0, 0))) :: (.blk b81617 (.cells #[.slice none 0 0] 22 (0, 0))) :: (.blk b81614 (.cells #[.int .i64 9] 3 (0, 0))) :: (.blk b80003 (.cells #[.pointer (some ⟨b68575, 0, none⟩)] 25 (0, 0))) :: (.blk b68578 (.cells #[.pointer none, .pointer (some ⟨b68575, 0, none⟩)] 25 (0, 0))) :: (.sl (.slice A73496 x73495.length c73498) 3 1 x73495.length cl73499) :: (.sl (.slice A73504 x73503.length c73506) 3 1 x73503.length cl73507) :: F) (T_extent_Set.mk 0 ([] : List Int)) 0 b68575 none 0 0 [] rfl (RepL.nil (r := (Rp.int .u64))) eg0 s hx84731) ?_)
            intro X84734 hX84735
            refine fun _ _ hJ => hJ X84734 ?_
            intro I84736 w84732 s k84733
            refine hX84735 _ _ ?_
            replace rp73501 := rp73501.st k84733
            replace rp73509 := rp73509.st k84733
            replace eg0 := eg0.st k84733
            replace kk := kk.trans k84733
            refine RW.seg hT 1 [] [] [.int .i64 x84730] [] (by kernel_rfl) (trivial) ?_
            refine RW.nil ?_
            refine WPK.block ?_
            replace s := s.pushNil 3 1
            replace s := s.pushNil 3 1
            replace s := s.pick [2, 3, 4, 5, 6, 7, 8, 9, 10, 11, 12, 1, 0] 13 rfl
            refine WPK.loop' (J := fun n84983 E ds wz => ∀ X : Kont, (∀ (I84867 : Nat → Prop) (x84849 : Int) (x84850 : (List Int)) (x84858 : (List Int)) (D84848 : List Value) (A84851 : Option Addr) (c84853 : Nat) (cl84854 : List Value) (A84859 : Option Addr) (c84861 : Nat) (cl84862 : List Value) (w' : World), g7_l7 p0 n84983 x84849 x84850 x84858 = some r → St w0 M I84867 ((.blk b68575 (.cells #[.int .i64 0, .slice none 0 0] 53 (0, 0))) :: (.sl (.slice none 0 0) 61 1 0 []) :: (.blk l84704 (rec84706 .ready none)) :: (.blk d84705 (.deferred (some []))) :: (.blk b81620 (.cells #[.slice A84851 x84850.length c84853] 22 (0, 0))) :: (.blk b81617 (.cells #[.slice A84859 x84858.length c84861] 22 (0, 0))) :: (.blk b81614 (.cells #[.int .i64 9] 3 (0, 0))) :: (.blk b80003 (.cells #[.pointer (some ⟨b68575, 0, none⟩)] 25 (0, 0))) :: (.blk b68578 (.cells #[.pointer none, .pointer (some ⟨b68575, 0, none⟩)] 25 (0, 0))) :: (.sl (.slice A73496 x73495.length c73498) 3 1 x73495.length cl73499) :: (.sl (.slice A73504 x73503.length c73506) 3 1 x73503.length cl73507) :: (.sl (.slice A84851 x84850.length c84853) 3 1 x84850.length cl84854) :: (.sl (.slice A84859 x84858.length c84861) 3 1 x84858.length cl84862) :: F) w' → Kp I w I84867 w' → RepL (Rp.int .i64) I84867 w' cl84854 x84850 → RepL (Rp.int .i64) I84867 w' cl84862 x84858 → RepL (Rp.int .i64) I84867 w' cl73499 x73495 → RepL (Rp.int .i64) I84867 w' cl73507 x73503 → Elems (Rp.int .u8) I84867 w' (some ⟨0, 0, none⟩) TAB0 → X [.func (.yield l84704) #[] #[], .pointer (some ⟨b80003, 0, none⟩), (D84848.getD 0 undef), .pointer none, .int .i64 x84849, (D84848.getD 1 undef), (D84848.getD 2 undef), (D84848.getD 3 undef), (D84848.getD 4 undef), (D84848.getD 5 undef), (D84848.getD 6 undef), (D84848.getD 7 undef), (D84848.getD 8 undef), (D84848.getD 9 undef), (D84848.getD 10 undef), (D84848.getD 11 undef), (D84848.getD 12 undef), (D84848.getD 13 undef), (D84848.getD 14 undef), (D84848.getD 15 undef), (D84848.getD 16 undef), (D84848.getD 17 undef), (D84848.getD 18 undef), (D84848.getD 19 undef), (D84848.getD 20 undef), (D84848.getD 21 undef), (D84848.getD 22 undef), (D84848.getD 23 undef), (D84848.getD 24 undef), (D84848.getD 25 undef), (D84848.getD 26 undef)] [] w') → X E ds wz) FUEL (fun X h => kc (by kernel_rfl) rfl (h I84736 x84730 ([] : List Int) ([] : List Int) [undef, undef, .pointer (some ⟨b68575, 0, none⟩), .pointer none, .pointer (some ⟨b68575, 0, none⟩), .int .i64 x84730, undef, undef, undef, undef, undef, undef, undef, undef, undef, undef, undef, undef, undef, undef, undef, undef, undef, undef, undef, undef, undef] none 0 [] none 0 [] _ hf s kk (RepL.nil (r := (Rp.int .i64))) (RepL.nil (r := (Rp.int .i64))) rp73501 rp73509 eg0)) (fun _ _ _ hJ => hJ (fun _ _ _ => False) (by intro I84867 x84849 x84850 x84858 D84848 A84851 c84853 cl84854 A84859 c84861 cl84862 w84866 hf s kk rp84856 rp84864 rp73501 rp73509 eg0; exact noneS hf)) ?_
            intro X85105 hX85106
            refine fun n84983 _ _ _ hJ => hJ (X85105 n84983) ?_
            intro I84867 x84849 x84850 x84858 D84848 A84851 c84853 cl84854 A84859 c84861 cl84862 w84866 hf s kk rp84856 rp84864 rp73501 rp73509 eg0
            refine hX85106 _ _ _ _ ?_
            replace hf : g7_l7B p0 (g7_l7 p0 n84983) x84849 x84850 x84858 = some r := hf
            generalize hrec84984 : g7_l7 p0 n84983 = rec84982 at hf
            unfold g7_l7B at hf
            refine WPK.seq ?_
            refine WPK.seq ?_
            refine WPK.region ?_
            refine RW.seg hT 2 [] [] [.int .i64 x84849, .bool (decide (x84849 ≥ 0))] [] (by kernel_rfl) (trivial) ?_
            refine RW.nil ?_
            by_cases h84986 : x84849 ≥ 0
            · have hf := iteT h84986 hf
              refine WPK.condT (Eq.trans (b := .bool (decide (x84849 ≥ 0))) (by kernel_rfl) (bo_t h84986)) ?_
              refine WPK.skip ?_
              refine WPK.block ?_
              refine WPK.seq ?_
              refine WPK.region ?_
              refine RW.seg hT 2 [] [] [.pointer none, .int .i64 x84849] [] (by kernel_rfl) (trivial) ?_
              obtain ⟨x84987, hx84988, hf⟩ := bindS hf
              refine RW.op (by kernel_rfl) (OK.call' en27 (by kernel_rfl) (c27 (F := (.blk b68575 (.cells #[.int .i64 0, .slice none 0 0] 53 (0, 0))) :: (.sl (.slice none 0 0) 61 1 0 []) :: (.blk l84704 (rec84706 .ready none)) :: (.blk d84705 (.deferred (some []))) :: (.blk b81620 (.cells #[.slice A84851 x84850.length c84853] 22 (0, 0))) :: (.blk b81617 (.cells #[.slice A84859 x84858.length c84861] 22 (0, 0))) :: (.blk b81614 (.cells #[.int .i64 9] 3 (0, 0))) :: (.blk b80003 (.cells #[.pointer (some ⟨b68575, 0, none⟩)] 25 (0, 0))) :: (.blk b68578 (.cells #[.pointer none, .pointer (some ⟨b68575, 0, none⟩)] 25 (0, 0))) :: (.sl (.slice A73496 x73495.length c73498) 3 1 x73495.length cl73499) :: (.sl (.slice A73504 x73503.length c73506) 3 1 x73503.length cl73507) :: (.sl (.slice A84851 x84850.length c84853) 3 1 x84850.length cl84854) :: (.sl (.slice A84859 x84858.length c84861) 3 1 x84858.length cl84862) :: F) x84849 s hx84988) ?_)
              intro X84991 hX84992
              refine fun _ _ hJ => hJ X84991 ?_
              intro I84993 w84989 s k84990
              refine hX84992 _ _ ?_
              replace rp73501 := rp73501.st k84990
              replace rp73509 := rp73509.st k84990
              replace rp84856 := rp84856.st k84990
              replace rp84864 := rp84864.st k84990
              replace eg0 := eg0.st k84990
              replace kk := kk.trans k84990
              refine RW.seg hT 1 [] [] [.int .i64 x84987] [] (by kernel_rfl) (trivial) ?_
              refine RW.nil ?_
              refine WPK.seq ?_
              refine WPK.cut' (fun E ds wz => ∀ X : Kont, (∀ (x84996 : Int) (D84995 : List Value), g7_j8 p0 x84849 x84850 x84858 rec84982 x84996 = some r → X [.func (.yield l84704) #[] #[], .pointer (some ⟨b80003, 0, none⟩), (D84995.getD 0 undef), .pointer none, .int .i64 x84849, .int .i64 x84996, (D84995.getD 1 undef), (D84995.getD 2 undef), (D84995.getD 3 undef), (D84995.getD 4 undef), .int .i64 x84849, .bool (decide (x84849 ≥ 0)), (D84995.getD 5 undef), (D84995.getD 6 undef), .int .i64 x84987, .int .i64 x84987, .bool (decide (x84987 < 0)), (D84995.getD 7 undef), (D84995.getD 8 undef), (D84995.getD 9 undef), (D84995.getD 10 undef), (D84995.getD 11 undef), (D84995.getD 12 undef), (D84848.getD 19 undef), (D84848.getD 20 undef), (D84995.getD 13 undef), (D84848.getD 22 undef), (D84848.getD 23 undef), (D84995.getD 14 undef), (D84995.getD 15 undef), (D84848.getD 26 undef)] [] w84989) → X E ds wz) ?_ ?_
              · intro X85098 hX85099
                refine fun _ _ _ hJ => hJ X85098 ?_
                intro x84996 D84995 hf
                refine hX85099 _ _ _ ?_
                unfold g7_j8 at hf
                refine WPK.seq ?_
                refine WPK.seq ?_
                refine WPK.region ?_
                refine RW.seg hT 5 [] [] [.func (.yield l84704) #[] #[], .int .i64 x84849, .int .i64 x84996, .int .i64 x84849, .int .i64 (IntKind.i64.wrap (x84996 - x84849))] [] (by kernel_rfl) (trivial) ?_
                refine RW.op (by kernel_rfl) (OK.yield (args := [.int .i64 x84849, .int .i64 (IntKind.i64.wrap (x84996 - x84849))]) hrec84707 s (i := 2) rfl (by kernel_rfl) rfl ?_)
                intro R85043 hR85044
                refine WPK.seq ?_
                refine WPK.region ?_
                refine RW.seg hT 1 [] [] [.int .i64 x84849] [] (by kernel_rfl) (trivial) ?_
                refine RW.nil ?_
                refine WPK.region ?_
                refine RW.seg hT 1 [] [] [.int .i64 (IntKind.i64.wrap (x84996 - x84849))] [] (by kernel_rfl) (trivial) ?_
                refine RW.nil ?_
                refine RoundBeg.of hrec84707 s (i := 2) rfl ?_
                intro w85045 s k85046
                replace rp73501 := rp73501.st k85046
                replace rp73509 := rp73509.st k85046
                replace rp84856 := rp84856.st k85046
                replace rp84864 := rp84864.st k85046
                replace eg0 := eg0.st k85046
                replace kk := kk.trans k85046
                refine WPK.block ?_
                refine WPK.seq ?_
                refine WPK.seq ?_
                refine WPK.region ?_
                refine RW.seg hT 4 [.slice A84859 x84858.length c84861, .int .i64 9] [(16, .int .i64 (x84858.length : Int))] [.slice A84859 x84858.length c84861, .int .i64 (x84858.length : Int), .int .i64 9, .bool (decide ((x84858.length : Int) ≥ 9))] [.cell ⟨b81617, 0, none⟩ (.slice A84859 x84858.length c84861), .veq (.int .i64 (x84858.length : Nat)) (.int .i64 (x84858.length : Int)), .cell ⟨b81614, 0, none⟩ (.int .i64 9)] (by kernel_rfl) (⟨s.cell (i := 5) (off := 0) rfl rfl, len_v rfl, s.cell (i := 6) (off := 0) rfl rfl⟩) ?_
                refine RW.nil ?_
                by_cases h85048 : (x84858.length : Int) ≥ 9
                · have hf := iteT h85048 hf
                  refine WPK.condT (Eq.trans (b := .bool (decide ((x84858.length : Int) ≥ 9))) (by kernel_rfl) (bo_t h85048)) ?_
                  refine WPK.exit (blockQ.other rfl (?_))
                  refine RoundEnd.stop (Code.exit 0) hrec84707 s (i := 2) rfl ?_
                  intro w85049 s k85050
                  replace rp73501 := rp73501.st k85050
                  replace rp73509 := rp73509.st k85050
                  replace rp84856 := rp84856.st k85050
                  replace rp84864 := rp84864.st k85050
                  replace eg0 := eg0.st k85050
                  replace kk := kk.trans k85050
                  refine hR85044 _ _ ?_
                  refine RW.seg hT 1 [] [] [.bool true] [] (by kernel_rfl) (trivial) ?_
                  refine RW.nil ?_
                  refine WPK.condT (by kernel_rfl) ?_
                  refine WPK.ret (blockQ.ret (blockQ.ret (?_)))
                  refine Fin.of (rs := []) hT [] (.tuple #[]) [] rfl (by kernel_rfl) (trivial) ?_
                  refine hR84711 _ _ (RangeEnd.jump hrec84707 s (i := 2) rfl ?_)
                  intro w85051 s k85052
                  replace rp73501 := rp73501.st k85052
                  replace rp73509 := rp73509.st k85052
                  replace rp84856 := rp84856.st k85052
                  replace rp84864 := rp84864.st k85052
                  replace eg0 := eg0.st k85052
                  replace kk := kk.trans k85052
                  refine WPK.exit (blockQ.same ?_)
                  replace s := s.pick [0, 1, 3, 4, 7, 8, 9, 10, 11, 2] 12 rfl
                  exact fun X h => kc (by kernel_rfl) rfl (h I84993 ([] : List Int) x84850 x84858 d84705 [.func (.func 31) #[] #[.pointer (some ⟨b80003, 0, none⟩)], .int .i64 9, undef, .pointer (some ⟨b81614, 0, none⟩), undef, undef, .func (.func 31) #[] #[.pointer (some ⟨b80003, 0, none⟩)], .bool false, .func (.func 31) #[] #[.pointer (some ⟨b80003, 0, none⟩)], undef, undef, undef, undef, undef, undef, undef, undef, undef, undef, undef, undef, undef, undef] none 0 [] A84851 c84853 cl84854 A84859 c84861 cl84862 _ hf s kk (RepL.nil (r := (Rp.int .u64))) rp84856 rp84864 rp73501 rp73509 eg0)
                · have hf := iteF h85048 hf
                  refine WPK.condF (Eq.trans (b := .bool (decide ((x84858.length : Int) ≥ 9))) (by kernel_rfl) (bo_f h85048)) ?_
                  refine WPK.skip ?_
                  refine WPK.seq ?_
                  refine WPK.region ?_
                  refine RW.seg hT 2 [.slice A84859 x84858.length c84861] [] [.slice A84859 x84858.length c84861, .int .i64 x84849] [.cell ⟨b81617, 0, none⟩ (.slice A84859 x84858.length c84861)] (by kernel_rfl) (s.cell (i := 5) (off := 0) rfl rfl) ?_
                  refine RW.op (by kernel_rfl) (OK.new hT (f := fun b => .slice (some ⟨b, 0, none⟩) 1 1) (cs := [.int .i64 x84849]) (e := 3) (c := .tt) s (by kernel_rfl) trivial ?_)
                  rintro w85053 b85054 s k85055 -
                  replace rp73501 := rp73501.st k85055
                  replace rp73509 := rp73509.st k85055
                  replace rp84856 := rp84856.st k85055
                  replace rp84864 := rp84864.st k85055
                  replace eg0 := eg0.st k85055
                  replace kk := kk.trans k85055
                  have rp85056 : RepL (Rp.int .i64) I84993 w85053 [.int .i64 x84849] ([x84849] : List Int) := RepL.cons (c := [.int .i64 x84849]) (d := []) (rfl) (RepL.nil)
                  replace s : St w0 M I84993 ((.sl (.slice (some ⟨b85054, 0, none⟩) 1 1) 3 1 1 [.int .i64 x84849]) :: (.blk b68575 (.cells #[.int .i64 0, .slice none 0 0] 53 (0, 0))) :: (.sl (.slice none 0 0) 61 1 0 []) :: (.blk l84704 (rec84706 .busy none)) :: (.blk d84705 (.deferred (some []))) :: (.blk b81620 (.cells #[.slice A84851 x84850.length c84853] 22 (0, 0))) :: (.blk b81617 (.cells #[.slice A84859 x84858.length c84861] 22 (0, 0))) :: (.blk b81614 (.cells #[.int .i64 9] 3 (0, 0))) :: (.blk b80003 (.cells #[.pointer (some ⟨b68575, 0, none⟩)] 25 (0, 0))) :: (.blk b68578 (.cells #[.pointer none, .pointer (some ⟨b68575, 0, none⟩)] 25 (0, 0))) :: (.sl (.slice A73496 x73495.length c73498) 3 1 x73495.length cl73499) :: (.sl (.slice A73504 x73503.length c73506) 3 1 x73503.length cl73507) :: (.sl (.slice A84851 x84850.length c84853) 3 1 x84850.length cl84854) :: (.sl (.slice A84859 x84858.length c84861) 3 1 x84858.length cl84862) :: F) w85053 := s.blkSl (i := 0) (n := 1) (c := 1) (size := 1) rfl rfl (Nat.le_refl _) (by decide)
                  have hs85059 := St.src s (i := 0) rfl rfl rp85056
                  have rq85060 := rp85056
                  obtain ⟨x85061, hx85062, hf⟩ := bindS hf
                  refine RW.op (by kernel_rfl) (OK.app hT (r := (Rp.int .i64)) (i := 13) (t := 22) (e := 3) (size := 1) (bytes := 8) (c := c84861) (n := x84858.length) (m := 1) s (by kernel_rfl) rfl rfl rfl rfl rfl (by decide) rfl rfl rfl rfl rp84864 hs85059 rq85060 flat_int rfl hx85062 ?_)
                  rintro A85063 c85064 cl85065 w85066 s k85067 rp85068
                  replace rp85056 := rp85056.st k85067
                  replace rp73501 := rp73501.st k85067
                  replace rp73509 := rp73509.st k85067
                  replace rp84856 := rp84856.st k85067
                  replace rp84864 := rp84864.st k85067
                  replace eg0 := eg0.st k85067
                  replace kk := kk.trans k85067
                  refine RW.op (by kernel_rfl) (OK.store hT (i := 6) (b := b81617) (off := 0) (n := 1) (vs := [.slice A85063 x85061.length c85064]) (cs := [(.slice A84859 x84858.length c84861)]) (e := 22) s (by kernel_rfl) rfl rfl (flat_ok rfl) (Nat.le_of_ble_eq_true rfl) ?_)
                  rintro w85069 s k85070 -
                  replace rp85056 := rp85056.st k85070
                  replace rp73501 := rp73501.st k85070
                  replace rp73509 := rp73509.st k85070
                  replace rp84856 := rp84856.st k85070
                  replace rp85068 := rp85068.st k85070
                  replace eg0 := eg0.st k85070
                  replace kk := kk.trans k85070
                  refine RW.nil ?_
                  refine WPK.region ?_
                  refine RW.seg hT 2 [.slice A84851 x84850.length c84853] [] [.slice A84851 x84850.length c84853, .int .i64 (IntKind.i64.wrap (x84996 - x84849))] [.cell ⟨b81620, 0, none⟩ (.slice A84851 x84850.length c84853)] (by kernel_rfl) (s.cell (i := 5) (off := 0) rfl rfl) ?_
                  refine RW.op (by kernel_rfl) (OK.new hT (f := fun b => .slice (some ⟨b, 0, none⟩) 1 1) (cs := [.int .i64 (IntKind.i64.wrap (x84996 - x84849))]) (e := 3) (c := .tt) s (by kernel_rfl) trivial ?_)
                  rintro w85071 b85072 s k85073 -
                  replace rp85056 := rp85056.st k85073
                  replace rp73501 := rp73501.st k85073
                  replace rp73509 := rp73509.st k85073
                  replace rp84856 := rp84856.st k85073
                  replace rp85068 := rp85068.st k85073
                  replace eg0 := eg0.st k85073
                  replace kk := kk.trans k85073
                  have rp85074 : RepL (Rp.int .i64) I84993 w85071 [.int .i64 (IntKind.i64.wrap (x84996 - x84849))] ([IntKind.i64.wrap (x84996 - x84849)] : List Int) := RepL.cons (c := [.int .i64 (IntKind.i64.wrap (x84996 - x84849))]) (d := []) (rfl) (RepL.nil)
                  replace s : St w0 M I84993 ((.sl (.slice (some ⟨b85072, 0, none⟩) 1 1) 3 1 1 [.int .i64 (IntKind.i64.wrap (x84996 - x84849))]) :: (.sl (.slice (some ⟨b85054, 0, none⟩) 1 1) 3 1 1 [.int .i64 x84849]) :: (.blk b68575 (.cells #[.int .i64 0, .slice none 0 0] 53 (0, 0))) :: (.sl (.slice none 0 0) 61 1 0 []) :: (.blk l84704 (rec84706 .busy none)) :: (.blk d84705 (.deferred (some []))) :: (.blk b81620 (.cells #[.slice A84851 x84850.length c84853] 22 (0, 0))) :: (.blk b81617 (.cells #[.slice A85063 x85061.length c85064] 22 (0, 0))) :: (.blk b81614 (.cells #[.int .i64 9] 3 (0, 0))) :: (.blk b80003 (.cells #[.pointer (some ⟨b68575, 0, none⟩)] 25 (0, 0))) :: (.blk b68578 (.cells #[.pointer none, .pointer (some ⟨b68575, 0, none⟩)] 25 (0, 0))) :: (.sl (.slice A73496 x73495.length c73498) 3 1 x73495.length cl73499) :: (.sl (.slice A73504 x73503.length c73506) 3 1 x73503.length cl73507) :: (.sl (.slice A84851 x84850.length c84853) 3 1 x84850.length cl84854) :: (.sl (.slice A85063 x85061.length c85064) 3 1 x85061.length cl85065) :: F) w85071 := s.blkSl (i := 0) (n := 1) (c := 1) (size := 1) rfl rfl (Nat.le_refl _) (by decide)
                  have hs85077 := St.src s (i := 0) rfl rfl rp85074
                  have rq85078 := rp85074
                  obtain ⟨x85079, hx85080, hf⟩ := bindS hf
                  refine RW.op (by kernel_rfl) (OK.app hT (r := (Rp.int .i64)) (i := 13) (t := 22) (e := 3) (size := 1) (bytes := 8) (c := c84853) (n := x84850.length) (m := 1) s (by kernel_rfl) rfl rfl rfl rfl rfl (by decide) rfl rfl rfl rfl rp84856 hs85077 rq85078 flat_int rfl hx85080 ?_)
                  rintro A85081 c85082 cl85083 w85084 s k85085 rp85086
                  replace rp85074 := rp85074.st k85085
                  replace rp85056 := rp85056.st k85085
                  replace rp73501 := rp73501.st k85085
                  replace rp73509 := rp73509.st k85085
                  replace rp84856 := rp84856.st k85085
                  replace rp85068 := rp85068.st k85085
                  replace eg0 := eg0.st k85085
                  replace kk := kk.trans k85085
                  refine RW.op (by kernel_rfl) (OK.store hT (i := 6) (b := b81620) (off := 0) (n := 1) (vs := [.slice A85081 x85079.length c85082]) (cs := [(.slice A84851 x84850.length c84853)]) (e := 22) s (by kernel_rfl) rfl rfl (flat_ok rfl) (Nat.le_of_ble_eq_true rfl) ?_)
                  rintro w85087 s k85088 -
                  replace rp85074 := rp85074.st k85088
                  replace rp85056 := rp85056.st k85088
                  replace rp73501 := rp73501.st k85088
                  replace rp73509 := rp73509.st k85088
                  replace rp85086 := rp85086.st k85088
                  replace rp85068 := rp85068.st k85088
                  replace eg0 := eg0.st k85088
                  replace kk := kk.trans k85088
                  refine RW.nil ?_
                  refine RoundEnd.next hrec84707 s (i := 4) rfl ?_
                  intro w85089 s k85090
                  replace rp85074 := rp85074.st k85090
                  replace rp85056 := rp85056.st k85090
                  replace rp73501 := rp73501.st k85090
                  replace rp73509 := rp73509.st k85090
                  replace rp85086 := rp85086.st k85090
                  replace rp85068 := rp85068.st k85090
                  replace eg0 := eg0.st k85090
                  replace kk := kk.trans k85090
                  refine hR85044 _ _ ?_
                  refine RW.seg hT 1 [] [] [.bool false] [] (by kernel_rfl) (trivial) ?_
                  refine RW.nil ?_
                  refine WPK.condF (by kernel_rfl) ?_
                  refine WPK.skip ?_
                  refine WPK.region ?_
                  refine RW.seg hT 2 [.pointer (some ⟨b68575, 0, none⟩)] [] [.pointer (some ⟨b68575, 0, none⟩), .int .i64 x84996] [.cell ⟨b80003, 0, none⟩ (.pointer (some ⟨b68575, 0, none⟩))] (by kernel_rfl) (s.cell (i := 9) (off := 0) rfl rfl) ?_
                  replace s := s.pick [2, 3, 0, 1, 4, 5, 6, 7, 8, 9, 10, 11, 12, 13, 14] 15 rfl
                  obtain ⟨x85091, hx85092, hf⟩ := bindS hf
                  refine RW.op (by kernel_rfl) (OK.call' en27 (by kernel_rfl) (c27_1 (F := (.sl (.slice (some ⟨b85072, 0, none⟩) 1 1) 3 1 1 [.int .i64 (IntKind.i64.wrap (x84996 - x84849))]) :: (.sl (.slice (some ⟨b85054, 0, none⟩) 1 1) 3 1 1 [.int .i64 x84849]) :: (.blk l84704 (rec84706 .ready none)) :: (.blk d84705 (.deferred (some []))) :: (.blk b81620 (.cells #[.slice A85081 x85079.length c85082] 22 (0, 0))) :: (.blk b81617 (.cells #[.slice A85063 x85061.length c85064] 22 (0, 0))) :: (.blk b81614 (.cells #[.int .i64 9] 3 (0, 0))) :: (.blk b80003 (.cells #[.pointer (some ⟨b68575, 0, none⟩)] 25 (0, 0))) :: (.blk b68578 (.cells #[.pointer none, .pointer (some ⟨b68575, 0, none⟩)] 25 (0, 0))) :: (.sl (.slice A73496 x73495.length c73498) 3 1 x73495.length cl73499) :: (.sl (.slice A73504 x73503.length c73506) 3 1 x73503.length cl73507) :: (.sl (.slice A85081 x85079.length c85082) 3 1 x85079.length cl85083) :: (.sl (.slice A85063 x85061.length c85064) 3 1 x85061.length cl85065) :: F) (T_extent_Set.mk 0 ([] : List Int)) x84996 b68575 none 0 0 [] rfl (RepL.nil (r := (Rp.int .u64))) eg0 s hx85092) ?_)
                  intro X85095 hX85096
                  refine fun _ _ hJ => hJ X85095 ?_
                  intro I85097 w85093 s k85094
                  refine hX85096 _ _ ?_
                  replace rp85074 := rp85074.st k85094
                  replace rp85056 := rp85056.st k85094
                  replace rp73501 := rp73501.st k85094
                  replace rp73509 := rp73509.st k85094
                  replace rp85086 := rp85086.st k85094
                  replace rp85068 := rp85068.st k85094
                  replace eg0 := eg0.st k85094
                  replace kk := kk.trans k85094
                  refine RW.seg hT 1 [] [] [.int .i64 x85091] [] (by kernel_rfl) (trivial) ?_
                  refine RW.nil ?_
                  subst hrec84984
                  replace s := s.pick [0, 1, 4, 5, 6, 7, 8, 9, 10, 11, 12, 13, 14] 15 rfl
                  exact ⟨n84983, Nat.le_refl _, fun X h => kc (by kernel_rfl) rfl (h I85097 x85091 x85079 x85061 [(D84995.getD 0 undef), .int .i64 x84996, (D84995.getD 1 undef), (D84995.getD 2 undef), (D84995.getD 3 undef), (D84995.getD 4 undef), .int .i64 x84849, .bool (decide (x84849 ≥ 0)), (D84995.getD 5 undef), (D84995.getD 6 undef), .int .i64 x84987, .int .i64 x84987, .bool (decide (x84987 < 0)), (D84995.getD 7 undef), (D84995.getD 8 undef), (D84995.getD 9 undef), (D84995.getD 10 undef), .func (.yield l84704) #[] #[], .int .i64 x84849, .int .i64 x84996, .int .i64 x84849, .int .i64 (IntKind.i64.wrap (x84996 - x84849)), .bool true, .bool false, .pointer (some ⟨b68575, 0, none⟩), .int .i64 x84996, .int .i64 x85091] A85081 c85082 cl85083 A85063 c85064 cl85065 _ hf s kk rp85086 rp85068 rp73501 rp73509 eg0)⟩
              · refine WPK.seq ?_
                refine WPK.region ?_
                refine RW.seg hT 2 [] [] [.int .i64 x84987, .bool (decide (x84987 < 0))] [] (by kernel_rfl) (trivial) ?_
                refine RW.nil ?_
                by_cases h85100 : x84987 < 0
                · have hf := iteT h85100 hf
                  refine WPK.condT (Eq.trans (b := .bool (decide (x84987 < 0))) (by kernel_rfl) (bo_t h85100)) ?_
                  refine WPK.region ?_
                  refine RW.seg hT 5 [.pointer (some ⟨b68575, 0, none⟩), .int .i64 0] [] [.pointer (some ⟨b68575, 0, none⟩), .pointer (some ⟨b68575, 0, none⟩), .pointer (some ⟨b68575, 0, none⟩), .int .i64 0, .int .i64 0] [.cell ⟨b80003, 0, none⟩ (.pointer (some ⟨b68575, 0, none⟩)), .cell ⟨b68575, 0, none⟩ (.int .i64 0)] (by kernel_rfl) (⟨s.cell (i := 7) (off := 0) rfl rfl, s.cell (i := 0) (off := 0) rfl rfl⟩) ?_
                  refine RW.nil ?_
                  exact fun X h => kc (by kernel_rfl) rfl (h 0 [(D84848.getD 0 undef), (D84848.getD 2 undef), (D84848.getD 3 undef), (D84848.getD 4 undef), (D84848.getD 5 undef), .pointer none, .int .i64 x84849, .pointer (some ⟨b68575, 0, none⟩), .pointer (some ⟨b68575, 0, none⟩), .pointer (some ⟨b68575, 0, none⟩), .int .i64 0, (D84848.getD 17 undef), (D84848.getD 18 undef), (D84848.getD 21 undef), (D84848.getD 24 undef), (D84848.getD 25 undef)] hf)
                · have hf := iteF h85100 hf
                  refine WPK.condF (Eq.trans (b := .bool (decide (x84987 < 0))) (by kernel_rfl) (bo_f h85100)) ?_
                  refine WPK.skip ?_
                  exact fun X h => kc (by kernel_rfl) rfl (h x84987 [(D84848.getD 0 undef), (D84848.getD 2 undef), (D84848.getD 3 undef), (D84848.getD 4 undef), (D84848.getD 5 undef), .pointer none, .int .i64 x84849, (D84848.getD 13 undef), (D84848.getD 14 undef), (D84848.getD 15 undef), (D84848.getD 16 undef), (D84848.getD 17 undef), (D84848.getD 18 undef), (D84848.getD 21 undef), (D84848.getD 24 undef), (D84848.getD 25 undef)] hf)
            · have hf := iteF h84986 hf
              refine WPK.condF (Eq.trans (b := .bool (decide (x84849 ≥ 0))) (by kernel_rfl) (bo_f h84986)) ?_
              refine WPK.exit (blockQ.same ?_)
              refine Fin.of (rs := []) hT [] (.tuple #[]) [] rfl (by kernel_rfl) (trivial) ?_
              refine hR84711 _ _ (RangeEnd.done hrec84707 s (i := 2) rfl ?_)
              intro w85101 s k85102
              replace rp73501 := rp73501.st k85102
              replace rp73509 := rp73509.st k85102
              replace rp84856 := rp84856.st k85102
              replace rp84864 := rp84864.st k85102
              replace eg0 := eg0.st k85102
              replace kk := kk.trans k85102
              replace s := s.pick [0, 1, 3, 4, 7, 8, 9, 10, 11, 2] 12 rfl
              exact fun X h => kc (by kernel_rfl) rfl (h I84867 ([] : List Int) x84850 x84858 d84705 [.func (.func 31) #[] #[.pointer (some ⟨b80003, 0, none⟩)], .int .i64 9, undef, .pointer (some ⟨b81614, 0, none⟩), undef, undef, .func (.func 31) #[] #[.pointer (some ⟨b80003, 0, none⟩)], .bool false, .func (.func 31) #[] #[.pointer (some ⟨b80003, 0, none⟩)], undef, undef, undef, undef, undef, undef, undef, undef, undef, undef, undef, undef, undef, undef] none 0 [] A84851 c84853 cl84854 A84859 c84861 cl84862 _ hf s kk (RepL.nil (r := (Rp.int .u64))) rp84856 rp84864 rp73501 rp73509 eg0)
          · intro x84721 I84720 b84722 A84723 n84724 c84725 cl84726 w84715 hv s k84716 hn84727 rp84728
            refine hX84718 _ _ ?_
            replace hf := optS hv hf
            replace rp73501 := rp73501.st k84716
            replace rp73509 := rp73509.st k84716
            replace eg0 := eg0.st k84716
            replace kk := kk.trans k84716
            refine RW.seg hT 1 [] [] [.pointer (some ⟨b84722, 0, none⟩)] [] (by kernel_rfl) (trivial) ?_
            refine RW.nil ?_
            refine WPK.seq ?_
            refine WPK.region ?_
            refine RW.seg hT 1 [.pointer (some ⟨b68575, 0, none⟩)] [] [.pointer (some ⟨b68575, 0, none⟩)] [.cell ⟨b80003, 0, none⟩ (.pointer (some ⟨b68575, 0, none⟩))] (by kernel_rfl) (s.cell (i := 9) (off := 0) rfl rfl) ?_
            replace s := s.pick [2, 3, 0, 1, 4, 5, 6, 7, 8, 9, 10, 11, 12] 13 rfl
            obtain ⟨x85107, hx85108, hf⟩ := bindS hf
            refine RW.op (by kernel_rfl) (OK.call' en27 (by kernel_rfl) (c27_1 (F := (.blk b84722 (.cells #[.int .i64 x84721.n, .slice A84723 n84724 c84725] 53 (0, 0))) :: (.sl (.slice A84723 n84724 c84725) 61 1 n84724 cl84726) :: (.blk l84704 (rec84706 .ready none)) :: (.blk d84705 (.deferred (some []))) :: (.blk b81620 (.cells #[.slice none 0 0] 22 (0, 0))) :: (.blk b81617 (.cells #[.slice none 0 0] 22 (0, 0))) :: (.blk b81614 (.cells #[.int .i64 9] 3 (0, 0))) :: (.blk b80003 (.cells #[.pointer (some ⟨b68575, 0, none⟩)] 25 (0, 0))) :: (.blk b68578 (.cells #[.pointer none, .pointer (some ⟨b68575, 0, none⟩)] 25 (0, 0))) :: (.sl (.slice A73496 x73495.length c73498) 3 1 x73495.length cl73499) :: (.sl (.slice A73504 x73503.length c73506) 3 1 x73503.length cl73507) :: F) (T_extent_Set.mk 0 ([] : List Int)) 0 b68575 none 0 0 [] rfl (RepL.nil (r := (Rp.int .u64))) eg0 s hx85108) ?_)
            intro X85111 hX85112
            refine fun _ _ hJ => hJ X85111 ?_
            intro I85113 w85109 s k85110
            refine hX85112 _ _ ?_
            replace rp84728 := rp84728.st k85110
            replace rp73501 := rp73501.st k85110
            replace rp73509 := rp73509.st k85110
            replace eg0 := eg0.st k85110
            replace kk := kk.trans k85110
            refine RW.seg hT 1 [] [] [.int .i64 x85107] [] (by kernel_rfl) (trivial) ?_
            refine RW.nil ?_
            refine WPK.block ?_
            replace s := s.pushNil 3 1
            replace s := s.pushNil 3 1
            replace s := s.pick [2, 3, 4, 5, 6, 7, 8, 9, 10, 11, 12, 13, 14, 1, 0] 15 rfl
            refine WPK.loop' (J := fun n85360 E ds wz => ∀ X : Kont, (∀ (I85244 : Nat → Prop) (x85226 : Int) (x85227 : (List Int)) (x85235 : (List Int)) (D85225 : List Value) (A85228 : Option Addr) (c85230 : Nat) (cl85231 : List Value) (A85236 : Option Addr) (c85238 : Nat) (cl85239 : List Value) (w' : World), g7_l9 p0 x84721 n85360 x85226 x85227 x85235 = some r → St w0 M I85244 ((.blk b68575 (.cells #[.int .i64 0, .slice none 0 0] 53 (0, 0))) :: (.sl (.slice none 0 0) 61 1 0 []) :: (.blk b84722 (.cells #[.int .i64 x84721.n, .slice A84723 n84724 c84725] 53 (0, 0))) :: (.sl (.slice A84723 n84724 c84725) 61 1 n84724 cl84726) :: (.blk l84704 (rec84706 .ready none)) :: (.blk d84705 (.deferred (some []))) :: (.blk b81620 (.cells #[.slice A85228 x85227.length c85230] 22 (0, 0))) :: (.blk b81617 (.cells #[.slice A85236 x85235.length c85238] 22 (0, 0))) :: (.blk b81614 (.cells #[.int .i64 9] 3 (0, 0))) :: (.blk b80003 (.cells #[.pointer (some ⟨b68575, 0, none⟩)] 25 (0, 0))) :: (.blk b68578 (.cells #[.pointer none, .pointer (some ⟨b68575, 0, none⟩)] 25 (0, 0))) :: (.sl (.slice A73496 x73495.length c73498) 3 1 x73495.length cl73499) :: (.sl (.slice A73504 x73503.length c73506) 3 1 x73503.length cl73507) :: (.sl (.slice A85228 x85227.length c85230) 3 1 x85227.length cl85231) :: (.sl (.slice A85236 x85235.length c85238) 3 1 x85235.length cl85239) :: F) w' → Kp I w I85244 w' → RepL (Rp.int .i64) I85244 w' cl85231 x85227 → RepL (Rp.int .i64) I85244 w' cl85239 x85235 → RepL (Rp.int .u64) I85244 w' cl84726 x84721.w → RepL (Rp.int .i64) I85244 w' cl73499 x73495 → RepL (Rp.int .i64) I85244 w' cl73507 x73503 → Elems (Rp.int .u8) I85244 w' (some ⟨0, 0, none⟩) TAB0 → X [.func (.yield l84704) #[] #[], .pointer (some ⟨b80003, 0, none⟩), (D85225.getD 0 undef), .pointer (some ⟨b84722, 0, none⟩), .int .i64 x85226, (D85225.getD 1 undef), (D85225.getD 2 undef), (D85225.getD 3 undef), (D85225.getD 4 undef), (D85225.getD 5 undef), (D85225.getD 6 undef), (D85225.getD 7 undef), (D85225.getD 8 undef), (D85225.getD 9 undef), (D85225.getD 10 undef), (D85225.getD 11 undef), (D85225.getD 12 undef), (D85225.getD 13 undef), (D85225.getD 14 undef), (D85225.getD 15 undef), (D85225.getD 16 undef), (D85225.getD 17 undef), (D85225.getD 18 undef), (D85225.getD 19 undef), (D85225.getD 20 undef), (D85225.getD 21 undef), (D85225.getD 22 undef), (D85225.getD 23 undef), (D85225.getD 24 undef), (D85225.getD 25 undef), (D85225.getD 26 undef)] [] w') → X E ds wz) FUEL (fun X h => kc (by kernel_rfl) rfl (h I85113 x85107 ([] : List Int) ([] : List Int) [undef, undef, .pointer (some ⟨b68575, 0, none⟩), .pointer (some ⟨b84722, 0, none⟩), .pointer (some ⟨b68575, 0, none⟩), .int .i64 x85107, undef, undef, undef, undef, undef, undef, undef, undef, undef, undef, undef, undef, undef, undef, undef, undef, undef, undef, undef, undef, undef] none 0 [] none 0 [] _ hf s kk (RepL.nil (r := (Rp.int .i64))) (RepL.nil (r := (Rp.int .i64))) rp84728 rp73501 rp73509 eg0)) (fun _ _ _ hJ => hJ (fun _ _ _ => False) (by intro I85244 x85226 x85227 x85235 D85225 A85228 c85230 cl85231 A85236 c85238 cl85239 w85243 hf s kk rp85233 rp85241 rp84728 rp73501 rp73509 eg0; exact noneS hf)) ?_
            intro X85482 hX85483
            refine fun n85360 _ _ _ hJ => hJ (X85482 n85360) ?_
            intro I85244 x85226 x85227 x85235 D85225 A85228 c85230 cl85231 A85236 c85238 cl85239 w85243 hf s kk rp85233 rp85241 rp84728 rp73501 rp73509 eg0
            refine hX85483 _ _ _ _ ?_
            replace hf : g7_l9B p0 x84721 (g7_l9 p0 x84721 n85360) x85226 x85227 x85235 = some r := hf
            generalize hrec85361 : g7_l9 p0 x84721 n85360 = rec85359 at hf
            unfold g7_l9B at hf
            refine WPK.seq ?_
            refine WPK.seq ?_
            refine WPK.region ?_
            refine RW.seg hT 2 [] [] [.int .i64 x85226, .bool (decide (x85226 ≥ 0))] [] (by kernel_rfl) (trivial) ?_
            refine RW.nil ?_
            by_cases h85363 : x85226 ≥ 0
            · have hf := iteT h85363 hf
              refine WPK.condT (Eq.trans (b := .bool (decide (x85226 ≥ 0))) (by kernel_rfl) (bo_t h85363)) ?_
              refine WPK.skip ?_
              refine WPK.block ?_
              refine WPK.seq ?_
              refine WPK.region ?_
              refine RW.seg hT 2 [] [] [.pointer (some ⟨b84722, 0, none⟩), .int .i64 x85226] [] (by kernel_rfl) (trivial) ?_
              replace s := s.pick [2, 3, 0, 1, 4, 5, 6, 7, 8, 9, 10, 11, 12, 13, 14] 15 rfl
              obtain ⟨x85364, hx85365, hf⟩ := bindS hf
              refine RW.op (by kernel_rfl) (OK.call' en27 (by kernel_rfl) (c27_1 (F := (.blk b68575 (.cells #[.int .i64 0, .slice none 0 0] 53 (0, 0))) :: (.sl (.slice none 0 0) 61 1 0 []) :: (.blk l84704 (rec84706 .ready none)) :: (.blk d84705 (.deferred (some []))) :: (.blk b81620 (.cells #[.slice A85228 x85227.length c85230] 22 (0, 0))) :: (.blk b81617 (.cells #[.slice A85236 x85235.length c85238] 22 (0, 0))) :: (.blk b81614 (.cells #[.int .i64 9] 3 (0, 0))) :: (.blk b80003 (.cells #[.pointer (some ⟨b68575, 0, none⟩)] 25 (0, 0))) :: (.blk b68578 (.cells #[.pointer none, .pointer (some ⟨b68575, 0, none⟩)] 25 (0, 0))) :: (.sl (.slice A73496 x73495.length c73498) 3 1 x73495.length cl73499) :: (.sl (.slice A73504 x73503.length c73506) 3 1 x73503.length cl73507) :: (.sl (.slice A85228 x85227.length c85230) 3 1 x85227.length cl85231) :: (.sl (.slice A85236 x85235.length c85238) 3 1 x85235.length cl85239) :: F) x84721 x85226 b84722 A84723 n84724 c84725 cl84726 hn84727 rp84728 eg0 s hx85365) ?_)
              intro X85368 hX85369
              refine fun _ _ hJ => hJ X85368 ?_
              intro I85370 w85366 s k85367
              refine hX85369 _ _ ?_
              replace rp84728 := rp84728.st k85367
              replace rp73501 := rp73501.st k85367
              replace rp73509 := rp73509.st k85367
              replace rp85233 := rp85233.st k85367
              replace rp85241 := rp85241.st k85367
              replace eg0 := eg0.st k85367
              replace kk := kk.trans k85367
              refine RW.seg hT 1 [] [] [.int .i64 x85364] [] (by kernel_rfl) (trivial) ?_
              refine RW.nil ?_
              refine WPK.seq ?_
              refine WPK.cut' (fun E ds wz => ∀ X : Kont, (∀ (x85373 : Int) (D85372 : List Value), g7_j10 p0 x85226 x85227 x85235 rec85359 x85373 = some r → X [.func (.yield l84704) #[] #[], .pointer (some ⟨b80003, 0, none⟩), (D85372.getD 0 undef), .pointer (some ⟨b84722, 0, none⟩), .int .i64 x85226, .int .i64 x85373, (D85372.getD 1 undef), (D85372.getD 2 undef), (D85372.getD 3 undef), (D85372.getD 4 undef), .int .i64 x85226, .bool (decide (x85226 ≥ 0)), (D85372.getD 5 undef), (D85372.getD 6 undef), .int .i64 x85364, .int .i64 x85364, .bool (decide (x85364 < 0)), (D85372.getD 7 undef), (D85372.getD 8 undef), (D85372.getD 9 undef), (D85372.getD 10 undef), (D85372.getD 11 undef), (D85372.getD 12 undef), (D85225.getD 19 undef), (D85225.getD 20 undef), (D85372.getD 13 undef), (D85225.getD 22 undef), (D85225.getD 23 undef), (D85372.getD 14 undef), (D85372.getD 15 undef), (D85225.getD 26 undef)] [] w85366) → X E ds wz) ?_ ?_
              · intro X85475 hX85476
                refine fun _ _ _ hJ => hJ X85475 ?_
                intro x85373 D85372 hf
                refine hX85476 _ _ _ ?_
                unfold g7_j10 at hf
                refine WPK.seq ?_
                refine WPK.seq ?_
                refine WPK.region ?_
                refine RW.seg hT 5 [] [] [.func (.yield l84704) #[] #[], .int .i64 x85226, .int .i64 x85373, .int .i64 x85226, .int .i64 (IntKind.i64.wrap (x85373 - x85226))] [] (by kernel_rfl) (trivial) ?_
                refine RW.op (by kernel_rfl) (OK.yield (args := [.int .i64 x85226, .int .i64 (IntKind.i64.wrap (x85373 - x85226))]) hrec84707 s (i := 4) rfl (by kernel_rfl) rfl ?_)
                intro R85420 hR85421
                refine WPK.seq ?_
                refine WPK.region ?_
                refine RW.seg hT 1 [] [] [.int .i64 x85226] [] (by kernel_rfl) (trivial) ?_
                refine RW.nil ?_
                refine WPK.region ?_
                refine RW.seg hT 1 [] [] [.int .i64 (IntKind.i64.wrap (x85373 - x85226))] [] (by kernel_rfl) (trivial) ?_
                refine RW.nil ?_
                refine RoundBeg.of hrec84707 s (i := 4) rfl ?_
                intro w85422 s k85423
                replace rp84728 := rp84728.st k85423
                replace rp73501 := rp73501.st k85423
                replace rp73509 := rp73509.st k85423
                replace rp85233 := rp85233.st k85423
                replace rp85241 := rp85241.st k85423
                replace eg0 := eg0.st k85423
                replace kk := kk.trans k85423
                refine WPK.block ?_
                refine WPK.seq ?_
                refine WPK.seq ?_
                refine WPK.region ?_
                refine RW.seg hT 4 [.slice A85236 x85235.length c85238, .int .i64 9] [(16, .int .i64 (x85235.length : Int))] [.slice A85236 x85235.length c85238, .int .i64 (x85235.length : Int), .int .i64 9, .bool (decide ((x85235.length : Int) ≥ 9))] [.cell ⟨b81617, 0, none⟩ (.slice A85236 x85235.length c85238), .veq (.int .i64 (x85235.length : Nat)) (.int .i64 (x85235.length : Int)), .cell ⟨b81614, 0, none⟩ (.int .i64 9)] (by kernel_rfl) (⟨s.cell (i := 7) (off := 0) rfl rfl, len_v rfl, s.cell (i := 8) (off := 0) rfl rfl⟩) ?_
                refine RW.nil ?_
                by_cases h85425 : (x85235.length : Int) ≥ 9
                · have hf := iteT h85425 hf
                  refine WPK.condT (Eq.trans (b := .bool (decide ((x85235.length : Int) ≥ 9))) (by kernel_rfl) (bo_t h85425)) ?_
                  refine WPK.exit (blockQ.other rfl (?_))
                  refine RoundEnd.stop (Code.exit 0) hrec84707 s (i := 4) rfl ?_
                  intro w85426 s k85427
                  replace rp84728 := rp84728.st k85427
                  replace rp73501 := rp73501.st k85427
                  replace rp73509 := rp73509.st k85427
                  replace rp85233 := rp85233.st k85427
                  replace rp85241 := rp85241.st k85427
                  replace eg0 := eg0.st k85427
                  replace kk := kk.trans k85427
                  refine hR85421 _ _ ?_
                  refine RW.seg hT 1 [] [] [.bool true] [] (by kernel_rfl) (trivial) ?_
                  refine RW.nil ?_
                  refine WPK.condT (by kernel_rfl) ?_
                  refine WPK.ret (blockQ.ret (blockQ.ret (?_)))
                  refine Fin.of (rs := []) hT [] (.tuple #[]) [] rfl (by kernel_rfl) (trivial) ?_
                  refine hR84711 _ _ (RangeEnd.jump hrec84707 s (i := 4) rfl ?_)
                  intro w85428 s k85429
                  replace rp84728 := rp84728.st k85429
                  replace rp73501 := rp73501.st k85429
                  replace rp73509 := rp73509.st k85429
                  replace rp85233 := rp85233.st k85429
                  replace rp85241 := rp85241.st k85429
                  replace eg0 := eg0.st k85429
                  replace kk := kk.trans k85429
                  refine WPK.exit (blockQ.same ?_)
                  replace s := s.pick [2, 3, 5, 6, 9, 10, 11, 12, 13, 4] 14 rfl
                  exact fun X h => kc (by kernel_rfl) rfl (h I85370 ([] : List Int) x85227 x85235 d84705 [.func (.func 31) #[] #[.pointer (some ⟨b80003, 0, none⟩)], .int .i64 9, undef, .pointer (some ⟨b81614, 0, none⟩), undef, undef, .func (.func 31) #[] #[.pointer (some ⟨b80003, 0, none⟩)], .bool false, .func (.func 31) #[] #[.pointer (some ⟨b80003, 0, none⟩)], undef, undef, undef, undef, undef, undef, undef, undef, undef, undef, undef, undef, undef, undef] none 0 [] A85228 c85230 cl85231 A85236 c85238 cl85239 _ hf s kk (RepL.nil (r := (Rp.int .u64))) rp85233 rp85241 rp73501 rp73509 eg0)
                · have hf := iteF h85425 hf
                  refine WPK.condF (Eq.trans (b := .bool (decide ((x85235.length : Int) ≥ 9))) (by kernel_rfl) (bo_f h85425)) ?_
                  refine WPK.skip ?_
                  refine WPK.seq ?_
                  refine WPK.region ?_
                  refine RW.seg hT 2 [.slice A85236 x85235.length c85238] [] [.slice A85236 x85235.length c85238, .int .i64 x85226] [.cell ⟨b81617, 0, none⟩ (.slice A85236 x85235.length c85238)] (by kernel_rfl) (s.cell (i := 7) (off := 0) rfl rfl) ?_
                  refine RW.op (by kernel_rfl) (OK.new hT (f := fun b => .slice (some ⟨b, 0, none⟩) 1 1) (cs := [.int .i64 x85226]) (e := 3) (c := .tt) s (by kernel_rfl) trivial ?_)
                  rintro w85430 b85431 s k85432 -
                  replace rp84728 := rp84728.st k85432
                  replace rp73501 := rp73501.st k85432
                  replace rp73509 := rp73509.st k85432
                  replace rp85233 := rp85233.st k85432
                  replace rp85241 := rp85241.st k85432
                  replace eg0 := eg0.st k85432
                  replace kk := kk.trans k85432
                  have rp85433 : RepL (Rp.int .i64) I85370 w85430 [.int .i64 x85226] ([x85226] : List Int) := RepL.cons (c := [.int .i64 x85226]) (d := []) (rfl) (RepL.nil)
                  replace s : St w0 M I85370 ((.sl (.slice (some ⟨b85431, 0, none⟩) 1 1) 3 1 1 [.int .i64 x85226]) :: (.blk b84722 (.cells #[.int .i64 x84721.n, .slice A84723 n84724 c84725] 53 (0, 0))) :: (.sl (.slice A84723 n84724 c84725) 61 1 n84724 cl84726) :: (.blk b68575 (.cells #[.int .i64 0, .slice none 0 0] 53 (0, 0))) :: (.sl (.slice none 0 0) 61 1 0 []) :: (.blk l84704 (rec84706 .busy none)) :: (.blk d84705 (.deferred (some []))) :: (.blk b81620 (.cells #[.slice A85228 x85227.length c85230] 22 (0, 0))) :: (.blk b81617 (.cells #[.slice A85236 x85235.length c85238] 22 (0, 0))) :: (.blk b81614 (.cells #[.int .i64 9] 3 (0, 0))) :: (.blk b80003 (.cells #[.pointer (some ⟨b68575, 0, none⟩)] 25 (0, 0))) :: (.blk b68578 (.cells #[.pointer none, .pointer (some ⟨b68575, 0, none⟩)] 25 (0, 0))) :: (.sl (.slice A73496 x73495.length c73498) 3 1 x73495.length cl73499) :: (.sl (.slice A73504 x73503.length c73506) 3 1 x73503.length cl73507) :: (.sl (.slice A85228 x85227.length c85230) 3 1 x85227.length cl85231) :: (.sl (.slice A85236 x85235.length c85238) 3 1 x85235.length cl85239) :: F) w85430 := s.blkSl (i := 0) (n := 1) (c := 1) (size := 1) rfl rfl (Nat.le_refl _) (by decide)
                  have hs85436 := St.src s (i := 0) rfl rfl rp85433
                  have rq85437 := rp85433
                  obtain ⟨x85438, hx85439, hf⟩ := bindS hf
                  refine RW.op (by kernel_rfl) (OK.app hT (r := (Rp.int .i64)) (i := 15) (t := 22) (e := 3) (size := 1) (bytes := 8) (c := c85238) (n := x85235.length) (m := 1) s (by kernel_rfl) rfl rfl rfl rfl rfl (by decide) rfl rfl rfl rfl rp85241 hs85436 rq85437 flat_int rfl hx85439 ?_)
                  rintro A85440 c85441 cl85442 w85443 s k85444 rp85445
                  replace rp85433 := rp85433.st k85444
                  replace rp84728 := rp84728.st k85444
                  replace rp73501 := rp73501.st k85444
                  replace rp73509 := rp73509.st k85444
                  replace rp85233 := rp85233.st k85444
                  replace rp85241 := rp85241.st k85444
                  replace eg0 := eg0.st k85444
                  replace kk := kk.trans k85444
                  refine RW.op (by kernel_rfl) (OK.store hT (i := 8) (b := b81617) (off := 0) (n := 1) (vs := [.slice A85440 x85438.length c85441]) (cs := [(.slice A85236 x85235.length c85238)]) (e := 22) s (by kernel_rfl) rfl rfl (flat_ok rfl) (Nat.le_of_ble_eq_true rfl) ?_)
                  rintro w85446 s k85447 -
                  replace rp85433 := rp85433.st k85447
                  replace rp84728 := rp84728.st k85447
                  replace rp73501 := rp73501.st k85447
                  replace rp73509 := rp73509.st k85447
                  replace rp85233 := rp85233.st k85447
                  replace rp85445 := rp85445.st k85447
                  replace eg0 := eg0.st k85447
                  replace kk := kk.trans k85447
                  refine RW.nil ?_
                  refine WPK.region ?_
                  refine RW.seg hT 2 [.slice A85228 x85227.length c85230] [] [.slice A85228 x85227.length c85230, .int .i64 (IntKind.i64.wrap (x85373 - x85226))] [.cell ⟨b81620, 0, none⟩ (.slice A85228 x85227.length c85230)] (by kernel_rfl) (s.cell (i := 7) (off := 0) rfl rfl) ?_
                  refine RW.op (by kernel_rfl) (OK.new hT (f := fun b => .slice (some ⟨b, 0, none⟩) 1 1) (cs := [.int .i64 (IntKind.i64.wrap (x85373 - x85226))]) (e := 3) (c := .tt) s (by kernel_rfl) trivial ?_)
                  rintro w85448 b85449 s k85450 -
                  replace rp85433 := rp85433.st k85450
                  replace rp84728 := rp84728.st k85450
                  replace rp73501 := rp73501.st k85450
                  replace rp73509 := rp73509.st k85450
                  replace rp85233 := rp85233.st k85450
                  replace rp85445 := rp85445.st k85450
                  replace eg0 := eg0.st k85450
                  replace kk := kk.trans k85450
                  have rp85451 : RepL (Rp.int .i64) I85370 w85448 [.int .i64 (IntKind.i64.wrap (x85373 - x85226))] ([IntKind.i64.wrap (x85373 - x85226)] : List Int) := RepL.cons (c := [.int .i64 (IntKind.i64.wrap (x85373 - x85226))]) (d := []) (rfl) (RepL.nil)
                  replace s : St w0 M I85370 ((.sl (.slice (some ⟨b85449, 0, none⟩) 1 1) 3 1 1 [.int .i64 (IntKind.i64.wrap (x85373 - x85226))]) :: (.sl (.slice (some ⟨b85431, 0, none⟩) 1 1) 3 1 1 [.int .i64 x85226]) :: (.blk b84722 (.cells #[.int .i64 x84721.n, .slice A84723 n84724 c84725] 53 (0, 0))) :: (.sl (.slice A84723 n84724 c84725) 61 1 n84724 cl84726) :: (.blk b68575 (.cells #[.int .i64 0, .slice none 0 0] 53 (0, 0))) :: (.sl (.slice none 0 0) 61 1 0 []) :: (.blk l84704 (rec84706 .busy none)) :: (.blk d84705 (.deferred (some []))) :: (.blk b81620 (.cells #[.slice A85228 x85227.length c85230] 22 (0, 0))) :: (.blk b81617 (.cells #[.slice A85440 x85438.length c85441] 22 (0, 0))) :: (.blk b81614 (.cells #[.int .i64 9] 3 (0, 0))) :: (.blk b80003 (.cells #[.pointer (some ⟨b68575, 0, none⟩)] 25 (0, 0))) :: (.blk b68578 (.cells #[.pointer none, .pointer (some ⟨b68575, 0, none⟩)] 25 (0, 0))) :: (.sl (.slice A73496 x73495.length c73498) 3 1 x73495.length cl73499) :: (.sl (.slice A73504 x73503.length c73506) 3 1 x73503.length cl73507) :: (.sl (.slice A85228 x85227.length c85230) 3 1 x85227.length cl85231) :: (.sl (.slice A85440 x85438.length c85441) 3 1 x85438.length cl85442) :: F) w85448 := s.blkSl (i := 0) (n := 1) (c := 1) (size := 1) rfl rfl (Nat.le_refl _) (by decide)
                  have hs85454 := St.src s (i := 0) rfl rfl rp85451
                  have rq85455 := rp85451
                  obtain ⟨x85456, hx85457, hf⟩ := bindS hf
                  refine RW.op (by kernel_rfl) (OK.app hT (r := (Rp.int .i64)) (i := 15) (t := 22) (e := 3) (size := 1) (bytes := 8) (c := c85230) (n := x85227.length) (m := 1) s (by kernel_rfl) rfl rfl rfl rfl rfl (by decide) rfl rfl rfl rfl rp85233 hs85454 rq85455 flat_int rfl hx85457 ?_)
                  rintro A85458 c85459 cl85460 w85461 s k85462 rp85463
                  replace rp85451 := rp85451.st k85462
                  replace rp85433 := rp85433.st k85462
                  replace rp84728 := rp84728.st k85462
                  replace rp73501 := rp73501.st k85462
                  replace rp73509 := rp73509.st k85462
                  replace rp85233 := rp85233.st k85462
                  replace rp85445 := rp85445.st k85462
                  replace eg0 := eg0.st k85462
                  replace kk := kk.trans k85462
                  refine RW.op (by kernel_rfl) (OK.store hT (i := 8) (b := b81620) (off := 0) (n := 1) (vs := [.slice A85458 x85456.length c85459]) (cs := [(.slice A85228 x85227.length c85230)]) (e := 22) s (by kernel_rfl) rfl rfl (flat_ok rfl) (Nat.le_of_ble_eq_true rfl) ?_)
                  rintro w85464 s k85465 -
                  replace rp85451 := rp85451.st k85465
                  replace rp85433 := rp85433.st k85465
                  replace rp84728 := rp84728.st k85465
                  replace rp73501 := rp73501.st k85465
                  replace rp73509 := rp73509.st k85465
                  replace rp85463 := rp85463.st k85465
                  replace rp85445 := rp85445.st k85465
                  replace eg0 := eg0.st k85465
                  replace kk := kk.trans k85465
                  refine RW.nil ?_
                  refine RoundEnd.next hrec84707 s (i := 6) rfl ?_
                  intro w85466 s k85467
                  replace rp85451 := rp85451.st k85467
                  replace rp85433 := rp85433.st k85467
                  replace rp84728 := rp84728.st k85467
                  replace rp73501 := rp73501.st k85467
                  replace rp73509 := rp73509.st k85467
                  replace rp85463 := rp85463.st k85467
                  replace rp85445 := rp85445.st k85467
                  replace eg0 := eg0.st k85467
                  replace kk := kk.trans k85467
                  refine hR85421 _ _ ?_
                  refine RW.seg hT 1 [] [] [.bool false] [] (by kernel_rfl) (trivial) ?_
                  refine RW.nil ?_
                  refine WPK.condF (by kernel_rfl) ?_
                  refine WPK.skip ?_
                  refine WPK.region ?_
                  refine RW.seg hT 2 [.pointer (some ⟨b68575, 0, none⟩)] [] [.pointer (some ⟨b68575, 0, none⟩), .int .i64 x85373] [.cell ⟨b80003, 0, none⟩ (.pointer (some ⟨b68575, 0, none⟩))] (by kernel_rfl) (s.cell (i := 11) (off := 0) rfl rfl) ?_
                  replace s := s.pick [4, 5, 0, 1, 2, 3, 6, 7, 8, 9, 10, 11, 12, 13, 14, 15, 16] 17 rfl
                  obtain ⟨x85468, hx85469, hf⟩ := bindS hf
                  refine RW.op (by kernel_rfl) (OK.call' en27 (by kernel_rfl) (c27_1 (F := (.sl (.slice (some ⟨b85449, 0, none⟩) 1 1) 3 1 1 [.int .i64 (IntKind.i64.wrap (x85373 - x85226))]) :: (.sl (.slice (some ⟨b85431, 0, none⟩) 1 1) 3 1 1 [.int .i64 x85226]) :: (.blk b84722 (.cells #[.int .i64 x84721.n, .slice A84723 n84724 c84725] 53 (0, 0))) :: (.sl (.slice A84723 n84724 c84725) 61 1 n84724 cl84726) :: (.blk l84704 (rec84706 .ready none)) :: (.blk d84705 (.deferred (some []))) :: (.blk b81620 (.cells #[.slice A85458 x85456.length c85459] 22 (0, 0))) :: (.blk b81617 (.cells #[.slice A85440 x85438.length c85441] 22 (0, 0))) :: (.blk b81614 (.cells #[.int .i64 9] 3 (0, 0))) :: (.blk b80003 (.cells #[.pointer (some ⟨b68575, 0, none⟩)] 25 (0, 0))) :: (.blk b68578 (.cells #[.pointer none, .pointer (some ⟨b68575, 0, none⟩)] 25 (0, 0))) :: (.sl (.slice A73496 x73495.length c73498) 3 1 x73495.length cl73499) :: (.sl (.slice A73504 x73503.length c73506) 3 1 x73503.length cl73507) :: (.sl (.slice A85458 x85456.length c85459) 3 1 x85456.length cl85460) :: (.sl (.slice A85440 x85438.length c85441) 3 1 x85438.length cl85442) :: F) (T_extent_Set.mk 0 ([] : List Int)) x85373 b68575 none 0 0 [] rfl (RepL.nil (r := (Rp.int .u64))) eg0 s hx85469) ?_)
                  intro X85472 hX85473
                  refine fun _ _ hJ => hJ X85472 ?_
                  intro I85474 w85470 s k85471
                  refine hX85473 _ _ ?_
                  replace rp85451 := rp85451.st k85471
                  replace rp85433 := rp85433.st k85471
                  replace rp84728 := rp84728.st k85471
                  replace rp73501 := rp73501.st k85471
                  replace rp73509 := rp73509.st k85471
                  replace rp85463 := rp85463.st k85471
                  replace rp85445 := rp85445.st k85471
                  replace eg0 := eg0.st k85471
                  replace kk := kk.trans k85471
                  refine RW.seg hT 1 [] [] [.int .i64 x85468] [] (by kernel_rfl) (trivial) ?_
                  refine RW.nil ?_
                  subst hrec85361
                  replace s := s.pick [0, 1, 4, 5, 6, 7, 8, 9, 10, 11, 12, 13, 14, 15, 16] 17 rfl
                  exact ⟨n85360, Nat.le_refl _, fun X h => kc (by kernel_rfl) rfl (h I85474 x85468 x85456 x85438 [(D85372.getD 0 undef), .int .i64 x85373, (D85372.getD 1 undef), (D85372.getD 2 undef), (D85372.getD 3 undef), (D85372.getD 4 undef), .int .i64 x85226, .bool (decide (x85226 ≥ 0)), (D85372.getD 5 undef), (D85372.getD 6 undef), .int .i64 x85364, .int .i64 x85364, .bool (decide (x85364 < 0)), (D85372.getD 7 undef), (D85372.getD 8 undef), (D85372.getD 9 undef), (D85372.getD 10 undef), .func (.yield l84704) #[] #[], .int .i64 x85226, .int .i64 x85373, .int .i64 x85226, .int .i64 (IntKind.i64.wrap (x85373 - x85226)), .bool true, .bool false, .pointer (some ⟨b68575, 0, none⟩), .int .i64 x85373, .int .i64 x85468] A85458 c85459 cl85460 A85440 c85441 cl85442 _ hf s kk rp85463 rp85445 rp84728 rp73501 rp73509 eg0)⟩
              · refine WPK.seq ?_
                refine WPK.region ?_
                refine RW.seg hT 2 [] [] [.int .i64 x85364, .bool (decide (x85364 < 0))] [] (by kernel_rfl) (trivial) ?_
                refine RW.nil ?_
                by_cases h85477 : x85364 < 0
                · have hf := iteT h85477 hf
                  refine WPK.condT (Eq.trans (b := .bool (decide (x85364 < 0))) (by kernel_rfl) (bo_t h85477)) ?_
                  refine WPK.region ?_
                  refine RW.seg hT 5 [.pointer (some ⟨b68575, 0, none⟩), .int .i64 0] [] [.pointer (some ⟨b68575, 0, none⟩), .pointer (some ⟨b68575, 0, none⟩), .pointer (some ⟨b68575, 0, none⟩), .int .i64 0, .int .i64 0] [.cell ⟨b80003, 0, none⟩ (.pointer (some ⟨b68575, 0, none⟩)), .cell ⟨b68575, 0, none⟩ (.int .i64 0)] (by kernel_rfl) (⟨s.cell (i := 9) (off := 0) rfl rfl, s.cell (i := 2) (off := 0) rfl rfl⟩) ?_
                  refine RW.nil ?_
                  exact fun X h => kc (by kernel_rfl) rfl (h 0 [(D85225.getD 0 undef), (D85225.getD 2 undef), (D85225.getD 3 undef), (D85225.getD 4 undef), (D85225.getD 5 undef), .pointer (some ⟨b84722, 0, none⟩), .int .i64 x85226, .pointer (some ⟨b68575, 0, none⟩), .pointer (some ⟨b68575, 0, none⟩), .pointer (some ⟨b68575, 0, none⟩), .int .i64 0, (D85225.getD 17 undef), (D85225.getD 18 undef), (D85225.getD 21 undef), (D85225.getD 24 undef), (D85225.getD 25 undef)] hf)
                · have hf := iteF h85477 hf
                  refine WPK.condF (Eq.trans (b := .bool (decide (x85364 < 0))) (by kernel_rfl) (bo_f h85477)) ?_
                  refine WPK.skip ?_
                  exact fun X h => kc (by kernel_rfl) rfl (h x85364 [(D85225.getD 0 undef), (D85225.getD 2 undef), (D85225.getD 3 undef), (D85225.getD 4 undef), (D85225.getD 5 undef), .pointer (some ⟨b84722, 0, none⟩), .int .i64 x85226, (D85225.getD 13 undef), (D85225.getD 14 undef), (D85225.getD 15 undef), (D85225.getD 16 undef), (D85225.getD 17 undef), (D85225.getD 18 undef), (D85225.getD 21 undef), (D85225.getD 24 undef), (D85225.getD 25 undef)] hf)
            · have hf := iteF h85363 hf
              refine WPK.condF (Eq.trans (b := .bool (decide (x85226 ≥ 0))) (by kernel_rfl) (bo_f h85363)) ?_
              refine WPK.exit (blockQ.same ?_)
              refine Fin.of (rs := []) hT [] (.tuple #[]) [] rfl (by kernel_rfl) (trivial) ?_
              refine hR84711 _ _ (RangeEnd.done hrec84707 s (i := 4) rfl ?_)
              intro w85478 s k85479
              replace rp84728 := rp84728.st k85479
              replace rp73501 := rp73501.st k85479
              replace rp73509 := rp73509.st k85479
              replace rp85233 := rp85233.st k85479
              replace rp85241 := rp85241.st k85479
              replace eg0 := eg0.st k85479
              replace kk := kk.trans k85479
              replace s := s.pick [0, 1, 5, 6, 9, 10, 11, 12, 13, 4] 14 rfl
              exact fun X h => kc (by kernel_rfl) rfl (h I85244 ([] : List Int) x85227 x85235 d84705 [.func (.func 31) #[] #[.pointer (some ⟨b80003, 0, none⟩)], .int .i64 9, undef, .pointer (some ⟨b81614, 0, none⟩), undef, undef, .func (.func 31) #[] #[.pointer (some ⟨b80003, 0, none⟩)], .bool false, .func (.func 31) #[] #[.pointer (some ⟨b80003, 0, none⟩)], undef, undef, undef, undef, undef, undef, undef, undef, undef, undef, undef, undef, undef, undef] none 0 [] A85228 c85230 cl85231 A85236 c85238 cl85239 _ hf s kk (RepL.nil (r := (Rp.int .u64))) rp85233 rp85241 rp73501 rp73509 eg0)
    · refine WPK.region ?_
      refine RW.seg hT 1 [] [] [.pointer none] [] (by kernel_rfl) (trivial) ?_
      obtain ⟨x85486, hx85487, hf⟩ := bindS hf
      refine RW.op (by kernel_rfl) (OK.call' en17 (by kernel_rfl) (c17 (F := (.blk b73111 (.cells #[.slice A73496 x73495.length c73498] 22 (0, 0))) :: (.blk b73108 (.cells #[.slice A73504 x73503.length c73506] 22 (0, 0))) :: (.blk b68578 (.cells #[.pointer none, .pointer (some ⟨b68575, 0, none⟩)] 25 (0, 0))) :: (.blk b68575 (.cells #[.int .i64 0, .slice none 0 0] 53 (0, 0))) :: (.sl (.slice A73496 x73495.length c73498) 3 1 x73495.length cl73499) :: (.sl (.slice A73504 x73503.length c73506) 3 1 x73503.length cl73507) :: F) s hx85487) ?_)
      intro X85490 hX85491
      refine fun _ _ hJ => hJ X85490 ?_
      intro I85492 w85488 s k85489
      refine hX85491 _ _ ?_
      replace rp73501 := rp73501.st k85489
      replace rp73509 := rp73509.st k85489
      replace eg0 := eg0.st k85489
      replace kk := kk.trans k85489
      refine RW.seg hT 1 [] [] [.pointer none] [] (by kernel_rfl) (trivial) ?_
      obtain ⟨x85493, hx85494, hf⟩ := bindS hf
      refine RW.op (by kernel_rfl) (OK.call' en14 (by kernel_rfl) (c14 (F := (.blk b73111 (.cells #[.slice A73496 x73495.length c73498] 22 (0, 0))) :: (.blk b73108 (.cells #[.slice A73504 x73503.length c73506] 22 (0, 0))) :: (.blk b68578 (.cells #[.pointer none, .pointer (some ⟨b68575, 0, none⟩)] 25 (0, 0))) :: (.blk b68575 (.cells #[.int .i64 0, .slice none 0 0] 53 (0, 0))) :: (.sl (.slice A73496 x73495.length c73498) 3 1 x73495.length cl73499) :: (.sl (.slice A73504 x73503.length c73506) 3 1 x73503.length cl73507) :: F) s hx85494) ?_)
      intro X85497 hX85498
      refine fun _ _ hJ => hJ X85497 ?_
      intro I85499 w85495 s k85496
      refine hX85498 _ _ ?_
      replace rp73501 := rp73501.st k85496
      replace rp73509 := rp73509.st k85496
      replace eg0 := eg0.st k85496
      replace kk := kk.trans k85496
      refine RW.seg hT 2 [] [(26, .bool (decide ((IntKind.i64.wrap (x85486 + x85493)) ≠ 0)))] [.int .i64 (IntKind.i64.wrap (x85486 + x85493)), .bool (decide ((IntKind.i64.wrap (x85486 + x85493)) ≠ 0))] [.veq (.bool ((IntKind.i64.wrap (x85486 + x85493)) != 0)) (.bool (decide ((IntKind.i64.wrap (x85486 + x85493)) ≠ 0)))] (by kernel_rfl) (ne_v) ?_
      by_cases h85500 : (IntKind.i64.wrap (x85486 + x85493)) ≠ 0
      · have hf := iteT h85500 hf
        refine RW.seg hT 56 [] [(27, .bool true)] [.bool true, undef, undef, undef, undef, .bool true, .bool true, undef, undef, undef, undef, .bool true, .bool true, undef, undef, undef, .bool true, .bool true, undef, undef, undef, undef, .bool true, .bool true, undef, undef, undef, undef, .bool true, .bool true, undef, undef, undef, undef, undef, .bool true, .bool true, undef, undef, undef, .bool true, .bool true, undef, undef, undef, .bool true, .bool true, undef, undef, undef, .bool true, .bool true, undef, undef, undef, .bool true] [.veq (.bool (decide ((IntKind.i64.wrap (x85486 + x85493)) ≠ 0))) (.bool true)] (by kernel_rfl) (bo_t h85500) ?_
        refine RW.nil ?_
        replace s := s.pick [2, 3, 4, 5] 6 rfl
        exact fun X h => kc (by kernel_rfl) rfl (h I85499 x85486 x85493 (IntKind.i64.wrap (x85486 + x85493)) (decide ((IntKind.i64.wrap (x85486 + x85493)) ≠ 0)) true true true true true true true true true true true true true true true true true true true true [undef, undef, .slice A73496 x73495.length c73498, .agg #[.int .i64 0, .slice none 0 0], .pointer (some ⟨b68575, 0, none⟩), .pointer none, .func (.func 31) #[] #[.pointer (some ⟨b72302, 0, none⟩)], .pointer none, .pointer none, undef, undef, undef, undef, undef, undef, undef, undef, undef, undef, undef, undef, undef, undef, undef, undef, undef, undef, undef, undef, undef, undef, undef, undef, undef, undef, undef, undef, undef, undef, undef, undef, undef, undef, undef, undef, undef] _ hf s kk rp73501 rp73509 eg0)
      · have hf := iteF h85500 hf
        refine RW.seg hT 3 [] [(27, .bool false)] [.bool false, .pointer none, .int .i64 p0] [.veq (.bool (decide ((IntKind.i64.wrap (x85486 + x85493)) ≠ 0))) (.bool false)] (by kernel_rfl) (bo_f h85500) ?_
        obtain ⟨x85501, hx85502, hf⟩ := bindS hf
        refine RW.op (by kernel_rfl) (OK.call' en22 (by kernel_rfl) (c22 (F := (.blk b73111 (.cells #[.slice A73496 x73495.length c73498] 22 (0, 0))) :: (.blk b73108 (.cells #[.slice A73504 x73503.length c73506] 22 (0, 0))) :: (.blk b68578 (.cells #[.pointer none, .pointer (some ⟨b68575, 0, none⟩)] 25 (0, 0))) :: (.blk b68575 (.cells #[.int .i64 0, .slice none 0 0] 53 (0, 0))) :: (.sl (.slice A73496 x73495.length c73498) 3 1 x73495.length cl73499) :: (.sl (.slice A73504 x73503.length c73506) 3 1 x73503.length cl73507) :: F) p0 s hx85502) ?_)
        intro X85505 hX85506
        refine fun _ _ hJ => hJ X85505 ?_
        intro I85507 w85503 s k85504
        refine hX85506 _ _ ?_
        replace rp73501 := rp73501.st k85504
        replace rp73509 := rp73509.st k85504
        replace eg0 := eg0.st k85504
        replace kk := kk.trans k85504
        refine RW.seg hT 2 [] [(31, .bool (decide (x85501 ≠ 2)))] [.bool (decide (x85501 ≠ 2)), .bool (decide (x85501 ≠ 2))] [.veq (.bool (x85501 != 2)) (.bool (decide (x85501 ≠ 2)))] (by kernel_rfl) (ne_v) ?_
        by_cases h85508 : x85501 ≠ 2
        · have hf := iteT h85508 hf
          refine RW.seg hT 50 [] [(33, .bool true)] [.bool true, undef, undef, undef, undef, .bool true, .bool true, undef, undef, undef, .bool true, .bool true, undef, undef, undef, undef, .bool true, .bool true, undef, undef, undef, undef, .bool true, .bool true, undef, undef, undef, undef, undef, .bool true, .bool true, undef, undef, undef, .bool true, .bool true, undef, undef, undef, .bool true, .bool true, undef, undef, undef, .bool true, .bool true, undef, undef, undef, .bool true] [.veq (.bool (decide (x85501 ≠ 2))) (.bool true)] (by kernel_rfl) (bo_t h85508) ?_
          refine RW.nil ?_
          replace s := s.pick [2, 3, 4, 5] 6 rfl
          exact fun X h => kc (by kernel_rfl) rfl (h I85507 x85486 x85493 (IntKind.i64.wrap (x85486 + x85493)) (decide ((IntKind.i64.wrap (x85486 + x85493)) ≠ 0)) false (decide (x85501 ≠ 2)) true true true true true true true true true true true true true true true true true true [undef, undef, .slice A73496 x73495.length c73498, .agg #[.int .i64 0, .slice none 0 0], .pointer (some ⟨b68575, 0, none⟩), .pointer none, .func (.func 31) #[] #[.pointer (some ⟨b72302, 0, none⟩)], .pointer none, .pointer none, .pointer none, .int .i64 p0, .int .i64 x85501, .bool (decide (x85501 ≠ 2)), undef, undef, undef, undef, undef, undef, undef, undef, undef, undef, undef, undef, undef, undef, undef, undef, undef, undef, undef, undef, undef, undef, undef, undef, undef, undef, undef, undef, undef, undef, undef, undef, undef] _ hf s kk rp73501 rp73509 eg0)
        · have hf := iteF h85508 hf
          refine RW.seg hT 3 [] [(33, .bool false)] [.bool false, .pointer none, .int .i64 p0] [.veq (.bool (decide (x85501 ≠ 2))) (.bool false)] (by kernel_rfl) (bo_f h85508) ?_
          obtain ⟨x85509, hx85510, hf⟩ := bindS hf
          refine RW.op (by kernel_rfl) (OK.call' en23 (by kernel_rfl) (c23 (F := (.blk b73111 (.cells #[.slice A73496 x73495.length c73498] 22 (0, 0))) :: (.blk b73108 (.cells #[.slice A73504 x73503.length c73506] 22 (0, 0))) :: (.blk b68578 (.cells #[.pointer none, .pointer (some ⟨b68575, 0, none⟩)] 25 (0, 0))) :: (.blk b68575 (.cells #[.int .i64 0, .slice none 0 0] 53 (0, 0))) :: (.sl (.slice A73496 x73495.length c73498) 3 1 x73495.length cl73499) :: (.sl (.slice A73504 x73503.length c73506) 3 1 x73503.length cl73507) :: F) p0 s hx85510) ?_)
          intro X85513 hX85514
          refine fun _ _ hJ => hJ X85513 ?_
          intro I85515 w85511 s k85512
          refine hX85514 _ _ ?_
          replace rp73501 := rp73501.st k85512
          replace rp73509 := rp73509.st k85512
          replace eg0 := eg0.st k85512
          replace kk := kk.trans k85512
          refine RW.seg hT 2 [] [(37, .bool (decide (x85509 ≠ 2)))] [.bool (decide (x85509 ≠ 2)), .bool (decide (x85509 ≠ 2))] [.veq (.bool (x85509 != 2)) (.bool (decide (x85509 ≠ 2)))] (by kernel_rfl) (ne_v) ?_
          by_cases h85516 : x85509 ≠ 2
          · have hf := iteT h85516 hf
            refine RW.seg hT 44 [] [(39, .bool true)] [.bool true, undef, undef, undef, .bool true, .bool true, undef, undef, undef, undef, .bool true, .bool true, undef, undef, undef, undef, .bool true, .bool true, undef, undef, undef, undef, undef, .bool true, .bool true, undef, undef, undef, .bool true, .bool true, undef, undef, undef, .bool true, .bool true, undef, undef, undef, .bool true, .bool true, undef, undef, undef, .bool true] [.veq (.bool (decide (x85509 ≠ 2))) (.bool true)] (by kernel_rfl) (bo_t h85516) ?_
            refine RW.nil ?_
            replace s := s.pick [2, 3, 4, 5] 6 rfl
            exact fun X h => kc (by kernel_rfl) rfl (h I85515 x85486 x85493 (IntKind.i64.wrap (x85486 + x85493)) (decide ((IntKind.i64.wrap (x85486 + x85493)) ≠ 0)) false (decide (x85501 ≠ 2)) false (decide (x85509 ≠ 2)) true true true true true true true true true true true true true true true true [undef, undef, .slice A73496 x73495.length c73498, .agg #[.int .i64 0, .slice none 0 0], .pointer (some ⟨b68575, 0, none⟩), .pointer none, .func (.func 31) #[] #[.pointer (some ⟨b72302, 0, none⟩)], .pointer none, .pointer none, .pointer none, .int .i64 p0, .int .i64 x85501, .bool (decide (x85501 ≠ 2)), .pointer none, .int .i64 p0, .int .i64 x85509, .bool (decide (x85509 ≠ 2)), undef, undef, undef, undef, undef, undef, undef, undef, undef, undef, undef, undef, undef, undef, undef, undef, undef, undef, undef, undef, undef, undef, undef, undef, undef, undef, undef, undef, undef] _ hf s kk rp73501 rp73509 eg0)
          · have hf := iteF h85516 hf
            refine RW.seg hT 3 [] [(39, .bool false)] [.bool false, .pointer none, .int .i64 p0] [.veq (.bool (decide (x85509 ≠ 2))) (.bool false)] (by kernel_rfl) (bo_f h85516) ?_
            obtain ⟨x85517, hx85518, hf⟩ := bindS hf
            refine RW.op (by kernel_rfl) (OK.call' en13 (by kernel_rfl) (c13 (F := (.blk b73111 (.cells #[.slice A73496 x73495.length c73498] 22 (0, 0))) :: (.blk b73108 (.cells #[.slice A73504 x73503.length c73506] 22 (0, 0))) :: (.blk b68578 (.cells #[.pointer none, .pointer (some ⟨b68575, 0, none⟩)] 25 (0, 0))) :: (.blk b68575 (.cells #[.int .i64 0, .slice none 0 0] 53 (0, 0))) :: (.sl (.slice A73496 x73495.length c73498) 3 1 x73495.length cl73499) :: (.sl (.slice A73504 x73503.length c73506) 3 1 x73503.length cl73507) :: F) p0 s hx85518) ?_)
            intro X85521 hX85522
            refine fun _ _ hJ => hJ X85521 ?_
            intro I85523 w85519 s k85520
            refine hX85522 _ _ ?_
            replace rp73501 := rp73501.st k85520
            replace rp73509 := rp73509.st k85520
            replace eg0 := eg0.st k85520
            replace kk := kk.trans k85520
            refine RW.seg hT 1 [] [] [.bool x85517] [] (by kernel_rfl) (trivial) ?_
            by_cases h85524 : x85517 = true
            · have hf := iteT h85524 hf
              refine RW.seg hT 39 [] [(44, .bool true)] [.bool true, undef, undef, undef, undef, .bool true, .bool true, undef, undef, undef, undef, .bool true, .bool true, undef, undef, undef, undef, undef, .bool true, .bool true, undef, undef, undef, .bool true, .bool true, undef, undef, undef, .bool true, .bool true, undef, undef, undef, .bool true, .bool true, undef, undef, undef, .bool true] [.veq (.bool (x85517)) (.bool true)] (by kernel_rfl) (b_t h85524) ?_
              refine RW.nil ?_
              replace s := s.pick [2, 3, 4, 5] 6 rfl
              exact fun X h => kc (by kernel_rfl) rfl (h I85523 x85486 x85493 (IntKind.i64.wrap (x85486 + x85493)) (decide ((IntKind.i64.wrap (x85486 + x85493)) ≠ 0)) false (decide (x85501 ≠ 2)) false (decide (x85509 ≠ 2)) false x85517 true true true true true true true true true true true true true true [undef, undef, .slice A73496 x73495.length c73498, .agg #[.int .i64 0, .slice none 0 0], .pointer (some ⟨b68575, 0, none⟩), .pointer none, .func (.func 31) #[] #[.pointer (some ⟨b72302, 0, none⟩)], .pointer none, .pointer none, .pointer none, .int .i64 p0, .int .i64 x85501, .bool (decide (x85501 ≠ 2)), .pointer none, .int .i64 p0, .int .i64 x85509, .bool (decide (x85509 ≠ 2)), .pointer none, .int .i64 p0, .bool x85517, undef, undef, undef, undef, undef, undef, undef, undef, undef, undef, undef, undef, undef, undef, undef, undef, undef, undef, undef, undef, undef, undef, undef, undef, undef, undef] _ hf s kk rp73501 rp73509 eg0)
            · have hf := iteF h85524 hf
              refine RW.seg hT 3 [] [(44, .bool false)] [.bool false, .pointer none, .int .i64 p0] [.veq (.bool (x85517)) (.bool false)] (by kernel_rfl) (b_f h85524) ?_
              obtain ⟨x85525, hx85526, hf⟩ := bindS hf
              refine RW.op (by kernel_rfl) (OK.call' en27 (by kernel_rfl) (c27 (F := (.blk b73111 (.cells #[.slice A73496 x73495.length c73498] 22 (0, 0))) :: (.blk b73108 (.cells #[.slice A73504 x73503.length c73506] 22 (0, 0))) :: (.blk b68578 (.cells #[.pointer none, .pointer (some ⟨b68575, 0, none⟩)] 25 (0, 0))) :: (.blk b68575 (.cells #[.int .i64 0, .slice none 0 0] 53 (0, 0))) :: (.sl (.slice A73496 x73495.length c73498) 3 1 x73495.length cl73499) :: (.sl (.slice A73504 x73503.length c73506) 3 1 x73503.length cl73507) :: F) p0 s hx85526) ?_)
              intro X85529 hX85530
              refine fun _ _ hJ => hJ X85529 ?_
              intro I85531 w85527 s k85528
              refine hX85530 _ _ ?_
              replace rp73501 := rp73501.st k85528
              replace rp73509 := rp73509.st k85528
              replace eg0 := eg0.st k85528
              replace kk := kk.trans k85528
              refine RW.seg hT 2 [] [(48, .bool (decide (x85525 ≠ (-1))))] [.bool (decide (x85525 ≠ (-1))), .bool (decide (x85525 ≠ (-1)))] [.veq (.bool (x85525 != (-1))) (.bool (decide (x85525 ≠ (-1))))] (by kernel_rfl) (ne_v) ?_
              by_cases h85532 : x85525 ≠ (-1)
              · have hf := iteT h85532 hf
                refine RW.seg hT 33 [] [(50, .bool true)] [.bool true, undef, undef, undef, undef, .bool true, .bool true, undef, undef, undef, undef, undef, .bool true, .bool true, undef, undef, undef, .bool true, .bool true, undef, undef, undef, .bool true, .bool true, undef, undef, undef, .bool true, .bool true, undef, undef, undef, .bool true] [.veq (.bool (decide (x85525 ≠ (-1)))) (.bool true)] (by kernel_rfl) (bo_t h85532) ?_
                refine RW.nil ?_
                replace s := s.pick [2, 3, 4, 5] 6 rfl
                exact fun X h => kc (by kernel_rfl) rfl (h I85531 x85486 x85493 (IntKind.i64.wrap (x85486 + x85493)) (decide ((IntKind.i64.wrap (x85486 + x85493)) ≠ 0)) false (decide (x85501 ≠ 2)) false (decide (x85509 ≠ 2)) false x85517 false (decide (x85525 ≠ (-1))) true true true true true true true true true true true true [undef, undef, .slice A73496 x73495.length c73498, .agg #[.int .i64 0, .slice none 0 0], .pointer (some ⟨b68575, 0, none⟩), .pointer none, .func (.func 31) #[] #[.pointer (some ⟨b72302, 0, none⟩)], .pointer none, .pointer none, .pointer none, .int .i64 p0, .int .i64 x85501, .bool (decide (x85501 ≠ 2)), .pointer none, .int .i64 p0, .int .i64 x85509, .bool (decide (x85509 ≠ 2)), .pointer none, .int .i64 p0, .bool x85517, .pointer none, .int .i64 p0, .int .i64 x85525, .bool (decide (x85525 ≠ (-1))), undef, undef, undef, undef, undef, undef, undef, undef, undef, undef, undef, undef, undef, undef, undef, undef, undef, undef, undef, undef, undef, undef] _ hf s kk rp73501 rp73509 eg0)
              · have hf := iteF h85532 hf
                refine RW.seg hT 3 [] [(50, .bool false)] [.bool false, .pointer none, .int .i64 p0] [.veq (.bool (decide (x85525 ≠ (-1)))) (.bool false)] (by kernel_rfl) (bo_f h85532) ?_
                obtain ⟨x85533, hx85534, hf⟩ := bindS hf
                refine RW.op (by kernel_rfl) (OK.call' en15 (by kernel_rfl) (c15 (F := (.blk b73111 (.cells #[.slice A73496 x73495.length c73498] 22 (0, 0))) :: (.blk b73108 (.cells #[.slice A73504 x73503.length c73506] 22 (0, 0))) :: (.blk b68578 (.cells #[.pointer none, .pointer (some ⟨b68575, 0, none⟩)] 25 (0, 0))) :: (.blk b68575 (.cells #[.int .i64 0, .slice none 0 0] 53 (0, 0))) :: (.sl (.slice A73496 x73495.length c73498) 3 1 x73495.length cl73499) :: (.sl (.slice A73504 x73503.length c73506) 3 1 x73503.length cl73507) :: F) p0 s hx85534) ?_)
                intro X85537 hX85538
                refine fun _ _ hJ => hJ X85537 ?_
                intro I85539 w85535 s k85536
                refine hX85538 _ _ ?_
                replace rp73501 := rp73501.st k85536
                replace rp73509 := rp73509.st k85536
                replace eg0 := eg0.st k85536
                replace kk := kk.trans k85536
                refine RW.seg hT 2 [] [(54, .bool (decide (x85533 ≠ (-1))))] [.bool (decide (x85533 ≠ (-1))), .bool (decide (x85533 ≠ (-1)))] [.veq (.bool (x85533 != (-1))) (.bool (decide (x85533 ≠ (-1))))] (by kernel_rfl) (ne_v) ?_
                by_cases h85540 : x85533 ≠ (-1)
                · have hf := iteT h85540 hf
                  refine RW.seg hT 27 [] [(56, .bool true)] [.bool true, undef, undef, undef, undef, undef, .bool true, .bool true, undef, undef, undef, .bool true, .bool true, undef, undef, undef, .bool true, .bool true, undef, undef, undef, .bool true, .bool true, undef, undef, undef, .bool true] [.veq (.bool (decide (x85533 ≠ (-1)))) (.bool true)] (by kernel_rfl) (bo_t h85540) ?_
                  refine RW.nil ?_
                  replace s := s.pick [2, 3, 4, 5] 6 rfl
                  exact fun X h => kc (by kernel_rfl) rfl (h I85539 x85486 x85493 (IntKind.i64.wrap (x85486 + x85493)) (decide ((IntKind.i64.wrap (x85486 + x85493)) ≠ 0)) false (decide (x85501 ≠ 2)) false (decide (x85509 ≠ 2)) false x85517 false (decide (x85525 ≠ (-1))) false (decide (x85533 ≠ (-1))) true true true true true true true true true true [undef, undef, .slice A73496 x73495.length c73498, .agg #[.int .i64 0, .slice none 0 0], .pointer (some ⟨b68575, 0, none⟩), .pointer none, .func (.func 31) #[] #[.pointer (some ⟨b72302, 0, none⟩)], .pointer none, .pointer none, .pointer none, .int .i64 p0, .int .i64 x85501, .bool (decide (x85501 ≠ 2)), .pointer none, .int .i64 p0, .int .i64 x85509, .bool (decide (x85509 ≠ 2)), .pointer none, .int .i64 p0, .bool x85517, .pointer none, .int .i64 p0, .int .i64 x85525, .bool (decide (x85525 ≠ (-1))), .pointer none, .int .i64 p0, .int .i64 x85533, .bool (decide (x85533 ≠ (-1))), undef, undef, undef, undef, undef, undef, undef, undef, undef, undef, undef, undef, undef, undef, undef, undef, undef, undef] _ hf s kk rp73501 rp73509 eg0)
                · have hf := iteF h85540 hf
                  refine RW.seg hT 2 [] [(56, .bool false)] [.bool false, .pointer none] [.veq (.bool (decide (x85533 ≠ (-1)))) (.bool false)] (by kernel_rfl) (bo_f h85540) ?_
                  refine RW.op (by kernel_rfl) (OK.inl (args := [.pointer none]) en29 (by kernel_rfl) ?_)
                  intro R85541 hR85542
                  refine Ret.of Tryd.func29 rfl ?_
                  refine WPK.seq ?_
                  refine WPK.region ?_
                  refine RW.op (by kernel_rfl) (OK.new hT (f := fun b => .pointer (some ⟨b, 0, none⟩)) (cs := [.pointer none]) (e := 25) (c := .tt) s (by kernel_rfl) trivial ?_)
                  rintro w85546 b85547 s k85548 -
                  replace rp73501 := rp73501.st k85548
                  replace rp73509 := rp73509.st k85548
                  replace eg0 := eg0.st k85548
                  replace kk := kk.trans k85548
                  refine RW.seg hT 1 [] [] [.nilFunc] [] (by kernel_rfl) (trivial) ?_
                  refine RW.nil ?_
                  refine WPK.seq ?_
                  refine WPK.region ?_
                  refine RW.seg hT 2 [] [] [.func (.func 45) #[] #[.pointer (some ⟨b85547, 0, none⟩)], .func (.func 45) #[] #[.pointer (some ⟨b85547, 0, none⟩)]] [] (by kernel_rfl) (trivial) ?_
                  refine RW.nil ?_
                  refine WPK.ret (?_)
                  refine Fin.of (rs := [.tmp 2]) hT [] (.func (.func 45) #[] #[.pointer (some ⟨b85547, 0, none⟩)]) [] rfl (by kernel_rfl) (trivial) ?_
                  refine hR85542 _ _ ?_
                  refine RW.op (by kernel_rfl) (OK.inl (args := [.func (.func 45) #[] #[.pointer (some ⟨b85547, 0, none⟩)], .int .i64 9]) en28 (by kernel_rfl) ?_)
                  intro R85549 hR85550
                  refine Ret.of Tryd.func28 rfl ?_
                  refine WPK.seq ?_
                  refine WPK.region ?_
                  refine RW.op (by kernel_rfl) (OK.new hT (f := fun b => .pointer (some ⟨b, 0, none⟩)) (cs := [.int .i64 9]) (e := 3) (c := .tt) s (by kernel_rfl) trivial ?_)
                  rintro w86027 b86028 s k86029 -
                  replace rp73501 := rp73501.st k86029
                  replace rp73509 := rp73509.st k86029
                  replace eg0 := eg0.st k86029
                  replace kk := kk.trans k86029
                  refine RW.seg hT 1 [] [] [.slice none 0 0] [] (by kernel_rfl) (trivial) ?_
                  refine RW.nil ?_
                  refine WPK.seq ?_
                  refine WPK.region ?_
                  refine RW.op (by kernel_rfl) (OK.new hT (f := fun b => .pointer (some ⟨b, 0, none⟩)) (cs := [.slice none 0 0]) (e := 22) (c := .tt) s (by kernel_rfl) trivial ?_)
                  rintro w86030 b86031 s k86032 -
                  replace rp73501 := rp73501.st k86032
                  replace rp73509 := rp73509.st k86032
                  replace eg0 := eg0.st k86032
                  replace kk := kk.trans k86032
                  refine RW.nil ?_
                  refine WPK.seq ?_
                  refine WPK.seq ?_
                  refine WPK.region ?_
                  refine RW.seg hT 2 [] [] [.func (.func 45) #[] #[.pointer (some ⟨b85547, 0, none⟩)], .bool false] [] (by kernel_rfl) (trivial) ?_
                  refine RW.nil ?_
                  refine WPK.condF (by kernel_rfl) ?_
                  refine WPK.skip ?_
                  refine WPK.seq ?_
                  refine WPK.cut' (fun E ds wz => ∀ X : Kont, (∀ (I86271 : Nat → Prop) (x86262 : (List Int)) (d86260 : Nat) (D86261 : List Value) (A86263 : Option Addr) (c86265 : Nat) (cl86266 : List Value) (w' : World), g7_j11 p0 x73503 x85486 x85493 x85501 x85509 x85517 x85525 x85533 x86262 = some r → St w0 M I86271 ((.blk b86031 (.cells #[.slice A86263 x86262.length c86265] 22 (0, 0))) :: (.blk b68578 (.cells #[.pointer none, .pointer (some ⟨b68575, 0, none⟩)] 25 (0, 0))) :: (.blk b68575 (.cells #[.int .i64 0, .slice none 0 0] 53 (0, 0))) :: (.sl (.slice A73496 x73495.length c73498) 3 1 x73495.length cl73499) :: (.sl (.slice A73504 x73503.length c73506) 3 1 x73503.length cl73507) :: (.sl (.slice A86263 x86262.length c86265) 3 1 x86262.length cl86266) :: (.blk d86260 (.deferred (some []))) :: F) w' → Kp I w I86271 w' → RepL (Rp.int .i64) I86271 w' cl86266 x86262 → RepL (Rp.int .i64) I86271 w' cl73499 x73495 → RepL (Rp.int .i64) I86271 w' cl73507 x73503 → Elems (Rp.int .u8) I86271 w' (some ⟨0, 0, none⟩) TAB0 → X [(D86261.getD 0 undef), (D86261.getD 1 undef), (D86261.getD 2 undef), (D86261.getD 3 undef), .slice none 0 0, .pointer (some ⟨b86031, 0, none⟩), (D86261.getD 4 undef), (D86261.getD 5 undef), (D86261.getD 6 undef), (D86261.getD 7 undef), (D86261.getD 8 undef), (D86261.getD 9 undef), (D86261.getD 10 undef), (D86261.getD 11 undef), (D86261.getD 12 undef), (D86261.getD 13 undef), (D86261.getD 14 undef), (D86261.getD 15 undef), (D86261.getD 16 undef), undef] [mk d86260] w') → X E ds wz) ?_ ?_
                  · intro X86297 hX86298
                    refine fun _ _ _ hJ => hJ X86297 ?_
                    intro I86271 x86262 d86260 D86261 A86263 c86265 cl86266 w86270 hf s kk rp86268 rp73501 rp73509 eg0
                    refine hX86298 _ _ _ ?_
                    unfold g7_j11 at hf
                    refine WPK.seq ?_
                    refine WPK.region ?_
                    refine RW.seg hT 2 [.slice A86263 x86262.length c86265] [] [.slice A86263 x86262.length c86265, .slice A86263 x86262.length c86265] [.cell ⟨b86031, 0, none⟩ (.slice A86263 x86262.length c86265)] (by kernel_rfl) (s.cell (i := 0) (off := 0) rfl rfl) ?_
                    refine RW.nil ?_
                    refine WPK.ret (?_)
                    refine Fin.mark (i := 6) s rfl ?_
                    intro w86272 s k86273
                    replace rp73501 := rp73501.st k86273
                    replace rp73509 := rp73509.st k86273
                    replace rp86268 := rp86268.st k86273
                    replace eg0 := eg0.st k86273
                    replace kk := kk.trans k86273
                    refine Fin.of (rs := [.tmp 4]) hT [] (.slice A86263 x86262.length c86265) [] rfl (by kernel_rfl) (trivial) ?_
                    refine hR85550 _ _ ?_
                    refine RW.seg hT 3 [] [(60, .int .i64 (x86262.length : Int)), (61, .bool (decide ((x86262.length : Int) ≠ 0)))] [.int .i64 (x86262.length : Int), .bool (decide ((x86262.length : Int) ≠ 0)), .bool (decide ((x86262.length : Int) ≠ 0))] [.veq (.int .i64 (x86262.length : Nat)) (.int .i64 (x86262.length : Int)), .veq (.bool ((x86262.length : Int) != 0)) (.bool (decide ((x86262.length : Int) ≠ 0)))] (by kernel_rfl) (⟨len_v rfl, ne_v⟩) ?_
                    by_cases h86274 : (x86262.length : Int) ≠ 0
                    · have hf := iteT h86274 hf
                      refine RW.seg hT 20 [] [(63, .bool true)] [.bool true, undef, undef, undef, .bool true, .bool true, undef, undef, undef, .bool true, .bool true, undef, undef, undef, .bool true, .bool true, undef, undef, undef, .bool true] [.veq (.bool (decide ((x86262.length : Int) ≠ 0))) (.bool true)] (by kernel_rfl) (bo_t h86274) ?_
                      refine RW.nil ?_
                      replace s := s.pick [1, 2, 3, 4] 6 rfl
                      exact fun X h => kc (by kernel_rfl) rfl (h I86271 x85486 x85493 (IntKind.i64.wrap (x85486 + x85493)) (decide ((IntKind.i64.wrap (x85486 + x85493)) ≠ 0)) false (decide (x85501 ≠ 2)) false (decide (x85509 ≠ 2)) false x85517 false (decide (x85525 ≠ (-1))) false (decide (x85533 ≠ (-1))) false (decide ((x86262.length : Int) ≠ 0)) true true true true true true true true [undef, undef, .slice A73496 x73495.length c73498, .agg #[.int .i64 0, .slice none 0 0], .pointer (some ⟨b68575, 0, none⟩), .pointer none, .func (.func 31) #[] #[.pointer (some ⟨b72302, 0, none⟩)], .pointer none, .pointer none, .pointer none, .int .i64 p0, .int .i64 x85501, .bool (decide (x85501 ≠ 2)), .pointer none, .int .i64 p0, .int .i64 x85509, .bool (decide (x85509 ≠ 2)), .pointer none, .int .i64 p0, .bool x85517, .pointer none, .int .i64 p0, .int .i64 x85525, .bool (decide (x85525 ≠ (-1))), .pointer none, .int .i64 p0, .int .i64 x85533, .bool (decide (x85533 ≠ (-1))), .pointer none, .func (.func 45) #[] #[.pointer (some ⟨b85547, 0, none⟩)], .slice A86263 x86262.length c86265, .int .i64 (x86262.length : Int), .bool (decide ((x86262.length : Int) ≠ 0)), undef, undef, undef, undef, undef, undef, undef, undef, undef, undef, undef, undef, undef] _ hf s kk rp73501 rp73509 eg0)
                    · have hf := iteF h86274 hf
                      refine RW.seg hT 5 [] [(63, .bool false), (65, .int .i64 (x73503.length : Int)), (66, .bool (decide ((x73503.length : Int) ≠ 0)))] [.bool false, .slice A73504 x73503.length c73506, .int .i64 (x73503.length : Int), .bool (decide ((x73503.length : Int) ≠ 0)), .bool (decide ((x73503.length : Int) ≠ 0))] [.veq (.bool (decide ((x86262.length : Int) ≠ 0))) (.bool false), .veq (.int .i64 (x73503.length : Nat)) (.int .i64 (x73503.length : Int)), .veq (.bool ((x73503.length : Int) != 0)) (.bool (decide ((x73503.length : Int) ≠ 0)))] (by kernel_rfl) (⟨bo_f h86274, len_v rfl, ne_v⟩) ?_
                      by_cases h86275 : (x73503.length : Int) ≠ 0
                      · have hf := iteT h86275 hf
                        refine RW.seg hT 15 [] [(68, .bool true)] [.bool true, undef, undef, undef, .bool true, .bool true, undef, undef, undef, .bool true, .bool true, undef, undef, undef, .bool true] [.veq (.bool (decide ((x73503.length : Int) ≠ 0))) (.bool true)] (by kernel_rfl) (bo_t h86275) ?_
                        refine RW.nil ?_
                        replace s := s.pick [1, 2, 3, 4] 6 rfl
                        exact fun X h => kc (by kernel_rfl) rfl (h I86271 x85486 x85493 (IntKind.i64.wrap (x85486 + x85493)) (decide ((IntKind.i64.wrap (x85486 + x85493)) ≠ 0)) false (decide (x85501 ≠ 2)) false (decide (x85509 ≠ 2)) false x85517 false (decide (x85525 ≠ (-1))) false (decide (x85533 ≠ (-1))) false (decide ((x86262.length : Int) ≠ 0)) false (decide ((x73503.length : Int) ≠ 0)) true true true true true true [undef, undef, .slice A73496 x73495.length c73498, .agg #[.int .i64 0, .slice none 0 0], .pointer (some ⟨b68575, 0, none⟩), .pointer none, .func (.func 31) #[] #[.pointer (some ⟨b72302, 0, none⟩)], .pointer none, .pointer none, .pointer none, .int .i64 p0, .int .i64 x85501, .bool (decide (x85501 ≠ 2)), .pointer none, .int .i64 p0, .int .i64 x85509, .bool (decide (x85509 ≠ 2)), .pointer none, .int .i64 p0, .bool x85517, .pointer none, .int .i64 p0, .int .i64 x85525, .bool (decide (x85525 ≠ (-1))), .pointer none, .int .i64 p0, .int .i64 x85533, .bool (decide (x85533 ≠ (-1))), .pointer none, .func (.func 45) #[] #[.pointer (some ⟨b85547, 0, none⟩)], .slice A86263 x86262.length c86265, .int .i64 (x86262.length : Int), .bool (decide ((x86262.length : Int) ≠ 0)), .slice A73504 x73503.length c73506, .int .i64 (x73503.length : Int), .bool (decide ((x73503.length : Int) ≠ 0)), undef, undef, undef, undef, undef, undef, undef, undef, undef, undef] _ hf s kk rp73501 rp73509 eg0)
                      · have hf := iteF h86275 hf
                        refine RW.seg hT 2 [] [(68, .bool false)] [.bool false, .pointer none] [.veq (.bool (decide ((x73503.length : Int) ≠ 0))) (.bool false)] (by kernel_rfl) (bo_f h86275) ?_
                        obtain ⟨x86276, hx86277, hf⟩ := bindS hf
                        refine RW.op (by kernel_rfl) (OK.call' en16 (by kernel_rfl) (c16 (F := (.blk b86031 (.cells #[.slice A86263 x86262.length c86265] 22 (0, 0))) :: (.blk b68578 (.cells #[.pointer none, .pointer (some ⟨b68575, 0, none⟩)] 25 (0, 0))) :: (.blk b68575 (.cells #[.int .i64 0, .slice none 0 0] 53 (0, 0))) :: (.sl (.slice A73496 x73495.length c73498) 3 1 x73495.length cl73499) :: (.sl (.slice A73504 x73503.length c73506) 3 1 x73503.length cl73507) :: (.sl (.slice A86263 x86262.length c86265) 3 1 x86262.length cl86266) :: F) s hx86277) ?_)
                        intro X86280 hX86281
                        refine fun _ _ hJ => hJ X86280 ?_
                        intro I86282 w86278 s k86279
                        refine hX86281 _ _ ?_
                        replace rp73501 := rp73501.st k86279
                        replace rp73509 := rp73509.st k86279
                        replace rp86268 := rp86268.st k86279
                        replace eg0 := eg0.st k86279
                        replace kk := kk.trans k86279
                        refine RW.seg hT 4 [] [] [.bool false, .bool false, .bool false, .pointer none] [] (by kernel_rfl) (trivial) ?_
                        obtain ⟨x86283, hx86284, hf⟩ := bindS hf
                        refine RW.op (by kernel_rfl) (OK.call' en21 (by kernel_rfl) (c21 (F := (.blk b86031 (.cells #[.slice A86263 x86262.length c86265] 22 (0, 0))) :: (.blk b68578 (.cells #[.pointer none, .pointer (some ⟨b68575, 0, none⟩)] 25 (0, 0))) :: (.blk b68575 (.cells #[.int .i64 0, .slice none 0 0] 53 (0, 0))) :: (.sl (.slice A73496 x73495.length c73498) 3 1 x73495.length cl73499) :: (.sl (.slice A73504 x73503.length c73506) 3 1 x73503.length cl73507) :: (.sl (.slice A86263 x86262.length c86265) 3 1 x86262.length cl86266) :: F) s hx86284) ?_)
                        intro X86287 hX86288
                        refine fun _ _ hJ => hJ X86287 ?_
                        intro I86289 w86285 s k86286
                        refine hX86288 _ _ ?_
                        replace rp73501 := rp73501.st k86286
                        replace rp73509 := rp73509.st k86286
                        replace rp86268 := rp86268.st k86286
                        replace eg0 := eg0.st k86286
                        replace kk := kk.trans k86286
                        refine RW.seg hT 4 [] [] [.bool false, .bool false, .bool false, .pointer none] [] (by kernel_rfl) (trivial) ?_
                        obtain ⟨x86290, hx86291, hf⟩ := bindS hf
                        refine RW.op (by kernel_rfl) (OK.call' en18 (by kernel_rfl) (c18 (F := (.blk b86031 (.cells #[.slice A86263 x86262.length c86265] 22 (0, 0))) :: (.blk b68578 (.cells #[.pointer none, .pointer (some ⟨b68575, 0, none⟩)] 25 (0, 0))) :: (.blk b68575 (.cells #[.int .i64 0, .slice none 0 0] 53 (0, 0))) :: (.sl (.slice A73496 x73495.length c73498) 3 1 x73495.length cl73499) :: (.sl (.slice A73504 x73503.length c73506) 3 1 x73503.length cl73507) :: (.sl (.slice A86263 x86262.length c86265) 3 1 x86262.length cl86266) :: F) s hx86291) ?_)
                        intro X86294 hX86295
                        refine fun _ _ hJ => hJ X86294 ?_
                        intro I86296 w86292 s k86293
                        refine hX86295 _ _ ?_
                        replace rp73501 := rp73501.st k86293
                        replace rp73509 := rp73509.st k86293
                        replace rp86268 := rp86268.st k86293
                        replace eg0 := eg0.st k86293
                        replace kk := kk.trans k86293
                        refine RW.seg hT 2 [] [(81, .bool (decide (¬ (x86290 = true))))] [.bool (decide (¬ (x86290 = true))), .bool (decide (¬ (x86290 = true)))] [.veq (.bool (!x86290)) (.bool (decide (¬ (x86290 = true))))] (by kernel_rfl) (not_b) ?_
                        refine RW.nil ?_
                        replace s := s.pick [1, 2, 3, 4] 6 rfl
                        exact fun X h => kc (by kernel_rfl) rfl (h I86296 x85486 x85493 (IntKind.i64.wrap (x85486 + x85493)) (decide ((IntKind.i64.wrap (x85486 + x85493)) ≠ 0)) false (decide (x85501 ≠ 2)) false (decide (x85509 ≠ 2)) false x85517 false (decide (x85525 ≠ (-1))) false (decide (x85533 ≠ (-1))) false (decide ((x86262.length : Int) ≠ 0)) false (decide ((x73503.length : Int) ≠ 0)) false false false false false (decide (¬ (x86290 = true))) [undef, undef, .slice A73496 x73495.length c73498, .agg #[.int .i64 0, .slice none 0 0], .pointer (some ⟨b68575, 0, none⟩), .pointer none, .func (.func 31) #[] #[.pointer (some ⟨b72302, 0, none⟩)], .pointer none, .pointer none, .pointer none, .int .i64 p0, .int .i64 x85501, .bool (decide (x85501 ≠ 2)), .pointer none, .int .i64 p0, .int .i64 x85509, .bool (decide (x85509 ≠ 2)), .pointer none, .int .i64 p0, .bool x85517, .pointer none, .int .i64 p0, .int .i64 x85525, .bool (decide (x85525 ≠ (-1))), .pointer none, .int .i64 p0, .int .i64 x85533, .bool (decide (x85533 ≠ (-1))), .pointer none, .func (.func 45) #[] #[.pointer (some ⟨b85547, 0, none⟩)], .slice A86263 x86262.length c86265, .int .i64 (x86262.length : Int), .bool (decide ((x86262.length : Int) ≠ 0)), .slice A73504 x73503.length c73506, .int .i64 (x73503.length : Int), .bool (decide ((x73503.length : Int) ≠ 0)), .pointer none, .pointer none, .bool false, .pointer none, .pointer none, .bool false, .pointer none, .bool x86290, .bool (decide (¬ (x86290 = true))), undef] _ hf s kk rp73501 rp73509 eg0)
                  · refine WPK.seq ?_
                    refine WPK.region ?_
                    refine RW.seg hT 1 [] [] [.func (.func 45) #[] #[.pointer (some ⟨b85547, 0, none⟩)]] [] (by kernel_rfl) (trivial) ?_
                    refine RW.nil ?_
                    refine WPK.block ?_
                    refine WPK.range (gf := 45) (first := []) (cap := [.pointer (some ⟨b85547, 0, none⟩)]) s (by kernel_rfl) en45 ?_
                    intro l86299 d86300 rec86301 w86303 R86305 hrec86302 s k86304 hR86306
                    replace rp73501 := rp73501.st k86304
                    replace rp73509 := rp73509.st k86304
                    replace eg0 := eg0.st k86304
                    replace kk := kk.trans k86304
                    refine Ret.of Tryd.func45 rfl ?_
                    refine WPK.seq ?_
                    refine WPK.region ?_
                    refine RW.seg hT 1 [.pointer none] [] [.pointer none] [.cell ⟨b85547, 0, none⟩ (.pointer none)] (by kernel_rfl) (s.cell (i := 4) (off := 0) rfl rfl) ?_
                    obtain ⟨x86307, hx86308, hf⟩ := bindS hf
                    refine RW.op (by kernel_rfl) (OK.call' en27 (by kernel_rfl) (c27 (F := (.blk l86299 (rec86301 .ready none)) :: (.blk d86300 (.deferred (some []))) :: (.blk b86031 (.cells #[.slice none 0 0] 22 (0, 0))) :: (.blk b86028 (.cells #[.int .i64 9] 3 (0, 0))) :: (.blk b85547 (.cells #[.pointer none] 25 (0, 0))) :: (.blk b73111 (.cells #[.slice A73496 x73495.length c73498] 22 (0, 0))) :: (.blk b73108 (.cells #[.slice A73504 x73503.length c73506] 22 (0, 0))) :: (.blk b68578 (.cells #[.pointer none, .pointer (some ⟨b68575, 0, none⟩)] 25 (0, 0))) :: (.blk b68575 (.cells #[.int .i64 0, .slice none 0 0] 53 (0, 0))) :: (.sl (.slice A73496 x73495.length c73498) 3 1 x73495.length cl73499) :: (.sl (.slice A73504 x73503.length c73506) 3 1 x73503.length cl73507) :: F) 0 s hx86308) ?_)
                    intro X86311 hX86312
                    refine fun _ _ hJ => hJ X86311 ?_
                    intro I86313 w86309 s k86310
                    refine hX86312 _ _ ?_
                    replace rp73501 := rp73501.st k86310
                    replace rp73509 := rp73509.st k86310
                    replace eg0 := eg0.st k86310
                    replace kk := kk.trans k86310
                    refine RW.seg hT 1 [] [] [.int .i64 x86307] [] (by kernel_rfl) (trivial) ?_
                    refine RW.nil ?_
                    refine WPK.block ?_
                    replace s := s.pushNil 3 1
                    replace s := s.pick [1, 2, 3, 4, 5, 8, 9, 10, 11, 0] 12 rfl
                    refine WPK.loop' (J := fun n86452 E ds wz => ∀ X : Kont, (∀ (I86385 : Nat → Prop) (x86375 : Int) (x86376 : (List Int)) (D86374 : List Value) (A86377 : Option Addr) (c86379 : Nat) (cl86380 : List Value) (w' : World), g7_l12 p0 x73503 x85486 x85493 x85501 x85509 x85517 x85525 x85533 n86452 x86375 x86376 = some r → St w0 M I86385 ((.blk l86299 (rec86301 .ready none)) :: (.blk d86300 (.deferred (some []))) :: (.blk b86031 (.cells #[.slice A86377 x86376.length c86379] 22 (0, 0))) :: (.blk b86028 (.cells #[.int .i64 9] 3 (0, 0))) :: (.blk b85547 (.cells #[.pointer none] 25 (0, 0))) :: (.blk b68578 (.cells #[.pointer none, .pointer (some ⟨b68575, 0, none⟩)] 25 (0, 0))) :: (.blk b68575 (.cells #[.int .i64 0, .slice none 0 0] 53 (0, 0))) :: (.sl (.slice A73496 x73495.length c73498) 3 1 x73495.length cl73499) :: (.sl (.slice A73504 x73503.length c73506) 3 1 x73503.length cl73507) :: (.sl (.slice A86377 x86376.length c86379) 3 1 x86376.length cl86380) :: F) w' → Kp I w I86385 w' → RepL (Rp.int .i64) I86385 w' cl86380 x86376 → RepL (Rp.int .i64) I86385 w' cl73499 x73495 → RepL (Rp.int .i64) I86385 w' cl73507 x73503 → Elems (Rp.int .u8) I86385 w' (some ⟨0, 0, none⟩) TAB0 → X [.func (.yield l86299) #[] #[], .pointer (some ⟨b85547, 0, none⟩), (D86374.getD 0 undef), .int .i64 x86375, (D86374.getD 1 undef), (D86374.getD 2 undef), (D86374.getD 3 undef), (D86374.getD 4 undef), (D86374.getD 5 undef), (D86374.getD 6 undef), (D86374.getD 7 undef), (D86374.getD 8 undef), (D86374.getD 9 undef), (D86374.getD 10 undef), (D86374.getD 11 undef), (D86374.getD 12 undef)] [] w') → X E ds wz) FUEL (fun X h => kc (by kernel_rfl) rfl (h I86313 x86307 ([] : List Int) [undef, .pointer none, .int .i64 x86307, undef, undef, undef, undef, undef, undef, undef, undef, undef, undef] none 0 [] _ hf s kk (RepL.nil (r := (Rp.int .i64))) rp73501 rp73509 eg0)) (fun _ _ _ hJ => hJ (fun _ _ _ => False) (by intro I86385 x86375 x86376 D86374 A86377 c86379 cl86380 w86384 hf s kk rp86382 rp73501 rp73509 eg0; exact noneS hf)) ?_
                    intro X86524 hX86525
                    refine fun n86452 _ _ _ hJ => hJ (X86524 n86452) ?_
                    intro I86385 x86375 x86376 D86374 A86377 c86379 cl86380 w86384 hf s kk rp86382 rp73501 rp73509 eg0
                    refine hX86525 _ _ _ _ ?_
                    replace hf : g7_l12B p0 x73503 x85486 x85493 x85501 x85509 x85517 x85525 x85533 (g7_l12 p0 x73503 x85486 x85493 x85501 x85509 x85517 x85525 x85533 n86452) x86375 x86376 = some r := hf
                    generalize hrec86453 : g7_l12 p0 x73503 x85486 x85493 x85501 x85509 x85517 x85525 x85533 n86452 = rec86451 at hf
                    unfold g7_l12B at hf
                    refine WPK.seq ?_
                    refine WPK.seq ?_
                    refine WPK.region ?_
                    refine RW.seg hT 2 [] [] [.int .i64 x86375, .bool (decide (x86375 ≥ 0))] [] (by kernel_rfl) (trivial) ?_
                    refine RW.nil ?_
                    by_cases h86455 : x86375 ≥ 0
                    · have hf := iteT h86455 hf
                      refine WPK.condT (Eq.trans (b := .bool (decide (x86375 ≥ 0))) (by kernel_rfl) (bo_t h86455)) ?_
                      refine WPK.skip ?_
                      refine WPK.seq ?_
                      refine WPK.block ?_
                      refine WPK.seq ?_
                      refine WPK.region ?_
                      refine RW.seg hT 2 [] [] [.func (.yield l86299) #[] #[], .int .i64 x86375] [] (by kernel_rfl) (trivial) ?_
                      refine RW.op (by kernel_rfl) (OK.yield (args := [.int .i64 x86375]) hrec86302 s (i := 0) rfl (by kernel_rfl) rfl ?_)
                      intro R86484 hR86485
                      refine WPK.region ?_
                      refine RW.seg hT 1 [] [] [.int .i64 x86375] [] (by kernel_rfl) (trivial) ?_
                      refine RW.nil ?_
                      refine RoundBeg.of hrec86302 s (i := 0) rfl ?_
                      intro w86486 s k86487
                      replace rp73501 := rp73501.st k86487
                      replace rp73509 := rp73509.st k86487
                      replace rp86382 := rp86382.st k86487
                      replace eg0 := eg0.st k86487
                      replace kk := kk.trans k86487
                      refine WPK.block ?_
                      refine WPK.seq ?_
                      refine WPK.seq ?_
                      refine WPK.region ?_
                      refine RW.seg hT 4 [.slice A86377 x86376.length c86379, .int .i64 9] [(12, .int .i64 (x86376.length : Int))] [.slice A86377 x86376.length c86379, .int .i64 (x86376.length : Int), .int .i64 9, .bool (decide ((x86376.length : Int) ≥ 9))] [.cell ⟨b86031, 0, none⟩ (.slice A86377 x86376.length c86379), .veq (.int .i64 (x86376.length : Nat)) (.int .i64 (x86376.length : Int)), .cell ⟨b86028, 0, none⟩ (.int .i64 9)] (by kernel_rfl) (⟨s.cell (i := 2) (off := 0) rfl rfl, len_v rfl, s.cell (i := 3) (off := 0) rfl rfl⟩) ?_
                      refine RW.nil ?_
                      by_cases h86489 : (x86376.length : Int) ≥ 9
                      · have hf := iteT h86489 hf
                        refine WPK.condT (Eq.trans (b := .bool (decide ((x86376.length : Int) ≥ 9))) (by kernel_rfl) (bo_t h86489)) ?_
                        refine WPK.exit (blockQ.other rfl (?_))
                        refine RoundEnd.stop (Code.exit 0) hrec86302 s (i := 0) rfl ?_
                        intro w86490 s k86491
                        replace rp73501 := rp73501.st k86491
                        replace rp73509 := rp73509.st k86491
                        replace rp86382 := rp86382.st k86491
                        replace eg0 := eg0.st k86491
                        replace kk := kk.trans k86491
                        refine hR86485 _ _ ?_
                        refine RW.seg hT 1 [] [] [.bool true] [] (by kernel_rfl) (trivial) ?_
                        refine RW.nil ?_
                        refine WPK.condT (by kernel_rfl) ?_
                        refine WPK.ret (blockQ.ret (blockQ.ret (?_)))
                        refine Fin.of (rs := []) hT [] (.tuple #[]) [] rfl (by kernel_rfl) (trivial) ?_
                        refine hR86306 _ _ (RangeEnd.jump hrec86302 s (i := 0) rfl ?_)
                        intro w86492 s k86493
                        replace rp73501 := rp73501.st k86493
                        replace rp73509 := rp73509.st k86493
                        replace rp86382 := rp86382.st k86493
                        replace eg0 := eg0.st k86493
                        replace kk := kk.trans k86493
                        refine WPK.exit (blockQ.same ?_)
                        replace s := s.pick [1, 4, 5, 6, 7, 8, 0] 9 rfl
                        exact fun X h => kc (by kernel_rfl) rfl (h I86385 x86376 d86300 [.func (.func 45) #[] #[.pointer (some ⟨b85547, 0, none⟩)], .int .i64 9, undef, .pointer (some ⟨b86028, 0, none⟩), undef, .func (.func 45) #[] #[.pointer (some ⟨b85547, 0, none⟩)], .bool false, .func (.func 45) #[] #[.pointer (some ⟨b85547, 0, none⟩)], undef, undef, undef, undef, undef, undef, undef, undef, undef] A86377 c86379 cl86380 _ hf s kk rp86382 rp73501 rp73509 eg0)
                      · have hf := iteF h86489 hf
                        refine WPK.condF (Eq.trans (b := .bool (decide ((x86376.length : Int) ≥ 9))) (by kernel_rfl) (bo_f h86489)) ?_
                        refine WPK.skip ?_
                        refine WPK.region ?_
                        refine RW.seg hT 2 [.slice A86377 x86376.length c86379] [] [.slice A86377 x86376.length c86379, .int .i64 x86375] [.cell ⟨b86031, 0, none⟩ (.slice A86377 x86376.length c86379)] (by kernel_rfl) (s.cell (i := 2) (off := 0) rfl rfl) ?_
                        refine RW.op (by kernel_rfl) (OK.new hT (f := fun b => .slice (some ⟨b, 0, none⟩) 1 1) (cs := [.int .i64 x86375]) (e := 3) (c := .tt) s (by kernel_rfl) trivial ?_)
                        rintro w86494 b86495 s k86496 -
                        replace rp73501 := rp73501.st k86496
                        replace rp73509 := rp73509.st k86496
                        replace rp86382 := rp86382.st k86496
                        replace eg0 := eg0.st k86496
                        replace kk := kk.trans k86496
                        have rp86497 : RepL (Rp.int .i64) I86385 w86494 [.int .i64 x86375] ([x86375] : List Int) := RepL.cons (c := [.int .i64 x86375]) (d := []) (rfl) (RepL.nil)
                        replace s : St w0 M I86385 ((.sl (.slice (some ⟨b86495, 0, none⟩) 1 1) 3 1 1 [.int .i64 x86375]) :: (.blk l86299 (rec86301 .busy none)) :: (.blk d86300 (.deferred (some []))) :: (.blk b86031 (.cells #[.slice A86377 x86376.length c86379] 22 (0, 0))) :: (.blk b86028 (.cells #[.int .i64 9] 3 (0, 0))) :: (.blk b85547 (.cells #[.pointer none] 25 (0, 0))) :: (.blk b68578 (.cells #[.pointer none, .pointer (some ⟨b68575, 0, none⟩)] 25 (0, 0))) :: (.blk b68575 (.cells #[.int .i64 0, .slice none 0 0] 53 (0, 0))) :: (.sl (.slice A73496 x73495.length c73498) 3 1 x73495.length cl73499) :: (.sl (.slice A73504 x73503.length c73506) 3 1 x73503.length cl73507) :: (.sl (.slice A86377 x86376.length c86379) 3 1 x86376.length cl86380) :: F) w86494 := s.blkSl (i := 0) (n := 1) (c := 1) (size := 1) rfl rfl (Nat.le_refl _) (by decide)
                        have hs86500 := St.src s (i := 0) rfl rfl rp86497
                        have rq86501 := rp86497
                        obtain ⟨x86502, hx86503, hf⟩ := bindS hf
                        refine RW.op (by kernel_rfl) (OK.app hT (r := (Rp.int .i64)) (i := 10) (t := 22) (e := 3) (size := 1) (bytes := 8) (c := c86379) (n := x86376.length) (m := 1) s (by kernel_rfl) rfl rfl rfl rfl rfl (by decide) rfl rfl rfl rfl rp86382 hs86500 rq86501 flat_int rfl hx86503 ?_)
                        rintro A86504 c86505 cl86506 w86507 s k86508 rp86509
                        replace rp86497 := rp86497.st k86508
                        replace rp73501 := rp73501.st k86508
                        replace rp73509 := rp73509.st k86508
                        replace rp86382 := rp86382.st k86508
                        replace eg0 := eg0.st k86508
                        replace kk := kk.trans k86508
                        refine RW.op (by kernel_rfl) (OK.store hT (i := 3) (b := b86031) (off := 0) (n := 1) (vs := [.slice A86504 x86502.length c86505]) (cs := [(.slice A86377 x86376.length c86379)]) (e := 22) s (by kernel_rfl) rfl rfl (flat_ok rfl) (Nat.le_of_ble_eq_true rfl) ?_)
                        rintro w86510 s k86511 -
                        replace rp86497 := rp86497.st k86511
                        replace rp73501 := rp73501.st k86511
                        replace rp73509 := rp73509.st k86511
                        replace rp86509 := rp86509.st k86511
                        replace eg0 := eg0.st k86511
                        replace kk := kk.trans k86511
                        refine RW.nil ?_
                        refine RoundEnd.next hrec86302 s (i := 1) rfl ?_
                        intro w86512 s k86513
                        replace rp86497 := rp86497.st k86513
                        replace rp73501 := rp73501.st k86513
                        replace rp73509 := rp73509.st k86513
                        replace rp86509 := rp86509.st k86513
                        replace eg0 := eg0.st k86513
                        replace kk := kk.trans k86513
                        refine hR86485 _ _ ?_
                        refine RW.seg hT 1 [] [] [.bool false] [] (by kernel_rfl) (trivial) ?_
                        refine RW.nil ?_
                        refine WPK.condF (by kernel_rfl) ?_
                        refine WPK.skip ?_
                        refine WPK.region ?_
                        refine RW.seg hT 3 [.pointer none] [] [.pointer none, .int .i64 x86375, .int .i64 (IntKind.i64.wrap (x86375 + 1))] [.cell ⟨b85547, 0, none⟩ (.pointer none)] (by kernel_rfl) (s.cell (i := 5) (off := 0) rfl rfl) ?_
                        obtain ⟨x86514, hx86515, hf⟩ := bindS hf
                        refine RW.op (by kernel_rfl) (OK.call' en27 (by kernel_rfl) (c27 (F := (.sl (.slice (some ⟨b86495, 0, none⟩) 1 1) 3 1 1 [.int .i64 x86375]) :: (.blk l86299 (rec86301 .ready none)) :: (.blk d86300 (.deferred (some []))) :: (.blk b86031 (.cells #[.slice A86504 x86502.length c86505] 22 (0, 0))) :: (.blk b86028 (.cells #[.int .i64 9] 3 (0, 0))) :: (.blk b85547 (.cells #[.pointer none] 25 (0, 0))) :: (.blk b68578 (.cells #[.pointer none, .pointer (some ⟨b68575, 0, none⟩)] 25 (0, 0))) :: (.blk b68575 (.cells #[.int .i64 0, .slice none 0 0] 53 (0, 0))) :: (.sl (.slice A73496 x73495.length c73498) 3 1 x73495.length cl73499) :: (.sl (.slice A73504 x73503.length c73506) 3 1 x73503.length cl73507) :: (.sl (.slice A86504 x86502.length c86505) 3 1 x86502.length cl86506) :: F) (IntKind.i64.wrap (x86375 + 1)) s hx86515) ?_)
                        intro X86518 hX86519
                        refine fun _ _ hJ => hJ X86518 ?_
                        intro I86520 w86516 s k86517
                        refine hX86519 _ _ ?_
                        replace rp86497 := rp86497.st k86517
                        replace rp73501 := rp73501.st k86517
                        replace rp73509 := rp73509.st k86517
                        replace rp86509 := rp86509.st k86517
                        replace eg0 := eg0.st k86517
                        replace kk := kk.trans k86517
                        refine RW.seg hT 1 [] [] [.int .i64 x86514] [] (by kernel_rfl) (trivial) ?_
                        refine RW.nil ?_
                        subst hrec86453
                        replace s := s.pick [1, 2, 3, 4, 5, 6, 7, 8, 9, 10] 11 rfl
                        exact ⟨n86452, Nat.le_refl _, fun X h => kc (by kernel_rfl) rfl (h I86520 x86514 x86502 [(D86374.getD 0 undef), (D86374.getD 1 undef), (D86374.getD 2 undef), .int .i64 x86375, .bool (decide (x86375 ≥ 0)), .pointer none, .int .i64 x86375, .int .i64 (IntKind.i64.wrap (x86375 + 1)), .int .i64 x86514, .func (.yield l86299) #[] #[], .int .i64 x86375, .bool true, .bool false] A86504 c86505 cl86506 _ hf s kk rp86509 rp73501 rp73509 eg0)⟩
                    · have hf := iteF h86455 hf
                      refine WPK.condF (Eq.trans (b := .bool (decide (x86375 ≥ 0))) (by kernel_rfl) (bo_f h86455)) ?_
                      refine WPK.exit (blockQ.same ?_)
                      refine Fin.of (rs := []) hT [] (.tuple #[]) [] rfl (by kernel_rfl) (trivial) ?_
                      refine hR86306 _ _ (RangeEnd.done hrec86302 s (i := 0) rfl ?_)
                      intro w86521 s k86522
                      replace rp73501 := rp73501.st k86522
                      replace rp73509 := rp73509.st k86522
                      replace rp86382 := rp86382.st k86522
                      replace eg0 := eg0.st k86522
                      replace kk := kk.trans k86522
                      replace s := s.pick [1, 4, 5, 6, 7, 8, 0] 9 rfl
                      exact fun X h => kc (by kernel_rfl) rfl (h I86385 x86376 d86300 [.func (.func 45) #[] #[.pointer (some ⟨b85547, 0, none⟩)], .int .i64 9, undef, .pointer (some ⟨b86028, 0, none⟩), undef, .func (.func 45) #[] #[.pointer (some ⟨b85547, 0, none⟩)], .bool false, .func (.func 45) #[] #[.pointer (some ⟨b85547, 0, none⟩)], undef, undef, undef, undef, undef, undef, undef, undef, undef] A86377 c86379 cl86380 _ hf s kk rp86382 rp73501 rp73509 eg0)
  · refine WPK.seq ?_
    refine WPK.region ?_
    refine RW.seg hT 1 [] [] [.func (.func 31) #[] #[.pointer (some ⟨b72302, 0, none⟩)]] [] (by kernel_rfl) (trivial) ?_
    refine RW.nil ?_
    refine WPK.block ?_
    refine WPK.range (gf := 31) (first := []) (cap := [.pointer (some ⟨b72302, 0, none⟩)]) s (by kernel_rfl) en31 ?_
    intro l86528 d86529 rec86530 w86532 R86534 hrec86531 s k86533 hR86535
    replace eg0 := eg0.st k86533
    replace kk := kk.trans k86533
    refine Ret.of Tryd.func31 rfl ?_
    refine WPK.seq ?_
    refine WPK.region ?_
    refine RW.seg hT 1 [.pointer none] [] [.pointer none] [.cell ⟨b72302, 0, none⟩ (.pointer none)] (by kernel_rfl) (s.cell (i := 5) (off := 0) rfl rfl) ?_
    obtain ⟨x86536, hx86537, hf⟩ := bindS hf
    refine RW.op (by kernel_rfl) (OK.call' en16 (by kernel_rfl) (c16 (F := (.blk l86528 (rec86530 .ready none)) :: (.blk d86529 (.deferred (some []))) :: (.blk b73111 (.cells #[.slice none 0 0] 22 (0, 0))) :: (.blk b73108 (.cells #[.slice none 0 0] 22 (0, 0))) :: (.blk b73105 (.cells #[.int .i64 9] 3 (0, 0))) :: (.blk b72302 (.cells #[.pointer none] 25 (0, 0))) :: (.blk b68578 (.cells #[.pointer none, .pointer (some ⟨b68575, 0, none⟩)] 25 (0, 0))) :: (.blk b68575 (.cells #[.int .i64 0, .slice none 0 0] 53 (0, 0))) :: F) s hx86537) ?_)
    intro X86540 hX86541
    refine fun _ _ hJ => hJ X86540 ?_
    intro I86542 w86538 s k86539
    refine hX86541 _ _ ?_
    replace eg0 := eg0.st k86539
    replace kk := kk.trans k86539
    refine RW.seg hT 1 [] [] [.pointer none] [] (by kernel_rfl) (trivial) ?_
    refine RW.nil ?_
    refine WPK.seq ?_
    refine WPK.region ?_
    refine RW.seg hT 1 [.pointer none] [] [.pointer none] [.cell ⟨b72302, 0, none⟩ (.pointer none)] (by kernel_rfl) (s.cell (i := 5) (off := 0) rfl rfl) ?_
    obtain ⟨x86543, hx86544, hf⟩ := bindS hf
    refine RW.op (by kernel_rfl) (OK.call' en27 (by kernel_rfl) (c27 (F := (.blk l86528 (rec86530 .ready none)) :: (.blk d86529 (.deferred (some []))) :: (.blk b73111 (.cells #[.slice none 0 0] 22 (0, 0))) :: (.blk b73108 (.cells #[.slice none 0 0] 22 (0, 0))) :: (.blk b73105 (.cells #[.int .i64 9] 3 (0, 0))) :: (.blk b72302 (.cells #[.pointer none] 25 (0, 0))) :: (.blk b68578 (.cells #[.pointer none, .pointer (some ⟨b68575, 0, none⟩)] 25 (0, 0))) :: (.blk b68575 (.cells #[.int .i64 0, .slice none 0 0] 53 (0, 0))) :: F) 0 s hx86544) ?_)
    intro X86547 hX86548
    refine fun _ _ hJ => hJ X86547 ?_
    intro I86549 w86545 s k86546
    refine hX86548 _ _ ?_
    replace eg0 := eg0.st k86546
    replace kk := kk.trans k86546
    refine RW.seg hT 1 [] [] [.int .i64 x86543] [] (by kernel_rfl) (trivial) ?_
    refine RW.nil ?_
    refine WPK.block ?_
    replace s := s.pushNil 3 1
    replace s := s.pushNil 3 1
    replace s := s.pick [2, 3, 4, 5, 6, 7, 8, 9, 1, 0] 10 rfl
    refine WPK.loop' (J := fun n86788 E ds wz => ∀ X : Kont, (∀ (I86676 : Nat → Prop) (x86658 : Int) (x86659 : (List Int)) (x86667 : (List Int)) (D86657 : List Value) (A86660 : Option Addr) (c86662 : Nat) (cl86663 : List Value) (A86668 : Option Addr) (c86670 : Nat) (cl86671 : List Value) (w' : World), g7_l13 p0 n86788 x86658 x86659 x86667 = some r → St w0 M I86676 ((.blk l86528 (rec86530 .ready none)) :: (.blk d86529 (.deferred (some []))) :: (.blk b73111 (.cells #[.slice A86660 x86659.length c86662] 22 (0, 0))) :: (.blk b73108 (.cells #[.slice A86668 x86667.length c86670] 22 (0, 0))) :: (.blk b73105 (.cells #[.int .i64 9] 3 (0, 0))) :: (.blk b72302 (.cells #[.pointer none] 25 (0, 0))) :: (.blk b68578 (.cells #[.pointer none, .pointer (some ⟨b68575, 0, none⟩)] 25 (0, 0))) :: (.blk b68575 (.cells #[.int .i64 0, .slice none 0 0] 53 (0, 0))) :: (.sl (.slice A86660 x86659.length c86662) 3 1 x86659.length cl86663) :: (.sl (.slice A86668 x86667.length c86670) 3 1 x86667.length cl86671) :: F) w' → Kp I w I86676 w' → RepL (Rp.int .i64) I86676 w' cl86663 x86659 → RepL (Rp.int .i64) I86676 w' cl86671 x86667 → Elems (Rp.int .u8) I86676 w' (some ⟨0, 0, none⟩) TAB0 → X [.func (.yield l86528) #[] #[], .pointer (some ⟨b72302, 0, none⟩), (D86657.getD 0 undef), .pointer none, .int .i64 x86658, (D86657.getD 1 undef), (D86657.getD 2 undef), (D86657.getD 3 undef), (D86657.getD 4 undef), (D86657.getD 5 undef), (D86657.getD 6 undef), (D86657.getD 7 undef), (D86657.getD 8 undef), (D86657.getD 9 undef), (D86657.getD 10 undef), (D86657.getD 11 undef), (D86657.getD 12 undef), undef, undef, undef, undef, (D86657.getD 13 undef), (D86657.getD 14 undef), (D86657.getD 15 undef), (D86657.getD 16 undef), (D86657.getD 17 undef), (D86657.getD 18 undef), (D86657.getD 19 undef), (D86657.getD 20 undef), (D86657.getD 21 undef), (D86657.getD 22 undef)] [] w') → X E ds wz) FUEL (fun X h => kc (by kernel_rfl) rfl (h I86549 x86543 ([] : List Int) ([] : List Int) [undef, undef, .pointer none, .pointer none, .pointer none, .int .i64 x86543, undef, undef, undef, undef, undef, undef, undef, undef, undef, undef, undef, undef, undef, undef, undef, undef, undef] none 0 [] none 0 [] _ hf s kk (RepL.nil (r := (Rp.int .i64))) (RepL.nil (r := (Rp.int .i64))) eg0)) (fun _ _ _ hJ => hJ (fun _ _ _ => False) (by intro I86676 x86658 x86659 x86667 D86657 A86660 c86662 cl86663 A86668 c86670 cl86671 w86675 hf s kk rp86665 rp86673 eg0; exact noneS hf)) ?_
    intro X86906 hX86907
    refine fun n86788 _ _ _ hJ => hJ (X86906 n86788) ?_
    intro I86676 x86658 x86659 x86667 D86657 A86660 c86662 cl86663 A86668 c86670 cl86671 w86675 hf s kk rp86665 rp86673 eg0
    refine hX86907 _ _ _ _ ?_
    replace hf : g7_l13B p0 (g7_l13 p0 n86788) x86658 x86659 x86667 = some r := hf
    generalize hrec86789 : g7_l13 p0 n86788 = rec86787 at hf
    unfold g7_l13B at hf
    refine WPK.seq ?_
    refine WPK.seq ?_
    refine WPK.region ?_
    refine RW.seg hT 2 [] [] [.int .i64 x86658, .bool (decide (x86658 ≥ 0))] [] (by kernel_rfl) (trivial) ?_
    refine RW.nil ?_
    by_cases h86791 : x86658 ≥ 0
    · have hf := iteT h86791 hf
      refine WPK.condT (Eq.trans (b := .bool (decide (x86658 ≥ 0))) (by kernel_rfl) (bo_t h86791)) ?_
      refine WPK.skip ?_
      refine WPK.block ?_
      refine WPK.seq ?_
      refine WPK.region ?_
      refine RW.seg hT 2 [] [] [.pointer none, .int .i64 x86658] [] (by kernel_rfl) (trivial) ?_
      obtain ⟨x86792, hx86793, hf⟩ := bindS hf
      refine RW.op (by kernel_rfl) (OK.call' en27 (by kernel_rfl) (c27 (F := (.blk l86528 (rec86530 .ready none)) :: (.blk d86529 (.deferred (some []))) :: (.blk b73111 (.cells #[.slice A86660 x86659.length c86662] 22 (0, 0))) :: (.blk b73108 (.cells #[.slice A86668 x86667.length c86670] 22 (0, 0))) :: (.blk b73105 (.cells #[.int .i64 9] 3 (0, 0))) :: (.blk b72302 (.cells #[.pointer none] 25 (0, 0))) :: (.blk b68578 (.cells #[.pointer none, .pointer (some ⟨b68575, 0, none⟩)] 25 (0, 0))) :: (.blk b68575 (.cells #[.int .i64 0, .slice none 0 0] 53 (0, 0))) :: (.sl (.slice A86660 x86659.length c86662) 3 1 x86659.length cl86663) :: (.sl (.slice A86668 x86667.length c86670) 3 1 x86667.length cl86671) :: F) x86658 s hx86793) ?_)
      intro X86796 hX86797
      refine fun _ _ hJ => hJ X86796 ?_
      intro I86798 w86794 s k86795
      refine hX86797 _ _ ?_
      replace rp86665 := rp86665.st k86795
      replace rp86673 := rp86673.st k86795
      replace eg0 := eg0.st k86795
      replace kk := kk.trans k86795
      refine RW.seg hT 1 [] [] [.int .i64 x86792] [] (by kernel_rfl) (trivial) ?_
      refine RW.nil ?_
      refine WPK.seq ?_
      refine WPK.seq ?_
      refine WPK.region ?_
      refine RW.seg hT 2 [] [] [.int .i64 x86792, .bool (decide (x86792 < 0))] [] (by kernel_rfl) (trivial) ?_
      refine RW.nil ?_
      by_cases h86800 : x86792 < 0
      · have hf := iteT h86800 hf
        refine WPK.condT (Eq.trans (b := .bool (decide (x86792 < 0))) (by kernel_rfl) (bo_t h86800)) ?_
        refine WPK.region ?_
        exact noneS hf
      · have hf := iteF h86800 hf
        refine WPK.condF (Eq.trans (b := .bool (decide (x86792 < 0))) (by kernel_rfl) (bo_f h86800)) ?_
        refine WPK.skip ?_
        refine WPK.seq ?_
        refine WPK.seq ?_
        refine WPK.region ?_
        refine RW.seg hT 5 [] [] [.func (.yield l86528) #[] #[], .int .i64 x86658, .int .i64 x86792, .int .i64 x86658, .int .i64 (IntKind.i64.wrap (x86792 - x86658))] [] (by kernel_rfl) (trivial) ?_
        refine RW.op (by kernel_rfl) (OK.yield (args := [.int .i64 x86658, .int .i64 (IntKind.i64.wrap (x86792 - x86658))]) hrec86531 s (i := 0) rfl (by kernel_rfl) rfl ?_)
        intro R86847 hR86848
        refine WPK.seq ?_
        refine WPK.region ?_
        refine RW.seg hT 1 [] [] [.int .i64 x86658] [] (by kernel_rfl) (trivial) ?_
        refine RW.nil ?_
        refine WPK.region ?_
        refine RW.seg hT 1 [] [] [.int .i64 (IntKind.i64.wrap (x86792 - x86658))] [] (by kernel_rfl) (trivial) ?_
        refine RW.nil ?_
        refine RoundBeg.of hrec86531 s (i := 0) rfl ?_
        intro w86849 s k86850
        replace rp86665 := rp86665.st k86850
        replace rp86673 := rp86673.st k86850
        replace eg0 := eg0.st k86850
        replace kk := kk.trans k86850
        refine WPK.block ?_
        refine WPK.seq ?_
        refine WPK.seq ?_
        refine WPK.region ?_
        refine RW.seg hT 4 [.slice A86668 x86667.length c86670, .int .i64 9] [(16, .int .i64 (x86667.length : Int))] [.slice A86668 x86667.length c86670, .int .i64 (x86667.length : Int), .int .i64 9, .bool (decide ((x86667.length : Int) ≥ 9))] [.cell ⟨b73108, 0, none⟩ (.slice A86668 x86667.length c86670), .veq (.int .i64 (x86667.length : Nat)) (.int .i64 (x86667.length : Int)), .cell ⟨b73105, 0, none⟩ (.int .i64 9)] (by kernel_rfl) (⟨s.cell (i := 3) (off := 0) rfl rfl, len_v rfl, s.cell (i := 4) (off := 0) rfl rfl⟩) ?_
        refine RW.nil ?_
        by_cases h86852 : (x86667.length : Int) ≥ 9
        · have hf := iteT h86852 hf
          refine WPK.condT (Eq.trans (b := .bool (decide ((x86667.length : Int) ≥ 9))) (by kernel_rfl) (bo_t h86852)) ?_
          refine WPK.exit (blockQ.other rfl (?_))
          refine RoundEnd.stop (Code.exit 0) hrec86531 s (i := 0) rfl ?_
          intro w86853 s k86854
          replace rp86665 := rp86665.st k86854
          replace rp86673 := rp86673.st k86854
          replace eg0 := eg0.st k86854
          replace kk := kk.trans k86854
          refine hR86848 _ _ ?_
          refine RW.seg hT 1 [] [] [.bool true] [] (by kernel_rfl) (trivial) ?_
          refine RW.nil ?_
          refine WPK.condT (by kernel_rfl) ?_
          refine WPK.ret (blockQ.ret (blockQ.ret (?_)))
          refine Fin.of (rs := []) hT [] (.tuple #[]) [] rfl (by kernel_rfl) (trivial) ?_
          refine hR86535 _ _ (RangeEnd.jump hrec86531 s (i := 0) rfl ?_)
          intro w86855 s k86856
          replace rp86665 := rp86665.st k86856
          replace rp86673 := rp86673.st k86856
          replace eg0 := eg0.st k86856
          replace kk := kk.trans k86856
          refine WPK.exit (blockQ.same ?_)
          replace s := s.pick [1, 2, 5, 6, 7, 8, 0] 9 rfl
          exact fun X h => kc (by kernel_rfl) rfl (h I86798 x86659 x86667 d86529 [.func (.func 31) #[] #[.pointer (some ⟨b72302, 0, none⟩)], .int .i64 9, undef, .pointer (some ⟨b73105, 0, none⟩), undef, undef, .func (.func 31) #[] #[.pointer (some ⟨b72302, 0, none⟩)], .bool false, .func (.func 31) #[] #[.pointer (some ⟨b72302, 0, none⟩)], undef, undef, undef, undef, undef, undef, undef, undef, undef, undef, undef, undef, undef, undef] A86660 c86662 cl86663 A86668 c86670 cl86671 _ hf s kk rp86665 rp86673 eg0)
        · have hf := iteF h86852 hf
          refine WPK.condF (Eq.trans (b := .bool (decide ((x86667.length : Int) ≥ 9))) (by kernel_rfl) (bo_f h86852)) ?_
          refine WPK.skip ?_
          refine WPK.seq ?_
          refine WPK.region ?_
          refine RW.seg hT 2 [.slice A86668 x86667.length c86670] [] [.slice A86668 x86667.length c86670, .int .i64 x86658] [.cell ⟨b73108, 0, none⟩ (.slice A86668 x86667.length c86670)] (by kernel_rfl) (s.cell (i := 3) (off := 0) rfl rfl) ?_
          refine RW.op (by kernel_rfl) (OK.new hT (f := fun b => .slice (some ⟨b, 0, none⟩) 1 1) (cs := [.int .i64 x86658]) (e := 3) (c := .tt) s (by kernel_rfl) trivial ?_)
          rintro w86857 b86858 s k86859 -
          replace rp86665 := rp86665.st k86859
          replace rp86673 := rp86673.st k86859
          replace eg0 := eg0.st k86859
          replace kk := kk.trans k86859
          have rp86860 : RepL (Rp.int .i64) I86798 w86857 [.int .i64 x86658] ([x86658] : List Int) := RepL.cons (c := [.int .i64 x86658]) (d := []) (rfl) (RepL.nil)
          replace s : St w0 M I86798 ((.sl (.slice (some ⟨b86858, 0, none⟩) 1 1) 3 1 1 [.int .i64 x86658]) :: (.blk l86528 (rec86530 .busy none)) :: (.blk d86529 (.deferred (some []))) :: (.blk b73111 (.cells #[.slice A86660 x86659.length c86662] 22 (0, 0))) :: (.blk b73108 (.cells #[.slice A86668 x86667.length c86670] 22 (0, 0))) :: (.blk b73105 (.cells #[.int .i64 9] 3 (0, 0))) :: (.blk b72302 (.cells #[.pointer none] 25 (0, 0))) :: (.blk b68578 (.cells #[.pointer none, .pointer (some ⟨b68575, 0, none⟩)] 25 (0, 0))) :: (.blk b68575 (.cells #[.int .i64 0, .slice none 0 0] 53 (0, 0))) :: (.sl (.slice A86660 x86659.length c86662) 3 1 x86659.length cl86663) :: (.sl (.slice A86668 x86667.length c86670) 3 1 x86667.length cl86671) :: F) w86857 := s.blkSl (i := 0) (n := 1) (c := 1) (size := 1) rfl rfl (Nat.le_refl _) (by decide)
          have hs86863 := St.src s (i := 0) rfl rfl rp86860
          have rq86864 := rp86860
          obtain ⟨x86865, hx86866, hf⟩ := bindS hf
          refine RW.op (by kernel_rfl) (OK.app hT (r := (Rp.int .i64)) (i := 10) (t := 22) (e := 3) (size := 1) (bytes := 8) (c := c86670) (n := x86667.length) (m := 1) s (by kernel_rfl) rfl rfl rfl rfl rfl (by decide) rfl rfl rfl rfl rp86673 hs86863 rq86864 flat_int rfl hx86866 ?_)
          rintro A86867 c86868 cl86869 w86870 s k86871 rp86872
          replace rp86860 := rp86860.st k86871
          replace rp86665 := rp86665.st k86871
          replace rp86673 := rp86673.st k86871
          replace eg0 := eg0.st k86871
          replace kk := kk.trans k86871
          refine RW.op (by kernel_rfl) (OK.store hT (i := 4) (b := b73108) (off := 0) (n := 1) (vs := [.slice A86867 x86865.length c86868]) (cs := [(.slice A86668 x86667.length c86670)]) (e := 22) s (by kernel_rfl) rfl rfl (flat_ok rfl) (Nat.le_of_ble_eq_true rfl) ?_)
          rintro w86873 s k86874 -
          replace rp86860 := rp86860.st k86874
          replace rp86665 := rp86665.st k86874
          replace rp86872 := rp86872.st k86874
          replace eg0 := eg0.st k86874
          replace kk := kk.trans k86874
          refine RW.nil ?_
          refine WPK.region ?_
          refine RW.seg hT 2 [.slice A86660 x86659.length c86662] [] [.slice A86660 x86659.length c86662, .int .i64 (IntKind.i64.wrap (x86792 - x86658))] [.cell ⟨b73111, 0, none⟩ (.slice A86660 x86659.length c86662)] (by kernel_rfl) (s.cell (i := 3) (off := 0) rfl rfl) ?_
          refine RW.op (by kernel_rfl) (OK.new hT (f := fun b => .slice (some ⟨b, 0, none⟩) 1 1) (cs := [.int .i64 (IntKind.i64.wrap (x86792 - x86658))]) (e := 3) (c := .tt) s (by kernel_rfl) trivial ?_)
          rintro w86875 b86876 s k86877 -
          replace rp86860 := rp86860.st k86877
          replace rp86665 := rp86665.st k86877
          replace rp86872 := rp86872.st k86877
          replace eg0 := eg0.st k86877
          replace kk := kk.trans k86877
          have rp86878 : RepL (Rp.int .i64) I86798 w86875 [.int .i64 (IntKind.i64.wrap (x86792 - x86658))] ([IntKind.i64.wrap (x86792 - x86658)] : List Int) := RepL.cons (c := [.int .i64 (IntKind.i64.wrap (x86792 - x86658))]) (d := []) (rfl) (RepL.nil)
          replace s : St w0 M I86798 ((.sl (.slice (some ⟨b86876, 0, none⟩) 1 1) 3 1 1 [.int .i64 (IntKind.i64.wrap (x86792 - x86658))]) :: (.sl (.slice (some ⟨b86858, 0, none⟩) 1 1) 3 1 1 [.int .i64 x86658]) :: (.blk l86528 (rec86530 .busy none)) :: (.blk d86529 (.deferred (some []))) :: (.blk b73111 (.cells #[.slice A86660 x86659.length c86662] 22 (0, 0))) :: (.blk b73108 (.cells #[.slice A86867 x86865.length c86868] 22 (0, 0))) :: (.blk b73105 (.cells #[.int .i64 9] 3 (0, 0))) :: (.blk b72302 (.cells #[.pointer none] 25 (0, 0))) :: (.blk b68578 (.cells #[.pointer none, .pointer (some ⟨b68575, 0, none⟩)] 25 (0, 0))) :: (.blk b68575 (.cells #[.int .i64 0, .slice none 0 0] 53 (0, 0))) :: (.sl (.slice A86660 x86659.length c86662) 3 1 x86659.length cl86663) :: (.sl (.slice A86867 x86865.length c86868) 3 1 x86865.length cl86869) :: F) w86875 := s.blkSl (i := 0) (n := 1) (c := 1) (size := 1) rfl rfl (Nat.le_refl _) (by decide)
          have hs86881 := St.src s (i := 0) rfl rfl rp86878
          have rq86882 := rp86878
          obtain ⟨x86883, hx86884, hf⟩ := bindS hf
          refine RW.op (by kernel_rfl) (OK.app hT (r := (Rp.int .i64)) (i := 10) (t := 22) (e := 3) (size := 1) (bytes := 8) (c := c86662) (n := x86659.length) (m := 1) s (by kernel_rfl) rfl rfl rfl rfl rfl (by decide) rfl rfl rfl rfl rp86665 hs86881 rq86882 flat_int rfl hx86884 ?_)
          rintro A86885 c86886 cl86887 w86888 s k86889 rp86890
          replace rp86878 := rp86878.st k86889
          replace rp86860 := rp86860.st k86889
          replace rp86665 := rp86665.st k86889
          replace rp86872 := rp86872.st k86889
          replace eg0 := eg0.st k86889
          replace kk := kk.trans k86889
          refine RW.op (by kernel_rfl) (OK.store hT (i := 4) (b := b73111) (off := 0) (n := 1) (vs := [.slice A86885 x86883.length c86886]) (cs := [(.slice A86660 x86659.length c86662)]) (e := 22) s (by kernel_rfl) rfl rfl (flat_ok rfl) (Nat.le_of_ble_eq_true rfl) ?_)
          rintro w86891 s k86892 -
          replace rp86878 := rp86878.st k86892
          replace rp86860 := rp86860.st k86892
          replace rp86890 := rp86890.st k86892
          replace rp86872 := rp86872.st k86892
          replace eg0 := eg0.st k86892
          replace kk := kk.trans k86892
          refine RW.nil ?_
          refine RoundEnd.next hrec86531 s (i := 2) rfl ?_
          intro w86893 s k86894
          replace rp86878 := rp86878.st k86894
          replace rp86860 := rp86860.st k86894
          replace rp86890 := rp86890.st k86894
          replace rp86872 := rp86872.st k86894
          replace eg0 := eg0.st k86894
          replace kk := kk.trans k86894
          refine hR86848 _ _ ?_
          refine RW.seg hT 1 [] [] [.bool false] [] (by kernel_rfl) (trivial) ?_
          refine RW.nil ?_
          refine WPK.condF (by kernel_rfl) ?_
          refine WPK.skip ?_
          refine WPK.region ?_
          refine RW.seg hT 2 [.pointer none] [] [.pointer none, .int .i64 x86792] [.cell ⟨b72302, 0, none⟩ (.pointer none)] (by kernel_rfl) (s.cell (i := 7) (off := 0) rfl rfl) ?_
          obtain ⟨x86895, hx86896, hf⟩ := bindS hf
          refine RW.op (by kernel_rfl) (OK.call' en27 (by kernel_rfl) (c27 (F := (.sl (.slice (some ⟨b86876, 0, none⟩) 1 1) 3 1 1 [.int .i64 (IntKind.i64.wrap (x86792 - x86658))]) :: (.sl (.slice (some ⟨b86858, 0, none⟩) 1 1) 3 1 1 [.int .i64 x86658]) :: (.blk l86528 (rec86530 .ready none)) :: (.blk d86529 (.deferred (some []))) :: (.blk b73111 (.cells #[.slice A86885 x86883.length c86886] 22 (0, 0))) :: (.blk b73108 (.cells #[.slice A86867 x86865.length c86868] 22 (0, 0))) :: (.blk b73105 (.cells #[.int .i64 9] 3 (0, 0))) :: (.blk b72302 (.cells #[.pointer none] 25 (0, 0))) :: (.blk b68578 (.cells #[.pointer none, .pointer (some ⟨b68575, 0, none⟩)] 25 (0, 0))) :: (.blk b68575 (.cells #[.int .i64 0, .slice none 0 0] 53 (0, 0))) :: (.sl (.slice A86885 x86883.length c86886) 3 1 x86883.length cl86887) :: (.sl (.slice A86867 x86865.length c86868) 3 1 x86865.length cl86869) :: F) x86792 s hx86896) ?_)
          intro X86899 hX86900
          refine fun _ _ hJ => hJ X86899 ?_
          intro I86901 w86897 s k86898
          refine hX86900 _ _ ?_
          replace rp86878 := rp86878.st k86898
          replace rp86860 := rp86860.st k86898
          replace rp86890 := rp86890.st k86898
          replace rp86872 := rp86872.st k86898
          replace eg0 := eg0.st k86898
          replace kk := kk.trans k86898
          refine RW.seg hT 1 [] [] [.int .i64 x86895] [] (by kernel_rfl) (trivial) ?_
          refine RW.nil ?_
          subst hrec86789
          replace s := s.pick [2, 3, 4, 5, 6, 7, 8, 9, 10, 11] 12 rfl
          exact ⟨n86788, Nat.le_refl _, fun X h => kc (by kernel_rfl) rfl (h I86901 x86895 x86883 x86865 [(D86657.getD 0 undef), .int .i64 x86792, (D86657.getD 2 undef), (D86657.getD 3 undef), (D86657.getD 4 undef), (D86657.getD 5 undef), .int .i64 x86658, .bool (decide (x86658 ≥ 0)), .pointer none, .int .i64 x86658, .int .i64 x86792, .int .i64 x86792, .bool (decide (x86792 < 0)), .func (.yield l86528) #[] #[], .int .i64 x86658, .int .i64 x86792, .int .i64 x86658, .int .i64 (IntKind.i64.wrap (x86792 - x86658)), .bool true, .bool false, .pointer none, .int .i64 x86792, .int .i64 x86895] A86885 c86886 cl86887 A86867 c86868 cl86869 _ hf s kk rp86890 rp86872 eg0)⟩
    · have hf := iteF h86791 hf
      refine WPK.condF (Eq.trans (b := .bool (decide (x86658 ≥ 0))) (by kernel_rfl) (bo_f h86791)) ?_
      refine WPK.exit (blockQ.same ?_)
      refine Fin.of (rs := []) hT [] (.tuple #[]) [] rfl (by kernel_rfl) (trivial) ?_
      refine hR86535 _ _ (RangeEnd.done hrec86531 s (i := 0) rfl ?_)
      intro w86902 s k86903
      replace rp86665 := rp86665.st k86903
      replace rp86673 := rp86673.st k86903
      replace eg0 := eg0.st k86903
      replace kk := kk.trans k86903
      replace s := s.pick [1, 2, 5, 6, 7, 8, 0] 9 rfl
      exact fun X h => kc (by kernel_rfl) rfl (h I86676 x86659 x86667 d86529 [.func (.func 31) #[] #[.pointer (some ⟨b72302, 0, none⟩)], .int .i64 9, undef, .pointer (some ⟨b73105, 0, none⟩), undef, undef, .func (.func 31) #[] #[.pointer (some ⟨b72302, 0, none⟩)], .bool false, .func (.func 31) #[] #[.pointer (some ⟨b72302, 0, none⟩)], undef, undef, undef, undef, undef, undef, undef, undef, undef, undef, undef, undef, undef, undef] A86660 c86662 cl86663 A86668 c86670 cl86671 _ hf s kk rp86665 rp86673 eg0)
end Go.Proofs.YtgcielbnmlfjbaaDoor
