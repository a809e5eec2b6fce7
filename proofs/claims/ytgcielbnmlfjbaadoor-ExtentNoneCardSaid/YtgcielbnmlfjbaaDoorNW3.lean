/- PRINTED BY sy.py: each call computes what the plain function of its number tells. -/
import Derived.Test.YtgcielbnmlfjbaaDoorNW2
namespace Go.Proofs.YtgcielbnmlfjbaaDoor
open Go Go.SX Go.RowKit
set_option maxRecDepth 100000
set_option linter.unusedVariables false
attribute [local irreducible] WPK RW RD Ret SX.Fin SX.Any opK RoundBeg RoundEnd RangeEnd Rounds
theorem c8 {w0 w : World} {M I : Nat → Prop} {F : List It}  (eg0 : Elems (Rp.int .u8) I w (some ⟨0, 0, none⟩) TAB0) (s : St w0 M I (F) w) {r : Bool} (hf : g8 = some r) :
    Ret Tryd.prog 8 [] w fun v wz => ∀ X : Value → World → Prop, (∀ (I' : Nat → Prop) (w' : World), St w0 M I' (F) w' → Kp I w I' w' → X (.bool r) w') → X v wz := by
  have kk : Kp I w I w := Kp.refl
  unfold g8 at hf
  refine Ret.of Tryd.func8 rfl ?_
  refine WPK.seq ?_
  refine WPK.region ?_
  refine RW.seg hT 1 [] [] [.bool false] [] (by kernel_rfl) (trivial) ?_
  refine RW.nil ?_
  refine WPK.seq ?_
  refine WPK.region ?_
  refine RW.op (by kernel_rfl) (OK.new hT (f := fun b => .slice (some ⟨b, 0, none⟩) 3 3) (cs := [.int .i64 5, .int .i64 1, .int .i64 2]) (e := 3) (c := .tt) s (by kernel_rfl) trivial ?_)
  rintro w43578 b43579 s k43580 -
  replace eg0 := eg0.st k43580
  replace kk := kk.trans k43580
  have rp43581 : RepL (Rp.int .i64) I w43578 [.int .i64 5, .int .i64 1, .int .i64 2] ([5, 1, 2] : List Int) := RepL.cons (c := [.int .i64 5]) (d := [.int .i64 1, .int .i64 2]) (rfl) (RepL.cons (c := [.int .i64 1]) (d := [.int .i64 2]) (rfl) (RepL.cons (c := [.int .i64 2]) (d := []) (rfl) (RepL.nil)))
  replace s : St w0 M I ((.sl (.slice (some ⟨b43579, 0, none⟩) 3 3) 3 1 3 [.int .i64 5, .int .i64 1, .int .i64 2]) :: F) w43578 := s.blkSl (i := 0) (n := 3) (c := 3) (size := 1) rfl rfl (Nat.le_refl _) (by decide)
  have sa43583 := s
  obtain ⟨hc43584, e43585⟩ := St.lend s (i := 0) rfl rfl rp43581
  have k43586 := Kp.shut (I := I) (w := w43578) (p := .sl (.slice (some ⟨b43579, 0, none⟩) 3 3) 3 1 3 [.int .i64 5, .int .i64 1, .int .i64 2])
  replace s := s.shut 0 rfl
  obtain ⟨x43587, hx43588, hf⟩ := bindS hf
  refine RW.op (by kernel_rfl) (OK.call' en10 (by kernel_rfl) (c10 (F := F) 8 ([5, 1, 2] : List Int) (some ⟨b43579, 0, none⟩) 3 hc43584 e43585 s hx43588) ?_)
  intro X43591 hX43592
  refine fun _ _ hJ => hJ X43591 ?_ ?_
  · intro I43593 w43589 hv s k43590
    refine hX43592 _ _ ?_
    replace hf := optN hv hf
    have s' := St.back sa43583 (i := 0) rfl s k43590
    replace k43590 := Kp.back sa43583 (i := 0) rfl k43590
    replace s := s'; clear s'
    obtain ⟨I43595, s, k43590⟩ : ∃ I : Nat → Prop, St w0 M I ((.sl (.slice (some ⟨b43579, 0, none⟩) 3 3) 3 1 3 [.int .i64 5, .int .i64 1, .int .i64 2]) :: F) w43589 ∧ Kp _ _ I _ := ⟨_, s, k43590⟩
    replace eg0 := eg0.st k43590
    replace rp43581 := rp43581.st k43590
    replace kk := kk.trans k43590
    refine RW.seg hT 1 [] [] [.pointer none] [] (by kernel_rfl) (trivial) ?_
    refine RW.nil ?_
    refine WPK.seq ?_
    refine WPK.seq ?_
    refine WPK.region ?_
    refine RW.seg hT 2 [] [] [.pointer none, .bool true] [] (by kernel_rfl) (trivial) ?_
    refine RW.nil ?_
    refine WPK.condT (by kernel_rfl) ?_
    refine WPK.seq ?_
    refine WPK.region ?_
    refine RW.seg hT 1 [] [] [.bool false] [] (by kernel_rfl) (trivial) ?_
    refine RW.nil ?_
    refine WPK.ret (?_)
    obtain rfl := someS hf
    refine Fin.of (rs := [.tmp 0]) hT [] (.bool false) [] rfl (by kernel_rfl) (trivial) ?_
    replace s := s.pick [] 1 rfl
    exact fun X h => vc rfl (h I43595 _ s kk)
  · intro x43597 I43596 b43598 A43599 n43600 c43601 cl43602 w43589 hv s k43590 hn43603 rp43604
    refine hX43592 _ _ ?_
    replace hf := optS hv hf
    have s' := St.back sa43583 (i := 0) rfl s k43590
    replace k43590 := Kp.back sa43583 (i := 0) rfl k43590
    replace s := s'; clear s'
    obtain ⟨I43607, s, k43590⟩ : ∃ I : Nat → Prop, St w0 M I ((.sl (.slice (some ⟨b43579, 0, none⟩) 3 3) 3 1 3 [.int .i64 5, .int .i64 1, .int .i64 2]) :: (.blk b43598 (.cells #[.int .i64 x43597.n, .slice A43599 n43600 c43601] 53 (0, 0))) :: (.sl (.slice A43599 n43600 c43601) 61 1 n43600 cl43602) :: F) w43589 ∧ Kp _ _ I _ := ⟨_, s, k43590⟩
    replace rp43604 := RepL.free (I' := I43607) (w' := w43589) free_int rp43604
    replace eg0 := eg0.st k43590
    replace rp43581 := rp43581.st k43590
    replace kk := kk.trans k43590
    refine RW.seg hT 1 [] [] [.pointer (some ⟨b43598, 0, none⟩)] [] (by kernel_rfl) (trivial) ?_
    refine RW.nil ?_
    refine WPK.seq ?_
    refine WPK.seq ?_
    refine WPK.region ?_
    refine RW.seg hT 2 [] [] [.pointer (some ⟨b43598, 0, none⟩), .bool false] [] (by kernel_rfl) (trivial) ?_
    refine RW.nil ?_
    refine WPK.condF (by kernel_rfl) ?_
    refine WPK.skip ?_
    refine WPK.seq ?_
    refine WPK.region ?_
    refine RW.seg hT 1 [] [] [.pointer (some ⟨b43598, 0, none⟩)] [] (by kernel_rfl) (trivial) ?_
    refine RW.op (by kernel_rfl) (OK.inl (args := [.pointer (some ⟨b43598, 0, none⟩)]) en12 (by kernel_rfl) ?_)
    intro R43608 hR43609
    refine Ret.of Tryd.func12 rfl ?_
    refine WPK.seq ?_
    refine WPK.region ?_
    refine RW.op (by kernel_rfl) (OK.new hT (f := fun b => .pointer (some ⟨b, 0, none⟩)) (cs := [.pointer (some ⟨b43598, 0, none⟩)]) (e := 25) (c := .tt) s (by kernel_rfl) trivial ?_)
    rintro w43613 b43614 s k43615 -
    replace rp43581 := rp43581.st k43615
    replace rp43604 := rp43604.st k43615
    replace eg0 := eg0.st k43615
    replace kk := kk.trans k43615
    refine RW.seg hT 1 [] [] [.nilFunc] [] (by kernel_rfl) (trivial) ?_
    refine RW.nil ?_
    refine WPK.seq ?_
    refine WPK.region ?_
    refine RW.seg hT 2 [] [] [.func (.func 31) #[] #[.pointer (some ⟨b43614, 0, none⟩)], .func (.func 31) #[] #[.pointer (some ⟨b43614, 0, none⟩)]] [] (by kernel_rfl) (trivial) ?_
    refine RW.nil ?_
    refine WPK.ret (?_)
    refine Fin.of (rs := [.tmp 2]) hT [] (.func (.func 31) #[] #[.pointer (some ⟨b43614, 0, none⟩)]) [] rfl (by kernel_rfl) (trivial) ?_
    refine hR43609 _ _ ?_
    refine RW.op (by kernel_rfl) (OK.inl (args := [.func (.func 31) #[] #[.pointer (some ⟨b43614, 0, none⟩)], .int .i64 9]) en11 (by kernel_rfl) ?_)
    intro R43616 hR43617
    refine Ret.of Tryd.func11 rfl ?_
    refine WPK.seq ?_
    refine WPK.region ?_
    refine RW.op (by kernel_rfl) (OK.new hT (f := fun b => .pointer (some ⟨b, 0, none⟩)) (cs := [.int .i64 9]) (e := 3) (c := .tt) s (by kernel_rfl) trivial ?_)
    rintro w45214 b45215 s k45216 -
    replace rp43581 := rp43581.st k45216
    replace rp43604 := rp43604.st k45216
    replace eg0 := eg0.st k45216
    replace kk := kk.trans k45216
    refine RW.seg hT 2 [] [] [.slice none 0 0, .slice none 0 0] [] (by kernel_rfl) (trivial) ?_
    refine RW.nil ?_
    refine WPK.seq ?_
    refine WPK.region ?_
    refine RW.op (by kernel_rfl) (OK.new hT (f := fun b => .pointer (some ⟨b, 0, none⟩)) (cs := [.slice none 0 0]) (e := 22) (c := .tt) s (by kernel_rfl) trivial ?_)
    rintro w45217 b45218 s k45219 -
    replace rp43581 := rp43581.st k45219
    replace rp43604 := rp43604.st k45219
    replace eg0 := eg0.st k45219
    replace kk := kk.trans k45219
    refine RW.op (by kernel_rfl) (OK.new hT (f := fun b => .pointer (some ⟨b, 0, none⟩)) (cs := [.slice none 0 0]) (e := 22) (c := .tt) s (by kernel_rfl) trivial ?_)
    rintro w45220 b45221 s k45222 -
    replace rp43581 := rp43581.st k45222
    replace rp43604 := rp43604.st k45222
    replace eg0 := eg0.st k45222
    replace kk := kk.trans k45222
    refine RW.nil ?_
    refine WPK.seq ?_
    refine WPK.seq ?_
    refine WPK.region ?_
    refine RW.seg hT 2 [] [] [.func (.func 31) #[] #[.pointer (some ⟨b43614, 0, none⟩)], .bool false] [] (by kernel_rfl) (trivial) ?_
    refine RW.nil ?_
    refine WPK.condF (by kernel_rfl) ?_
    refine WPK.skip ?_
    refine WPK.seq ?_
    refine WPK.cut' (fun E ds wz => ∀ X : Kont, (∀ (I46021 : Nat → Prop) (x46004 : (List Int)) (x46012 : (List Int)) (d46002 : Nat) (D46003 : List Value) (A46005 : Option Addr) (c46007 : Nat) (cl46008 : List Value) (A46013 : Option Addr) (c46015 : Nat) (cl46016 : List Value) (w' : World), g8_j1 x43597 x46004 x46012 = some r → St w0 M I46021 ((.blk b43598 (.cells #[.int .i64 x43597.n, .slice A43599 n43600 c43601] 53 (0, 0))) :: (.sl (.slice A43599 n43600 c43601) 61 1 n43600 cl43602) :: (.blk b45221 (.cells #[.slice A46005 x46004.length c46007] 22 (0, 0))) :: (.blk b45218 (.cells #[.slice A46013 x46012.length c46015] 22 (0, 0))) :: (.sl (.slice A46005 x46004.length c46007) 3 1 x46004.length cl46008) :: (.sl (.slice A46013 x46012.length c46015) 3 1 x46012.length cl46016) :: (.blk d46002 (.deferred (some []))) :: F) w' → Kp I w I46021 w' → RepL (Rp.int .i64) I46021 w' cl46008 x46004 → RepL (Rp.int .i64) I46021 w' cl46016 x46012 → RepL (Rp.int .u64) I46021 w' cl43602 x43597.w → Elems (Rp.int .u8) I46021 w' (some ⟨0, 0, none⟩) TAB0 → X [(D46003.getD 0 undef), (D46003.getD 1 undef), (D46003.getD 2 undef), (D46003.getD 3 undef), .slice none 0 0, .slice none 0 0, .pointer (some ⟨b45218, 0, none⟩), .pointer (some ⟨b45221, 0, none⟩), (D46003.getD 4 undef), (D46003.getD 5 undef), (D46003.getD 6 undef), (D46003.getD 7 undef), (D46003.getD 8 undef), (D46003.getD 9 undef), (D46003.getD 10 undef), (D46003.getD 11 undef), (D46003.getD 12 undef), (D46003.getD 13 undef), (D46003.getD 14 undef), (D46003.getD 15 undef), (D46003.getD 16 undef), (D46003.getD 17 undef), (D46003.getD 18 undef), (D46003.getD 19 undef), (D46003.getD 20 undef), (D46003.getD 21 undef), (D46003.getD 22 undef), undef, undef] [mk d46002] w') → X E ds wz) ?_ ?_
    · intro X46177 hX46178
      refine fun _ _ _ hJ => hJ X46177 ?_
      intro I46021 x46004 x46012 d46002 D46003 A46005 c46007 cl46008 A46013 c46015 cl46016 w46020 hf s kk rp46010 rp46018 rp43604 eg0
      refine hX46178 _ _ _ ?_
      unfold g8_j1 at hf
      refine WPK.seq ?_
      have rp43604S46022 := rp43604
      have rp46010S46022 := rp46010
      have rp46018S46022 := rp46018
      have eg0S46022 := eg0
      have kS46026 : Kp I46021 w46020 I46021 w46020 := Kp.refl
      refine WPK.draw (fun w' => ∃ I' : Nat → Prop, St w0 M I' ((.blk b43598 (.cells #[.int .i64 x43597.n, .slice A43599 n43600 c43601] 53 (0, 0))) :: (.sl (.slice A43599 n43600 c43601) 61 1 n43600 cl43602) :: (.blk b45221 (.cells #[.slice A46005 x46004.length c46007] 22 (0, 0))) :: (.blk b45218 (.cells #[.slice A46013 x46012.length c46015] 22 (0, 0))) :: (.sl (.slice A46005 x46004.length c46007) 3 1 x46004.length cl46008) :: (.sl (.slice A46013 x46012.length c46015) 3 1 x46012.length cl46016) :: (.blk d46002 (.deferred (some []))) :: F) w' ∧ Kp I46021 w46020 I' w') 4 (by kernel_rfl) ?_
      intro w46023 hd46024
      have k46025 := Kp.dr s hd46024
      replace s := s.dr hd46024
      replace rp43604 := rp43604.st k46025
      replace rp46010 := rp46010.st k46025
      replace rp46018 := rp46018.st k46025
      replace eg0 := eg0.st k46025
      replace kk := kk.trans k46025
      replace kS46026 := kS46026.trans k46025
      refine RD.seg hT (by kernel_rfl) [0, 1, 2, 3] [.slice A46013 x46012.length c46015, .slice A46005 x46004.length c46007] [] [.slice A46013 x46012.length c46015, .slice A46005 x46004.length c46007, .slice A46013 x46012.length c46015, .slice A46005 x46004.length c46007] [.cell ⟨b45218, 0, none⟩ (.slice A46013 x46012.length c46015), .cell ⟨b45221, 0, none⟩ (.slice A46005 x46004.length c46007)] (by kernel_rfl) (by rintro w' ⟨I', s, k⟩; have rp43604 := rp43604S46022.st k; have rp46010 := rp46010S46022.st k; have rp46018 := rp46018S46022.st k; have eg0 := eg0S46022.st k; exact ⟨s.cell (i := 3) (off := 0) rfl rfl, s.cell (i := 2) (off := 0) rfl rfl⟩) ⟨_, s.pick [0, 1, 2, 3, 4, 5, 6] 7 rfl, kS46026⟩ ?_
      refine RD.done (by kernel_rfl) ?_
      refine WPK.ret (?_)
      refine Fin.mark (i := 6) s rfl ?_
      intro w46027 s k46028
      replace rp43604 := rp43604.st k46028
      replace rp46010 := rp46010.st k46028
      replace rp46018 := rp46018.st k46028
      replace eg0 := eg0.st k46028
      replace kk := kk.trans k46028
      refine Fin.of (rs := [.tmp 4, .tmp 5]) hT [] (.tuple #[.slice A46013 x46012.length c46015, .slice A46005 x46004.length c46007]) [] rfl (by kernel_rfl) (trivial) ?_
      refine hR43617 _ _ ?_
      refine RW.seg hT 5 [] [] [.tuple #[.slice A46013 x46012.length c46015, .slice A46005 x46004.length c46007], .slice A46013 x46012.length c46015, .slice A46005 x46004.length c46007, .slice A46013 x46012.length c46015, .slice A46005 x46004.length c46007] [] (by kernel_rfl) (trivial) ?_
      refine RW.nil ?_
      refine WPK.seq ?_
      refine WPK.cut' (fun E ds wz => ∀ X : Kont, (∀ (I46103 : Nat → Prop) (x46101 : Bool) (D46100 : List Value) (w' : World), g8_j2 x46101 = some r → St w0 M I46103 (F) w' → Kp I w I46103 w' → Elems (Rp.int .u8) I46103 w' (some ⟨0, 0, none⟩) TAB0 → X [.bool x46101, (D46100.getD 0 undef), (D46100.getD 1 undef), (D46100.getD 2 undef), (D46100.getD 3 undef), (D46100.getD 4 undef), (D46100.getD 5 undef), (D46100.getD 6 undef), (D46100.getD 7 undef), (D46100.getD 8 undef), (D46100.getD 9 undef), (D46100.getD 10 undef), (D46100.getD 11 undef), (D46100.getD 12 undef), (D46100.getD 13 undef), (D46100.getD 14 undef), (D46100.getD 15 undef), (D46100.getD 16 undef), (D46100.getD 17 undef), (D46100.getD 18 undef), (D46100.getD 19 undef), (D46100.getD 20 undef), (D46100.getD 21 undef), (D46100.getD 22 undef), (D46100.getD 23 undef), (D46100.getD 24 undef), (D46100.getD 25 undef), (D46100.getD 26 undef), (D46100.getD 27 undef), (D46100.getD 28 undef), (D46100.getD 29 undef), (D46100.getD 30 undef), (D46100.getD 31 undef), (D46100.getD 32 undef), (D46100.getD 33 undef), (D46100.getD 34 undef), (D46100.getD 35 undef)] [] w') → X E ds wz) ?_ ?_
      · intro X46104 hX46105
        refine fun _ _ _ hJ => hJ X46104 ?_
        intro I46103 x46101 D46100 w46102 hf s kk eg0
        refine hX46105 _ _ _ ?_
        unfold g8_j2 at hf
        refine WPK.ret (?_)
        obtain rfl := someS hf
        refine Fin.of (rs := [.tmp 0]) hT [] (.bool x46101) [] rfl (by kernel_rfl) (trivial) ?_
        exact fun X h => vc rfl (h I46103 _ s kk)
      · refine WPK.region ?_
        refine RW.seg hT 1 [] [] [.pointer (some ⟨b43598, 0, none⟩)] [] (by kernel_rfl) (trivial) ?_
        obtain ⟨x46106, hx46107, hf⟩ := bindS hf
        refine RW.op (by kernel_rfl) (OK.call' en14 (by kernel_rfl) (c14_1 (F := (.blk b45221 (.cells #[.slice A46005 x46004.length c46007] 22 (0, 0))) :: (.blk b45218 (.cells #[.slice A46013 x46012.length c46015] 22 (0, 0))) :: (.sl (.slice A46005 x46004.length c46007) 3 1 x46004.length cl46008) :: (.sl (.slice A46013 x46012.length c46015) 3 1 x46012.length cl46016) :: F) x43597 b43598 A43599 n43600 c43601 cl43602 hn43603 rp43604 s hx46107) ?_)
        intro X46110 hX46111
        refine fun _ _ hJ => hJ X46110 ?_
        intro I46112 w46108 s k46109
        refine hX46111 _ _ ?_
        replace rp43604 := rp43604.st k46109
        replace rp46010 := rp46010.st k46109
        replace rp46018 := rp46018.st k46109
        replace eg0 := eg0.st k46109
        replace kk := kk.trans k46109
        refine RW.seg hT 1 [] [(16, .bool (decide (x46106 = 3)))] [.bool (decide (x46106 = 3))] [.veq (.bool (x46106 == 3)) (.bool (decide (x46106 = 3)))] (by kernel_rfl) (eq_v) ?_
        by_cases h46113 : x46106 = 3
        · have hf := iteT h46113 hf
          refine RW.seg hT 2 [] [(17, .bool true)] [.bool true, .pointer (some ⟨b43598, 0, none⟩)] [.veq (.bool (decide (x46106 = 3))) (.bool true)] (by kernel_rfl) (bo_t h46113) ?_
          obtain ⟨x46114, hx46115, hf⟩ := bindS hf
          refine RW.op (by kernel_rfl) (OK.call' en15 (by kernel_rfl) (c15_1 (F := (.blk b45221 (.cells #[.slice A46005 x46004.length c46007] 22 (0, 0))) :: (.blk b45218 (.cells #[.slice A46013 x46012.length c46015] 22 (0, 0))) :: (.sl (.slice A46005 x46004.length c46007) 3 1 x46004.length cl46008) :: (.sl (.slice A46013 x46012.length c46015) 3 1 x46012.length cl46016) :: F) x43597 2 b43598 A43599 n43600 c43601 cl43602 hn43603 rp43604 eg0 s hx46115) ?_)
          intro X46118 hX46119
          refine fun _ _ hJ => hJ X46118 ?_
          intro I46120 w46116 s k46117
          refine hX46119 _ _ ?_
          replace rp43604 := rp43604.st k46117
          replace rp46010 := rp46010.st k46117
          replace rp46018 := rp46018.st k46117
          replace eg0 := eg0.st k46117
          replace kk := kk.trans k46117
          refine RW.seg hT 2 [] [(20, .bool (decide (x46114 = 1)))] [.bool (decide (x46114 = 1)), .bool (decide (x46114 = 1))] [.veq (.bool (x46114 == 1)) (.bool (decide (x46114 = 1)))] (by kernel_rfl) (eq_v) ?_
          by_cases h46121 : x46114 = 1
          · have hf := iteT h46121 hf
            refine RW.seg hT 2 [] [(22, .bool true)] [.bool true, .pointer (some ⟨b43598, 0, none⟩)] [.veq (.bool (decide (x46114 = 1))) (.bool true)] (by kernel_rfl) (bo_t h46121) ?_
            obtain ⟨x46122, hx46123, hf⟩ := bindS hf
            refine RW.op (by kernel_rfl) (OK.call' en15 (by kernel_rfl) (c15_1 (F := (.blk b45221 (.cells #[.slice A46005 x46004.length c46007] 22 (0, 0))) :: (.blk b45218 (.cells #[.slice A46013 x46012.length c46015] 22 (0, 0))) :: (.sl (.slice A46005 x46004.length c46007) 3 1 x46004.length cl46008) :: (.sl (.slice A46013 x46012.length c46015) 3 1 x46012.length cl46016) :: F) x43597 3 b43598 A43599 n43600 c43601 cl43602 hn43603 rp43604 eg0 s hx46123) ?_)
            intro X46126 hX46127
            refine fun _ _ hJ => hJ X46126 ?_
            intro I46128 w46124 s k46125
            refine hX46127 _ _ ?_
            replace rp43604 := rp43604.st k46125
            replace rp46010 := rp46010.st k46125
            replace rp46018 := rp46018.st k46125
            replace eg0 := eg0.st k46125
            replace kk := kk.trans k46125
            refine RW.seg hT 2 [] [(25, .bool (decide (x46122 = (-1))))] [.bool (decide (x46122 = (-1))), .bool (decide (x46122 = (-1)))] [.veq (.bool (x46122 == (-1))) (.bool (decide (x46122 = (-1))))] (by kernel_rfl) (eq_v) ?_
            by_cases h46129 : x46122 = (-1)
            · have hf := iteT h46129 hf
              refine RW.seg hT 2 [] [(27, .bool true)] [.bool true, .slice A46013 x46012.length c46015] [.veq (.bool (decide (x46122 = (-1)))) (.bool true)] (by kernel_rfl) (bo_t h46129) ?_
              refine RW.op (by kernel_rfl) (OK.new hT (f := fun b => .slice (some ⟨b, 0, none⟩) 2 2) (cs := [.int .i64 1, .int .i64 5]) (e := 3) (c := .tt) s (by kernel_rfl) trivial ?_)
              rintro w46130 b46131 s k46132 -
              replace rp43604 := rp43604.st k46132
              replace rp46010 := rp46010.st k46132
              replace rp46018 := rp46018.st k46132
              replace eg0 := eg0.st k46132
              replace kk := kk.trans k46132
              have rp46133 : RepL (Rp.int .i64) I46128 w46130 [.int .i64 1, .int .i64 5] ([1, 5] : List Int) := RepL.cons (c := [.int .i64 1]) (d := [.int .i64 5]) (rfl) (RepL.cons (c := [.int .i64 5]) (d := []) (rfl) (RepL.nil))
              replace s : St w0 M I46128 ((.sl (.slice (some ⟨b46131, 0, none⟩) 2 2) 3 1 2 [.int .i64 1, .int .i64 5]) :: (.blk b43598 (.cells #[.int .i64 x43597.n, .slice A43599 n43600 c43601] 53 (0, 0))) :: (.sl (.slice A43599 n43600 c43601) 61 1 n43600 cl43602) :: (.blk b45221 (.cells #[.slice A46005 x46004.length c46007] 22 (0, 0))) :: (.blk b45218 (.cells #[.slice A46013 x46012.length c46015] 22 (0, 0))) :: (.sl (.slice A46005 x46004.length c46007) 3 1 x46004.length cl46008) :: (.sl (.slice A46013 x46012.length c46015) 3 1 x46012.length cl46016) :: F) w46130 := s.blkSl (i := 0) (n := 2) (c := 2) (size := 1) rfl rfl (Nat.le_refl _) (by decide)
              have sa46135 := s
              obtain ⟨hc46136, e46137⟩ := St.lend s (i := 6) rfl rfl rp46018
              have k46138 := Kp.shut (I := I46128) (w := w46130) (p := .sl (.slice A46013 x46012.length c46015) 3 1 x46012.length cl46016)
              replace s := s.shut 6 rfl
              have sa46139 := s
              obtain ⟨hc46140, e46141⟩ := St.lend s (i := 0) rfl rfl (rp46133.st k46138)
              have k46142 := Kp.shut (I := (fun k => I46128 k ∨ (It.sl (.slice A46013 x46012.length c46015) 3 1 x46012.length cl46016).foot = some k)) (w := w46130) (p := .sl (.slice (some ⟨b46131, 0, none⟩) 2 2) 3 1 2 [.int .i64 1, .int .i64 5])
              replace s := s.shut 0 rfl
              replace e46137 := e46137.st k46142
              obtain ⟨x46143, hx46144, hf⟩ := bindS hf
              refine RW.op (by kernel_rfl) (OK.call' en30 (by kernel_rfl) (c30 (F := (.blk b43598 (.cells #[.int .i64 x43597.n, .slice A43599 n43600 c43601] 53 (0, 0))) :: (.sl (.slice A43599 n43600 c43601) 61 1 n43600 cl43602) :: (.blk b45221 (.cells #[.slice A46005 x46004.length c46007] 22 (0, 0))) :: (.blk b45218 (.cells #[.slice A46013 x46012.length c46015] 22 (0, 0))) :: (.sl (.slice A46005 x46004.length c46007) 3 1 x46004.length cl46008) :: F) x46012 ([1, 5] : List Int) A46013 c46015 (some ⟨b46131, 0, none⟩) 2 hc46136 e46137 hc46140 e46141 s hx46144) ?_)
              intro X46147 hX46148
              refine fun _ _ hJ => hJ X46147 ?_
              intro I46149 w46145 s k46146
              refine hX46148 _ _ ?_
              have s' := St.back sa46139 (i := 0) rfl s k46146
              replace k46146 := Kp.back sa46139 (i := 0) rfl k46146
              replace s := s'; clear s'
              have s' := St.back sa46135 (i := 6) rfl s k46146
              replace k46146 := Kp.back sa46135 (i := 6) rfl k46146
              replace s := s'; clear s'
              obtain ⟨I46152, s, k46146⟩ : ∃ I : Nat → Prop, St w0 M I ((.sl (.slice A46013 x46012.length c46015) 3 1 x46012.length cl46016) :: (.sl (.slice (some ⟨b46131, 0, none⟩) 2 2) 3 1 2 [.int .i64 1, .int .i64 5]) :: (.blk b43598 (.cells #[.int .i64 x43597.n, .slice A43599 n43600 c43601] 53 (0, 0))) :: (.sl (.slice A43599 n43600 c43601) 61 1 n43600 cl43602) :: (.blk b45221 (.cells #[.slice A46005 x46004.length c46007] 22 (0, 0))) :: (.blk b45218 (.cells #[.slice A46013 x46012.length c46015] 22 (0, 0))) :: (.sl (.slice A46005 x46004.length c46007) 3 1 x46004.length cl46008) :: F) w46145 ∧ Kp _ _ I _ := ⟨_, s, k46146⟩
              replace rp43604 := rp43604.st k46146
              replace rp46010 := rp46010.st k46146
              replace eg0 := eg0.st k46146
              replace rp46018 := rp46018.st k46146
              replace rp46133 := rp46133.st k46146
              replace kk := kk.trans k46146
              refine RW.seg hT 1 [] [] [.bool x46143] [] (by kernel_rfl) (trivial) ?_
              by_cases h46153 : x46143 = true
              · have hf := iteT h46153 hf
                refine RW.seg hT 2 [] [(32, .bool true)] [.bool true, .slice A46005 x46004.length c46007] [.veq (.bool (x46143)) (.bool true)] (by kernel_rfl) (b_t h46153) ?_
                refine RW.op (by kernel_rfl) (OK.new hT (f := fun b => .slice (some ⟨b, 0, none⟩) 2 2) (cs := [.int .i64 2, .int .i64 1]) (e := 3) (c := .tt) s (by kernel_rfl) trivial ?_)
                rintro w46154 b46155 s k46156 -
                replace rp46018 := rp46018.st k46156
                replace rp46133 := rp46133.st k46156
                replace rp43604 := rp43604.st k46156
                replace rp46010 := rp46010.st k46156
                replace eg0 := eg0.st k46156
                replace kk := kk.trans k46156
                have rp46157 : RepL (Rp.int .i64) I46152 w46154 [.int .i64 2, .int .i64 1] ([2, 1] : List Int) := RepL.cons (c := [.int .i64 2]) (d := [.int .i64 1]) (rfl) (RepL.cons (c := [.int .i64 1]) (d := []) (rfl) (RepL.nil))
                replace s : St w0 M I46152 ((.sl (.slice (some ⟨b46155, 0, none⟩) 2 2) 3 1 2 [.int .i64 2, .int .i64 1]) :: (.sl (.slice A46013 x46012.length c46015) 3 1 x46012.length cl46016) :: (.sl (.slice (some ⟨b46131, 0, none⟩) 2 2) 3 1 2 [.int .i64 1, .int .i64 5]) :: (.blk b43598 (.cells #[.int .i64 x43597.n, .slice A43599 n43600 c43601] 53 (0, 0))) :: (.sl (.slice A43599 n43600 c43601) 61 1 n43600 cl43602) :: (.blk b45221 (.cells #[.slice A46005 x46004.length c46007] 22 (0, 0))) :: (.blk b45218 (.cells #[.slice A46013 x46012.length c46015] 22 (0, 0))) :: (.sl (.slice A46005 x46004.length c46007) 3 1 x46004.length cl46008) :: F) w46154 := s.blkSl (i := 0) (n := 2) (c := 2) (size := 1) rfl rfl (Nat.le_refl _) (by decide)
                have sa46159 := s
                obtain ⟨hc46160, e46161⟩ := St.lend s (i := 7) rfl rfl rp46010
                have k46162 := Kp.shut (I := I46152) (w := w46154) (p := .sl (.slice A46005 x46004.length c46007) 3 1 x46004.length cl46008)
                replace s := s.shut 7 rfl
                have sa46163 := s
                obtain ⟨hc46164, e46165⟩ := St.lend s (i := 0) rfl rfl (rp46157.st k46162)
                have k46166 := Kp.shut (I := (fun k => I46152 k ∨ (It.sl (.slice A46005 x46004.length c46007) 3 1 x46004.length cl46008).foot = some k)) (w := w46154) (p := .sl (.slice (some ⟨b46155, 0, none⟩) 2 2) 3 1 2 [.int .i64 2, .int .i64 1])
                replace s := s.shut 0 rfl
                replace e46161 := e46161.st k46166
                obtain ⟨x46167, hx46168, hf⟩ := bindS hf
                refine RW.op (by kernel_rfl) (OK.call' en30 (by kernel_rfl) (c30 (F := (.sl (.slice A46013 x46012.length c46015) 3 1 x46012.length cl46016) :: (.sl (.slice (some ⟨b46131, 0, none⟩) 2 2) 3 1 2 [.int .i64 1, .int .i64 5]) :: (.blk b43598 (.cells #[.int .i64 x43597.n, .slice A43599 n43600 c43601] 53 (0, 0))) :: (.sl (.slice A43599 n43600 c43601) 61 1 n43600 cl43602) :: (.blk b45221 (.cells #[.slice A46005 x46004.length c46007] 22 (0, 0))) :: (.blk b45218 (.cells #[.slice A46013 x46012.length c46015] 22 (0, 0))) :: F) x46004 ([2, 1] : List Int) A46005 c46007 (some ⟨b46155, 0, none⟩) 2 hc46160 e46161 hc46164 e46165 s hx46168) ?_)
                intro X46171 hX46172
                refine fun _ _ hJ => hJ X46171 ?_
                intro I46173 w46169 s k46170
                refine hX46172 _ _ ?_
                have s' := St.back sa46163 (i := 0) rfl s k46170
                replace k46170 := Kp.back sa46163 (i := 0) rfl k46170
                replace s := s'; clear s'
                have s' := St.back sa46159 (i := 7) rfl s k46170
                replace k46170 := Kp.back sa46159 (i := 7) rfl k46170
                replace s := s'; clear s'
                obtain ⟨I46176, s, k46170⟩ : ∃ I : Nat → Prop, St w0 M I ((.sl (.slice A46005 x46004.length c46007) 3 1 x46004.length cl46008) :: (.sl (.slice (some ⟨b46155, 0, none⟩) 2 2) 3 1 2 [.int .i64 2, .int .i64 1]) :: (.sl (.slice A46013 x46012.length c46015) 3 1 x46012.length cl46016) :: (.sl (.slice (some ⟨b46131, 0, none⟩) 2 2) 3 1 2 [.int .i64 1, .int .i64 5]) :: (.blk b43598 (.cells #[.int .i64 x43597.n, .slice A43599 n43600 c43601] 53 (0, 0))) :: (.sl (.slice A43599 n43600 c43601) 61 1 n43600 cl43602) :: (.blk b45221 (.cells #[.slice A46005 x46004.length c46007] 22 (0, 0))) :: (.blk b45218 (.cells #[.slice A46013 x46012.length c46015] 22 (0, 0))) :: F) w46169 ∧ Kp _ _ I _ := ⟨_, s, k46170⟩
                replace rp46018 := rp46018.st k46170
                replace rp46133 := rp46133.st k46170
                replace rp43604 := rp43604.st k46170
                replace eg0 := eg0.st k46170
                replace rp46010 := rp46010.st k46170
                replace rp46157 := rp46157.st k46170
                replace kk := kk.trans k46170
                refine RW.seg hT 2 [] [] [.bool x46167, .bool x46167] [] (by kernel_rfl) (trivial) ?_
                refine RW.nil ?_
                replace s := s.pick [] 8 rfl
                exact fun X h => kc (by kernel_rfl) rfl (h I46176 x46167 [.pointer (some ⟨b43598, 0, none⟩), .slice A46013 x46012.length c46015, .slice A46005 x46004.length c46007, (.slice (some ⟨b43579, 0, none⟩) 3 3), .pointer (some ⟨b43598, 0, none⟩), .pointer (some ⟨b43598, 0, none⟩), .bool false, .tuple #[.slice A46013 x46012.length c46015, .slice A46005 x46004.length c46007], .pointer (some ⟨b43598, 0, none⟩), .func (.func 31) #[] #[.pointer (some ⟨b43614, 0, none⟩)], .tuple #[.slice A46013 x46012.length c46015, .slice A46005 x46004.length c46007], .slice A46013 x46012.length c46015, .slice A46005 x46004.length c46007, .pointer (some ⟨b43598, 0, none⟩), .int .i64 x46106, .bool (decide (x46106 = 3)), .bool true, .pointer (some ⟨b43598, 0, none⟩), .int .i64 x46114, .bool (decide (x46114 = 1)), .bool (decide (x46114 = 1)), .bool true, .pointer (some ⟨b43598, 0, none⟩), .int .i64 x46122, .bool (decide (x46122 = (-1))), .bool (decide (x46122 = (-1))), .bool true, .slice A46013 x46012.length c46015, .slice (some ⟨b46131, 0, none⟩) 2 2, .bool x46143, .bool x46143, .bool true, .slice A46005 x46004.length c46007, .slice (some ⟨b46155, 0, none⟩) 2 2, .bool x46167, .bool x46167] _ hf s kk eg0)
              · have hf := iteF h46153 hf
                refine RW.seg hT 6 [] [(32, .bool false)] [.bool false, undef, undef, undef, .bool false, .bool false] [.veq (.bool (x46143)) (.bool false)] (by kernel_rfl) (b_f h46153) ?_
                refine RW.nil ?_
                replace s := s.pick [] 7 rfl
                exact fun X h => kc (by kernel_rfl) rfl (h I46152 false [.pointer (some ⟨b43598, 0, none⟩), .slice A46013 x46012.length c46015, .slice A46005 x46004.length c46007, (.slice (some ⟨b43579, 0, none⟩) 3 3), .pointer (some ⟨b43598, 0, none⟩), .pointer (some ⟨b43598, 0, none⟩), .bool false, .tuple #[.slice A46013 x46012.length c46015, .slice A46005 x46004.length c46007], .pointer (some ⟨b43598, 0, none⟩), .func (.func 31) #[] #[.pointer (some ⟨b43614, 0, none⟩)], .tuple #[.slice A46013 x46012.length c46015, .slice A46005 x46004.length c46007], .slice A46013 x46012.length c46015, .slice A46005 x46004.length c46007, .pointer (some ⟨b43598, 0, none⟩), .int .i64 x46106, .bool (decide (x46106 = 3)), .bool true, .pointer (some ⟨b43598, 0, none⟩), .int .i64 x46114, .bool (decide (x46114 = 1)), .bool (decide (x46114 = 1)), .bool true, .pointer (some ⟨b43598, 0, none⟩), .int .i64 x46122, .bool (decide (x46122 = (-1))), .bool (decide (x46122 = (-1))), .bool true, .slice A46013 x46012.length c46015, .slice (some ⟨b46131, 0, none⟩) 2 2, .bool x46143, .bool x46143, .bool false, undef, undef, undef, .bool false] _ hf s kk eg0)
            · have hf := iteF h46129 hf
              refine RW.seg hT 11 [] [(27, .bool false)] [.bool false, undef, undef, undef, .bool false, .bool false, undef, undef, undef, .bool false, .bool false] [.veq (.bool (decide (x46122 = (-1)))) (.bool false)] (by kernel_rfl) (bo_f h46129) ?_
              refine RW.nil ?_
              replace s := s.pick [] 6 rfl
              exact fun X h => kc (by kernel_rfl) rfl (h I46128 false [.pointer (some ⟨b43598, 0, none⟩), .slice A46013 x46012.length c46015, .slice A46005 x46004.length c46007, (.slice (some ⟨b43579, 0, none⟩) 3 3), .pointer (some ⟨b43598, 0, none⟩), .pointer (some ⟨b43598, 0, none⟩), .bool false, .tuple #[.slice A46013 x46012.length c46015, .slice A46005 x46004.length c46007], .pointer (some ⟨b43598, 0, none⟩), .func (.func 31) #[] #[.pointer (some ⟨b43614, 0, none⟩)], .tuple #[.slice A46013 x46012.length c46015, .slice A46005 x46004.length c46007], .slice A46013 x46012.length c46015, .slice A46005 x46004.length c46007, .pointer (some ⟨b43598, 0, none⟩), .int .i64 x46106, .bool (decide (x46106 = 3)), .bool true, .pointer (some ⟨b43598, 0, none⟩), .int .i64 x46114, .bool (decide (x46114 = 1)), .bool (decide (x46114 = 1)), .bool true, .pointer (some ⟨b43598, 0, none⟩), .int .i64 x46122, .bool (decide (x46122 = (-1))), .bool (decide (x46122 = (-1))), .bool false, undef, undef, undef, .bool false, .bool false, undef, undef, undef, .bool false] _ hf s kk eg0)
          · have hf := iteF h46121 hf
            refine RW.seg hT 16 [] [(22, .bool false)] [.bool false, undef, undef, undef, .bool false, .bool false, undef, undef, undef, .bool false, .bool false, undef, undef, undef, .bool false, .bool false] [.veq (.bool (decide (x46114 = 1))) (.bool false)] (by kernel_rfl) (bo_f h46121) ?_
            refine RW.nil ?_
            replace s := s.pick [] 6 rfl
            exact fun X h => kc (by kernel_rfl) rfl (h I46120 false [.pointer (some ⟨b43598, 0, none⟩), .slice A46013 x46012.length c46015, .slice A46005 x46004.length c46007, (.slice (some ⟨b43579, 0, none⟩) 3 3), .pointer (some ⟨b43598, 0, none⟩), .pointer (some ⟨b43598, 0, none⟩), .bool false, .tuple #[.slice A46013 x46012.length c46015, .slice A46005 x46004.length c46007], .pointer (some ⟨b43598, 0, none⟩), .func (.func 31) #[] #[.pointer (some ⟨b43614, 0, none⟩)], .tuple #[.slice A46013 x46012.length c46015, .slice A46005 x46004.length c46007], .slice A46013 x46012.length c46015, .slice A46005 x46004.length c46007, .pointer (some ⟨b43598, 0, none⟩), .int .i64 x46106, .bool (decide (x46106 = 3)), .bool true, .pointer (some ⟨b43598, 0, none⟩), .int .i64 x46114, .bool (decide (x46114 = 1)), .bool (decide (x46114 = 1)), .bool false, undef, undef, undef, .bool false, .bool false, undef, undef, undef, .bool false, .bool false, undef, undef, undef, .bool false] _ hf s kk eg0)
        · have hf := iteF h46113 hf
          refine RW.seg hT 21 [] [(17, .bool false)] [.bool false, undef, undef, undef, .bool false, .bool false, undef, undef, undef, .bool false, .bool false, undef, undef, undef, .bool false, .bool false, undef, undef, undef, .bool false, .bool false] [.veq (.bool (decide (x46106 = 3))) (.bool false)] (by kernel_rfl) (bo_f h46113) ?_
          refine RW.nil ?_
          replace s := s.pick [] 6 rfl
          exact fun X h => kc (by kernel_rfl) rfl (h I46112 false [.pointer (some ⟨b43598, 0, none⟩), .slice A46013 x46012.length c46015, .slice A46005 x46004.length c46007, (.slice (some ⟨b43579, 0, none⟩) 3 3), .pointer (some ⟨b43598, 0, none⟩), .pointer (some ⟨b43598, 0, none⟩), .bool false, .tuple #[.slice A46013 x46012.length c46015, .slice A46005 x46004.length c46007], .pointer (some ⟨b43598, 0, none⟩), .func (.func 31) #[] #[.pointer (some ⟨b43614, 0, none⟩)], .tuple #[.slice A46013 x46012.length c46015, .slice A46005 x46004.length c46007], .slice A46013 x46012.length c46015, .slice A46005 x46004.length c46007, .pointer (some ⟨b43598, 0, none⟩), .int .i64 x46106, .bool (decide (x46106 = 3)), .bool false, undef, undef, undef, .bool false, .bool false, undef, undef, undef, .bool false, .bool false, undef, undef, undef, .bool false, .bool false, undef, undef, undef, .bool false] _ hf s kk eg0)
    · refine WPK.seq ?_
      refine WPK.region ?_
      refine RW.seg hT 1 [] [] [.func (.func 31) #[] #[.pointer (some ⟨b43614, 0, none⟩)]] [] (by kernel_rfl) (trivial) ?_
      refine RW.nil ?_
      refine WPK.block ?_
      refine WPK.range (gf := 31) (first := []) (cap := [.pointer (some ⟨b43614, 0, none⟩)]) s (by kernel_rfl) en31 ?_
      intro l46179 d46180 rec46181 w46183 R46185 hrec46182 s k46184 hR46186
      replace rp43581 := rp43581.st k46184
      replace rp43604 := rp43604.st k46184
      replace eg0 := eg0.st k46184
      replace kk := kk.trans k46184
      refine Ret.of Tryd.func31 rfl ?_
      refine WPK.seq ?_
      refine WPK.region ?_
      refine RW.seg hT 1 [.pointer (some ⟨b43598, 0, none⟩)] [] [.pointer (some ⟨b43598, 0, none⟩)] [.cell ⟨b43614, 0, none⟩ (.pointer (some ⟨b43598, 0, none⟩))] (by kernel_rfl) (s.cell (i := 5) (off := 0) rfl rfl) ?_
      replace s := s.pick [7, 8, 0, 1, 2, 3, 4, 5, 6] 9 rfl
      obtain ⟨x46187, hx46188, hf⟩ := bindS hf
      refine RW.op (by kernel_rfl) (OK.call' en16 (by kernel_rfl) (c16_1 (F := (.blk l46179 (rec46181 .ready none)) :: (.blk d46180 (.deferred (some []))) :: (.blk b45221 (.cells #[.slice none 0 0] 22 (0, 0))) :: (.blk b45218 (.cells #[.slice none 0 0] 22 (0, 0))) :: (.blk b45215 (.cells #[.int .i64 9] 3 (0, 0))) :: (.blk b43614 (.cells #[.pointer (some ⟨b43598, 0, none⟩)] 25 (0, 0))) :: (.sl (.slice (some ⟨b43579, 0, none⟩) 3 3) 3 1 3 [.int .i64 5, .int .i64 1, .int .i64 2]) :: F) x43597 b43598 A43599 n43600 c43601 cl43602 hn43603 rp43604 s hx46188) ?_)
      intro X46191 hX46192
      refine fun _ _ hJ => hJ X46191 ?_ ?_
      · intro I46193 w46189 hv s k46190
        refine hX46192 _ _ ?_
        replace hf := optN hv hf
        replace rp43604 := rp43604.st k46190
        replace rp43581 := rp43581.st k46190
        replace eg0 := eg0.st k46190
        replace kk := kk.trans k46190
        refine RW.seg hT 1 [] [] [.pointer none] [] (by kernel_rfl) (trivial) ?_
        refine RW.nil ?_
        refine WPK.seq ?_
        refine WPK.region ?_
        refine RW.seg hT 1 [.pointer (some ⟨b43598, 0, none⟩)] [] [.pointer (some ⟨b43598, 0, none⟩)] [.cell ⟨b43614, 0, none⟩ (.pointer (some ⟨b43598, 0, none⟩))] (by kernel_rfl) (s.cell (i := 7) (off := 0) rfl rfl) ?_
        obtain ⟨x46204, hx46205, hf⟩ := bindS hf
        refine RW.op (by kernel_rfl) (OK.call' en27 (by kernel_rfl) (c27_1 (F := (.blk l46179 (rec46181 .ready none)) :: (.blk d46180 (.deferred (some []))) :: (.blk b45221 (.cells #[.slice none 0 0] 22 (0, 0))) :: (.blk b45218 (.cells #[.slice none 0 0] 22 (0, 0))) :: (.blk b45215 (.cells #[.int .i64 9] 3 (0, 0))) :: (.blk b43614 (.cells #[.pointer (some ⟨b43598, 0, none⟩)] 25 (0, 0))) :: (.sl (.slice (some ⟨b43579, 0, none⟩) 3 3) 3 1 3 [.int .i64 5, .int .i64 1, .int .i64 2]) :: F) x43597 0 b43598 A43599 n43600 c43601 cl43602 hn43603 rp43604 eg0 s hx46205) ?_)
        intro X46208 hX46209
        refine fun _ _ hJ => hJ X46208 ?_
        intro I46210 w46206 s k46207
        refine hX46209 _ _ ?_
        replace rp43604 := rp43604.st k46207
        replace rp43581 := rp43581.st k46207
        replace eg0 := eg0.st k46207
        replace kk := kk.trans k46207
        refine RW.seg hT 1 [] [] [.int .i64 x46204] [] (by kernel_rfl) (trivial) ?_
        refine RW.nil ?_
        refine WPK.block ?_
        replace s := s.pushNil 3 1
        replace s := s.pushNil 3 1
        replace s := s.pick [2, 3, 4, 5, 6, 7, 8, 9, 1, 0] 11 rfl
        refine WPK.loop' (J := fun n46457 E ds wz => ∀ X : Kont, (∀ (I46341 : Nat → Prop) (x46323 : Int) (x46324 : (List Int)) (x46332 : (List Int)) (D46322 : List Value) (A46325 : Option Addr) (c46327 : Nat) (cl46328 : List Value) (A46333 : Option Addr) (c46335 : Nat) (cl46336 : List Value) (w' : World), g8_l3 x43597 n46457 x46323 x46324 x46332 = some r → St w0 M I46341 ((.blk b43598 (.cells #[.int .i64 x43597.n, .slice A43599 n43600 c43601] 53 (0, 0))) :: (.sl (.slice A43599 n43600 c43601) 61 1 n43600 cl43602) :: (.blk l46179 (rec46181 .ready none)) :: (.blk d46180 (.deferred (some []))) :: (.blk b45221 (.cells #[.slice A46325 x46324.length c46327] 22 (0, 0))) :: (.blk b45218 (.cells #[.slice A46333 x46332.length c46335] 22 (0, 0))) :: (.blk b45215 (.cells #[.int .i64 9] 3 (0, 0))) :: (.blk b43614 (.cells #[.pointer (some ⟨b43598, 0, none⟩)] 25 (0, 0))) :: (.sl (.slice A46325 x46324.length c46327) 3 1 x46324.length cl46328) :: (.sl (.slice A46333 x46332.length c46335) 3 1 x46332.length cl46336) :: F) w' → Kp I w I46341 w' → RepL (Rp.int .i64) I46341 w' cl46328 x46324 → RepL (Rp.int .i64) I46341 w' cl46336 x46332 → RepL (Rp.int .u64) I46341 w' cl43602 x43597.w → Elems (Rp.int .u8) I46341 w' (some ⟨0, 0, none⟩) TAB0 → X [.func (.yield l46179) #[] #[], .pointer (some ⟨b43614, 0, none⟩), (D46322.getD 0 undef), .pointer none, .int .i64 x46323, (D46322.getD 1 undef), (D46322.getD 2 undef), (D46322.getD 3 undef), (D46322.getD 4 undef), (D46322.getD 5 undef), (D46322.getD 6 undef), (D46322.getD 7 undef), (D46322.getD 8 undef), (D46322.getD 9 undef), (D46322.getD 10 undef), (D46322.getD 11 undef), (D46322.getD 12 undef), (D46322.getD 13 undef), (D46322.getD 14 undef), (D46322.getD 15 undef), (D46322.getD 16 undef), (D46322.getD 17 undef), (D46322.getD 18 undef), (D46322.getD 19 undef), (D46322.getD 20 undef), (D46322.getD 21 undef), (D46322.getD 22 undef), (D46322.getD 23 undef), (D46322.getD 24 undef), (D46322.getD 25 undef), (D46322.getD 26 undef)] [] w') → X E ds wz) FUEL (fun X h => kc (by kernel_rfl) rfl (h I46210 x46204 ([] : List Int) ([] : List Int) [undef, undef, .pointer (some ⟨b43598, 0, none⟩), .pointer none, .pointer (some ⟨b43598, 0, none⟩), .int .i64 x46204, undef, undef, undef, undef, undef, undef, undef, undef, undef, undef, undef, undef, undef, undef, undef, undef, undef, undef, undef, undef, undef] none 0 [] none 0 [] _ hf s kk (RepL.nil (r := (Rp.int .i64))) (RepL.nil (r := (Rp.int .i64))) rp43604 eg0)) (fun _ _ _ hJ => hJ (fun _ _ _ => False) (by intro I46341 x46323 x46324 x46332 D46322 A46325 c46327 cl46328 A46333 c46335 cl46336 w46340 hf s kk rp46330 rp46338 rp43604 eg0; exact noneS hf)) ?_
        intro X46579 hX46580
        refine fun n46457 _ _ _ hJ => hJ (X46579 n46457) ?_
        intro I46341 x46323 x46324 x46332 D46322 A46325 c46327 cl46328 A46333 c46335 cl46336 w46340 hf s kk rp46330 rp46338 rp43604 eg0
        refine hX46580 _ _ _ _ ?_
        replace hf : g8_l3B x43597 (g8_l3 x43597 n46457) x46323 x46324 x46332 = some r := hf
        generalize hrec46458 : g8_l3 x43597 n46457 = rec46456 at hf
        unfold g8_l3B at hf
        refine WPK.seq ?_
        refine WPK.seq ?_
        refine WPK.region ?_
        refine RW.seg hT 2 [] [] [.int .i64 x46323, .bool (decide (x46323 ≥ 0))] [] (by kernel_rfl) (trivial) ?_
        refine RW.nil ?_
        by_cases h46460 : x46323 ≥ 0
        · have hf := iteT h46460 hf
          refine WPK.condT (Eq.trans (b := .bool (decide (x46323 ≥ 0))) (by kernel_rfl) (bo_t h46460)) ?_
          refine WPK.skip ?_
          refine WPK.block ?_
          refine WPK.seq ?_
          refine WPK.region ?_
          refine RW.seg hT 2 [] [] [.pointer none, .int .i64 x46323] [] (by kernel_rfl) (trivial) ?_
          obtain ⟨x46461, hx46462, hf⟩ := bindS hf
          refine RW.op (by kernel_rfl) (OK.call' en27 (by kernel_rfl) (c27 (F := (.blk b43598 (.cells #[.int .i64 x43597.n, .slice A43599 n43600 c43601] 53 (0, 0))) :: (.sl (.slice A43599 n43600 c43601) 61 1 n43600 cl43602) :: (.blk l46179 (rec46181 .ready none)) :: (.blk d46180 (.deferred (some []))) :: (.blk b45221 (.cells #[.slice A46325 x46324.length c46327] 22 (0, 0))) :: (.blk b45218 (.cells #[.slice A46333 x46332.length c46335] 22 (0, 0))) :: (.blk b45215 (.cells #[.int .i64 9] 3 (0, 0))) :: (.blk b43614 (.cells #[.pointer (some ⟨b43598, 0, none⟩)] 25 (0, 0))) :: (.sl (.slice A46325 x46324.length c46327) 3 1 x46324.length cl46328) :: (.sl (.slice A46333 x46332.length c46335) 3 1 x46332.length cl46336) :: F) x46323 s hx46462) ?_)
          intro X46465 hX46466
          refine fun _ _ hJ => hJ X46465 ?_
          intro I46467 w46463 s k46464
          refine hX46466 _ _ ?_
          replace rp43604 := rp43604.st k46464
          replace rp46330 := rp46330.st k46464
          replace rp46338 := rp46338.st k46464
          replace eg0 := eg0.st k46464
          replace kk := kk.trans k46464
          refine RW.seg hT 1 [] [] [.int .i64 x46461] [] (by kernel_rfl) (trivial) ?_
          refine RW.nil ?_
          refine WPK.seq ?_
          refine WPK.cut' (fun E ds wz => ∀ X : Kont, (∀ (x46470 : Int) (D46469 : List Value), g8_j4 x43597 x46323 x46324 x46332 rec46456 x46470 = some r → X [.func (.yield l46179) #[] #[], .pointer (some ⟨b43614, 0, none⟩), (D46469.getD 0 undef), .pointer none, .int .i64 x46323, .int .i64 x46470, (D46469.getD 1 undef), (D46469.getD 2 undef), (D46469.getD 3 undef), (D46469.getD 4 undef), .int .i64 x46323, .bool (decide (x46323 ≥ 0)), (D46469.getD 5 undef), (D46469.getD 6 undef), .int .i64 x46461, .int .i64 x46461, .bool (decide (x46461 < 0)), (D46469.getD 7 undef), (D46469.getD 8 undef), (D46469.getD 9 undef), (D46469.getD 10 undef), (D46469.getD 11 undef), (D46469.getD 12 undef), (D46322.getD 19 undef), (D46322.getD 20 undef), (D46469.getD 13 undef), (D46322.getD 22 undef), (D46322.getD 23 undef), (D46469.getD 14 undef), (D46469.getD 15 undef), (D46322.getD 26 undef)] [] w46463) → X E ds wz) ?_ ?_
          · intro X46572 hX46573
            refine fun _ _ _ hJ => hJ X46572 ?_
            intro x46470 D46469 hf
            refine hX46573 _ _ _ ?_
            unfold g8_j4 at hf
            refine WPK.seq ?_
            refine WPK.seq ?_
            refine WPK.region ?_
            refine RW.seg hT 5 [] [] [.func (.yield l46179) #[] #[], .int .i64 x46323, .int .i64 x46470, .int .i64 x46323, .int .i64 (IntKind.i64.wrap (x46470 - x46323))] [] (by kernel_rfl) (trivial) ?_
            refine RW.op (by kernel_rfl) (OK.yield (args := [.int .i64 x46323, .int .i64 (IntKind.i64.wrap (x46470 - x46323))]) hrec46182 s (i := 2) rfl (by kernel_rfl) rfl ?_)
            intro R46517 hR46518
            refine WPK.seq ?_
            refine WPK.region ?_
            refine RW.seg hT 1 [] [] [.int .i64 x46323] [] (by kernel_rfl) (trivial) ?_
            refine RW.nil ?_
            refine WPK.region ?_
            refine RW.seg hT 1 [] [] [.int .i64 (IntKind.i64.wrap (x46470 - x46323))] [] (by kernel_rfl) (trivial) ?_
            refine RW.nil ?_
            refine RoundBeg.of hrec46182 s (i := 2) rfl ?_
            intro w46519 s k46520
            replace rp43604 := rp43604.st k46520
            replace rp46330 := rp46330.st k46520
            replace rp46338 := rp46338.st k46520
            replace eg0 := eg0.st k46520
            replace kk := kk.trans k46520
            refine WPK.block ?_
            refine WPK.seq ?_
            refine WPK.seq ?_
            refine WPK.region ?_
            refine RW.seg hT 4 [.slice A46333 x46332.length c46335, .int .i64 9] [(16, .int .i64 (x46332.length : Int))] [.slice A46333 x46332.length c46335, .int .i64 (x46332.length : Int), .int .i64 9, .bool (decide ((x46332.length : Int) ≥ 9))] [.cell ⟨b45218, 0, none⟩ (.slice A46333 x46332.length c46335), .veq (.int .i64 (x46332.length : Nat)) (.int .i64 (x46332.length : Int)), .cell ⟨b45215, 0, none⟩ (.int .i64 9)] (by kernel_rfl) (⟨s.cell (i := 5) (off := 0) rfl rfl, len_v rfl, s.cell (i := 6) (off := 0) rfl rfl⟩) ?_
            refine RW.nil ?_
            by_cases h46522 : (x46332.length : Int) ≥ 9
            · have hf := iteT h46522 hf
              refine WPK.condT (Eq.trans (b := .bool (decide ((x46332.length : Int) ≥ 9))) (by kernel_rfl) (bo_t h46522)) ?_
              refine WPK.exit (blockQ.other rfl (?_))
              refine RoundEnd.stop (Code.exit 0) hrec46182 s (i := 2) rfl ?_
              intro w46523 s k46524
              replace rp43604 := rp43604.st k46524
              replace rp46330 := rp46330.st k46524
              replace rp46338 := rp46338.st k46524
              replace eg0 := eg0.st k46524
              replace kk := kk.trans k46524
              refine hR46518 _ _ ?_
              refine RW.seg hT 1 [] [] [.bool true] [] (by kernel_rfl) (trivial) ?_
              refine RW.nil ?_
              refine WPK.condT (by kernel_rfl) ?_
              refine WPK.ret (blockQ.ret (blockQ.ret (?_)))
              refine Fin.of (rs := []) hT [] (.tuple #[]) [] rfl (by kernel_rfl) (trivial) ?_
              refine hR46186 _ _ (RangeEnd.jump hrec46182 s (i := 2) rfl ?_)
              intro w46525 s k46526
              replace rp43604 := rp43604.st k46526
              replace rp46330 := rp46330.st k46526
              replace rp46338 := rp46338.st k46526
              replace eg0 := eg0.st k46526
              replace kk := kk.trans k46526
              refine WPK.exit (blockQ.same ?_)
              replace s := s.pick [0, 1, 3, 4, 7, 8, 2] 9 rfl
              exact fun X h => kc (by kernel_rfl) rfl (h I46467 x46324 x46332 d46180 [.func (.func 31) #[] #[.pointer (some ⟨b43614, 0, none⟩)], .int .i64 9, undef, .pointer (some ⟨b45215, 0, none⟩), undef, undef, .func (.func 31) #[] #[.pointer (some ⟨b43614, 0, none⟩)], .bool false, .func (.func 31) #[] #[.pointer (some ⟨b43614, 0, none⟩)], undef, undef, undef, undef, undef, undef, undef, undef, undef, undef, undef, undef, undef, undef] A46325 c46327 cl46328 A46333 c46335 cl46336 _ hf s kk rp46330 rp46338 rp43604 eg0)
            · have hf := iteF h46522 hf
              refine WPK.condF (Eq.trans (b := .bool (decide ((x46332.length : Int) ≥ 9))) (by kernel_rfl) (bo_f h46522)) ?_
              refine WPK.skip ?_
              refine WPK.seq ?_
              refine WPK.region ?_
              refine RW.seg hT 2 [.slice A46333 x46332.length c46335] [] [.slice A46333 x46332.length c46335, .int .i64 x46323] [.cell ⟨b45218, 0, none⟩ (.slice A46333 x46332.length c46335)] (by kernel_rfl) (s.cell (i := 5) (off := 0) rfl rfl) ?_
              refine RW.op (by kernel_rfl) (OK.new hT (f := fun b => .slice (some ⟨b, 0, none⟩) 1 1) (cs := [.int .i64 x46323]) (e := 3) (c := .tt) s (by kernel_rfl) trivial ?_)
              rintro w46527 b46528 s k46529 -
              replace rp43604 := rp43604.st k46529
              replace rp46330 := rp46330.st k46529
              replace rp46338 := rp46338.st k46529
              replace eg0 := eg0.st k46529
              replace kk := kk.trans k46529
              have rp46530 : RepL (Rp.int .i64) I46467 w46527 [.int .i64 x46323] ([x46323] : List Int) := RepL.cons (c := [.int .i64 x46323]) (d := []) (rfl) (RepL.nil)
              replace s : St w0 M I46467 ((.sl (.slice (some ⟨b46528, 0, none⟩) 1 1) 3 1 1 [.int .i64 x46323]) :: (.blk b43598 (.cells #[.int .i64 x43597.n, .slice A43599 n43600 c43601] 53 (0, 0))) :: (.sl (.slice A43599 n43600 c43601) 61 1 n43600 cl43602) :: (.blk l46179 (rec46181 .busy none)) :: (.blk d46180 (.deferred (some []))) :: (.blk b45221 (.cells #[.slice A46325 x46324.length c46327] 22 (0, 0))) :: (.blk b45218 (.cells #[.slice A46333 x46332.length c46335] 22 (0, 0))) :: (.blk b45215 (.cells #[.int .i64 9] 3 (0, 0))) :: (.blk b43614 (.cells #[.pointer (some ⟨b43598, 0, none⟩)] 25 (0, 0))) :: (.sl (.slice A46325 x46324.length c46327) 3 1 x46324.length cl46328) :: (.sl (.slice A46333 x46332.length c46335) 3 1 x46332.length cl46336) :: F) w46527 := s.blkSl (i := 0) (n := 1) (c := 1) (size := 1) rfl rfl (Nat.le_refl _) (by decide)
              have hs46533 := St.src s (i := 0) rfl rfl rp46530
              have rq46534 := rp46530
              obtain ⟨x46535, hx46536, hf⟩ := bindS hf
              refine RW.op (by kernel_rfl) (OK.app hT (r := (Rp.int .i64)) (i := 10) (t := 22) (e := 3) (size := 1) (bytes := 8) (c := c46335) (n := x46332.length) (m := 1) s (by kernel_rfl) rfl rfl rfl rfl rfl (by decide) rfl rfl rfl rfl rp46338 hs46533 rq46534 flat_int rfl hx46536 ?_)
              rintro A46537 c46538 cl46539 w46540 s k46541 rp46542
              replace rp46530 := rp46530.st k46541
              replace rp43604 := rp43604.st k46541
              replace rp46330 := rp46330.st k46541
              replace rp46338 := rp46338.st k46541
              replace eg0 := eg0.st k46541
              replace kk := kk.trans k46541
              refine RW.op (by kernel_rfl) (OK.store hT (i := 6) (b := b45218) (off := 0) (n := 1) (vs := [.slice A46537 x46535.length c46538]) (cs := [(.slice A46333 x46332.length c46335)]) (e := 22) s (by kernel_rfl) rfl rfl (flat_ok rfl) (Nat.le_of_ble_eq_true rfl) ?_)
              rintro w46543 s k46544 -
              replace rp46530 := rp46530.st k46544
              replace rp43604 := rp43604.st k46544
              replace rp46330 := rp46330.st k46544
              replace rp46542 := rp46542.st k46544
              replace eg0 := eg0.st k46544
              replace kk := kk.trans k46544
              refine RW.nil ?_
              refine WPK.region ?_
              refine RW.seg hT 2 [.slice A46325 x46324.length c46327] [] [.slice A46325 x46324.length c46327, .int .i64 (IntKind.i64.wrap (x46470 - x46323))] [.cell ⟨b45221, 0, none⟩ (.slice A46325 x46324.length c46327)] (by kernel_rfl) (s.cell (i := 5) (off := 0) rfl rfl) ?_
              refine RW.op (by kernel_rfl) (OK.new hT (f := fun b => .slice (some ⟨b, 0, none⟩) 1 1) (cs := [.int .i64 (IntKind.i64.wrap (x46470 - x46323))]) (e := 3) (c := .tt) s (by kernel_rfl) trivial ?_)
              rintro w46545 b46546 s k46547 -
              replace rp46530 := rp46530.st k46547
              replace rp43604 := rp43604.st k46547
              replace rp46330 := rp46330.st k46547
              replace rp46542 := rp46542.st k46547
              replace eg0 := eg0.st k46547
              replace kk := kk.trans k46547
              have rp46548 : RepL (Rp.int .i64) I46467 w46545 [.int .i64 (IntKind.i64.wrap (x46470 - x46323))] ([IntKind.i64.wrap (x46470 - x46323)] : List Int) := RepL.cons (c := [.int .i64 (IntKind.i64.wrap (x46470 - x46323))]) (d := []) (rfl) (RepL.nil)
              replace s : St w0 M I46467 ((.sl (.slice (some ⟨b46546, 0, none⟩) 1 1) 3 1 1 [.int .i64 (IntKind.i64.wrap (x46470 - x46323))]) :: (.sl (.slice (some ⟨b46528, 0, none⟩) 1 1) 3 1 1 [.int .i64 x46323]) :: (.blk b43598 (.cells #[.int .i64 x43597.n, .slice A43599 n43600 c43601] 53 (0, 0))) :: (.sl (.slice A43599 n43600 c43601) 61 1 n43600 cl43602) :: (.blk l46179 (rec46181 .busy none)) :: (.blk d46180 (.deferred (some []))) :: (.blk b45221 (.cells #[.slice A46325 x46324.length c46327] 22 (0, 0))) :: (.blk b45218 (.cells #[.slice A46537 x46535.length c46538] 22 (0, 0))) :: (.blk b45215 (.cells #[.int .i64 9] 3 (0, 0))) :: (.blk b43614 (.cells #[.pointer (some ⟨b43598, 0, none⟩)] 25 (0, 0))) :: (.sl (.slice A46325 x46324.length c46327) 3 1 x46324.length cl46328) :: (.sl (.slice A46537 x46535.length c46538) 3 1 x46535.length cl46539) :: F) w46545 := s.blkSl (i := 0) (n := 1) (c := 1) (size := 1) rfl rfl (Nat.le_refl _) (by decide)
              have hs46551 := St.src s (i := 0) rfl rfl rp46548
              have rq46552 := rp46548
              obtain ⟨x46553, hx46554, hf⟩ := bindS hf
              refine RW.op (by kernel_rfl) (OK.app hT (r := (Rp.int .i64)) (i := 10) (t := 22) (e := 3) (size := 1) (bytes := 8) (c := c46327) (n := x46324.length) (m := 1) s (by kernel_rfl) rfl rfl rfl rfl rfl (by decide) rfl rfl rfl rfl rp46330 hs46551 rq46552 flat_int rfl hx46554 ?_)
              rintro A46555 c46556 cl46557 w46558 s k46559 rp46560
              replace rp46548 := rp46548.st k46559
              replace rp46530 := rp46530.st k46559
              replace rp43604 := rp43604.st k46559
              replace rp46330 := rp46330.st k46559
              replace rp46542 := rp46542.st k46559
              replace eg0 := eg0.st k46559
              replace kk := kk.trans k46559
              refine RW.op (by kernel_rfl) (OK.store hT (i := 6) (b := b45221) (off := 0) (n := 1) (vs := [.slice A46555 x46553.length c46556]) (cs := [(.slice A46325 x46324.length c46327)]) (e := 22) s (by kernel_rfl) rfl rfl (flat_ok rfl) (Nat.le_of_ble_eq_true rfl) ?_)
              rintro w46561 s k46562 -
              replace rp46548 := rp46548.st k46562
              replace rp46530 := rp46530.st k46562
              replace rp43604 := rp43604.st k46562
              replace rp46560 := rp46560.st k46562
              replace rp46542 := rp46542.st k46562
              replace eg0 := eg0.st k46562
              replace kk := kk.trans k46562
              refine RW.nil ?_
              refine RoundEnd.next hrec46182 s (i := 4) rfl ?_
              intro w46563 s k46564
              replace rp46548 := rp46548.st k46564
              replace rp46530 := rp46530.st k46564
              replace rp43604 := rp43604.st k46564
              replace rp46560 := rp46560.st k46564
              replace rp46542 := rp46542.st k46564
              replace eg0 := eg0.st k46564
              replace kk := kk.trans k46564
              refine hR46518 _ _ ?_
              refine RW.seg hT 1 [] [] [.bool false] [] (by kernel_rfl) (trivial) ?_
              refine RW.nil ?_
              refine WPK.condF (by kernel_rfl) ?_
              refine WPK.skip ?_
              refine WPK.region ?_
              refine RW.seg hT 2 [.pointer (some ⟨b43598, 0, none⟩)] [] [.pointer (some ⟨b43598, 0, none⟩), .int .i64 x46470] [.cell ⟨b43614, 0, none⟩ (.pointer (some ⟨b43598, 0, none⟩))] (by kernel_rfl) (s.cell (i := 9) (off := 0) rfl rfl) ?_
              replace s := s.pick [2, 3, 0, 1, 4, 5, 6, 7, 8, 9, 10, 11] 12 rfl
              obtain ⟨x46565, hx46566, hf⟩ := bindS hf
              refine RW.op (by kernel_rfl) (OK.call' en27 (by kernel_rfl) (c27_1 (F := (.sl (.slice (some ⟨b46546, 0, none⟩) 1 1) 3 1 1 [.int .i64 (IntKind.i64.wrap (x46470 - x46323))]) :: (.sl (.slice (some ⟨b46528, 0, none⟩) 1 1) 3 1 1 [.int .i64 x46323]) :: (.blk l46179 (rec46181 .ready none)) :: (.blk d46180 (.deferred (some []))) :: (.blk b45221 (.cells #[.slice A46555 x46553.length c46556] 22 (0, 0))) :: (.blk b45218 (.cells #[.slice A46537 x46535.length c46538] 22 (0, 0))) :: (.blk b45215 (.cells #[.int .i64 9] 3 (0, 0))) :: (.blk b43614 (.cells #[.pointer (some ⟨b43598, 0, none⟩)] 25 (0, 0))) :: (.sl (.slice A46555 x46553.length c46556) 3 1 x46553.length cl46557) :: (.sl (.slice A46537 x46535.length c46538) 3 1 x46535.length cl46539) :: F) x43597 x46470 b43598 A43599 n43600 c43601 cl43602 hn43603 rp43604 eg0 s hx46566) ?_)
              intro X46569 hX46570
              refine fun _ _ hJ => hJ X46569 ?_
              intro I46571 w46567 s k46568
              refine hX46570 _ _ ?_
              replace rp43604 := rp43604.st k46568
              replace rp46548 := rp46548.st k46568
              replace rp46530 := rp46530.st k46568
              replace rp46560 := rp46560.st k46568
              replace rp46542 := rp46542.st k46568
              replace eg0 := eg0.st k46568
              replace kk := kk.trans k46568
              refine RW.seg hT 1 [] [] [.int .i64 x46565] [] (by kernel_rfl) (trivial) ?_
              refine RW.nil ?_
              subst hrec46458
              replace s := s.pick [0, 1, 4, 5, 6, 7, 8, 9, 10, 11] 12 rfl
              exact ⟨n46457, Nat.le_refl _, fun X h => kc (by kernel_rfl) rfl (h I46571 x46565 x46553 x46535 [(D46469.getD 0 undef), .int .i64 x46470, (D46469.getD 1 undef), (D46469.getD 2 undef), (D46469.getD 3 undef), (D46469.getD 4 undef), .int .i64 x46323, .bool (decide (x46323 ≥ 0)), (D46469.getD 5 undef), (D46469.getD 6 undef), .int .i64 x46461, .int .i64 x46461, .bool (decide (x46461 < 0)), (D46469.getD 7 undef), (D46469.getD 8 undef), (D46469.getD 9 undef), (D46469.getD 10 undef), .func (.yield l46179) #[] #[], .int .i64 x46323, .int .i64 x46470, .int .i64 x46323, .int .i64 (IntKind.i64.wrap (x46470 - x46323)), .bool true, .bool false, .pointer (some ⟨b43598, 0, none⟩), .int .i64 x46470, .int .i64 x46565] A46555 c46556 cl46557 A46537 c46538 cl46539 _ hf s kk rp46560 rp46542 rp43604 eg0)⟩
          · refine WPK.seq ?_
            refine WPK.region ?_
            refine RW.seg hT 2 [] [] [.int .i64 x46461, .bool (decide (x46461 < 0))] [] (by kernel_rfl) (trivial) ?_
            refine RW.nil ?_
            by_cases h46574 : x46461 < 0
            · have hf := iteT h46574 hf
              refine WPK.condT (Eq.trans (b := .bool (decide (x46461 < 0))) (by kernel_rfl) (bo_t h46574)) ?_
              refine WPK.region ?_
              refine RW.seg hT 5 [.pointer (some ⟨b43598, 0, none⟩), .int .i64 x43597.n] [] [.pointer (some ⟨b43598, 0, none⟩), .pointer (some ⟨b43598, 0, none⟩), .pointer (some ⟨b43598, 0, none⟩), .int .i64 x43597.n, .int .i64 x43597.n] [.cell ⟨b43614, 0, none⟩ (.pointer (some ⟨b43598, 0, none⟩)), .cell ⟨b43598, 0, none⟩ (.int .i64 x43597.n)] (by kernel_rfl) (⟨s.cell (i := 7) (off := 0) rfl rfl, s.cell (i := 0) (off := 0) rfl rfl⟩) ?_
              refine RW.nil ?_
              exact fun X h => kc (by kernel_rfl) rfl (h x43597.n [(D46322.getD 0 undef), (D46322.getD 2 undef), (D46322.getD 3 undef), (D46322.getD 4 undef), (D46322.getD 5 undef), .pointer none, .int .i64 x46323, .pointer (some ⟨b43598, 0, none⟩), .pointer (some ⟨b43598, 0, none⟩), .pointer (some ⟨b43598, 0, none⟩), .int .i64 x43597.n, (D46322.getD 17 undef), (D46322.getD 18 undef), (D46322.getD 21 undef), (D46322.getD 24 undef), (D46322.getD 25 undef)] hf)
            · have hf := iteF h46574 hf
              refine WPK.condF (Eq.trans (b := .bool (decide (x46461 < 0))) (by kernel_rfl) (bo_f h46574)) ?_
              refine WPK.skip ?_
              exact fun X h => kc (by kernel_rfl) rfl (h x46461 [(D46322.getD 0 undef), (D46322.getD 2 undef), (D46322.getD 3 undef), (D46322.getD 4 undef), (D46322.getD 5 undef), .pointer none, .int .i64 x46323, (D46322.getD 13 undef), (D46322.getD 14 undef), (D46322.getD 15 undef), (D46322.getD 16 undef), (D46322.getD 17 undef), (D46322.getD 18 undef), (D46322.getD 21 undef), (D46322.getD 24 undef), (D46322.getD 25 undef)] hf)
        · have hf := iteF h46460 hf
          refine WPK.condF (Eq.trans (b := .bool (decide (x46323 ≥ 0))) (by kernel_rfl) (bo_f h46460)) ?_
          refine WPK.exit (blockQ.same ?_)
          refine Fin.of (rs := []) hT [] (.tuple #[]) [] rfl (by kernel_rfl) (trivial) ?_
          refine hR46186 _ _ (RangeEnd.done hrec46182 s (i := 2) rfl ?_)
          intro w46575 s k46576
          replace rp43604 := rp43604.st k46576
          replace rp46330 := rp46330.st k46576
          replace rp46338 := rp46338.st k46576
          replace eg0 := eg0.st k46576
          replace kk := kk.trans k46576
          replace s := s.pick [0, 1, 3, 4, 7, 8, 2] 9 rfl
          exact fun X h => kc (by kernel_rfl) rfl (h I46341 x46324 x46332 d46180 [.func (.func 31) #[] #[.pointer (some ⟨b43614, 0, none⟩)], .int .i64 9, undef, .pointer (some ⟨b45215, 0, none⟩), undef, undef, .func (.func 31) #[] #[.pointer (some ⟨b43614, 0, none⟩)], .bool false, .func (.func 31) #[] #[.pointer (some ⟨b43614, 0, none⟩)], undef, undef, undef, undef, undef, undef, undef, undef, undef, undef, undef, undef, undef, undef] A46325 c46327 cl46328 A46333 c46335 cl46336 _ hf s kk rp46330 rp46338 rp43604 eg0)
      · intro x46195 I46194 b46196 A46197 n46198 c46199 cl46200 w46189 hv s k46190 hn46201 rp46202
        refine hX46192 _ _ ?_
        replace hf := optS hv hf
        replace rp43604 := rp43604.st k46190
        replace rp43581 := rp43581.st k46190
        replace eg0 := eg0.st k46190
        replace kk := kk.trans k46190
        refine RW.seg hT 1 [] [] [.pointer (some ⟨b46196, 0, none⟩)] [] (by kernel_rfl) (trivial) ?_
        refine RW.nil ?_
        refine WPK.seq ?_
        refine WPK.region ?_
        refine RW.seg hT 1 [.pointer (some ⟨b43598, 0, none⟩)] [] [.pointer (some ⟨b43598, 0, none⟩)] [.cell ⟨b43614, 0, none⟩ (.pointer (some ⟨b43598, 0, none⟩))] (by kernel_rfl) (s.cell (i := 9) (off := 0) rfl rfl) ?_
        replace s := s.pick [2, 3, 0, 1, 4, 5, 6, 7, 8, 9, 10] 11 rfl
        obtain ⟨x46581, hx46582, hf⟩ := bindS hf
        refine RW.op (by kernel_rfl) (OK.call' en27 (by kernel_rfl) (c27_1 (F := (.blk b46196 (.cells #[.int .i64 x46195.n, .slice A46197 n46198 c46199] 53 (0, 0))) :: (.sl (.slice A46197 n46198 c46199) 61 1 n46198 cl46200) :: (.blk l46179 (rec46181 .ready none)) :: (.blk d46180 (.deferred (some []))) :: (.blk b45221 (.cells #[.slice none 0 0] 22 (0, 0))) :: (.blk b45218 (.cells #[.slice none 0 0] 22 (0, 0))) :: (.blk b45215 (.cells #[.int .i64 9] 3 (0, 0))) :: (.blk b43614 (.cells #[.pointer (some ⟨b43598, 0, none⟩)] 25 (0, 0))) :: (.sl (.slice (some ⟨b43579, 0, none⟩) 3 3) 3 1 3 [.int .i64 5, .int .i64 1, .int .i64 2]) :: F) x43597 0 b43598 A43599 n43600 c43601 cl43602 hn43603 rp43604 eg0 s hx46582) ?_)
        intro X46585 hX46586
        refine fun _ _ hJ => hJ X46585 ?_
        intro I46587 w46583 s k46584
        refine hX46586 _ _ ?_
        replace rp43604 := rp43604.st k46584
        replace rp46202 := rp46202.st k46584
        replace rp43581 := rp43581.st k46584
        replace eg0 := eg0.st k46584
        replace kk := kk.trans k46584
        refine RW.seg hT 1 [] [] [.int .i64 x46581] [] (by kernel_rfl) (trivial) ?_
        refine RW.nil ?_
        refine WPK.block ?_
        replace s := s.pushNil 3 1
        replace s := s.pushNil 3 1
        replace s := s.pick [2, 3, 4, 5, 6, 7, 8, 9, 10, 11, 1, 0] 13 rfl
        refine WPK.loop' (J := fun n46834 E ds wz => ∀ X : Kont, (∀ (I46718 : Nat → Prop) (x46700 : Int) (x46701 : (List Int)) (x46709 : (List Int)) (D46699 : List Value) (A46702 : Option Addr) (c46704 : Nat) (cl46705 : List Value) (A46710 : Option Addr) (c46712 : Nat) (cl46713 : List Value) (w' : World), g8_l5 x43597 x46195 n46834 x46700 x46701 x46709 = some r → St w0 M I46718 ((.blk b43598 (.cells #[.int .i64 x43597.n, .slice A43599 n43600 c43601] 53 (0, 0))) :: (.sl (.slice A43599 n43600 c43601) 61 1 n43600 cl43602) :: (.blk b46196 (.cells #[.int .i64 x46195.n, .slice A46197 n46198 c46199] 53 (0, 0))) :: (.sl (.slice A46197 n46198 c46199) 61 1 n46198 cl46200) :: (.blk l46179 (rec46181 .ready none)) :: (.blk d46180 (.deferred (some []))) :: (.blk b45221 (.cells #[.slice A46702 x46701.length c46704] 22 (0, 0))) :: (.blk b45218 (.cells #[.slice A46710 x46709.length c46712] 22 (0, 0))) :: (.blk b45215 (.cells #[.int .i64 9] 3 (0, 0))) :: (.blk b43614 (.cells #[.pointer (some ⟨b43598, 0, none⟩)] 25 (0, 0))) :: (.sl (.slice A46702 x46701.length c46704) 3 1 x46701.length cl46705) :: (.sl (.slice A46710 x46709.length c46712) 3 1 x46709.length cl46713) :: F) w' → Kp I w I46718 w' → RepL (Rp.int .i64) I46718 w' cl46705 x46701 → RepL (Rp.int .i64) I46718 w' cl46713 x46709 → RepL (Rp.int .u64) I46718 w' cl43602 x43597.w → RepL (Rp.int .u64) I46718 w' cl46200 x46195.w → Elems (Rp.int .u8) I46718 w' (some ⟨0, 0, none⟩) TAB0 → X [.func (.yield l46179) #[] #[], .pointer (some ⟨b43614, 0, none⟩), (D46699.getD 0 undef), .pointer (some ⟨b46196, 0, none⟩), .int .i64 x46700, (D46699.getD 1 undef), (D46699.getD 2 undef), (D46699.getD 3 undef), (D46699.getD 4 undef), (D46699.getD 5 undef), (D46699.getD 6 undef), (D46699.getD 7 undef), (D46699.getD 8 undef), (D46699.getD 9 undef), (D46699.getD 10 undef), (D46699.getD 11 undef), (D46699.getD 12 undef), (D46699.getD 13 undef), (D46699.getD 14 undef), (D46699.getD 15 undef), (D46699.getD 16 undef), (D46699.getD 17 undef), (D46699.getD 18 undef), (D46699.getD 19 undef), (D46699.getD 20 undef), (D46699.getD 21 undef), (D46699.getD 22 undef), (D46699.getD 23 undef), (D46699.getD 24 undef), (D46699.getD 25 undef), (D46699.getD 26 undef)] [] w') → X E ds wz) FUEL (fun X h => kc (by kernel_rfl) rfl (h I46587 x46581 ([] : List Int) ([] : List Int) [undef, undef, .pointer (some ⟨b43598, 0, none⟩), .pointer (some ⟨b46196, 0, none⟩), .pointer (some ⟨b43598, 0, none⟩), .int .i64 x46581, undef, undef, undef, undef, undef, undef, undef, undef, undef, undef, undef, undef, undef, undef, undef, undef, undef, undef, undef, undef, undef] none 0 [] none 0 [] _ hf s kk (RepL.nil (r := (Rp.int .i64))) (RepL.nil (r := (Rp.int .i64))) rp43604 rp46202 eg0)) (fun _ _ _ hJ => hJ (fun _ _ _ => False) (by intro I46718 x46700 x46701 x46709 D46699 A46702 c46704 cl46705 A46710 c46712 cl46713 w46717 hf s kk rp46707 rp46715 rp43604 rp46202 eg0; exact noneS hf)) ?_
        intro X46956 hX46957
        refine fun n46834 _ _ _ hJ => hJ (X46956 n46834) ?_
        intro I46718 x46700 x46701 x46709 D46699 A46702 c46704 cl46705 A46710 c46712 cl46713 w46717 hf s kk rp46707 rp46715 rp43604 rp46202 eg0
        refine hX46957 _ _ _ _ ?_
        replace hf : g8_l5B x43597 x46195 (g8_l5 x43597 x46195 n46834) x46700 x46701 x46709 = some r := hf
        generalize hrec46835 : g8_l5 x43597 x46195 n46834 = rec46833 at hf
        unfold g8_l5B at hf
        refine WPK.seq ?_
        refine WPK.seq ?_
        refine WPK.region ?_
        refine RW.seg hT 2 [] [] [.int .i64 x46700, .bool (decide (x46700 ≥ 0))] [] (by kernel_rfl) (trivial) ?_
        refine RW.nil ?_
        by_cases h46837 : x46700 ≥ 0
        · have hf := iteT h46837 hf
          refine WPK.condT (Eq.trans (b := .bool (decide (x46700 ≥ 0))) (by kernel_rfl) (bo_t h46837)) ?_
          refine WPK.skip ?_
          refine WPK.block ?_
          refine WPK.seq ?_
          refine WPK.region ?_
          refine RW.seg hT 2 [] [] [.pointer (some ⟨b46196, 0, none⟩), .int .i64 x46700] [] (by kernel_rfl) (trivial) ?_
          replace s := s.pick [2, 3, 0, 1, 4, 5, 6, 7, 8, 9, 10, 11] 12 rfl
          obtain ⟨x46838, hx46839, hf⟩ := bindS hf
          refine RW.op (by kernel_rfl) (OK.call' en27 (by kernel_rfl) (c27_1 (F := (.blk b43598 (.cells #[.int .i64 x43597.n, .slice A43599 n43600 c43601] 53 (0, 0))) :: (.sl (.slice A43599 n43600 c43601) 61 1 n43600 cl43602) :: (.blk l46179 (rec46181 .ready none)) :: (.blk d46180 (.deferred (some []))) :: (.blk b45221 (.cells #[.slice A46702 x46701.length c46704] 22 (0, 0))) :: (.blk b45218 (.cells #[.slice A46710 x46709.length c46712] 22 (0, 0))) :: (.blk b45215 (.cells #[.int .i64 9] 3 (0, 0))) :: (.blk b43614 (.cells #[.pointer (some ⟨b43598, 0, none⟩)] 25 (0, 0))) :: (.sl (.slice A46702 x46701.length c46704) 3 1 x46701.length cl46705) :: (.sl (.slice A46710 x46709.length c46712) 3 1 x46709.length cl46713) :: F) x46195 x46700 b46196 A46197 n46198 c46199 cl46200 hn46201 rp46202 eg0 s hx46839) ?_)
          intro X46842 hX46843
          refine fun _ _ hJ => hJ X46842 ?_
          intro I46844 w46840 s k46841
          refine hX46843 _ _ ?_
          replace rp46202 := rp46202.st k46841
          replace rp43604 := rp43604.st k46841
          replace rp46707 := rp46707.st k46841
          replace rp46715 := rp46715.st k46841
          replace eg0 := eg0.st k46841
          replace kk := kk.trans k46841
          refine RW.seg hT 1 [] [] [.int .i64 x46838] [] (by kernel_rfl) (trivial) ?_
          refine RW.nil ?_
          refine WPK.seq ?_
          refine WPK.cut' (fun E ds wz => ∀ X : Kont, (∀ (x46847 : Int) (D46846 : List Value), g8_j6 x43597 x46700 x46701 x46709 rec46833 x46847 = some r → X [.func (.yield l46179) #[] #[], .pointer (some ⟨b43614, 0, none⟩), (D46846.getD 0 undef), .pointer (some ⟨b46196, 0, none⟩), .int .i64 x46700, .int .i64 x46847, (D46846.getD 1 undef), (D46846.getD 2 undef), (D46846.getD 3 undef), (D46846.getD 4 undef), .int .i64 x46700, .bool (decide (x46700 ≥ 0)), (D46846.getD 5 undef), (D46846.getD 6 undef), .int .i64 x46838, .int .i64 x46838, .bool (decide (x46838 < 0)), (D46846.getD 7 undef), (D46846.getD 8 undef), (D46846.getD 9 undef), (D46846.getD 10 undef), (D46846.getD 11 undef), (D46846.getD 12 undef), (D46699.getD 19 undef), (D46699.getD 20 undef), (D46846.getD 13 undef), (D46699.getD 22 undef), (D46699.getD 23 undef), (D46846.getD 14 undef), (D46846.getD 15 undef), (D46699.getD 26 undef)] [] w46840) → X E ds wz) ?_ ?_
          · intro X46949 hX46950
            refine fun _ _ _ hJ => hJ X46949 ?_
            intro x46847 D46846 hf
            refine hX46950 _ _ _ ?_
            unfold g8_j6 at hf
            refine WPK.seq ?_
            refine WPK.seq ?_
            refine WPK.region ?_
            refine RW.seg hT 5 [] [] [.func (.yield l46179) #[] #[], .int .i64 x46700, .int .i64 x46847, .int .i64 x46700, .int .i64 (IntKind.i64.wrap (x46847 - x46700))] [] (by kernel_rfl) (trivial) ?_
            refine RW.op (by kernel_rfl) (OK.yield (args := [.int .i64 x46700, .int .i64 (IntKind.i64.wrap (x46847 - x46700))]) hrec46182 s (i := 4) rfl (by kernel_rfl) rfl ?_)
            intro R46894 hR46895
            refine WPK.seq ?_
            refine WPK.region ?_
            refine RW.seg hT 1 [] [] [.int .i64 x46700] [] (by kernel_rfl) (trivial) ?_
            refine RW.nil ?_
            refine WPK.region ?_
            refine RW.seg hT 1 [] [] [.int .i64 (IntKind.i64.wrap (x46847 - x46700))] [] (by kernel_rfl) (trivial) ?_
            refine RW.nil ?_
            refine RoundBeg.of hrec46182 s (i := 4) rfl ?_
            intro w46896 s k46897
            replace rp46202 := rp46202.st k46897
            replace rp43604 := rp43604.st k46897
            replace rp46707 := rp46707.st k46897
            replace rp46715 := rp46715.st k46897
            replace eg0 := eg0.st k46897
            replace kk := kk.trans k46897
            refine WPK.block ?_
            refine WPK.seq ?_
            refine WPK.seq ?_
            refine WPK.region ?_
            refine RW.seg hT 4 [.slice A46710 x46709.length c46712, .int .i64 9] [(16, .int .i64 (x46709.length : Int))] [.slice A46710 x46709.length c46712, .int .i64 (x46709.length : Int), .int .i64 9, .bool (decide ((x46709.length : Int) ≥ 9))] [.cell ⟨b45218, 0, none⟩ (.slice A46710 x46709.length c46712), .veq (.int .i64 (x46709.length : Nat)) (.int .i64 (x46709.length : Int)), .cell ⟨b45215, 0, none⟩ (.int .i64 9)] (by kernel_rfl) (⟨s.cell (i := 7) (off := 0) rfl rfl, len_v rfl, s.cell (i := 8) (off := 0) rfl rfl⟩) ?_
            refine RW.nil ?_
            by_cases h46899 : (x46709.length : Int) ≥ 9
            · have hf := iteT h46899 hf
              refine WPK.condT (Eq.trans (b := .bool (decide ((x46709.length : Int) ≥ 9))) (by kernel_rfl) (bo_t h46899)) ?_
              refine WPK.exit (blockQ.other rfl (?_))
              refine RoundEnd.stop (Code.exit 0) hrec46182 s (i := 4) rfl ?_
              intro w46900 s k46901
              replace rp46202 := rp46202.st k46901
              replace rp43604 := rp43604.st k46901
              replace rp46707 := rp46707.st k46901
              replace rp46715 := rp46715.st k46901
              replace eg0 := eg0.st k46901
              replace kk := kk.trans k46901
              refine hR46895 _ _ ?_
              refine RW.seg hT 1 [] [] [.bool true] [] (by kernel_rfl) (trivial) ?_
              refine RW.nil ?_
              refine WPK.condT (by kernel_rfl) ?_
              refine WPK.ret (blockQ.ret (blockQ.ret (?_)))
              refine Fin.of (rs := []) hT [] (.tuple #[]) [] rfl (by kernel_rfl) (trivial) ?_
              refine hR46186 _ _ (RangeEnd.jump hrec46182 s (i := 4) rfl ?_)
              intro w46902 s k46903
              replace rp46202 := rp46202.st k46903
              replace rp43604 := rp43604.st k46903
              replace rp46707 := rp46707.st k46903
              replace rp46715 := rp46715.st k46903
              replace eg0 := eg0.st k46903
              replace kk := kk.trans k46903
              refine WPK.exit (blockQ.same ?_)
              replace s := s.pick [2, 3, 5, 6, 9, 10, 4] 11 rfl
              exact fun X h => kc (by kernel_rfl) rfl (h I46844 x46701 x46709 d46180 [.func (.func 31) #[] #[.pointer (some ⟨b43614, 0, none⟩)], .int .i64 9, undef, .pointer (some ⟨b45215, 0, none⟩), undef, undef, .func (.func 31) #[] #[.pointer (some ⟨b43614, 0, none⟩)], .bool false, .func (.func 31) #[] #[.pointer (some ⟨b43614, 0, none⟩)], undef, undef, undef, undef, undef, undef, undef, undef, undef, undef, undef, undef, undef, undef] A46702 c46704 cl46705 A46710 c46712 cl46713 _ hf s kk rp46707 rp46715 rp43604 eg0)
            · have hf := iteF h46899 hf
              refine WPK.condF (Eq.trans (b := .bool (decide ((x46709.length : Int) ≥ 9))) (by kernel_rfl) (bo_f h46899)) ?_
              refine WPK.skip ?_
              refine WPK.seq ?_
              refine WPK.region ?_
              refine RW.seg hT 2 [.slice A46710 x46709.length c46712] [] [.slice A46710 x46709.length c46712, .int .i64 x46700] [.cell ⟨b45218, 0, none⟩ (.slice A46710 x46709.length c46712)] (by kernel_rfl) (s.cell (i := 7) (off := 0) rfl rfl) ?_
              refine RW.op (by kernel_rfl) (OK.new hT (f := fun b => .slice (some ⟨b, 0, none⟩) 1 1) (cs := [.int .i64 x46700]) (e := 3) (c := .tt) s (by kernel_rfl) trivial ?_)
              rintro w46904 b46905 s k46906 -
              replace rp46202 := rp46202.st k46906
              replace rp43604 := rp43604.st k46906
              replace rp46707 := rp46707.st k46906
              replace rp46715 := rp46715.st k46906
              replace eg0 := eg0.st k46906
              replace kk := kk.trans k46906
              have rp46907 : RepL (Rp.int .i64) I46844 w46904 [.int .i64 x46700] ([x46700] : List Int) := RepL.cons (c := [.int .i64 x46700]) (d := []) (rfl) (RepL.nil)
              replace s : St w0 M I46844 ((.sl (.slice (some ⟨b46905, 0, none⟩) 1 1) 3 1 1 [.int .i64 x46700]) :: (.blk b46196 (.cells #[.int .i64 x46195.n, .slice A46197 n46198 c46199] 53 (0, 0))) :: (.sl (.slice A46197 n46198 c46199) 61 1 n46198 cl46200) :: (.blk b43598 (.cells #[.int .i64 x43597.n, .slice A43599 n43600 c43601] 53 (0, 0))) :: (.sl (.slice A43599 n43600 c43601) 61 1 n43600 cl43602) :: (.blk l46179 (rec46181 .busy none)) :: (.blk d46180 (.deferred (some []))) :: (.blk b45221 (.cells #[.slice A46702 x46701.length c46704] 22 (0, 0))) :: (.blk b45218 (.cells #[.slice A46710 x46709.length c46712] 22 (0, 0))) :: (.blk b45215 (.cells #[.int .i64 9] 3 (0, 0))) :: (.blk b43614 (.cells #[.pointer (some ⟨b43598, 0, none⟩)] 25 (0, 0))) :: (.sl (.slice A46702 x46701.length c46704) 3 1 x46701.length cl46705) :: (.sl (.slice A46710 x46709.length c46712) 3 1 x46709.length cl46713) :: F) w46904 := s.blkSl (i := 0) (n := 1) (c := 1) (size := 1) rfl rfl (Nat.le_refl _) (by decide)
              have hs46910 := St.src s (i := 0) rfl rfl rp46907
              have rq46911 := rp46907
              obtain ⟨x46912, hx46913, hf⟩ := bindS hf
              refine RW.op (by kernel_rfl) (OK.app hT (r := (Rp.int .i64)) (i := 12) (t := 22) (e := 3) (size := 1) (bytes := 8) (c := c46712) (n := x46709.length) (m := 1) s (by kernel_rfl) rfl rfl rfl rfl rfl (by decide) rfl rfl rfl rfl rp46715 hs46910 rq46911 flat_int rfl hx46913 ?_)
              rintro A46914 c46915 cl46916 w46917 s k46918 rp46919
              replace rp46907 := rp46907.st k46918
              replace rp46202 := rp46202.st k46918
              replace rp43604 := rp43604.st k46918
              replace rp46707 := rp46707.st k46918
              replace rp46715 := rp46715.st k46918
              replace eg0 := eg0.st k46918
              replace kk := kk.trans k46918
              refine RW.op (by kernel_rfl) (OK.store hT (i := 8) (b := b45218) (off := 0) (n := 1) (vs := [.slice A46914 x46912.length c46915]) (cs := [(.slice A46710 x46709.length c46712)]) (e := 22) s (by kernel_rfl) rfl rfl (flat_ok rfl) (Nat.le_of_ble_eq_true rfl) ?_)
              rintro w46920 s k46921 -
              replace rp46907 := rp46907.st k46921
              replace rp46202 := rp46202.st k46921
              replace rp43604 := rp43604.st k46921
              replace rp46707 := rp46707.st k46921
              replace rp46919 := rp46919.st k46921
              replace eg0 := eg0.st k46921
              replace kk := kk.trans k46921
              refine RW.nil ?_
              refine WPK.region ?_
              refine RW.seg hT 2 [.slice A46702 x46701.length c46704] [] [.slice A46702 x46701.length c46704, .int .i64 (IntKind.i64.wrap (x46847 - x46700))] [.cell ⟨b45221, 0, none⟩ (.slice A46702 x46701.length c46704)] (by kernel_rfl) (s.cell (i := 7) (off := 0) rfl rfl) ?_
              refine RW.op (by kernel_rfl) (OK.new hT (f := fun b => .slice (some ⟨b, 0, none⟩) 1 1) (cs := [.int .i64 (IntKind.i64.wrap (x46847 - x46700))]) (e := 3) (c := .tt) s (by kernel_rfl) trivial ?_)
              rintro w46922 b46923 s k46924 -
              replace rp46907 := rp46907.st k46924
              replace rp46202 := rp46202.st k46924
              replace rp43604 := rp43604.st k46924
              replace rp46707 := rp46707.st k46924
              replace rp46919 := rp46919.st k46924
              replace eg0 := eg0.st k46924
              replace kk := kk.trans k46924
              have rp46925 : RepL (Rp.int .i64) I46844 w46922 [.int .i64 (IntKind.i64.wrap (x46847 - x46700))] ([IntKind.i64.wrap (x46847 - x46700)] : List Int) := RepL.cons (c := [.int .i64 (IntKind.i64.wrap (x46847 - x46700))]) (d := []) (rfl) (RepL.nil)
              replace s : St w0 M I46844 ((.sl (.slice (some ⟨b46923, 0, none⟩) 1 1) 3 1 1 [.int .i64 (IntKind.i64.wrap (x46847 - x46700))]) :: (.sl (.slice (some ⟨b46905, 0, none⟩) 1 1) 3 1 1 [.int .i64 x46700]) :: (.blk b46196 (.cells #[.int .i64 x46195.n, .slice A46197 n46198 c46199] 53 (0, 0))) :: (.sl (.slice A46197 n46198 c46199) 61 1 n46198 cl46200) :: (.blk b43598 (.cells #[.int .i64 x43597.n, .slice A43599 n43600 c43601] 53 (0, 0))) :: (.sl (.slice A43599 n43600 c43601) 61 1 n43600 cl43602) :: (.blk l46179 (rec46181 .busy none)) :: (.blk d46180 (.deferred (some []))) :: (.blk b45221 (.cells #[.slice A46702 x46701.length c46704] 22 (0, 0))) :: (.blk b45218 (.cells #[.slice A46914 x46912.length c46915] 22 (0, 0))) :: (.blk b45215 (.cells #[.int .i64 9] 3 (0, 0))) :: (.blk b43614 (.cells #[.pointer (some ⟨b43598, 0, none⟩)] 25 (0, 0))) :: (.sl (.slice A46702 x46701.length c46704) 3 1 x46701.length cl46705) :: (.sl (.slice A46914 x46912.length c46915) 3 1 x46912.length cl46916) :: F) w46922 := s.blkSl (i := 0) (n := 1) (c := 1) (size := 1) rfl rfl (Nat.le_refl _) (by decide)
              have hs46928 := St.src s (i := 0) rfl rfl rp46925
              have rq46929 := rp46925
              obtain ⟨x46930, hx46931, hf⟩ := bindS hf
              refine RW.op (by kernel_rfl) (OK.app hT (r := (Rp.int .i64)) (i := 12) (t := 22) (e := 3) (size := 1) (bytes := 8) (c := c46704) (n := x46701.length) (m := 1) s (by kernel_rfl) rfl rfl rfl rfl rfl (by decide) rfl rfl rfl rfl rp46707 hs46928 rq46929 flat_int rfl hx46931 ?_)
              rintro A46932 c46933 cl46934 w46935 s k46936 rp46937
              replace rp46925 := rp46925.st k46936
              replace rp46907 := rp46907.st k46936
              replace rp46202 := rp46202.st k46936
              replace rp43604 := rp43604.st k46936
              replace rp46707 := rp46707.st k46936
              replace rp46919 := rp46919.st k46936
              replace eg0 := eg0.st k46936
              replace kk := kk.trans k46936
              refine RW.op (by kernel_rfl) (OK.store hT (i := 8) (b := b45221) (off := 0) (n := 1) (vs := [.slice A46932 x46930.length c46933]) (cs := [(.slice A46702 x46701.length c46704)]) (e := 22) s (by kernel_rfl) rfl rfl (flat_ok rfl) (Nat.le_of_ble_eq_true rfl) ?_)
              rintro w46938 s k46939 -
              replace rp46925 := rp46925.st k46939
              replace rp46907 := rp46907.st k46939
              replace rp46202 := rp46202.st k46939
              replace rp43604 := rp43604.st k46939
              replace rp46937 := rp46937.st k46939
              replace rp46919 := rp46919.st k46939
              replace eg0 := eg0.st k46939
              replace kk := kk.trans k46939
              refine RW.nil ?_
              refine RoundEnd.next hrec46182 s (i := 6) rfl ?_
              intro w46940 s k46941
              replace rp46925 := rp46925.st k46941
              replace rp46907 := rp46907.st k46941
              replace rp46202 := rp46202.st k46941
              replace rp43604 := rp43604.st k46941
              replace rp46937 := rp46937.st k46941
              replace rp46919 := rp46919.st k46941
              replace eg0 := eg0.st k46941
              replace kk := kk.trans k46941
              refine hR46895 _ _ ?_
              refine RW.seg hT 1 [] [] [.bool false] [] (by kernel_rfl) (trivial) ?_
              refine RW.nil ?_
              refine WPK.condF (by kernel_rfl) ?_
              refine WPK.skip ?_
              refine WPK.region ?_
              refine RW.seg hT 2 [.pointer (some ⟨b43598, 0, none⟩)] [] [.pointer (some ⟨b43598, 0, none⟩), .int .i64 x46847] [.cell ⟨b43614, 0, none⟩ (.pointer (some ⟨b43598, 0, none⟩))] (by kernel_rfl) (s.cell (i := 11) (off := 0) rfl rfl) ?_
              replace s := s.pick [4, 5, 0, 1, 2, 3, 6, 7, 8, 9, 10, 11, 12, 13] 14 rfl
              obtain ⟨x46942, hx46943, hf⟩ := bindS hf
              refine RW.op (by kernel_rfl) (OK.call' en27 (by kernel_rfl) (c27_1 (F := (.sl (.slice (some ⟨b46923, 0, none⟩) 1 1) 3 1 1 [.int .i64 (IntKind.i64.wrap (x46847 - x46700))]) :: (.sl (.slice (some ⟨b46905, 0, none⟩) 1 1) 3 1 1 [.int .i64 x46700]) :: (.blk b46196 (.cells #[.int .i64 x46195.n, .slice A46197 n46198 c46199] 53 (0, 0))) :: (.sl (.slice A46197 n46198 c46199) 61 1 n46198 cl46200) :: (.blk l46179 (rec46181 .ready none)) :: (.blk d46180 (.deferred (some []))) :: (.blk b45221 (.cells #[.slice A46932 x46930.length c46933] 22 (0, 0))) :: (.blk b45218 (.cells #[.slice A46914 x46912.length c46915] 22 (0, 0))) :: (.blk b45215 (.cells #[.int .i64 9] 3 (0, 0))) :: (.blk b43614 (.cells #[.pointer (some ⟨b43598, 0, none⟩)] 25 (0, 0))) :: (.sl (.slice A46932 x46930.length c46933) 3 1 x46930.length cl46934) :: (.sl (.slice A46914 x46912.length c46915) 3 1 x46912.length cl46916) :: F) x43597 x46847 b43598 A43599 n43600 c43601 cl43602 hn43603 rp43604 eg0 s hx46943) ?_)
              intro X46946 hX46947
              refine fun _ _ hJ => hJ X46946 ?_
              intro I46948 w46944 s k46945
              refine hX46947 _ _ ?_
              replace rp43604 := rp43604.st k46945
              replace rp46925 := rp46925.st k46945
              replace rp46907 := rp46907.st k46945
              replace rp46202 := rp46202.st k46945
              replace rp46937 := rp46937.st k46945
              replace rp46919 := rp46919.st k46945
              replace eg0 := eg0.st k46945
              replace kk := kk.trans k46945
              refine RW.seg hT 1 [] [] [.int .i64 x46942] [] (by kernel_rfl) (trivial) ?_
              refine RW.nil ?_
              subst hrec46835
              replace s := s.pick [0, 1, 4, 5, 6, 7, 8, 9, 10, 11, 12, 13] 14 rfl
              exact ⟨n46834, Nat.le_refl _, fun X h => kc (by kernel_rfl) rfl (h I46948 x46942 x46930 x46912 [(D46846.getD 0 undef), .int .i64 x46847, (D46846.getD 1 undef), (D46846.getD 2 undef), (D46846.getD 3 undef), (D46846.getD 4 undef), .int .i64 x46700, .bool (decide (x46700 ≥ 0)), (D46846.getD 5 undef), (D46846.getD 6 undef), .int .i64 x46838, .int .i64 x46838, .bool (decide (x46838 < 0)), (D46846.getD 7 undef), (D46846.getD 8 undef), (D46846.getD 9 undef), (D46846.getD 10 undef), .func (.yield l46179) #[] #[], .int .i64 x46700, .int .i64 x46847, .int .i64 x46700, .int .i64 (IntKind.i64.wrap (x46847 - x46700)), .bool true, .bool false, .pointer (some ⟨b43598, 0, none⟩), .int .i64 x46847, .int .i64 x46942] A46932 c46933 cl46934 A46914 c46915 cl46916 _ hf s kk rp46937 rp46919 rp43604 rp46202 eg0)⟩
          · refine WPK.seq ?_
            refine WPK.region ?_
            refine RW.seg hT 2 [] [] [.int .i64 x46838, .bool (decide (x46838 < 0))] [] (by kernel_rfl) (trivial) ?_
            refine RW.nil ?_
            by_cases h46951 : x46838 < 0
            · have hf := iteT h46951 hf
              refine WPK.condT (Eq.trans (b := .bool (decide (x46838 < 0))) (by kernel_rfl) (bo_t h46951)) ?_
              refine WPK.region ?_
              refine RW.seg hT 5 [.pointer (some ⟨b43598, 0, none⟩), .int .i64 x43597.n] [] [.pointer (some ⟨b43598, 0, none⟩), .pointer (some ⟨b43598, 0, none⟩), .pointer (some ⟨b43598, 0, none⟩), .int .i64 x43597.n, .int .i64 x43597.n] [.cell ⟨b43614, 0, none⟩ (.pointer (some ⟨b43598, 0, none⟩)), .cell ⟨b43598, 0, none⟩ (.int .i64 x43597.n)] (by kernel_rfl) (⟨s.cell (i := 9) (off := 0) rfl rfl, s.cell (i := 2) (off := 0) rfl rfl⟩) ?_
              refine RW.nil ?_
              exact fun X h => kc (by kernel_rfl) rfl (h x43597.n [(D46699.getD 0 undef), (D46699.getD 2 undef), (D46699.getD 3 undef), (D46699.getD 4 undef), (D46699.getD 5 undef), .pointer (some ⟨b46196, 0, none⟩), .int .i64 x46700, .pointer (some ⟨b43598, 0, none⟩), .pointer (some ⟨b43598, 0, none⟩), .pointer (some ⟨b43598, 0, none⟩), .int .i64 x43597.n, (D46699.getD 17 undef), (D46699.getD 18 undef), (D46699.getD 21 undef), (D46699.getD 24 undef), (D46699.getD 25 undef)] hf)
            · have hf := iteF h46951 hf
              refine WPK.condF (Eq.trans (b := .bool (decide (x46838 < 0))) (by kernel_rfl) (bo_f h46951)) ?_
              refine WPK.skip ?_
              exact fun X h => kc (by kernel_rfl) rfl (h x46838 [(D46699.getD 0 undef), (D46699.getD 2 undef), (D46699.getD 3 undef), (D46699.getD 4 undef), (D46699.getD 5 undef), .pointer (some ⟨b46196, 0, none⟩), .int .i64 x46700, (D46699.getD 13 undef), (D46699.getD 14 undef), (D46699.getD 15 undef), (D46699.getD 16 undef), (D46699.getD 17 undef), (D46699.getD 18 undef), (D46699.getD 21 undef), (D46699.getD 24 undef), (D46699.getD 25 undef)] hf)
        · have hf := iteF h46837 hf
          refine WPK.condF (Eq.trans (b := .bool (decide (x46700 ≥ 0))) (by kernel_rfl) (bo_f h46837)) ?_
          refine WPK.exit (blockQ.same ?_)
          refine Fin.of (rs := []) hT [] (.tuple #[]) [] rfl (by kernel_rfl) (trivial) ?_
          refine hR46186 _ _ (RangeEnd.done hrec46182 s (i := 4) rfl ?_)
          intro w46952 s k46953
          replace rp43604 := rp43604.st k46953
          replace rp46202 := rp46202.st k46953
          replace rp46707 := rp46707.st k46953
          replace rp46715 := rp46715.st k46953
          replace eg0 := eg0.st k46953
          replace kk := kk.trans k46953
          replace s := s.pick [0, 1, 5, 6, 9, 10, 4] 11 rfl
          exact fun X h => kc (by kernel_rfl) rfl (h I46718 x46701 x46709 d46180 [.func (.func 31) #[] #[.pointer (some ⟨b43614, 0, none⟩)], .int .i64 9, undef, .pointer (some ⟨b45215, 0, none⟩), undef, undef, .func (.func 31) #[] #[.pointer (some ⟨b43614, 0, none⟩)], .bool false, .func (.func 31) #[] #[.pointer (some ⟨b43614, 0, none⟩)], undef, undef, undef, undef, undef, undef, undef, undef, undef, undef, undef, undef, undef, undef] A46702 c46704 cl46705 A46710 c46712 cl46713 _ hf s kk rp46707 rp46715 rp43604 eg0)
end Go.Proofs.YtgcielbnmlfjbaaDoor
