/- PRINTED BY sy.py: each call computes what the plain function of its number tells. -/
import Derived.Test.YtgcielbnmlfjbaaDoorW2
namespace Go.Proofs.YtgcielbnmlfjbaaDoor
open Go Go.SX Go.RowKit
set_option maxRecDepth 100000
set_option linter.unusedVariables false
attribute [local irreducible] WPK RW RD Ret SX.Fin SX.Any opK RoundBeg RoundEnd RangeEnd Rounds
theorem c3 {w0 w : World} {M I : Nat → Prop} {F : List It} (p0 : Int) (p1 : (List Int)) (A20969 : Option Addr) (c20970 : Nat) (hc20971 : (p1.length ≤ c20970 ∧ c20970 ≤ 9223372036854775807)) (e20972 : Elems (Rp.int .i64) I w A20969 p1) (eg0 : Elems (Rp.int .u8) I w (some ⟨0, 0, none⟩) TAB0) (s : St w0 M I (F) w) {r : Bool} (hf : g3 p0 p1 = some r) :
    Ret Tryd.prog 3 [.int .i64 p0, .slice A20969 p1.length c20970] w fun v wz => ∀ X : Value → World → Prop, (∀ (I' : Nat → Prop) (w' : World), St w0 M I' (F) w' → Kp I w I' w' → X (.bool r) w') → X v wz := by
  have kk : Kp I w I w := Kp.refl
  unfold g3 at hf
  refine Ret.of Tryd.func3 rfl ?_
  refine WPK.seq ?_
  refine WPK.region ?_
  refine RW.seg hT 1 [] [] [.bool false] [] (by kernel_rfl) (trivial) ?_
  refine RW.nil ?_
  refine WPK.seq ?_
  refine WPK.seq ?_
  refine WPK.cut' (fun E ds wz => ∀ X : Kont, (∀ (I21036 : Nat → Prop) (x21034 : Bool) (D21033 : List Value) (w' : World), g3_j1 p0 p1 x21034 = some r → St w0 M I21036 (F) w' → Kp I w I21036 w' → Elems (Rp.int .i64) I21036 w' A20969 p1 → Elems (Rp.int .u8) I21036 w' (some ⟨0, 0, none⟩) TAB0 → X [.int .i64 p0, .slice A20969 p1.length c20970, (D21033.getD 0 undef), (D21033.getD 1 undef), .bool false, undef, undef, undef, undef, undef, undef, undef, (D21033.getD 2 undef), (D21033.getD 3 undef), (D21033.getD 4 undef), (D21033.getD 5 undef), (D21033.getD 6 undef), (D21033.getD 7 undef), (D21033.getD 8 undef), .bool x21034, undef, (D21033.getD 9 undef), (D21033.getD 10 undef), undef, undef, undef, undef, (D21033.getD 11 undef), (D21033.getD 12 undef), undef, undef, undef, undef, undef, undef, undef, undef, undef, undef, undef, undef, undef, undef, undef, undef, undef, undef, undef, undef, undef, undef, undef, undef, undef, undef, undef, undef, undef, undef, undef, undef, undef, undef, undef, undef, undef, undef, undef, undef, undef, undef, undef, undef, undef, undef, undef, undef, undef, undef, undef, undef, undef, undef, undef, (D21033.getD 13 undef), undef, undef, (D21033.getD 14 undef), undef, undef, undef, undef, undef, undef, undef, undef, undef, undef, undef, (D21033.getD 15 undef), undef, undef] [] w') → X E ds wz) ?_ ?_
  · intro X30055 hX30056
    refine fun _ _ _ hJ => hJ X30055 ?_
    intro I21036 x21034 D21033 w21035 hf s kk e20972 eg0
    refine hX30056 _ _ _ ?_
    unfold g3_j1 at hf
    by_cases h21037 : x21034 = true
    · have hf := iteT h21037 hf
      refine WPK.condT (Eq.trans (b := .bool x21034) (by kernel_rfl) (b_t h21037)) ?_
      refine WPK.seq ?_
      refine WPK.region ?_
      obtain ⟨x21038, hx21039, hf⟩ := bindS hf
      refine RW.op (by kernel_rfl) (OK.call' en8 (by kernel_rfl) (c8 (F := F) eg0 s hx21039) ?_)
      intro X21042 hX21043
      refine fun _ _ hJ => hJ X21042 ?_
      intro I21044 w21040 s k21041
      refine hX21043 _ _ ?_
      replace e20972 := e20972.st k21041
      replace eg0 := eg0.st k21041
      replace kk := kk.trans k21041
      refine RW.seg hT 1 [] [] [.bool x21038] [] (by kernel_rfl) (trivial) ?_
      refine RW.nil ?_
      refine WPK.ret (?_)
      obtain rfl := someS hf
      refine Fin.of (rs := [.tmp 4]) hT [] (.bool x21038) [] rfl (by kernel_rfl) (trivial) ?_
      exact fun X h => vc rfl (h I21044 _ s kk)
    · have hf := iteF h21037 hf
      refine WPK.condF (Eq.trans (b := .bool x21034) (by kernel_rfl) (b_f h21037)) ?_
      refine WPK.skip ?_
      refine WPK.seq ?_
      refine WPK.region ?_
      refine RW.seg hT 2 [] [] [.int .i64 p0, .slice A20969 p1.length c20970] [] (by kernel_rfl) (trivial) ?_
      obtain ⟨x21045, hx21046, hf⟩ := bindS hf
      refine RW.op (by kernel_rfl) (OK.call' en10 (by kernel_rfl) (c10 (F := F) p0 p1 A20969 c20970 hc20971 e20972 s hx21046) ?_)
      intro X21049 hX21050
      refine fun _ _ hJ => hJ X21049 ?_ ?_
      · intro I21051 w21047 hv s k21048
        refine hX21050 _ _ ?_
        replace hf := optN hv hf
        replace e20972 := e20972.st k21048
        replace eg0 := eg0.st k21048
        replace kk := kk.trans k21048
        refine RW.seg hT 1 [] [] [.pointer none] [] (by kernel_rfl) (trivial) ?_
        refine RW.nil ?_
        refine WPK.seq ?_
        refine WPK.seq ?_
        refine WPK.region ?_
        refine RW.seg hT 2 [] [] [.pointer none, .bool true] [] (by kernel_rfl) (trivial) ?_
        refine RW.nil ?_
        refine WPK.condT (by kernel_rfl) ?_
        refine WPK.seq ?_
        refine WPK.region ?_
        refine RW.seg hT 1 [] [] [.bool false] [] (by kernel_rfl) (trivial) ?_
        refine RW.nil ?_
        refine WPK.ret (?_)
        obtain rfl := someS hf
        refine Fin.of (rs := [.tmp 4]) hT [] (.bool false) [] rfl (by kernel_rfl) (trivial) ?_
        exact fun X h => vc rfl (h I21051 _ s kk)
      · intro x21053 I21052 b21054 A21055 n21056 c21057 cl21058 w21047 hv s k21048 hn21059 rp21060
        refine hX21050 _ _ ?_
        replace hf := optS hv hf
        replace e20972 := e20972.st k21048
        replace eg0 := eg0.st k21048
        replace kk := kk.trans k21048
        refine RW.seg hT 1 [] [] [.pointer (some ⟨b21054, 0, none⟩)] [] (by kernel_rfl) (trivial) ?_
        refine RW.nil ?_
        refine WPK.seq ?_
        refine WPK.seq ?_
        refine WPK.region ?_
        refine RW.seg hT 2 [] [] [.pointer (some ⟨b21054, 0, none⟩), .bool false] [] (by kernel_rfl) (trivial) ?_
        refine RW.nil ?_
        refine WPK.condF (by kernel_rfl) ?_
        refine WPK.skip ?_
        refine WPK.seq ?_
        refine WPK.region ?_
        refine RW.seg hT 1 [] [] [.pointer (some ⟨b21054, 0, none⟩)] [] (by kernel_rfl) (trivial) ?_
        refine RW.op (by kernel_rfl) (OK.inl (args := [.pointer (some ⟨b21054, 0, none⟩)]) en12 (by kernel_rfl) ?_)
        intro R21062 hR21063
        refine Ret.of Tryd.func12 rfl ?_
        refine WPK.seq ?_
        refine WPK.region ?_
        refine RW.op (by kernel_rfl) (OK.new hT (f := fun b => .pointer (some ⟨b, 0, none⟩)) (cs := [.pointer (some ⟨b21054, 0, none⟩)]) (e := 25) (c := .tt) s (by kernel_rfl) trivial ?_)
        rintro w21067 b21068 s k21069 -
        replace rp21060 := rp21060.st k21069
        replace eg0 := eg0.st k21069
        replace kk := kk.trans k21069
        refine RW.seg hT 1 [] [] [.nilFunc] [] (by kernel_rfl) (trivial) ?_
        refine RW.nil ?_
        refine WPK.seq ?_
        refine WPK.region ?_
        refine RW.seg hT 2 [] [] [.func (.func 31) #[] #[.pointer (some ⟨b21068, 0, none⟩)], .func (.func 31) #[] #[.pointer (some ⟨b21068, 0, none⟩)]] [] (by kernel_rfl) (trivial) ?_
        refine RW.nil ?_
        refine WPK.ret (?_)
        refine Fin.of (rs := [.tmp 2]) hT [] (.func (.func 31) #[] #[.pointer (some ⟨b21068, 0, none⟩)]) [] rfl (by kernel_rfl) (trivial) ?_
        refine hR21063 _ _ ?_
        refine RW.op (by kernel_rfl) (OK.inl (args := [.func (.func 31) #[] #[.pointer (some ⟨b21068, 0, none⟩)], .int .i64 1048576]) en11 (by kernel_rfl) ?_)
        intro R21070 hR21071
        refine Ret.of Tryd.func11 rfl ?_
        refine WPK.seq ?_
        refine WPK.region ?_
        refine RW.op (by kernel_rfl) (OK.new hT (f := fun b => .pointer (some ⟨b, 0, none⟩)) (cs := [.int .i64 1048576]) (e := 3) (c := .tt) s (by kernel_rfl) trivial ?_)
        rintro w22668 b22669 s k22670 -
        replace rp21060 := rp21060.st k22670
        replace eg0 := eg0.st k22670
        replace kk := kk.trans k22670
        refine RW.seg hT 2 [] [] [.slice none 0 0, .slice none 0 0] [] (by kernel_rfl) (trivial) ?_
        refine RW.nil ?_
        refine WPK.seq ?_
        refine WPK.region ?_
        refine RW.op (by kernel_rfl) (OK.new hT (f := fun b => .pointer (some ⟨b, 0, none⟩)) (cs := [.slice none 0 0]) (e := 22) (c := .tt) s (by kernel_rfl) trivial ?_)
        rintro w22671 b22672 s k22673 -
        replace rp21060 := rp21060.st k22673
        replace eg0 := eg0.st k22673
        replace kk := kk.trans k22673
        refine RW.op (by kernel_rfl) (OK.new hT (f := fun b => .pointer (some ⟨b, 0, none⟩)) (cs := [.slice none 0 0]) (e := 22) (c := .tt) s (by kernel_rfl) trivial ?_)
        rintro w22674 b22675 s k22676 -
        replace rp21060 := rp21060.st k22676
        replace eg0 := eg0.st k22676
        replace kk := kk.trans k22676
        refine RW.nil ?_
        refine WPK.seq ?_
        refine WPK.seq ?_
        refine WPK.region ?_
        refine RW.seg hT 2 [] [] [.func (.func 31) #[] #[.pointer (some ⟨b21068, 0, none⟩)], .bool false] [] (by kernel_rfl) (trivial) ?_
        refine RW.nil ?_
        refine WPK.condF (by kernel_rfl) ?_
        refine WPK.skip ?_
        refine WPK.seq ?_
        refine WPK.cut' (fun E ds wz => ∀ X : Kont, (∀ (I23475 : Nat → Prop) (x23458 : (List Int)) (x23466 : (List Int)) (d23456 : Nat) (D23457 : List Value) (A23459 : Option Addr) (c23461 : Nat) (cl23462 : List Value) (A23467 : Option Addr) (c23469 : Nat) (cl23470 : List Value) (w' : World), g3_j2 p0 x21053 x23458 x23466 = some r → St w0 M I23475 ((.blk b21054 (.cells #[.int .i64 x21053.n, .slice A21055 n21056 c21057] 53 (0, 0))) :: (.sl (.slice A21055 n21056 c21057) 61 1 n21056 cl21058) :: (.blk b22675 (.cells #[.slice A23459 x23458.length c23461] 22 (0, 0))) :: (.blk b22672 (.cells #[.slice A23467 x23466.length c23469] 22 (0, 0))) :: (.sl (.slice A23459 x23458.length c23461) 3 1 x23458.length cl23462) :: (.sl (.slice A23467 x23466.length c23469) 3 1 x23466.length cl23470) :: (.blk d23456 (.deferred (some []))) :: F) w' → Kp I w I23475 w' → RepL (Rp.int .i64) I23475 w' cl23462 x23458 → RepL (Rp.int .i64) I23475 w' cl23470 x23466 → RepL (Rp.int .u64) I23475 w' cl21058 x21053.w → Elems (Rp.int .u8) I23475 w' (some ⟨0, 0, none⟩) TAB0 → X [(D23457.getD 0 undef), (D23457.getD 1 undef), (D23457.getD 2 undef), (D23457.getD 3 undef), .slice none 0 0, .slice none 0 0, .pointer (some ⟨b22672, 0, none⟩), .pointer (some ⟨b22675, 0, none⟩), (D23457.getD 4 undef), (D23457.getD 5 undef), (D23457.getD 6 undef), (D23457.getD 7 undef), (D23457.getD 8 undef), (D23457.getD 9 undef), (D23457.getD 10 undef), (D23457.getD 11 undef), (D23457.getD 12 undef), (D23457.getD 13 undef), (D23457.getD 14 undef), (D23457.getD 15 undef), (D23457.getD 16 undef), (D23457.getD 17 undef), (D23457.getD 18 undef), (D23457.getD 19 undef), (D23457.getD 20 undef), (D23457.getD 21 undef), (D23457.getD 22 undef), undef, undef] [mk d23456] w') → X E ds wz) ?_ ?_
        · intro X29274 hX29275
          refine fun _ _ _ hJ => hJ X29274 ?_
          intro I23475 x23458 x23466 d23456 D23457 A23459 c23461 cl23462 A23467 c23469 cl23470 w23474 hf s kk rp23464 rp23472 rp21060 eg0
          refine hX29275 _ _ _ ?_
          unfold g3_j2 at hf
          refine WPK.seq ?_
          have rp21060S23476 := rp21060
          have rp23464S23476 := rp23464
          have rp23472S23476 := rp23472
          have eg0S23476 := eg0
          have kS23480 : Kp I23475 w23474 I23475 w23474 := Kp.refl
          refine WPK.draw (fun w' => ∃ I' : Nat → Prop, St w0 M I' ((.blk b21054 (.cells #[.int .i64 x21053.n, .slice A21055 n21056 c21057] 53 (0, 0))) :: (.sl (.slice A21055 n21056 c21057) 61 1 n21056 cl21058) :: (.blk b22675 (.cells #[.slice A23459 x23458.length c23461] 22 (0, 0))) :: (.blk b22672 (.cells #[.slice A23467 x23466.length c23469] 22 (0, 0))) :: (.sl (.slice A23459 x23458.length c23461) 3 1 x23458.length cl23462) :: (.sl (.slice A23467 x23466.length c23469) 3 1 x23466.length cl23470) :: (.blk d23456 (.deferred (some []))) :: F) w' ∧ Kp I23475 w23474 I' w') 4 (by kernel_rfl) ?_
          intro w23477 hd23478
          have k23479 := Kp.dr s hd23478
          replace s := s.dr hd23478
          replace rp21060 := rp21060.st k23479
          replace rp23464 := rp23464.st k23479
          replace rp23472 := rp23472.st k23479
          replace eg0 := eg0.st k23479
          replace kk := kk.trans k23479
          replace kS23480 := kS23480.trans k23479
          refine RD.seg hT (by kernel_rfl) [0, 1, 2, 3] [.slice A23467 x23466.length c23469, .slice A23459 x23458.length c23461] [] [.slice A23467 x23466.length c23469, .slice A23459 x23458.length c23461, .slice A23467 x23466.length c23469, .slice A23459 x23458.length c23461] [.cell ⟨b22672, 0, none⟩ (.slice A23467 x23466.length c23469), .cell ⟨b22675, 0, none⟩ (.slice A23459 x23458.length c23461)] (by kernel_rfl) (by rintro w' ⟨I', s, k⟩; have rp21060 := rp21060S23476.st k; have rp23464 := rp23464S23476.st k; have rp23472 := rp23472S23476.st k; have eg0 := eg0S23476.st k; exact ⟨s.cell (i := 3) (off := 0) rfl rfl, s.cell (i := 2) (off := 0) rfl rfl⟩) ⟨_, s.pick [0, 1, 2, 3, 4, 5, 6] 7 rfl, kS23480⟩ ?_
          refine RD.done (by kernel_rfl) ?_
          refine WPK.ret (?_)
          refine Fin.mark (i := 6) s rfl ?_
          intro w23481 s k23482
          replace rp21060 := rp21060.st k23482
          replace rp23464 := rp23464.st k23482
          replace rp23472 := rp23472.st k23482
          replace eg0 := eg0.st k23482
          replace kk := kk.trans k23482
          refine Fin.of (rs := [.tmp 4, .tmp 5]) hT [] (.tuple #[.slice A23467 x23466.length c23469, .slice A23459 x23458.length c23461]) [] rfl (by kernel_rfl) (trivial) ?_
          refine hR21071 _ _ ?_
          refine RW.seg hT 5 [] [] [.tuple #[.slice A23467 x23466.length c23469, .slice A23459 x23458.length c23461], .slice A23467 x23466.length c23469, .slice A23459 x23458.length c23461, .slice A23467 x23466.length c23469, .slice A23459 x23458.length c23461] [] (by kernel_rfl) (trivial) ?_
          refine RW.nil ?_
          refine WPK.seq ?_
          refine WPK.region ?_
          refine RW.seg hT 1 [] [] [.int .i64 0] [] (by kernel_rfl) (trivial) ?_
          refine RW.nil ?_
          refine WPK.seq ?_
          refine WPK.seq ?_
          refine WPK.region ?_
          refine RW.seg hT 3 [] [(33, .int .i64 (x23466.length : Int))] [.slice A23467 x23466.length c23469, .int .i64 (x23466.length : Int), .int .i64 0] [.veq (.int .i64 (x23466.length : Nat)) (.int .i64 (x23466.length : Int))] (by kernel_rfl) (len_v rfl) ?_
          refine RW.nil ?_
          refine WPK.block ?_
          replace s := s.pick [0, 1, 4, 5] 6 rfl
          refine WPK.loop' (J := fun n28485 E ds wz => ∀ X : Kont, (∀ (I27705 : Nat → Prop) (x27702 : Int) (x27703 : Int) (D27701 : List Value) (w' : World), g3_l3 p0 x21053 x23458 x23466 n28485 x27702 x27703 = some r → St w0 M I27705 ((.blk b21054 (.cells #[.int .i64 x21053.n, .slice A21055 n21056 c21057] 53 (0, 0))) :: (.sl (.slice A21055 n21056 c21057) 61 1 n21056 cl21058) :: (.sl (.slice A23459 x23458.length c23461) 3 1 x23458.length cl23462) :: (.sl (.slice A23467 x23466.length c23469) 3 1 x23466.length cl23470) :: F) w' → Kp I w I27705 w' → RepL (Rp.int .u64) I27705 w' cl21058 x21053.w → RepL (Rp.int .i64) I27705 w' cl23462 x23458 → RepL (Rp.int .i64) I27705 w' cl23470 x23466 → Elems (Rp.int .u8) I27705 w' (some ⟨0, 0, none⟩) TAB0 → X [.int .i64 p0, (D27701.getD 0 undef), (D27701.getD 1 undef), (D27701.getD 2 undef), .bool false, .pointer (some ⟨b21054, 0, none⟩), .slice A23467 x23466.length c23469, .slice A23459 x23458.length c23461, .int .i64 x27702, (D27701.getD 3 undef), (D27701.getD 4 undef), (D27701.getD 5 undef), (D27701.getD 6 undef), (D27701.getD 7 undef), (D27701.getD 8 undef), (D27701.getD 9 undef), (D27701.getD 10 undef), (D27701.getD 11 undef), (D27701.getD 12 undef), (D27701.getD 13 undef), (D27701.getD 14 undef), (D27701.getD 15 undef), (D27701.getD 16 undef), (D27701.getD 17 undef), (D27701.getD 18 undef), (D27701.getD 19 undef), (D27701.getD 20 undef), (D27701.getD 21 undef), (D27701.getD 22 undef), (D27701.getD 23 undef), (D27701.getD 24 undef), (D27701.getD 25 undef), .slice A23467 x23466.length c23469, .int .i64 (x23466.length : Int), .int .i64 x27703, (D27701.getD 26 undef), (D27701.getD 27 undef), (D27701.getD 28 undef), (D27701.getD 29 undef), (D27701.getD 30 undef), (D27701.getD 31 undef), (D27701.getD 32 undef), (D27701.getD 33 undef), (D27701.getD 34 undef), (D27701.getD 35 undef), (D27701.getD 36 undef), (D27701.getD 37 undef), (D27701.getD 38 undef), (D27701.getD 39 undef), (D27701.getD 40 undef), (D27701.getD 41 undef), (D27701.getD 42 undef), (D27701.getD 43 undef), (D27701.getD 44 undef), (D27701.getD 45 undef), (D27701.getD 46 undef), (D27701.getD 47 undef), (D27701.getD 48 undef), (D27701.getD 49 undef), (D27701.getD 50 undef), (D27701.getD 51 undef), (D27701.getD 52 undef), (D27701.getD 53 undef), (D27701.getD 54 undef), (D27701.getD 55 undef), (D27701.getD 56 undef), (D27701.getD 57 undef), (D27701.getD 58 undef), (D27701.getD 59 undef), (D27701.getD 60 undef), (D27701.getD 61 undef), (D27701.getD 62 undef), (D27701.getD 63 undef), (D27701.getD 64 undef), (D27701.getD 65 undef), (D27701.getD 66 undef), (D27701.getD 67 undef), (D27701.getD 68 undef), (D27701.getD 69 undef), (D27701.getD 70 undef), (D27701.getD 71 undef), (D27701.getD 72 undef), (D27701.getD 73 undef), (D27701.getD 74 undef), (D27701.getD 75 undef), (D27701.getD 76 undef), (D27701.getD 77 undef), (D27701.getD 78 undef), (D27701.getD 79 undef), (D27701.getD 80 undef), (D27701.getD 81 undef), (D27701.getD 82 undef), (D27701.getD 83 undef), (D27701.getD 84 undef), (D27701.getD 85 undef), (D27701.getD 86 undef), (D27701.getD 87 undef), (D27701.getD 88 undef), undef, (D27701.getD 89 undef), undef, undef] [] w') → X E ds wz) FUEL (fun X h => kc (by kernel_rfl) rfl (h I23475 0 0 [.slice A20969 p1.length c20970, (D21033.getD 0 undef), (D21033.getD 1 undef), undef, undef, undef, (D21033.getD 2 undef), (D21033.getD 3 undef), (D21033.getD 4 undef), (D21033.getD 5 undef), (D21033.getD 6 undef), (D21033.getD 7 undef), (D21033.getD 8 undef), .bool x21034, undef, .int .i64 p0, .slice A20969 p1.length c20970, .pointer (some ⟨b21054, 0, none⟩), .pointer (some ⟨b21054, 0, none⟩), .bool false, .tuple #[.slice A23467 x23466.length c23469, .slice A23459 x23458.length c23461], .pointer (some ⟨b21054, 0, none⟩), .func (.func 31) #[] #[.pointer (some ⟨b21068, 0, none⟩)], .tuple #[.slice A23467 x23466.length c23469, .slice A23459 x23458.length c23461], .slice A23467 x23466.length c23469, .slice A23459 x23458.length c23461, undef, undef, undef, undef, undef, undef, undef, undef, undef, undef, undef, undef, undef, undef, undef, undef, undef, undef, undef, undef, undef, undef, undef, undef, undef, undef, undef, undef, undef, undef, undef, undef, undef, undef, undef, undef, undef, undef, undef, undef, undef, undef, undef, undef, undef, undef, undef, undef, undef, (D21033.getD 13 undef), undef, undef, (D21033.getD 14 undef), undef, undef, undef, undef, undef, undef, undef, undef, undef, undef, (D21033.getD 15 undef)] _ hf s kk rp21060 rp23464 rp23472 eg0)) (fun _ _ _ hJ => hJ (fun _ _ _ => False) (by intro I27705 x27702 x27703 D27701 w27704 hf s kk rp21060 rp23464 rp23472 eg0; exact noneS hf)) ?_
          intro X29272 hX29273
          refine fun n28485 _ _ _ hJ => hJ (X29272 n28485) ?_
          intro I27705 x27702 x27703 D27701 w27704 hf s kk rp21060 rp23464 rp23472 eg0
          refine hX29273 _ _ _ _ ?_
          replace hf : g3_l3B p0 x21053 x23458 x23466 (g3_l3 p0 x21053 x23458 x23466 n28485) x27702 x27703 = some r := hf
          generalize hrec28486 : g3_l3 p0 x21053 x23458 x23466 n28485 = rec28484 at hf
          unfold g3_l3B at hf
          refine WPK.seq ?_
          refine WPK.region ?_
          refine RW.seg hT 1 [] [] [.bool (decide (x27703 < (x23466.length : Int)))] [] (by kernel_rfl) (trivial) ?_
          refine RW.nil ?_
          refine WPK.seq ?_
          by_cases h28488 : x27703 < (x23466.length : Int)
          · have hf := iteT h28488 hf
            refine WPK.condT (Eq.trans (b := .bool (decide (x27703 < (x23466.length : Int)))) (by kernel_rfl) (bo_t h28488)) ?_
            refine WPK.skip ?_
            refine WPK.seq ?_
            refine WPK.block ?_
            refine WPK.seq ?_
            refine WPK.region ?_
            obtain ⟨x28877, hx28878, hf⟩ := bindS hf
            obtain ⟨h28879, hx28878⟩ := getS hx28878
            obtain ⟨b28880, rfl⟩ := (St.elem s (i := 3) rfl rfl rp23472 hx28878).1
            obtain ⟨-, cs28882, hr28883, ha28884⟩ := St.elem s (i := 3) rfl rfl rp23472 hx28878
            replace ha28884 := ha28884 _ rfl
            obtain rfl : cs28882 = [.int .i64 x28877] := hr28883
            refine RW.seg hT 5 [.int .i64 x28877] [] [.int .i64 x27703, .pointer (some ⟨b28880, 0 + x27703.toNat * 1, none⟩), .int .i64 x28877, .int .i64 x27703, .int .i64 x28877] [.idx x27703 x23466.length, .cell ⟨b28880, 0 + x27703.toNat * 1, none⟩ (.int .i64 x28877)] (by kernel_rfl) (⟨h28879, ha28884 0 _ rfl⟩) ?_
            refine RW.nil ?_
            refine WPK.seq ?_
            refine WPK.seq ?_
            refine WPK.cut' (fun E ds wz => ∀ X : Kont, (∀ (I29058 : Nat → Prop) (x29049 : Int) (x29050 : Bool) (x29051 : Bool) (x29052 : Bool) (x29053 : Bool) (x29054 : Bool) (x29055 : Bool) (x29056 : Bool) (D29047 : List Value) (d29048 : Value) (w' : World), g3_j4 x21053 x23458 x27702 x27703 rec28484 x28877 x29049 x29050 x29051 x29052 x29053 x29054 x29055 x29056 = some r → St w0 M I29058 ((.blk b21054 (.cells #[.int .i64 x21053.n, .slice A21055 n21056 c21057] 53 (0, 0))) :: (.sl (.slice A21055 n21056 c21057) 61 1 n21056 cl21058) :: (.sl (.slice A23459 x23458.length c23461) 3 1 x23458.length cl23462) :: (.sl (.slice (some ⟨b28880, 0, none⟩) x23466.length c23469) 3 1 x23466.length cl23470) :: F) w' → Kp I w I29058 w' → RepL (Rp.int .u64) I29058 w' cl21058 x21053.w → RepL (Rp.int .i64) I29058 w' cl23462 x23458 → RepL (Rp.int .i64) I29058 w' cl23470 x23466 → Elems (Rp.int .u8) I29058 w' (some ⟨0, 0, none⟩) TAB0 → X [.int .i64 p0, (D29047.getD 0 undef), (D29047.getD 1 undef), (D29047.getD 2 undef), .bool false, .pointer (some ⟨b21054, 0, none⟩), .slice (some ⟨b28880, 0, none⟩) x23466.length c23469, .slice A23459 x23458.length c23461, .int .i64 x27702, .int .i64 x27703, .int .i64 x28877, (D27701.getD 5 undef), (D29047.getD 3 undef), (D29047.getD 4 undef), (D29047.getD 5 undef), (D29047.getD 6 undef), (D29047.getD 7 undef), (D29047.getD 8 undef), (D29047.getD 9 undef), (D29047.getD 10 undef), (D29047.getD 11 undef), (D29047.getD 12 undef), (D29047.getD 13 undef), (D29047.getD 14 undef), (D29047.getD 15 undef), (D29047.getD 16 undef), (D29047.getD 17 undef), (D29047.getD 18 undef), (D29047.getD 19 undef), (D29047.getD 20 undef), (D29047.getD 21 undef), (D29047.getD 22 undef), .slice (some ⟨b28880, 0, none⟩) x23466.length c23469, .int .i64 (x23466.length : Int), .int .i64 x27703, .bool (decide (x27703 < (x23466.length : Int))), .int .i64 x27703, d29048, .int .i64 x28877, .slice A23459 x23458.length c23461, .int .i64 x27703, (D29047.getD 23 undef), .int .i64 x29049, .bool x29050, .bool x29051, (D29047.getD 24 undef), (D29047.getD 25 undef), .bool x29052, .bool x29053, (D29047.getD 26 undef), (D29047.getD 27 undef), (D29047.getD 28 undef), (D29047.getD 29 undef), (D29047.getD 30 undef), (D29047.getD 31 undef), (D29047.getD 32 undef), (D29047.getD 33 undef), (D29047.getD 34 undef), (D29047.getD 35 undef), (D29047.getD 36 undef), (D29047.getD 37 undef), (D29047.getD 38 undef), (D29047.getD 39 undef), (D29047.getD 40 undef), (D29047.getD 41 undef), (D29047.getD 42 undef), .bool x29054, .bool x29055, (D29047.getD 43 undef), (D29047.getD 44 undef), (D29047.getD 45 undef), (D29047.getD 46 undef), (D29047.getD 47 undef), (D29047.getD 48 undef), (D29047.getD 49 undef), (D29047.getD 50 undef), .bool x29056, (D27701.getD 68 undef), (D27701.getD 69 undef), (D27701.getD 70 undef), (D27701.getD 71 undef), (D27701.getD 72 undef), (D27701.getD 73 undef), (D27701.getD 74 undef), (D29047.getD 51 undef), (D27701.getD 76 undef), (D27701.getD 77 undef), (D29047.getD 52 undef), (D27701.getD 79 undef), (D27701.getD 80 undef), (D27701.getD 81 undef), (D27701.getD 82 undef), (D27701.getD 83 undef), (D27701.getD 84 undef), (D27701.getD 85 undef), (D27701.getD 86 undef), (D27701.getD 87 undef), (D27701.getD 88 undef), undef, (D29047.getD 53 undef), undef, undef] [] w') → X E ds wz) ?_ ?_
            · intro X29214 hX29215
              refine fun _ _ _ hJ => hJ X29214 ?_
              intro I29058 x29049 x29050 x29051 x29052 x29053 x29054 x29055 x29056 D29047 d29048 w29057 hf s kk rp21060 rp23464 rp23472 eg0
              refine hX29215 _ _ _ ?_
              unfold g3_j4 at hf
              by_cases h29059 : x29056 = true
              · have hf := iteT h29059 hf
                refine WPK.condT (Eq.trans (b := .bool x29056) (by kernel_rfl) (b_t h29059)) ?_
                refine WPK.seq ?_
                refine WPK.region ?_
                refine RW.seg hT 1 [] [] [.bool false] [] (by kernel_rfl) (trivial) ?_
                refine RW.nil ?_
                refine WPK.ret (blockQ.ret (blockQ.ret (?_)))
                obtain rfl := someS hf
                refine Fin.of (rs := [.tmp 4]) hT [] (.bool false) [] rfl (by kernel_rfl) (trivial) ?_
                replace s := s.pick [] 4 rfl
                exact fun X h => vc rfl (h I29058 _ s kk)
              · have hf := iteF h29059 hf
                refine WPK.condF (Eq.trans (b := .bool x29056) (by kernel_rfl) (b_f h29059)) ?_
                refine WPK.skip ?_
                refine WPK.seq ?_
                refine WPK.seq ?_
                refine WPK.region ?_
                obtain ⟨x29133, hx29134, hf⟩ := bindS hf
                obtain ⟨h29135, hx29134⟩ := getS hx29134
                obtain ⟨b29136, rfl⟩ := (St.elem s (i := 2) rfl rfl rp23464 hx29134).1
                obtain ⟨-, cs29138, hr29139, ha29140⟩ := St.elem s (i := 2) rfl rfl rp23464 hx29134
                replace ha29140 := ha29140 _ rfl
                obtain rfl : cs29138 = [.int .i64 x29133] := hr29139
                refine RW.seg hT 5 [.int .i64 x29133] [] [.slice (some ⟨b29136, 0, none⟩) x23458.length c23461, .int .i64 x27703, .pointer (some ⟨b29136, 0 + x27703.toNat * 1, none⟩), .int .i64 x29133, .int .i64 0] [.idx x27703 x23458.length, .cell ⟨b29136, 0 + x27703.toNat * 1, none⟩ (.int .i64 x29133)] (by kernel_rfl) (⟨h29135, ha29140 0 _ rfl⟩) ?_
                refine RW.nil ?_
                refine WPK.block ?_
                refine WPK.loop' (J := fun n29184 E ds wz => ∀ X : Kont, (∀ (I29164 : Nat → Prop) (x29162 : Int) (D29160 : List Value) (d29161 : Value) (w' : World), g3_l5 x21053 x23458 x27702 x27703 rec28484 x28877 x29133 n29184 x29162 = some r → St w0 M I29164 ((.blk b21054 (.cells #[.int .i64 x21053.n, .slice A21055 n21056 c21057] 53 (0, 0))) :: (.sl (.slice A21055 n21056 c21057) 61 1 n21056 cl21058) :: (.sl (.slice (some ⟨b29136, 0, none⟩) x23458.length c23461) 3 1 x23458.length cl23462) :: (.sl (.slice (some ⟨b28880, 0, none⟩) x23466.length c23469) 3 1 x23466.length cl23470) :: F) w' → Kp I w I29164 w' → RepL (Rp.int .u64) I29164 w' cl21058 x21053.w → RepL (Rp.int .i64) I29164 w' cl23462 x23458 → RepL (Rp.int .i64) I29164 w' cl23470 x23466 → Elems (Rp.int .u8) I29164 w' (some ⟨0, 0, none⟩) TAB0 → X [.int .i64 p0, (D29160.getD 0 undef), (D29160.getD 1 undef), (D29160.getD 2 undef), .bool false, .pointer (some ⟨b21054, 0, none⟩), .slice (some ⟨b28880, 0, none⟩) x23466.length c23469, .slice (some ⟨b29136, 0, none⟩) x23458.length c23461, .int .i64 x27702, .int .i64 x27703, .int .i64 x28877, (D29160.getD 3 undef), (D29160.getD 4 undef), (D29160.getD 5 undef), (D29160.getD 6 undef), (D29160.getD 7 undef), (D29160.getD 8 undef), (D29160.getD 9 undef), (D29160.getD 10 undef), (D29160.getD 11 undef), (D29160.getD 12 undef), (D29160.getD 13 undef), (D29160.getD 14 undef), (D29160.getD 15 undef), (D29160.getD 16 undef), (D29160.getD 17 undef), (D29160.getD 18 undef), (D29160.getD 19 undef), (D29160.getD 20 undef), (D29160.getD 21 undef), (D29160.getD 22 undef), (D29160.getD 23 undef), .slice (some ⟨b28880, 0, none⟩) x23466.length c23469, .int .i64 (x23466.length : Int), .int .i64 x27703, .bool (decide (x27703 < (x23466.length : Int))), .int .i64 x27703, d29048, .int .i64 x28877, .slice (some ⟨b29136, 0, none⟩) x23458.length c23461, .int .i64 x27703, (D29047.getD 23 undef), .int .i64 x29049, .bool x29050, .bool x29051, (D29047.getD 24 undef), (D29047.getD 25 undef), .bool x29052, .bool x29053, (D29047.getD 26 undef), (D29047.getD 27 undef), (D29047.getD 28 undef), (D29047.getD 29 undef), (D29047.getD 30 undef), (D29047.getD 31 undef), (D29047.getD 32 undef), (D29047.getD 33 undef), (D29047.getD 34 undef), (D29047.getD 35 undef), (D29047.getD 36 undef), (D29047.getD 37 undef), (D29047.getD 38 undef), (D29047.getD 39 undef), (D29047.getD 40 undef), (D29047.getD 41 undef), (D29047.getD 42 undef), .bool x29054, .bool x29055, (D29047.getD 43 undef), (D29047.getD 44 undef), (D29047.getD 45 undef), (D29047.getD 46 undef), (D29047.getD 47 undef), (D29047.getD 48 undef), (D29047.getD 49 undef), (D29047.getD 50 undef), .bool x29056, .slice (some ⟨b29136, 0, none⟩) x23458.length c23461, .int .i64 x27703, d29161, .int .i64 x29133, .int .i64 x29162, (D29160.getD 24 undef), (D29160.getD 25 undef), (D29160.getD 26 undef), (D29160.getD 27 undef), (D29160.getD 28 undef), (D29160.getD 29 undef), (D29160.getD 30 undef), (D29160.getD 31 undef), (D29160.getD 32 undef), (D27701.getD 82 undef), (D27701.getD 83 undef), (D27701.getD 84 undef), (D27701.getD 85 undef), (D27701.getD 86 undef), (D27701.getD 87 undef), (D27701.getD 88 undef), undef, (D29160.getD 33 undef), undef, undef] [] w') → X E ds wz) FUEL (fun X h => kc (by kernel_rfl) rfl (h I29058 0 [(D29047.getD 0 undef), (D29047.getD 1 undef), (D29047.getD 2 undef), (D27701.getD 5 undef), (D29047.getD 3 undef), (D29047.getD 4 undef), (D29047.getD 5 undef), (D29047.getD 6 undef), (D29047.getD 7 undef), (D29047.getD 8 undef), (D29047.getD 9 undef), (D29047.getD 10 undef), (D29047.getD 11 undef), (D29047.getD 12 undef), (D29047.getD 13 undef), (D29047.getD 14 undef), (D29047.getD 15 undef), (D29047.getD 16 undef), (D29047.getD 17 undef), (D29047.getD 18 undef), (D29047.getD 19 undef), (D29047.getD 20 undef), (D29047.getD 21 undef), (D29047.getD 22 undef), (D27701.getD 73 undef), (D27701.getD 74 undef), (D29047.getD 51 undef), (D27701.getD 76 undef), (D27701.getD 77 undef), (D29047.getD 52 undef), (D27701.getD 79 undef), (D27701.getD 80 undef), (D27701.getD 81 undef), (D29047.getD 53 undef)] (.pointer (some ⟨b29136, 0 + x27703.toNat * 1, none⟩)) _ hf s kk rp21060 rp23464 rp23472 eg0)) (fun _ _ _ hJ => hJ (fun _ _ _ => False) (by intro I29164 x29162 D29160 d29161 w29163 hf s kk rp21060 rp23464 rp23472 eg0; exact noneS hf)) ?_
                intro X29212 hX29213
                refine fun n29184 _ _ _ hJ => hJ (X29212 n29184) ?_
                intro I29164 x29162 D29160 d29161 w29163 hf s kk rp21060 rp23464 rp23472 eg0
                refine hX29213 _ _ _ _ ?_
                replace hf : g3_l5B x21053 x23458 x27702 x27703 rec28484 x28877 x29133 (g3_l5 x21053 x23458 x27702 x27703 rec28484 x28877 x29133 n29184) x29162 = some r := hf
                generalize hrec29185 : g3_l5 x21053 x23458 x27702 x27703 rec28484 x28877 x29133 n29184 = rec29183 at hf
                unfold g3_l5B at hf
                refine WPK.seq ?_
                refine WPK.region ?_
                refine RW.seg hT 1 [] [] [.bool (decide (x29162 < x29133))] [] (by kernel_rfl) (trivial) ?_
                refine RW.nil ?_
                refine WPK.seq ?_
                by_cases h29187 : x29162 < x29133
                · have hf := iteT h29187 hf
                  refine WPK.condT (Eq.trans (b := .bool (decide (x29162 < x29133))) (by kernel_rfl) (bo_t h29187)) ?_
                  refine WPK.skip ?_
                  refine WPK.seq ?_
                  refine WPK.block ?_
                  refine WPK.seq ?_
                  refine WPK.region ?_
                  refine RW.seg hT 2 [] [] [.int .i64 x29162, .int .i64 x29162] [] (by kernel_rfl) (trivial) ?_
                  refine RW.nil ?_
                  refine WPK.seq ?_
                  refine WPK.region ?_
                  refine RW.seg hT 4 [] [] [.pointer (some ⟨b21054, 0, none⟩), .int .i64 x28877, .int .i64 x29162, .int .i64 (IntKind.i64.wrap (x28877 + x29162))] [] (by kernel_rfl) (trivial) ?_
                  obtain ⟨x29196, hx29197, hf⟩ := bindS hf
                  refine RW.op (by kernel_rfl) (OK.call' en13 (by kernel_rfl) (c13 (F := (.sl (.slice (some ⟨b29136, 0, none⟩) x23458.length c23461) 3 1 x23458.length cl23462) :: (.sl (.slice (some ⟨b28880, 0, none⟩) x23466.length c23469) 3 1 x23466.length cl23470) :: F) x21053 (IntKind.i64.wrap (x28877 + x29162)) b21054 A21055 n21056 c21057 cl21058 hn21059 rp21060 s hx29197) ?_)
                  intro X29200 hX29201
                  refine fun _ _ hJ => hJ X29200 ?_
                  intro I29202 w29198 s k29199
                  refine hX29201 _ _ ?_
                  replace rp21060 := rp21060.st k29199
                  replace rp23464 := rp23464.st k29199
                  replace rp23472 := rp23472.st k29199
                  replace eg0 := eg0.st k29199
                  replace kk := kk.trans k29199
                  refine RW.seg hT 1 [] [(89, .bool (decide (¬ (x29196 = true))))] [.bool (decide (¬ (x29196 = true)))] [.veq (.bool (!x29196)) (.bool (decide (¬ (x29196 = true))))] (by kernel_rfl) (not_b) ?_
                  refine RW.nil ?_
                  by_cases h29203 : ¬ (x29196 = true)
                  · have hf := iteT h29203 hf
                    refine WPK.condT (Eq.trans (b := .bool (decide (¬ (x29196 = true)))) (by kernel_rfl) (bo_t h29203)) ?_
                    refine WPK.seq ?_
                    refine WPK.region ?_
                    refine RW.seg hT 1 [] [] [.bool false] [] (by kernel_rfl) (trivial) ?_
                    refine RW.nil ?_
                    refine WPK.ret (blockQ.ret (blockQ.ret (blockQ.ret (blockQ.ret (?_)))))
                    obtain rfl := someS hf
                    refine Fin.of (rs := [.tmp 4]) hT [] (.bool false) [] rfl (by kernel_rfl) (trivial) ?_
                    replace s := s.pick [] 4 rfl
                    exact fun X h => vc rfl (h I29202 _ s kk)
                  · have hf := iteF h29203 hf
                    refine WPK.condF (Eq.trans (b := .bool (decide (¬ (x29196 = true)))) (by kernel_rfl) (bo_f h29203)) ?_
                    refine WPK.skip ?_
                    refine WPK.region ?_
                    refine RW.seg hT 2 [] [] [.int .i64 (IntKind.i64.wrap (x29162 + 1)), .int .i64 (IntKind.i64.wrap (x29162 + 1))] [] (by kernel_rfl) (trivial) ?_
                    refine RW.nil ?_
                    subst hrec29185
                    exact ⟨n29184, Nat.le_refl _, fun X h => kc (by kernel_rfl) rfl (h I29202 (IntKind.i64.wrap (x29162 + 1)) [(D29160.getD 0 undef), (D29160.getD 1 undef), (D29160.getD 2 undef), .int .i64 x29162, (D29160.getD 4 undef), (D29160.getD 5 undef), (D29160.getD 6 undef), (D29160.getD 7 undef), (D29160.getD 8 undef), (D29160.getD 9 undef), (D29160.getD 10 undef), (D29160.getD 11 undef), (D29160.getD 12 undef), (D29160.getD 13 undef), (D29160.getD 14 undef), (D29160.getD 15 undef), (D29160.getD 16 undef), (D29160.getD 17 undef), (D29160.getD 18 undef), (D29160.getD 19 undef), (D29160.getD 20 undef), (D29160.getD 21 undef), (D29160.getD 22 undef), (D29160.getD 23 undef), .bool (decide (x29162 < x29133)), .int .i64 x29162, .pointer (some ⟨b21054, 0, none⟩), .int .i64 x28877, .int .i64 x29162, .int .i64 (IntKind.i64.wrap (x28877 + x29162)), .bool x29196, .bool (decide (¬ (x29196 = true))), .int .i64 (IntKind.i64.wrap (x29162 + 1)), (D29160.getD 33 undef)] (d29161) _ hf s kk rp21060 rp23464 rp23472 eg0)⟩
                · have hf := iteF h29187 hf
                  refine WPK.condF (Eq.trans (b := .bool (decide (x29162 < x29133))) (by kernel_rfl) (bo_f h29187)) ?_
                  refine WPK.exit (blockQ.same ?_)
                  refine WPK.region ?_
                  obtain ⟨x29204, hx29205, hf⟩ := bindS hf
                  obtain ⟨h29206, hx29205⟩ := getS hx29205
                  obtain ⟨-, cs29209, hr29210, ha29211⟩ := St.elem s (i := 2) rfl rfl rp23464 hx29205
                  replace ha29211 := ha29211 _ rfl
                  obtain rfl : cs29209 = [.int .i64 x29204] := hr29210
                  refine RW.seg hT 7 [.int .i64 x29204] [] [.int .i64 x27702, .slice (some ⟨b29136, 0, none⟩) x23458.length c23461, .int .i64 x27703, .pointer (some ⟨b29136, 0 + x27703.toNat * 1, none⟩), .int .i64 x29204, .int .i64 (IntKind.i64.wrap (x27702 + x29204)), .int .i64 (IntKind.i64.wrap (x27702 + x29204))] [.idx x27703 x23458.length, .cell ⟨b29136, 0 + x27703.toNat * 1, none⟩ (.int .i64 x29204)] (by kernel_rfl) (⟨h29206, ha29211 0 _ rfl⟩) ?_
                  refine RW.nil ?_
                  refine WPK.region ?_
                  refine RW.seg hT 2 [] [] [.int .i64 (IntKind.i64.wrap (x27703 + 1)), .int .i64 (IntKind.i64.wrap (x27703 + 1))] [] (by kernel_rfl) (trivial) ?_
                  refine RW.nil ?_
                  subst hrec28486
                  exact ⟨n28485, Nat.le_refl _, fun X h => kc (by kernel_rfl) rfl (h I29164 (IntKind.i64.wrap (x27702 + x29204)) (IntKind.i64.wrap (x27703 + 1)) [(D29160.getD 0 undef), (D29160.getD 1 undef), (D29160.getD 2 undef), .int .i64 x27703, .int .i64 x28877, (D29160.getD 3 undef), (D29160.getD 4 undef), (D29160.getD 5 undef), (D29160.getD 6 undef), (D29160.getD 7 undef), (D29160.getD 8 undef), (D29160.getD 9 undef), (D29160.getD 10 undef), (D29160.getD 11 undef), (D29160.getD 12 undef), (D29160.getD 13 undef), (D29160.getD 14 undef), (D29160.getD 15 undef), (D29160.getD 16 undef), (D29160.getD 17 undef), (D29160.getD 18 undef), (D29160.getD 19 undef), (D29160.getD 20 undef), (D29160.getD 21 undef), (D29160.getD 22 undef), (D29160.getD 23 undef), .bool (decide (x27703 < (x23466.length : Int))), .int .i64 x27703, d29048, .int .i64 x28877, .slice (some ⟨b29136, 0, none⟩) x23458.length c23461, .int .i64 x27703, (D29047.getD 23 undef), .int .i64 x29049, .bool x29050, .bool x29051, (D29047.getD 24 undef), (D29047.getD 25 undef), .bool x29052, .bool x29053, (D29047.getD 26 undef), (D29047.getD 27 undef), (D29047.getD 28 undef), (D29047.getD 29 undef), (D29047.getD 30 undef), (D29047.getD 31 undef), (D29047.getD 32 undef), (D29047.getD 33 undef), (D29047.getD 34 undef), (D29047.getD 35 undef), (D29047.getD 36 undef), (D29047.getD 37 undef), (D29047.getD 38 undef), (D29047.getD 39 undef), (D29047.getD 40 undef), (D29047.getD 41 undef), (D29047.getD 42 undef), .bool x29054, .bool x29055, (D29047.getD 43 undef), (D29047.getD 44 undef), (D29047.getD 45 undef), (D29047.getD 46 undef), (D29047.getD 47 undef), (D29047.getD 48 undef), (D29047.getD 49 undef), (D29047.getD 50 undef), .bool x29056, .slice (some ⟨b29136, 0, none⟩) x23458.length c23461, .int .i64 x27703, d29161, .int .i64 x29133, .int .i64 x29162, .bool (decide (x29162 < x29133)), (D29160.getD 25 undef), (D29160.getD 26 undef), (D29160.getD 27 undef), (D29160.getD 28 undef), (D29160.getD 29 undef), (D29160.getD 30 undef), (D29160.getD 31 undef), (D29160.getD 32 undef), .int .i64 x27702, .slice (some ⟨b29136, 0, none⟩) x23458.length c23461, .int .i64 x27703, .pointer (some ⟨b29136, 0 + x27703.toNat * 1, none⟩), .int .i64 x29204, .int .i64 (IntKind.i64.wrap (x27702 + x29204)), .int .i64 (IntKind.i64.wrap (x27703 + 1)), (D29160.getD 33 undef)] _ hf s kk rp21060 rp23464 rp23472 eg0)⟩
            · have rp21060S29216 := rp21060
              have rp23464S29216 := rp23464
              have rp23472S29216 := rp23472
              have eg0S29216 := eg0
              have kS29220 : Kp I27705 w27704 I27705 w27704 := Kp.refl
              refine WPK.draw (fun w' => ∃ I' : Nat → Prop, St w0 M I' ((.blk b21054 (.cells #[.int .i64 x21053.n, .slice A21055 n21056 c21057] 53 (0, 0))) :: (.sl (.slice A21055 n21056 c21057) 61 1 n21056 cl21058) :: (.sl (.slice A23459 x23458.length c23461) 3 1 x23458.length cl23462) :: (.sl (.slice (some ⟨b28880, 0, none⟩) x23466.length c23469) 3 1 x23466.length cl23470) :: F) w' ∧ Kp I27705 w27704 I' w') 38 (by kernel_rfl) ?_
              intro w29217 hd29218
              have k29219 := Kp.dr s hd29218
              replace s := s.dr hd29218
              replace rp21060 := rp21060.st k29219
              replace rp23464 := rp23464.st k29219
              replace rp23472 := rp23472.st k29219
              replace eg0 := eg0.st k29219
              replace kk := kk.trans k29219
              replace kS29220 := kS29220.trans k29219
              obtain ⟨x29221, hx29222, hf⟩ := bindS hf
              obtain ⟨h29223, hx29222⟩ := getS hx29222
              obtain ⟨b29224, rfl⟩ := (St.elem s (i := 2) rfl rfl rp23464 hx29222).1
              refine RD.seg hT (by kernel_rfl) [0, 1, 2, 3, 4] [.int .i64 x29221] [] [.slice (some ⟨b29224, 0, none⟩) x23458.length c23461, .int .i64 x27703, .pointer (some ⟨b29224, 0 + x27703.toNat * 1, none⟩), .int .i64 x29221, .bool (decide (x29221 < 1))] [.idx x27703 x23458.length, .cell ⟨b29224, 0 + x27703.toNat * 1, none⟩ (.int .i64 x29221)] (by kernel_rfl) (by rintro w' ⟨I', s, k⟩; have rp21060 := rp21060S29216.st k; have rp23464 := rp23464S29216.st k; have rp23472 := rp23472S29216.st k; have eg0 := eg0S29216.st k; obtain ⟨-, cs29226, hr29227, ha29228⟩ := St.elem s (i := 2) rfl rfl rp23464 hx29222; replace ha29228 := ha29228 _ rfl; obtain rfl : cs29226 = [.int .i64 x29221] := hr29227; exact ⟨h29223, ha29228 0 _ rfl⟩) ⟨_, s.pick [0, 1, 2, 3] 4 rfl, kS29220⟩ ?_
              by_cases h29229 : x29221 < 1
              · have hf := iteT h29229 hf
                refine RD.seg hT (by kernel_rfl) [5, 6, 7, 8, 9, 10, 11, 12, 13, 14, 15, 16, 17, 18, 19, 20, 21, 22, 23, 24, 25, 26, 27, 28, 29, 30, 31, 32, 33, 34, 35, 36, 37] [] [(44, .bool true)] [.bool true, undef, undef, .bool true, .bool true, undef, undef, undef, undef, undef, undef, undef, undef, undef, undef, undef, undef, undef, undef, undef, undef, undef, .bool true, .bool true, undef, undef, undef, undef, undef, undef, undef, undef, .bool true] [.veq (.bool (decide (x29221 < 1))) (.bool true)] (by kernel_rfl) (by rintro w' ⟨I', s, k⟩; have rp21060 := rp21060S29216.st k; have rp23464 := rp23464S29216.st k; have rp23472 := rp23472S29216.st k; have eg0 := eg0S29216.st k; exact bo_t h29229) ⟨_, s.pick [0, 1, 2, 3] 4 rfl, kS29220⟩ ?_
                refine RD.done (by kernel_rfl) ?_
                exact fun X h => kc (by kernel_rfl) rfl (h I27705 x29221 (decide (x29221 < 1)) true true true true true true [(D27701.getD 0 undef), (D27701.getD 1 undef), (D27701.getD 2 undef), (D27701.getD 6 undef), (D27701.getD 7 undef), (D27701.getD 8 undef), (D27701.getD 9 undef), (D27701.getD 10 undef), (D27701.getD 11 undef), (D27701.getD 12 undef), (D27701.getD 13 undef), (D27701.getD 14 undef), (D27701.getD 15 undef), (D27701.getD 16 undef), (D27701.getD 17 undef), (D27701.getD 18 undef), (D27701.getD 19 undef), (D27701.getD 20 undef), (D27701.getD 21 undef), (D27701.getD 22 undef), (D27701.getD 23 undef), (D27701.getD 24 undef), (D27701.getD 25 undef), .pointer (some ⟨b29224, 0 + x27703.toNat * 1, none⟩), undef, undef, undef, undef, undef, undef, undef, undef, undef, undef, undef, undef, undef, undef, undef, undef, undef, undef, undef, undef, undef, undef, undef, undef, undef, undef, undef, (D27701.getD 75 undef), (D27701.getD 78 undef), (D27701.getD 89 undef)] (.pointer (some ⟨b28880, 0 + x27703.toNat * 1, none⟩)) _ hf s kk rp21060 rp23464 rp23472 eg0)
              · have hf := iteF h29229 hf
                refine RD.seg hT (by kernel_rfl) [5, 6, 7, 8] [] [(44, .bool false)] [.bool false, .int .i64 x28877, .bool (decide (x28877 < 0)), .bool (decide (x28877 < 0))] [.veq (.bool (decide (x29221 < 1))) (.bool false)] (by kernel_rfl) (by rintro w' ⟨I', s, k⟩; have rp21060 := rp21060S29216.st k; have rp23464 := rp23464S29216.st k; have rp23472 := rp23472S29216.st k; have eg0 := eg0S29216.st k; exact bo_f h29229) ⟨_, s.pick [0, 1, 2, 3] 4 rfl, kS29220⟩ ?_
                by_cases h29230 : x28877 < 0
                · have hf := iteT h29230 hf
                  refine RD.seg hT (by kernel_rfl) [9, 10, 11, 12, 13, 14, 15, 16, 17, 18, 19, 20, 21, 22, 23, 24, 25, 26, 27, 28, 29, 30, 31, 32, 33, 34, 35, 36, 37] [] [(48, .bool true)] [.bool true, undef, undef, undef, undef, undef, undef, undef, undef, undef, undef, undef, undef, undef, undef, undef, undef, undef, .bool true, .bool true, undef, undef, undef, undef, undef, undef, undef, undef, .bool true] [.veq (.bool (decide (x28877 < 0))) (.bool true)] (by kernel_rfl) (by rintro w' ⟨I', s, k⟩; have rp21060 := rp21060S29216.st k; have rp23464 := rp23464S29216.st k; have rp23472 := rp23472S29216.st k; have eg0 := eg0S29216.st k; exact bo_t h29230) ⟨_, s.pick [0, 1, 2, 3] 4 rfl, kS29220⟩ ?_
                  refine RD.done (by kernel_rfl) ?_
                  exact fun X h => kc (by kernel_rfl) rfl (h I27705 x29221 (decide (x29221 < 1)) false (decide (x28877 < 0)) true true true true [(D27701.getD 0 undef), (D27701.getD 1 undef), (D27701.getD 2 undef), (D27701.getD 6 undef), (D27701.getD 7 undef), (D27701.getD 8 undef), (D27701.getD 9 undef), (D27701.getD 10 undef), (D27701.getD 11 undef), (D27701.getD 12 undef), (D27701.getD 13 undef), (D27701.getD 14 undef), (D27701.getD 15 undef), (D27701.getD 16 undef), (D27701.getD 17 undef), (D27701.getD 18 undef), (D27701.getD 19 undef), (D27701.getD 20 undef), (D27701.getD 21 undef), (D27701.getD 22 undef), (D27701.getD 23 undef), (D27701.getD 24 undef), (D27701.getD 25 undef), .pointer (some ⟨b29224, 0 + x27703.toNat * 1, none⟩), .int .i64 x28877, .bool (decide (x28877 < 0)), undef, undef, undef, undef, undef, undef, undef, undef, undef, undef, undef, undef, undef, undef, undef, undef, undef, undef, undef, undef, undef, undef, undef, undef, undef, (D27701.getD 75 undef), (D27701.getD 78 undef), (D27701.getD 89 undef)] (.pointer (some ⟨b28880, 0 + x27703.toNat * 1, none⟩)) _ hf s kk rp21060 rp23464 rp23472 eg0)
                · have hf := iteF h29230 hf
                  refine RD.seg hT (by kernel_rfl) [9, 10, 11] [] [(48, .bool false)] [.bool false, .int .i64 x27703, .bool (decide (x27703 > 0))] [.veq (.bool (decide (x28877 < 0))) (.bool false)] (by kernel_rfl) (by rintro w' ⟨I', s, k⟩; have rp21060 := rp21060S29216.st k; have rp23464 := rp23464S29216.st k; have rp23472 := rp23472S29216.st k; have eg0 := eg0S29216.st k; exact bo_f h29230) ⟨_, s.pick [0, 1, 2, 3] 4 rfl, kS29220⟩ ?_
                  by_cases h29231 : x27703 > 0
                  · have hf := iteT h29231 hf
                    obtain ⟨x29232, hx29233, hf⟩ := bindS hf
                    obtain ⟨h29234, hx29233⟩ := getS hx29233
                    obtain ⟨x29240, hx29241, hf⟩ := bindS hf
                    obtain ⟨h29242, hx29241⟩ := getS hx29241
                    refine RD.seg hT (by kernel_rfl) [12, 13, 14, 15, 16, 17, 18, 19, 20, 21, 22, 23, 24, 25, 26, 27] [.int .i64 x29232, .int .i64 x29240] [(51, .bool true)] [.bool true, .int .i64 x28877, .slice (some ⟨b28880, 0, none⟩) x23466.length c23469, .int .i64 x27703, .int .i64 (IntKind.i64.wrap (x27703 - 1)), .pointer (some ⟨b28880, 0 + (IntKind.i64.wrap (x27703 - 1)).toNat * 1, none⟩), .int .i64 x29232, .slice (some ⟨b29224, 0, none⟩) x23458.length c23461, .int .i64 x27703, .int .i64 (IntKind.i64.wrap (x27703 - 1)), .pointer (some ⟨b29224, 0 + (IntKind.i64.wrap (x27703 - 1)).toNat * 1, none⟩), .int .i64 x29240, .int .i64 (IntKind.i64.wrap (x29232 + x29240)), .bool (decide (x28877 ≤ (IntKind.i64.wrap (x29232 + x29240)))), .bool (decide (x28877 ≤ (IntKind.i64.wrap (x29232 + x29240)))), .bool (decide (x28877 ≤ (IntKind.i64.wrap (x29232 + x29240))))] [.veq (.bool (decide (x27703 > 0))) (.bool true), .idx (IntKind.i64.wrap (x27703 - 1)) x23466.length, .cell ⟨b28880, 0 + (IntKind.i64.wrap (x27703 - 1)).toNat * 1, none⟩ (.int .i64 x29232), .idx (IntKind.i64.wrap (x27703 - 1)) x23458.length, .cell ⟨b29224, 0 + (IntKind.i64.wrap (x27703 - 1)).toNat * 1, none⟩ (.int .i64 x29240)] (by kernel_rfl) (by rintro w' ⟨I', s, k⟩; have rp21060 := rp21060S29216.st k; have rp23464 := rp23464S29216.st k; have rp23472 := rp23472S29216.st k; have eg0 := eg0S29216.st k; obtain ⟨-, cs29237, hr29238, ha29239⟩ := St.elem s (i := 3) rfl rfl rp23472 hx29233; replace ha29239 := ha29239 _ rfl; obtain rfl : cs29237 = [.int .i64 x29232] := hr29238; obtain ⟨-, cs29245, hr29246, ha29247⟩ := St.elem s (i := 2) rfl rfl rp23464 hx29241; replace ha29247 := ha29247 _ rfl; obtain rfl : cs29245 = [.int .i64 x29240] := hr29246; exact ⟨bo_t h29231, h29234, ha29239 0 _ rfl, h29242, ha29247 0 _ rfl⟩) ⟨_, s.pick [0, 1, 2, 3] 4 rfl, kS29220⟩ ?_
                    by_cases h29248 : x28877 ≤ (IntKind.i64.wrap (x29232 + x29240))
                    · have hf := iteT h29248 hf
                      refine RD.seg hT (by kernel_rfl) [28, 29, 30, 31, 32, 33, 34, 35, 36, 37] [] [(67, .bool true)] [.bool true, undef, undef, undef, undef, undef, undef, undef, undef, .bool true] [.veq (.bool (decide (x28877 ≤ (IntKind.i64.wrap (x29232 + x29240))))) (.bool true)] (by kernel_rfl) (by rintro w' ⟨I', s, k⟩; have rp21060 := rp21060S29216.st k; have rp23464 := rp23464S29216.st k; have rp23472 := rp23472S29216.st k; have eg0 := eg0S29216.st k; exact bo_t h29248) ⟨_, s.pick [0, 1, 2, 3] 4 rfl, kS29220⟩ ?_
                      refine RD.done (by kernel_rfl) ?_
                      exact fun X h => kc (by kernel_rfl) rfl (h I27705 x29221 (decide (x29221 < 1)) false (decide (x28877 < 0)) false (decide (x28877 ≤ (IntKind.i64.wrap (x29232 + x29240)))) true true [(D27701.getD 0 undef), (D27701.getD 1 undef), (D27701.getD 2 undef), (D27701.getD 6 undef), (D27701.getD 7 undef), (D27701.getD 8 undef), (D27701.getD 9 undef), (D27701.getD 10 undef), (D27701.getD 11 undef), (D27701.getD 12 undef), (D27701.getD 13 undef), (D27701.getD 14 undef), (D27701.getD 15 undef), (D27701.getD 16 undef), (D27701.getD 17 undef), (D27701.getD 18 undef), (D27701.getD 19 undef), (D27701.getD 20 undef), (D27701.getD 21 undef), (D27701.getD 22 undef), (D27701.getD 23 undef), (D27701.getD 24 undef), (D27701.getD 25 undef), .pointer (some ⟨b29224, 0 + x27703.toNat * 1, none⟩), .int .i64 x28877, .bool (decide (x28877 < 0)), .int .i64 x27703, .bool (decide (x27703 > 0)), .bool true, .int .i64 x28877, .slice (some ⟨b28880, 0, none⟩) x23466.length c23469, .int .i64 x27703, .int .i64 (IntKind.i64.wrap (x27703 - 1)), .pointer (some ⟨b28880, 0 + (IntKind.i64.wrap (x27703 - 1)).toNat * 1, none⟩), .int .i64 x29232, .slice (some ⟨b29224, 0, none⟩) x23458.length c23461, .int .i64 x27703, .int .i64 (IntKind.i64.wrap (x27703 - 1)), .pointer (some ⟨b29224, 0 + (IntKind.i64.wrap (x27703 - 1)).toNat * 1, none⟩), .int .i64 x29240, .int .i64 (IntKind.i64.wrap (x29232 + x29240)), .bool (decide (x28877 ≤ (IntKind.i64.wrap (x29232 + x29240)))), .bool (decide (x28877 ≤ (IntKind.i64.wrap (x29232 + x29240)))), undef, undef, undef, undef, undef, undef, undef, undef, (D27701.getD 75 undef), (D27701.getD 78 undef), (D27701.getD 89 undef)] (.pointer (some ⟨b28880, 0 + x27703.toNat * 1, none⟩)) _ hf s kk rp21060 rp23464 rp23472 eg0)
                    · have hf := iteF h29248 hf
                      obtain ⟨x29249, hx29250, hf⟩ := bindS hf
                      obtain ⟨h29251, hx29250⟩ := getS hx29250
                      refine RD.seg hT (by kernel_rfl) [28, 29, 30, 31, 32, 33, 34, 35, 36, 37] [.int .i64 x29249] [(67, .bool false)] [.bool false, .int .i64 x28877, .int .i64 p0, .slice (some ⟨b29224, 0, none⟩) x23458.length c23461, .int .i64 x27703, .pointer (some ⟨b29224, 0 + x27703.toNat * 1, none⟩), .int .i64 x29249, .int .i64 (IntKind.i64.wrap (p0 - x29249)), .bool (decide (x28877 > (IntKind.i64.wrap (p0 - x29249)))), .bool (decide (x28877 > (IntKind.i64.wrap (p0 - x29249))))] [.veq (.bool (decide (x28877 ≤ (IntKind.i64.wrap (x29232 + x29240))))) (.bool false), .idx x27703 x23458.length, .cell ⟨b29224, 0 + x27703.toNat * 1, none⟩ (.int .i64 x29249)] (by kernel_rfl) (by rintro w' ⟨I', s, k⟩; have rp21060 := rp21060S29216.st k; have rp23464 := rp23464S29216.st k; have rp23472 := rp23472S29216.st k; have eg0 := eg0S29216.st k; obtain ⟨-, cs29254, hr29255, ha29256⟩ := St.elem s (i := 2) rfl rfl rp23464 hx29250; replace ha29256 := ha29256 _ rfl; obtain rfl : cs29254 = [.int .i64 x29249] := hr29255; exact ⟨bo_f h29248, h29251, ha29256 0 _ rfl⟩) ⟨_, s.pick [0, 1, 2, 3] 4 rfl, kS29220⟩ ?_
                      refine RD.done (by kernel_rfl) ?_
                      exact fun X h => kc (by kernel_rfl) rfl (h I27705 x29221 (decide (x29221 < 1)) false (decide (x28877 < 0)) false (decide (x28877 ≤ (IntKind.i64.wrap (x29232 + x29240)))) false (decide (x28877 > (IntKind.i64.wrap (p0 - x29249)))) [(D27701.getD 0 undef), (D27701.getD 1 undef), (D27701.getD 2 undef), (D27701.getD 6 undef), (D27701.getD 7 undef), (D27701.getD 8 undef), (D27701.getD 9 undef), (D27701.getD 10 undef), (D27701.getD 11 undef), (D27701.getD 12 undef), (D27701.getD 13 undef), (D27701.getD 14 undef), (D27701.getD 15 undef), (D27701.getD 16 undef), (D27701.getD 17 undef), (D27701.getD 18 undef), (D27701.getD 19 undef), (D27701.getD 20 undef), (D27701.getD 21 undef), (D27701.getD 22 undef), (D27701.getD 23 undef), (D27701.getD 24 undef), (D27701.getD 25 undef), .pointer (some ⟨b29224, 0 + x27703.toNat * 1, none⟩), .int .i64 x28877, .bool (decide (x28877 < 0)), .int .i64 x27703, .bool (decide (x27703 > 0)), .bool true, .int .i64 x28877, .slice (some ⟨b28880, 0, none⟩) x23466.length c23469, .int .i64 x27703, .int .i64 (IntKind.i64.wrap (x27703 - 1)), .pointer (some ⟨b28880, 0 + (IntKind.i64.wrap (x27703 - 1)).toNat * 1, none⟩), .int .i64 x29232, .slice (some ⟨b29224, 0, none⟩) x23458.length c23461, .int .i64 x27703, .int .i64 (IntKind.i64.wrap (x27703 - 1)), .pointer (some ⟨b29224, 0 + (IntKind.i64.wrap (x27703 - 1)).toNat * 1, none⟩), .int .i64 x29240, .int .i64 (IntKind.i64.wrap (x29232 + x29240)), .bool (decide (x28877 ≤ (IntKind.i64.wrap (x29232 + x29240)))), .bool (decide (x28877 ≤ (IntKind.i64.wrap (x29232 + x29240)))), .int .i64 x28877, .int .i64 p0, .slice (some ⟨b29224, 0, none⟩) x23458.length c23461, .int .i64 x27703, .pointer (some ⟨b29224, 0 + x27703.toNat * 1, none⟩), .int .i64 x29249, .int .i64 (IntKind.i64.wrap (p0 - x29249)), .bool (decide (x28877 > (IntKind.i64.wrap (p0 - x29249)))), (D27701.getD 75 undef), (D27701.getD 78 undef), (D27701.getD 89 undef)] (.pointer (some ⟨b28880, 0 + x27703.toNat * 1, none⟩)) _ hf s kk rp21060 rp23464 rp23472 eg0)
                  · have hf := iteF h29231 hf
                    obtain ⟨x29257, hx29258, hf⟩ := bindS hf
                    obtain ⟨h29259, hx29258⟩ := getS hx29258
                    refine RD.seg hT (by kernel_rfl) [12, 13, 14, 15, 16, 17, 18, 19, 20, 21, 22, 23, 24, 25, 26, 27, 28, 29, 30, 31, 32, 33, 34, 35, 36, 37] [.int .i64 x29257] [(51, .bool false)] [.bool false, undef, undef, undef, undef, undef, undef, undef, undef, undef, undef, undef, undef, undef, .bool false, .bool false, .bool false, .int .i64 x28877, .int .i64 p0, .slice (some ⟨b29224, 0, none⟩) x23458.length c23461, .int .i64 x27703, .pointer (some ⟨b29224, 0 + x27703.toNat * 1, none⟩), .int .i64 x29257, .int .i64 (IntKind.i64.wrap (p0 - x29257)), .bool (decide (x28877 > (IntKind.i64.wrap (p0 - x29257)))), .bool (decide (x28877 > (IntKind.i64.wrap (p0 - x29257))))] [.veq (.bool (decide (x27703 > 0))) (.bool false), .idx x27703 x23458.length, .cell ⟨b29224, 0 + x27703.toNat * 1, none⟩ (.int .i64 x29257)] (by kernel_rfl) (by rintro w' ⟨I', s, k⟩; have rp21060 := rp21060S29216.st k; have rp23464 := rp23464S29216.st k; have rp23472 := rp23472S29216.st k; have eg0 := eg0S29216.st k; obtain ⟨-, cs29262, hr29263, ha29264⟩ := St.elem s (i := 2) rfl rfl rp23464 hx29258; replace ha29264 := ha29264 _ rfl; obtain rfl : cs29262 = [.int .i64 x29257] := hr29263; exact ⟨bo_f h29231, h29259, ha29264 0 _ rfl⟩) ⟨_, s.pick [0, 1, 2, 3] 4 rfl, kS29220⟩ ?_
                    refine RD.done (by kernel_rfl) ?_
                    exact fun X h => kc (by kernel_rfl) rfl (h I27705 x29221 (decide (x29221 < 1)) false (decide (x28877 < 0)) false false false (decide (x28877 > (IntKind.i64.wrap (p0 - x29257)))) [(D27701.getD 0 undef), (D27701.getD 1 undef), (D27701.getD 2 undef), (D27701.getD 6 undef), (D27701.getD 7 undef), (D27701.getD 8 undef), (D27701.getD 9 undef), (D27701.getD 10 undef), (D27701.getD 11 undef), (D27701.getD 12 undef), (D27701.getD 13 undef), (D27701.getD 14 undef), (D27701.getD 15 undef), (D27701.getD 16 undef), (D27701.getD 17 undef), (D27701.getD 18 undef), (D27701.getD 19 undef), (D27701.getD 20 undef), (D27701.getD 21 undef), (D27701.getD 22 undef), (D27701.getD 23 undef), (D27701.getD 24 undef), (D27701.getD 25 undef), .pointer (some ⟨b29224, 0 + x27703.toNat * 1, none⟩), .int .i64 x28877, .bool (decide (x28877 < 0)), .int .i64 x27703, .bool (decide (x27703 > 0)), .bool false, undef, undef, undef, undef, undef, undef, undef, undef, undef, undef, undef, undef, undef, .bool false, .int .i64 x28877, .int .i64 p0, .slice (some ⟨b29224, 0, none⟩) x23458.length c23461, .int .i64 x27703, .pointer (some ⟨b29224, 0 + x27703.toNat * 1, none⟩), .int .i64 x29257, .int .i64 (IntKind.i64.wrap (p0 - x29257)), .bool (decide (x28877 > (IntKind.i64.wrap (p0 - x29257)))), (D27701.getD 75 undef), (D27701.getD 78 undef), (D27701.getD 89 undef)] (.pointer (some ⟨b28880, 0 + x27703.toNat * 1, none⟩)) _ hf s kk rp21060 rp23464 rp23472 eg0)
          · have hf := iteF h28488 hf
            refine WPK.condF (Eq.trans (b := .bool (decide (x27703 < (x23466.length : Int)))) (by kernel_rfl) (bo_f h28488)) ?_
            refine WPK.exit (blockQ.same ?_)
            refine WPK.seq ?_
            refine WPK.region ?_
            refine RW.seg hT 2 [] [] [.int .i64 x27702, .pointer (some ⟨b21054, 0, none⟩)] [] (by kernel_rfl) (trivial) ?_
            obtain ⟨x29265, hx29266, hf⟩ := bindS hf
            refine RW.op (by kernel_rfl) (OK.call' en14 (by kernel_rfl) (c14 (F := (.sl (.slice A23459 x23458.length c23461) 3 1 x23458.length cl23462) :: (.sl (.slice A23467 x23466.length c23469) 3 1 x23466.length cl23470) :: F) x21053 b21054 A21055 n21056 c21057 cl21058 hn21059 rp21060 s hx29266) ?_)
            intro X29269 hX29270
            refine fun _ _ hJ => hJ X29269 ?_
            intro I29271 w29267 s k29268
            refine hX29270 _ _ ?_
            replace rp21060 := rp21060.st k29268
            replace rp23464 := rp23464.st k29268
            replace rp23472 := rp23472.st k29268
            replace eg0 := eg0.st k29268
            replace kk := kk.trans k29268
            refine RW.seg hT 2 [] [(101, .bool (decide (x27702 = x29265)))] [.bool (decide (x27702 = x29265)), .bool (decide (x27702 = x29265))] [.veq (.bool (x27702 == x29265)) (.bool (decide (x27702 = x29265)))] (by kernel_rfl) (eq_v) ?_
            refine RW.nil ?_
            refine WPK.ret (?_)
            obtain rfl := someS hf
            refine Fin.of (rs := [.tmp 4]) hT [] (.bool (decide (x27702 = x29265))) [] rfl (by kernel_rfl) (trivial) ?_
            replace s := s.pick [] 4 rfl
            exact fun X h => vc rfl (h I29271 _ s kk)
        · refine WPK.seq ?_
          refine WPK.region ?_
          refine RW.seg hT 1 [] [] [.func (.func 31) #[] #[.pointer (some ⟨b21068, 0, none⟩)]] [] (by kernel_rfl) (trivial) ?_
          refine RW.nil ?_
          refine WPK.block ?_
          refine WPK.range (gf := 31) (first := []) (cap := [.pointer (some ⟨b21068, 0, none⟩)]) s (by kernel_rfl) en31 ?_
          intro l29276 d29277 rec29278 w29280 R29282 hrec29279 s k29281 hR29283
          replace rp21060 := rp21060.st k29281
          replace eg0 := eg0.st k29281
          replace kk := kk.trans k29281
          refine Ret.of Tryd.func31 rfl ?_
          refine WPK.seq ?_
          refine WPK.region ?_
          refine RW.seg hT 1 [.pointer (some ⟨b21054, 0, none⟩)] [] [.pointer (some ⟨b21054, 0, none⟩)] [.cell ⟨b21068, 0, none⟩ (.pointer (some ⟨b21054, 0, none⟩))] (by kernel_rfl) (s.cell (i := 5) (off := 0) rfl rfl) ?_
          replace s := s.pick [6, 7, 0, 1, 2, 3, 4, 5] 8 rfl
          obtain ⟨x29284, hx29285, hf⟩ := bindS hf
          refine RW.op (by kernel_rfl) (OK.call' en16 (by kernel_rfl) (c16 (F := (.blk l29276 (rec29278 .ready none)) :: (.blk d29277 (.deferred (some []))) :: (.blk b22675 (.cells #[.slice none 0 0] 22 (0, 0))) :: (.blk b22672 (.cells #[.slice none 0 0] 22 (0, 0))) :: (.blk b22669 (.cells #[.int .i64 1048576] 3 (0, 0))) :: (.blk b21068 (.cells #[.pointer (some ⟨b21054, 0, none⟩)] 25 (0, 0))) :: F) x21053 b21054 A21055 n21056 c21057 cl21058 hn21059 rp21060 s hx29285) ?_)
          intro X29288 hX29289
          refine fun _ _ hJ => hJ X29288 ?_ ?_
          · intro I29290 w29286 hv s k29287
            refine hX29289 _ _ ?_
            replace hf := optN hv hf
            replace rp21060 := rp21060.st k29287
            replace eg0 := eg0.st k29287
            replace kk := kk.trans k29287
            refine RW.seg hT 1 [] [] [.pointer none] [] (by kernel_rfl) (trivial) ?_
            refine RW.nil ?_
            refine WPK.seq ?_
            refine WPK.region ?_
            refine RW.seg hT 1 [.pointer (some ⟨b21054, 0, none⟩)] [] [.pointer (some ⟨b21054, 0, none⟩)] [.cell ⟨b21068, 0, none⟩ (.pointer (some ⟨b21054, 0, none⟩))] (by kernel_rfl) (s.cell (i := 7) (off := 0) rfl rfl) ?_
            obtain ⟨x29301, hx29302, hf⟩ := bindS hf
            refine RW.op (by kernel_rfl) (OK.call' en27 (by kernel_rfl) (c27 (F := (.blk l29276 (rec29278 .ready none)) :: (.blk d29277 (.deferred (some []))) :: (.blk b22675 (.cells #[.slice none 0 0] 22 (0, 0))) :: (.blk b22672 (.cells #[.slice none 0 0] 22 (0, 0))) :: (.blk b22669 (.cells #[.int .i64 1048576] 3 (0, 0))) :: (.blk b21068 (.cells #[.pointer (some ⟨b21054, 0, none⟩)] 25 (0, 0))) :: F) x21053 0 b21054 A21055 n21056 c21057 cl21058 hn21059 rp21060 eg0 s hx29302) ?_)
            intro X29305 hX29306
            refine fun _ _ hJ => hJ X29305 ?_
            intro I29307 w29303 s k29304
            refine hX29306 _ _ ?_
            replace rp21060 := rp21060.st k29304
            replace eg0 := eg0.st k29304
            replace kk := kk.trans k29304
            refine RW.seg hT 1 [] [] [.int .i64 x29301] [] (by kernel_rfl) (trivial) ?_
            refine RW.nil ?_
            refine WPK.block ?_
            replace s := s.pushNil 3 1
            replace s := s.pushNil 3 1
            replace s := s.pick [2, 3, 4, 5, 6, 7, 8, 9, 1, 0] 10 rfl
            refine WPK.loop' (J := fun n29554 E ds wz => ∀ X : Kont, (∀ (I29438 : Nat → Prop) (x29420 : Int) (x29421 : (List Int)) (x29429 : (List Int)) (D29419 : List Value) (A29422 : Option Addr) (c29424 : Nat) (cl29425 : List Value) (A29430 : Option Addr) (c29432 : Nat) (cl29433 : List Value) (w' : World), g3_l6 p0 x21053 n29554 x29420 x29421 x29429 = some r → St w0 M I29438 ((.blk b21054 (.cells #[.int .i64 x21053.n, .slice A21055 n21056 c21057] 53 (0, 0))) :: (.sl (.slice A21055 n21056 c21057) 61 1 n21056 cl21058) :: (.blk l29276 (rec29278 .ready none)) :: (.blk d29277 (.deferred (some []))) :: (.blk b22675 (.cells #[.slice A29422 x29421.length c29424] 22 (0, 0))) :: (.blk b22672 (.cells #[.slice A29430 x29429.length c29432] 22 (0, 0))) :: (.blk b22669 (.cells #[.int .i64 1048576] 3 (0, 0))) :: (.blk b21068 (.cells #[.pointer (some ⟨b21054, 0, none⟩)] 25 (0, 0))) :: (.sl (.slice A29422 x29421.length c29424) 3 1 x29421.length cl29425) :: (.sl (.slice A29430 x29429.length c29432) 3 1 x29429.length cl29433) :: F) w' → Kp I w I29438 w' → RepL (Rp.int .i64) I29438 w' cl29425 x29421 → RepL (Rp.int .i64) I29438 w' cl29433 x29429 → RepL (Rp.int .u64) I29438 w' cl21058 x21053.w → Elems (Rp.int .u8) I29438 w' (some ⟨0, 0, none⟩) TAB0 → X [.func (.yield l29276) #[] #[], .pointer (some ⟨b21068, 0, none⟩), (D29419.getD 0 undef), .pointer none, .int .i64 x29420, (D29419.getD 1 undef), (D29419.getD 2 undef), (D29419.getD 3 undef), (D29419.getD 4 undef), (D29419.getD 5 undef), (D29419.getD 6 undef), (D29419.getD 7 undef), (D29419.getD 8 undef), (D29419.getD 9 undef), (D29419.getD 10 undef), (D29419.getD 11 undef), (D29419.getD 12 undef), (D29419.getD 13 undef), (D29419.getD 14 undef), (D29419.getD 15 undef), (D29419.getD 16 undef), (D29419.getD 17 undef), (D29419.getD 18 undef), (D29419.getD 19 undef), (D29419.getD 20 undef), (D29419.getD 21 undef), (D29419.getD 22 undef), (D29419.getD 23 undef), (D29419.getD 24 undef), (D29419.getD 25 undef), (D29419.getD 26 undef)] [] w') → X E ds wz) FUEL (fun X h => kc (by kernel_rfl) rfl (h I29307 x29301 ([] : List Int) ([] : List Int) [undef, undef, .pointer (some ⟨b21054, 0, none⟩), .pointer none, .pointer (some ⟨b21054, 0, none⟩), .int .i64 x29301, undef, undef, undef, undef, undef, undef, undef, undef, undef, undef, undef, undef, undef, undef, undef, undef, undef, undef, undef, undef, undef] none 0 [] none 0 [] _ hf s kk (RepL.nil (r := (Rp.int .i64))) (RepL.nil (r := (Rp.int .i64))) rp21060 eg0)) (fun _ _ _ hJ => hJ (fun _ _ _ => False) (by intro I29438 x29420 x29421 x29429 D29419 A29422 c29424 cl29425 A29430 c29432 cl29433 w29437 hf s kk rp29427 rp29435 rp21060 eg0; exact noneS hf)) ?_
            intro X29676 hX29677
            refine fun n29554 _ _ _ hJ => hJ (X29676 n29554) ?_
            intro I29438 x29420 x29421 x29429 D29419 A29422 c29424 cl29425 A29430 c29432 cl29433 w29437 hf s kk rp29427 rp29435 rp21060 eg0
            refine hX29677 _ _ _ _ ?_
            replace hf : g3_l6B p0 x21053 (g3_l6 p0 x21053 n29554) x29420 x29421 x29429 = some r := hf
            generalize hrec29555 : g3_l6 p0 x21053 n29554 = rec29553 at hf
            unfold g3_l6B at hf
            refine WPK.seq ?_
            refine WPK.seq ?_
            refine WPK.region ?_
            refine RW.seg hT 2 [] [] [.int .i64 x29420, .bool (decide (x29420 ≥ 0))] [] (by kernel_rfl) (trivial) ?_
            refine RW.nil ?_
            by_cases h29557 : x29420 ≥ 0
            · have hf := iteT h29557 hf
              refine WPK.condT (Eq.trans (b := .bool (decide (x29420 ≥ 0))) (by kernel_rfl) (bo_t h29557)) ?_
              refine WPK.skip ?_
              refine WPK.block ?_
              refine WPK.seq ?_
              refine WPK.region ?_
              refine RW.seg hT 2 [] [] [.pointer none, .int .i64 x29420] [] (by kernel_rfl) (trivial) ?_
              obtain ⟨x29558, hx29559, hf⟩ := bindS hf
              refine RW.op (by kernel_rfl) (OK.call' en27 (by kernel_rfl) (c27_1 (F := (.blk b21054 (.cells #[.int .i64 x21053.n, .slice A21055 n21056 c21057] 53 (0, 0))) :: (.sl (.slice A21055 n21056 c21057) 61 1 n21056 cl21058) :: (.blk l29276 (rec29278 .ready none)) :: (.blk d29277 (.deferred (some []))) :: (.blk b22675 (.cells #[.slice A29422 x29421.length c29424] 22 (0, 0))) :: (.blk b22672 (.cells #[.slice A29430 x29429.length c29432] 22 (0, 0))) :: (.blk b22669 (.cells #[.int .i64 1048576] 3 (0, 0))) :: (.blk b21068 (.cells #[.pointer (some ⟨b21054, 0, none⟩)] 25 (0, 0))) :: (.sl (.slice A29422 x29421.length c29424) 3 1 x29421.length cl29425) :: (.sl (.slice A29430 x29429.length c29432) 3 1 x29429.length cl29433) :: F) x29420 s hx29559) ?_)
              intro X29562 hX29563
              refine fun _ _ hJ => hJ X29562 ?_
              intro I29564 w29560 s k29561
              refine hX29563 _ _ ?_
              replace rp21060 := rp21060.st k29561
              replace rp29427 := rp29427.st k29561
              replace rp29435 := rp29435.st k29561
              replace eg0 := eg0.st k29561
              replace kk := kk.trans k29561
              refine RW.seg hT 1 [] [] [.int .i64 x29558] [] (by kernel_rfl) (trivial) ?_
              refine RW.nil ?_
              refine WPK.seq ?_
              refine WPK.cut' (fun E ds wz => ∀ X : Kont, (∀ (x29567 : Int) (D29566 : List Value), g3_j7 p0 x21053 x29420 x29421 x29429 rec29553 x29567 = some r → X [.func (.yield l29276) #[] #[], .pointer (some ⟨b21068, 0, none⟩), (D29566.getD 0 undef), .pointer none, .int .i64 x29420, .int .i64 x29567, (D29566.getD 1 undef), (D29566.getD 2 undef), (D29566.getD 3 undef), (D29566.getD 4 undef), .int .i64 x29420, .bool (decide (x29420 ≥ 0)), (D29566.getD 5 undef), (D29566.getD 6 undef), .int .i64 x29558, .int .i64 x29558, .bool (decide (x29558 < 0)), (D29566.getD 7 undef), (D29566.getD 8 undef), (D29566.getD 9 undef), (D29566.getD 10 undef), (D29566.getD 11 undef), (D29566.getD 12 undef), (D29419.getD 19 undef), (D29419.getD 20 undef), (D29566.getD 13 undef), (D29419.getD 22 undef), (D29419.getD 23 undef), (D29566.getD 14 undef), (D29566.getD 15 undef), (D29419.getD 26 undef)] [] w29560) → X E ds wz) ?_ ?_
              · intro X29669 hX29670
                refine fun _ _ _ hJ => hJ X29669 ?_
                intro x29567 D29566 hf
                refine hX29670 _ _ _ ?_
                unfold g3_j7 at hf
                refine WPK.seq ?_
                refine WPK.seq ?_
                refine WPK.region ?_
                refine RW.seg hT 5 [] [] [.func (.yield l29276) #[] #[], .int .i64 x29420, .int .i64 x29567, .int .i64 x29420, .int .i64 (IntKind.i64.wrap (x29567 - x29420))] [] (by kernel_rfl) (trivial) ?_
                refine RW.op (by kernel_rfl) (OK.yield (args := [.int .i64 x29420, .int .i64 (IntKind.i64.wrap (x29567 - x29420))]) hrec29279 s (i := 2) rfl (by kernel_rfl) rfl ?_)
                intro R29614 hR29615
                refine WPK.seq ?_
                refine WPK.region ?_
                refine RW.seg hT 1 [] [] [.int .i64 x29420] [] (by kernel_rfl) (trivial) ?_
                refine RW.nil ?_
                refine WPK.region ?_
                refine RW.seg hT 1 [] [] [.int .i64 (IntKind.i64.wrap (x29567 - x29420))] [] (by kernel_rfl) (trivial) ?_
                refine RW.nil ?_
                refine RoundBeg.of hrec29279 s (i := 2) rfl ?_
                intro w29616 s k29617
                replace rp21060 := rp21060.st k29617
                replace rp29427 := rp29427.st k29617
                replace rp29435 := rp29435.st k29617
                replace eg0 := eg0.st k29617
                replace kk := kk.trans k29617
                refine WPK.block ?_
                refine WPK.seq ?_
                refine WPK.seq ?_
                refine WPK.region ?_
                refine RW.seg hT 4 [.slice A29430 x29429.length c29432, .int .i64 1048576] [(16, .int .i64 (x29429.length : Int))] [.slice A29430 x29429.length c29432, .int .i64 (x29429.length : Int), .int .i64 1048576, .bool (decide ((x29429.length : Int) ≥ 1048576))] [.cell ⟨b22672, 0, none⟩ (.slice A29430 x29429.length c29432), .veq (.int .i64 (x29429.length : Nat)) (.int .i64 (x29429.length : Int)), .cell ⟨b22669, 0, none⟩ (.int .i64 1048576)] (by kernel_rfl) (⟨s.cell (i := 5) (off := 0) rfl rfl, len_v rfl, s.cell (i := 6) (off := 0) rfl rfl⟩) ?_
                refine RW.nil ?_
                by_cases h29619 : (x29429.length : Int) ≥ 1048576
                · have hf := iteT h29619 hf
                  refine WPK.condT (Eq.trans (b := .bool (decide ((x29429.length : Int) ≥ 1048576))) (by kernel_rfl) (bo_t h29619)) ?_
                  refine WPK.exit (blockQ.other rfl (?_))
                  refine RoundEnd.stop (Code.exit 0) hrec29279 s (i := 2) rfl ?_
                  intro w29620 s k29621
                  replace rp21060 := rp21060.st k29621
                  replace rp29427 := rp29427.st k29621
                  replace rp29435 := rp29435.st k29621
                  replace eg0 := eg0.st k29621
                  replace kk := kk.trans k29621
                  refine hR29615 _ _ ?_
                  refine RW.seg hT 1 [] [] [.bool true] [] (by kernel_rfl) (trivial) ?_
                  refine RW.nil ?_
                  refine WPK.condT (by kernel_rfl) ?_
                  refine WPK.ret (blockQ.ret (blockQ.ret (?_)))
                  refine Fin.of (rs := []) hT [] (.tuple #[]) [] rfl (by kernel_rfl) (trivial) ?_
                  refine hR29283 _ _ (RangeEnd.jump hrec29279 s (i := 2) rfl ?_)
                  intro w29622 s k29623
                  replace rp21060 := rp21060.st k29623
                  replace rp29427 := rp29427.st k29623
                  replace rp29435 := rp29435.st k29623
                  replace eg0 := eg0.st k29623
                  replace kk := kk.trans k29623
                  refine WPK.exit (blockQ.same ?_)
                  replace s := s.pick [0, 1, 3, 4, 7, 8, 2] 9 rfl
                  exact fun X h => kc (by kernel_rfl) rfl (h I29564 x29421 x29429 d29277 [.func (.func 31) #[] #[.pointer (some ⟨b21068, 0, none⟩)], .int .i64 1048576, undef, .pointer (some ⟨b22669, 0, none⟩), undef, undef, .func (.func 31) #[] #[.pointer (some ⟨b21068, 0, none⟩)], .bool false, .func (.func 31) #[] #[.pointer (some ⟨b21068, 0, none⟩)], undef, undef, undef, undef, undef, undef, undef, undef, undef, undef, undef, undef, undef, undef] A29422 c29424 cl29425 A29430 c29432 cl29433 _ hf s kk rp29427 rp29435 rp21060 eg0)
                · have hf := iteF h29619 hf
                  refine WPK.condF (Eq.trans (b := .bool (decide ((x29429.length : Int) ≥ 1048576))) (by kernel_rfl) (bo_f h29619)) ?_
                  refine WPK.skip ?_
                  refine WPK.seq ?_
                  refine WPK.region ?_
                  refine RW.seg hT 2 [.slice A29430 x29429.length c29432] [] [.slice A29430 x29429.length c29432, .int .i64 x29420] [.cell ⟨b22672, 0, none⟩ (.slice A29430 x29429.length c29432)] (by kernel_rfl) (s.cell (i := 5) (off := 0) rfl rfl) ?_
                  refine RW.op (by kernel_rfl) (OK.new hT (f := fun b => .slice (some ⟨b, 0, none⟩) 1 1) (cs := [.int .i64 x29420]) (e := 3) (c := .tt) s (by kernel_rfl) trivial ?_)
                  rintro w29624 b29625 s k29626 -
                  replace rp21060 := rp21060.st k29626
                  replace rp29427 := rp29427.st k29626
                  replace rp29435 := rp29435.st k29626
                  replace eg0 := eg0.st k29626
                  replace kk := kk.trans k29626
                  have rp29627 : RepL (Rp.int .i64) I29564 w29624 [.int .i64 x29420] ([x29420] : List Int) := RepL.cons (c := [.int .i64 x29420]) (d := []) (rfl) (RepL.nil)
                  replace s : St w0 M I29564 ((.sl (.slice (some ⟨b29625, 0, none⟩) 1 1) 3 1 1 [.int .i64 x29420]) :: (.blk b21054 (.cells #[.int .i64 x21053.n, .slice A21055 n21056 c21057] 53 (0, 0))) :: (.sl (.slice A21055 n21056 c21057) 61 1 n21056 cl21058) :: (.blk l29276 (rec29278 .busy none)) :: (.blk d29277 (.deferred (some []))) :: (.blk b22675 (.cells #[.slice A29422 x29421.length c29424] 22 (0, 0))) :: (.blk b22672 (.cells #[.slice A29430 x29429.length c29432] 22 (0, 0))) :: (.blk b22669 (.cells #[.int .i64 1048576] 3 (0, 0))) :: (.blk b21068 (.cells #[.pointer (some ⟨b21054, 0, none⟩)] 25 (0, 0))) :: (.sl (.slice A29422 x29421.length c29424) 3 1 x29421.length cl29425) :: (.sl (.slice A29430 x29429.length c29432) 3 1 x29429.length cl29433) :: F) w29624 := s.blkSl (i := 0) (n := 1) (c := 1) (size := 1) rfl rfl (Nat.le_refl _) (by decide)
                  have hs29630 := St.src s (i := 0) rfl rfl rp29627
                  have rq29631 := rp29627
                  obtain ⟨x29632, hx29633, hf⟩ := bindS hf
                  refine RW.op (by kernel_rfl) (OK.app hT (r := (Rp.int .i64)) (i := 10) (t := 22) (e := 3) (size := 1) (bytes := 8) (c := c29432) (n := x29429.length) (m := 1) s (by kernel_rfl) rfl rfl rfl rfl rfl (by decide) rfl rfl rfl rfl rp29435 hs29630 rq29631 flat_int rfl hx29633 ?_)
                  rintro A29634 c29635 cl29636 w29637 s k29638 rp29639
                  replace rp29627 := rp29627.st k29638
                  replace rp21060 := rp21060.st k29638
                  replace rp29427 := rp29427.st k29638
                  replace rp29435 := rp29435.st k29638
                  replace eg0 := eg0.st k29638
                  replace kk := kk.trans k29638
                  refine RW.op (by kernel_rfl) (OK.store hT (i := 6) (b := b22672) (off := 0) (n := 1) (vs := [.slice A29634 x29632.length c29635]) (cs := [(.slice A29430 x29429.length c29432)]) (e := 22) s (by kernel_rfl) rfl rfl (flat_ok rfl) (Nat.le_of_ble_eq_true rfl) ?_)
                  rintro w29640 s k29641 -
                  replace rp29627 := rp29627.st k29641
                  replace rp21060 := rp21060.st k29641
                  replace rp29427 := rp29427.st k29641
                  replace rp29639 := rp29639.st k29641
                  replace eg0 := eg0.st k29641
                  replace kk := kk.trans k29641
                  refine RW.nil ?_
                  refine WPK.region ?_
                  refine RW.seg hT 2 [.slice A29422 x29421.length c29424] [] [.slice A29422 x29421.length c29424, .int .i64 (IntKind.i64.wrap (x29567 - x29420))] [.cell ⟨b22675, 0, none⟩ (.slice A29422 x29421.length c29424)] (by kernel_rfl) (s.cell (i := 5) (off := 0) rfl rfl) ?_
                  refine RW.op (by kernel_rfl) (OK.new hT (f := fun b => .slice (some ⟨b, 0, none⟩) 1 1) (cs := [.int .i64 (IntKind.i64.wrap (x29567 - x29420))]) (e := 3) (c := .tt) s (by kernel_rfl) trivial ?_)
                  rintro w29642 b29643 s k29644 -
                  replace rp29627 := rp29627.st k29644
                  replace rp21060 := rp21060.st k29644
                  replace rp29427 := rp29427.st k29644
                  replace rp29639 := rp29639.st k29644
                  replace eg0 := eg0.st k29644
                  replace kk := kk.trans k29644
                  have rp29645 : RepL (Rp.int .i64) I29564 w29642 [.int .i64 (IntKind.i64.wrap (x29567 - x29420))] ([IntKind.i64.wrap (x29567 - x29420)] : List Int) := RepL.cons (c := [.int .i64 (IntKind.i64.wrap (x29567 - x29420))]) (d := []) (rfl) (RepL.nil)
                  replace s : St w0 M I29564 ((.sl (.slice (some ⟨b29643, 0, none⟩) 1 1) 3 1 1 [.int .i64 (IntKind.i64.wrap (x29567 - x29420))]) :: (.sl (.slice (some ⟨b29625, 0, none⟩) 1 1) 3 1 1 [.int .i64 x29420]) :: (.blk b21054 (.cells #[.int .i64 x21053.n, .slice A21055 n21056 c21057] 53 (0, 0))) :: (.sl (.slice A21055 n21056 c21057) 61 1 n21056 cl21058) :: (.blk l29276 (rec29278 .busy none)) :: (.blk d29277 (.deferred (some []))) :: (.blk b22675 (.cells #[.slice A29422 x29421.length c29424] 22 (0, 0))) :: (.blk b22672 (.cells #[.slice A29634 x29632.length c29635] 22 (0, 0))) :: (.blk b22669 (.cells #[.int .i64 1048576] 3 (0, 0))) :: (.blk b21068 (.cells #[.pointer (some ⟨b21054, 0, none⟩)] 25 (0, 0))) :: (.sl (.slice A29422 x29421.length c29424) 3 1 x29421.length cl29425) :: (.sl (.slice A29634 x29632.length c29635) 3 1 x29632.length cl29636) :: F) w29642 := s.blkSl (i := 0) (n := 1) (c := 1) (size := 1) rfl rfl (Nat.le_refl _) (by decide)
                  have hs29648 := St.src s (i := 0) rfl rfl rp29645
                  have rq29649 := rp29645
                  obtain ⟨x29650, hx29651, hf⟩ := bindS hf
                  refine RW.op (by kernel_rfl) (OK.app hT (r := (Rp.int .i64)) (i := 10) (t := 22) (e := 3) (size := 1) (bytes := 8) (c := c29424) (n := x29421.length) (m := 1) s (by kernel_rfl) rfl rfl rfl rfl rfl (by decide) rfl rfl rfl rfl rp29427 hs29648 rq29649 flat_int rfl hx29651 ?_)
                  rintro A29652 c29653 cl29654 w29655 s k29656 rp29657
                  replace rp29645 := rp29645.st k29656
                  replace rp29627 := rp29627.st k29656
                  replace rp21060 := rp21060.st k29656
                  replace rp29427 := rp29427.st k29656
                  replace rp29639 := rp29639.st k29656
                  replace eg0 := eg0.st k29656
                  replace kk := kk.trans k29656
                  refine RW.op (by kernel_rfl) (OK.store hT (i := 6) (b := b22675) (off := 0) (n := 1) (vs := [.slice A29652 x29650.length c29653]) (cs := [(.slice A29422 x29421.length c29424)]) (e := 22) s (by kernel_rfl) rfl rfl (flat_ok rfl) (Nat.le_of_ble_eq_true rfl) ?_)
                  rintro w29658 s k29659 -
                  replace rp29645 := rp29645.st k29659
                  replace rp29627 := rp29627.st k29659
                  replace rp21060 := rp21060.st k29659
                  replace rp29657 := rp29657.st k29659
                  replace rp29639 := rp29639.st k29659
                  replace eg0 := eg0.st k29659
                  replace kk := kk.trans k29659
                  refine RW.nil ?_
                  refine RoundEnd.next hrec29279 s (i := 4) rfl ?_
                  intro w29660 s k29661
                  replace rp29645 := rp29645.st k29661
                  replace rp29627 := rp29627.st k29661
                  replace rp21060 := rp21060.st k29661
                  replace rp29657 := rp29657.st k29661
                  replace rp29639 := rp29639.st k29661
                  replace eg0 := eg0.st k29661
                  replace kk := kk.trans k29661
                  refine hR29615 _ _ ?_
                  refine RW.seg hT 1 [] [] [.bool false] [] (by kernel_rfl) (trivial) ?_
                  refine RW.nil ?_
                  refine WPK.condF (by kernel_rfl) ?_
                  refine WPK.skip ?_
                  refine WPK.region ?_
                  refine RW.seg hT 2 [.pointer (some ⟨b21054, 0, none⟩)] [] [.pointer (some ⟨b21054, 0, none⟩), .int .i64 x29567] [.cell ⟨b21068, 0, none⟩ (.pointer (some ⟨b21054, 0, none⟩))] (by kernel_rfl) (s.cell (i := 9) (off := 0) rfl rfl) ?_
                  replace s := s.pick [2, 3, 0, 1, 4, 5, 6, 7, 8, 9, 10, 11] 12 rfl
                  obtain ⟨x29662, hx29663, hf⟩ := bindS hf
                  refine RW.op (by kernel_rfl) (OK.call' en27 (by kernel_rfl) (c27 (F := (.sl (.slice (some ⟨b29643, 0, none⟩) 1 1) 3 1 1 [.int .i64 (IntKind.i64.wrap (x29567 - x29420))]) :: (.sl (.slice (some ⟨b29625, 0, none⟩) 1 1) 3 1 1 [.int .i64 x29420]) :: (.blk l29276 (rec29278 .ready none)) :: (.blk d29277 (.deferred (some []))) :: (.blk b22675 (.cells #[.slice A29652 x29650.length c29653] 22 (0, 0))) :: (.blk b22672 (.cells #[.slice A29634 x29632.length c29635] 22 (0, 0))) :: (.blk b22669 (.cells #[.int .i64 1048576] 3 (0, 0))) :: (.blk b21068 (.cells #[.pointer (some ⟨b21054, 0, none⟩)] 25 (0, 0))) :: (.sl (.slice A29652 x29650.length c29653) 3 1 x29650.length cl29654) :: (.sl (.slice A29634 x29632.length c29635) 3 1 x29632.length cl29636) :: F) x21053 x29567 b21054 A21055 n21056 c21057 cl21058 hn21059 rp21060 eg0 s hx29663) ?_)
                  intro X29666 hX29667
                  refine fun _ _ hJ => hJ X29666 ?_
                  intro I29668 w29664 s k29665
                  refine hX29667 _ _ ?_
                  replace rp21060 := rp21060.st k29665
                  replace rp29645 := rp29645.st k29665
                  replace rp29627 := rp29627.st k29665
                  replace rp29657 := rp29657.st k29665
                  replace rp29639 := rp29639.st k29665
                  replace eg0 := eg0.st k29665
                  replace kk := kk.trans k29665
                  refine RW.seg hT 1 [] [] [.int .i64 x29662] [] (by kernel_rfl) (trivial) ?_
                  refine RW.nil ?_
                  subst hrec29555
                  replace s := s.pick [0, 1, 4, 5, 6, 7, 8, 9, 10, 11] 12 rfl
                  exact ⟨n29554, Nat.le_refl _, fun X h => kc (by kernel_rfl) rfl (h I29668 x29662 x29650 x29632 [(D29566.getD 0 undef), .int .i64 x29567, (D29566.getD 1 undef), (D29566.getD 2 undef), (D29566.getD 3 undef), (D29566.getD 4 undef), .int .i64 x29420, .bool (decide (x29420 ≥ 0)), (D29566.getD 5 undef), (D29566.getD 6 undef), .int .i64 x29558, .int .i64 x29558, .bool (decide (x29558 < 0)), (D29566.getD 7 undef), (D29566.getD 8 undef), (D29566.getD 9 undef), (D29566.getD 10 undef), .func (.yield l29276) #[] #[], .int .i64 x29420, .int .i64 x29567, .int .i64 x29420, .int .i64 (IntKind.i64.wrap (x29567 - x29420)), .bool true, .bool false, .pointer (some ⟨b21054, 0, none⟩), .int .i64 x29567, .int .i64 x29662] A29652 c29653 cl29654 A29634 c29635 cl29636 _ hf s kk rp29657 rp29639 rp21060 eg0)⟩
              · refine WPK.seq ?_
                refine WPK.region ?_
                refine RW.seg hT 2 [] [] [.int .i64 x29558, .bool (decide (x29558 < 0))] [] (by kernel_rfl) (trivial) ?_
                refine RW.nil ?_
                by_cases h29671 : x29558 < 0
                · have hf := iteT h29671 hf
                  refine WPK.condT (Eq.trans (b := .bool (decide (x29558 < 0))) (by kernel_rfl) (bo_t h29671)) ?_
                  refine WPK.region ?_
                  refine RW.seg hT 5 [.pointer (some ⟨b21054, 0, none⟩), .int .i64 x21053.n] [] [.pointer (some ⟨b21054, 0, none⟩), .pointer (some ⟨b21054, 0, none⟩), .pointer (some ⟨b21054, 0, none⟩), .int .i64 x21053.n, .int .i64 x21053.n] [.cell ⟨b21068, 0, none⟩ (.pointer (some ⟨b21054, 0, none⟩)), .cell ⟨b21054, 0, none⟩ (.int .i64 x21053.n)] (by kernel_rfl) (⟨s.cell (i := 7) (off := 0) rfl rfl, s.cell (i := 0) (off := 0) rfl rfl⟩) ?_
                  refine RW.nil ?_
                  exact fun X h => kc (by kernel_rfl) rfl (h x21053.n [(D29419.getD 0 undef), (D29419.getD 2 undef), (D29419.getD 3 undef), (D29419.getD 4 undef), (D29419.getD 5 undef), .pointer none, .int .i64 x29420, .pointer (some ⟨b21054, 0, none⟩), .pointer (some ⟨b21054, 0, none⟩), .pointer (some ⟨b21054, 0, none⟩), .int .i64 x21053.n, (D29419.getD 17 undef), (D29419.getD 18 undef), (D29419.getD 21 undef), (D29419.getD 24 undef), (D29419.getD 25 undef)] hf)
                · have hf := iteF h29671 hf
                  refine WPK.condF (Eq.trans (b := .bool (decide (x29558 < 0))) (by kernel_rfl) (bo_f h29671)) ?_
                  refine WPK.skip ?_
                  exact fun X h => kc (by kernel_rfl) rfl (h x29558 [(D29419.getD 0 undef), (D29419.getD 2 undef), (D29419.getD 3 undef), (D29419.getD 4 undef), (D29419.getD 5 undef), .pointer none, .int .i64 x29420, (D29419.getD 13 undef), (D29419.getD 14 undef), (D29419.getD 15 undef), (D29419.getD 16 undef), (D29419.getD 17 undef), (D29419.getD 18 undef), (D29419.getD 21 undef), (D29419.getD 24 undef), (D29419.getD 25 undef)] hf)
            · have hf := iteF h29557 hf
              refine WPK.condF (Eq.trans (b := .bool (decide (x29420 ≥ 0))) (by kernel_rfl) (bo_f h29557)) ?_
              refine WPK.exit (blockQ.same ?_)
              refine Fin.of (rs := []) hT [] (.tuple #[]) [] rfl (by kernel_rfl) (trivial) ?_
              refine hR29283 _ _ (RangeEnd.done hrec29279 s (i := 2) rfl ?_)
              intro w29672 s k29673
              replace rp21060 := rp21060.st k29673
              replace rp29427 := rp29427.st k29673
              replace rp29435 := rp29435.st k29673
              replace eg0 := eg0.st k29673
              replace kk := kk.trans k29673
              replace s := s.pick [0, 1, 3, 4, 7, 8, 2] 9 rfl
              exact fun X h => kc (by kernel_rfl) rfl (h I29438 x29421 x29429 d29277 [.func (.func 31) #[] #[.pointer (some ⟨b21068, 0, none⟩)], .int .i64 1048576, undef, .pointer (some ⟨b22669, 0, none⟩), undef, undef, .func (.func 31) #[] #[.pointer (some ⟨b21068, 0, none⟩)], .bool false, .func (.func 31) #[] #[.pointer (some ⟨b21068, 0, none⟩)], undef, undef, undef, undef, undef, undef, undef, undef, undef, undef, undef, undef, undef, undef] A29422 c29424 cl29425 A29430 c29432 cl29433 _ hf s kk rp29427 rp29435 rp21060 eg0)
          · intro x29292 I29291 b29293 A29294 n29295 c29296 cl29297 w29286 hv s k29287 hn29298 rp29299
            refine hX29289 _ _ ?_
            replace hf := optS hv hf
            replace rp21060 := rp21060.st k29287
            replace eg0 := eg0.st k29287
            replace kk := kk.trans k29287
            refine RW.seg hT 1 [] [] [.pointer (some ⟨b29293, 0, none⟩)] [] (by kernel_rfl) (trivial) ?_
            refine RW.nil ?_
            refine WPK.seq ?_
            refine WPK.region ?_
            refine RW.seg hT 1 [.pointer (some ⟨b21054, 0, none⟩)] [] [.pointer (some ⟨b21054, 0, none⟩)] [.cell ⟨b21068, 0, none⟩ (.pointer (some ⟨b21054, 0, none⟩))] (by kernel_rfl) (s.cell (i := 9) (off := 0) rfl rfl) ?_
            replace s := s.pick [2, 3, 0, 1, 4, 5, 6, 7, 8, 9] 10 rfl
            obtain ⟨x29678, hx29679, hf⟩ := bindS hf
            refine RW.op (by kernel_rfl) (OK.call' en27 (by kernel_rfl) (c27 (F := (.blk b29293 (.cells #[.int .i64 x29292.n, .slice A29294 n29295 c29296] 53 (0, 0))) :: (.sl (.slice A29294 n29295 c29296) 61 1 n29295 cl29297) :: (.blk l29276 (rec29278 .ready none)) :: (.blk d29277 (.deferred (some []))) :: (.blk b22675 (.cells #[.slice none 0 0] 22 (0, 0))) :: (.blk b22672 (.cells #[.slice none 0 0] 22 (0, 0))) :: (.blk b22669 (.cells #[.int .i64 1048576] 3 (0, 0))) :: (.blk b21068 (.cells #[.pointer (some ⟨b21054, 0, none⟩)] 25 (0, 0))) :: F) x21053 0 b21054 A21055 n21056 c21057 cl21058 hn21059 rp21060 eg0 s hx29679) ?_)
            intro X29682 hX29683
            refine fun _ _ hJ => hJ X29682 ?_
            intro I29684 w29680 s k29681
            refine hX29683 _ _ ?_
            replace rp21060 := rp21060.st k29681
            replace rp29299 := rp29299.st k29681
            replace eg0 := eg0.st k29681
            replace kk := kk.trans k29681
            refine RW.seg hT 1 [] [] [.int .i64 x29678] [] (by kernel_rfl) (trivial) ?_
            refine RW.nil ?_
            refine WPK.block ?_
            replace s := s.pushNil 3 1
            replace s := s.pushNil 3 1
            replace s := s.pick [2, 3, 4, 5, 6, 7, 8, 9, 10, 11, 1, 0] 12 rfl
            refine WPK.loop' (J := fun n29931 E ds wz => ∀ X : Kont, (∀ (I29815 : Nat → Prop) (x29797 : Int) (x29798 : (List Int)) (x29806 : (List Int)) (D29796 : List Value) (A29799 : Option Addr) (c29801 : Nat) (cl29802 : List Value) (A29807 : Option Addr) (c29809 : Nat) (cl29810 : List Value) (w' : World), g3_l8 p0 x21053 x29292 n29931 x29797 x29798 x29806 = some r → St w0 M I29815 ((.blk b21054 (.cells #[.int .i64 x21053.n, .slice A21055 n21056 c21057] 53 (0, 0))) :: (.sl (.slice A21055 n21056 c21057) 61 1 n21056 cl21058) :: (.blk b29293 (.cells #[.int .i64 x29292.n, .slice A29294 n29295 c29296] 53 (0, 0))) :: (.sl (.slice A29294 n29295 c29296) 61 1 n29295 cl29297) :: (.blk l29276 (rec29278 .ready none)) :: (.blk d29277 (.deferred (some []))) :: (.blk b22675 (.cells #[.slice A29799 x29798.length c29801] 22 (0, 0))) :: (.blk b22672 (.cells #[.slice A29807 x29806.length c29809] 22 (0, 0))) :: (.blk b22669 (.cells #[.int .i64 1048576] 3 (0, 0))) :: (.blk b21068 (.cells #[.pointer (some ⟨b21054, 0, none⟩)] 25 (0, 0))) :: (.sl (.slice A29799 x29798.length c29801) 3 1 x29798.length cl29802) :: (.sl (.slice A29807 x29806.length c29809) 3 1 x29806.length cl29810) :: F) w' → Kp I w I29815 w' → RepL (Rp.int .i64) I29815 w' cl29802 x29798 → RepL (Rp.int .i64) I29815 w' cl29810 x29806 → RepL (Rp.int .u64) I29815 w' cl21058 x21053.w → RepL (Rp.int .u64) I29815 w' cl29297 x29292.w → Elems (Rp.int .u8) I29815 w' (some ⟨0, 0, none⟩) TAB0 → X [.func (.yield l29276) #[] #[], .pointer (some ⟨b21068, 0, none⟩), (D29796.getD 0 undef), .pointer (some ⟨b29293, 0, none⟩), .int .i64 x29797, (D29796.getD 1 undef), (D29796.getD 2 undef), (D29796.getD 3 undef), (D29796.getD 4 undef), (D29796.getD 5 undef), (D29796.getD 6 undef), (D29796.getD 7 undef), (D29796.getD 8 undef), (D29796.getD 9 undef), (D29796.getD 10 undef), (D29796.getD 11 undef), (D29796.getD 12 undef), (D29796.getD 13 undef), (D29796.getD 14 undef), (D29796.getD 15 undef), (D29796.getD 16 undef), (D29796.getD 17 undef), (D29796.getD 18 undef), (D29796.getD 19 undef), (D29796.getD 20 undef), (D29796.getD 21 undef), (D29796.getD 22 undef), (D29796.getD 23 undef), (D29796.getD 24 undef), (D29796.getD 25 undef), (D29796.getD 26 undef)] [] w') → X E ds wz) FUEL (fun X h => kc (by kernel_rfl) rfl (h I29684 x29678 ([] : List Int) ([] : List Int) [undef, undef, .pointer (some ⟨b21054, 0, none⟩), .pointer (some ⟨b29293, 0, none⟩), .pointer (some ⟨b21054, 0, none⟩), .int .i64 x29678, undef, undef, undef, undef, undef, undef, undef, undef, undef, undef, undef, undef, undef, undef, undef, undef, undef, undef, undef, undef, undef] none 0 [] none 0 [] _ hf s kk (RepL.nil (r := (Rp.int .i64))) (RepL.nil (r := (Rp.int .i64))) rp21060 rp29299 eg0)) (fun _ _ _ hJ => hJ (fun _ _ _ => False) (by intro I29815 x29797 x29798 x29806 D29796 A29799 c29801 cl29802 A29807 c29809 cl29810 w29814 hf s kk rp29804 rp29812 rp21060 rp29299 eg0; exact noneS hf)) ?_
            intro X30053 hX30054
            refine fun n29931 _ _ _ hJ => hJ (X30053 n29931) ?_
            intro I29815 x29797 x29798 x29806 D29796 A29799 c29801 cl29802 A29807 c29809 cl29810 w29814 hf s kk rp29804 rp29812 rp21060 rp29299 eg0
            refine hX30054 _ _ _ _ ?_
            replace hf : g3_l8B p0 x21053 x29292 (g3_l8 p0 x21053 x29292 n29931) x29797 x29798 x29806 = some r := hf
            generalize hrec29932 : g3_l8 p0 x21053 x29292 n29931 = rec29930 at hf
            unfold g3_l8B at hf
            refine WPK.seq ?_
            refine WPK.seq ?_
            refine WPK.region ?_
            refine RW.seg hT 2 [] [] [.int .i64 x29797, .bool (decide (x29797 ≥ 0))] [] (by kernel_rfl) (trivial) ?_
            refine RW.nil ?_
            by_cases h29934 : x29797 ≥ 0
            · have hf := iteT h29934 hf
              refine WPK.condT (Eq.trans (b := .bool (decide (x29797 ≥ 0))) (by kernel_rfl) (bo_t h29934)) ?_
              refine WPK.skip ?_
              refine WPK.block ?_
              refine WPK.seq ?_
              refine WPK.region ?_
              refine RW.seg hT 2 [] [] [.pointer (some ⟨b29293, 0, none⟩), .int .i64 x29797] [] (by kernel_rfl) (trivial) ?_
              replace s := s.pick [2, 3, 0, 1, 4, 5, 6, 7, 8, 9, 10, 11] 12 rfl
              obtain ⟨x29935, hx29936, hf⟩ := bindS hf
              refine RW.op (by kernel_rfl) (OK.call' en27 (by kernel_rfl) (c27 (F := (.blk b21054 (.cells #[.int .i64 x21053.n, .slice A21055 n21056 c21057] 53 (0, 0))) :: (.sl (.slice A21055 n21056 c21057) 61 1 n21056 cl21058) :: (.blk l29276 (rec29278 .ready none)) :: (.blk d29277 (.deferred (some []))) :: (.blk b22675 (.cells #[.slice A29799 x29798.length c29801] 22 (0, 0))) :: (.blk b22672 (.cells #[.slice A29807 x29806.length c29809] 22 (0, 0))) :: (.blk b22669 (.cells #[.int .i64 1048576] 3 (0, 0))) :: (.blk b21068 (.cells #[.pointer (some ⟨b21054, 0, none⟩)] 25 (0, 0))) :: (.sl (.slice A29799 x29798.length c29801) 3 1 x29798.length cl29802) :: (.sl (.slice A29807 x29806.length c29809) 3 1 x29806.length cl29810) :: F) x29292 x29797 b29293 A29294 n29295 c29296 cl29297 hn29298 rp29299 eg0 s hx29936) ?_)
              intro X29939 hX29940
              refine fun _ _ hJ => hJ X29939 ?_
              intro I29941 w29937 s k29938
              refine hX29940 _ _ ?_
              replace rp29299 := rp29299.st k29938
              replace rp21060 := rp21060.st k29938
              replace rp29804 := rp29804.st k29938
              replace rp29812 := rp29812.st k29938
              replace eg0 := eg0.st k29938
              replace kk := kk.trans k29938
              refine RW.seg hT 1 [] [] [.int .i64 x29935] [] (by kernel_rfl) (trivial) ?_
              refine RW.nil ?_
              refine WPK.seq ?_
              refine WPK.cut' (fun E ds wz => ∀ X : Kont, (∀ (x29944 : Int) (D29943 : List Value), g3_j9 p0 x21053 x29797 x29798 x29806 rec29930 x29944 = some r → X [.func (.yield l29276) #[] #[], .pointer (some ⟨b21068, 0, none⟩), (D29943.getD 0 undef), .pointer (some ⟨b29293, 0, none⟩), .int .i64 x29797, .int .i64 x29944, (D29943.getD 1 undef), (D29943.getD 2 undef), (D29943.getD 3 undef), (D29943.getD 4 undef), .int .i64 x29797, .bool (decide (x29797 ≥ 0)), (D29943.getD 5 undef), (D29943.getD 6 undef), .int .i64 x29935, .int .i64 x29935, .bool (decide (x29935 < 0)), (D29943.getD 7 undef), (D29943.getD 8 undef), (D29943.getD 9 undef), (D29943.getD 10 undef), (D29943.getD 11 undef), (D29943.getD 12 undef), (D29796.getD 19 undef), (D29796.getD 20 undef), (D29943.getD 13 undef), (D29796.getD 22 undef), (D29796.getD 23 undef), (D29943.getD 14 undef), (D29943.getD 15 undef), (D29796.getD 26 undef)] [] w29937) → X E ds wz) ?_ ?_
              · intro X30046 hX30047
                refine fun _ _ _ hJ => hJ X30046 ?_
                intro x29944 D29943 hf
                refine hX30047 _ _ _ ?_
                unfold g3_j9 at hf
                refine WPK.seq ?_
                refine WPK.seq ?_
                refine WPK.region ?_
                refine RW.seg hT 5 [] [] [.func (.yield l29276) #[] #[], .int .i64 x29797, .int .i64 x29944, .int .i64 x29797, .int .i64 (IntKind.i64.wrap (x29944 - x29797))] [] (by kernel_rfl) (trivial) ?_
                refine RW.op (by kernel_rfl) (OK.yield (args := [.int .i64 x29797, .int .i64 (IntKind.i64.wrap (x29944 - x29797))]) hrec29279 s (i := 4) rfl (by kernel_rfl) rfl ?_)
                intro R29991 hR29992
                refine WPK.seq ?_
                refine WPK.region ?_
                refine RW.seg hT 1 [] [] [.int .i64 x29797] [] (by kernel_rfl) (trivial) ?_
                refine RW.nil ?_
                refine WPK.region ?_
                refine RW.seg hT 1 [] [] [.int .i64 (IntKind.i64.wrap (x29944 - x29797))] [] (by kernel_rfl) (trivial) ?_
                refine RW.nil ?_
                refine RoundBeg.of hrec29279 s (i := 4) rfl ?_
                intro w29993 s k29994
                replace rp29299 := rp29299.st k29994
                replace rp21060 := rp21060.st k29994
                replace rp29804 := rp29804.st k29994
                replace rp29812 := rp29812.st k29994
                replace eg0 := eg0.st k29994
                replace kk := kk.trans k29994
                refine WPK.block ?_
                refine WPK.seq ?_
                refine WPK.seq ?_
                refine WPK.region ?_
                refine RW.seg hT 4 [.slice A29807 x29806.length c29809, .int .i64 1048576] [(16, .int .i64 (x29806.length : Int))] [.slice A29807 x29806.length c29809, .int .i64 (x29806.length : Int), .int .i64 1048576, .bool (decide ((x29806.length : Int) ≥ 1048576))] [.cell ⟨b22672, 0, none⟩ (.slice A29807 x29806.length c29809), .veq (.int .i64 (x29806.length : Nat)) (.int .i64 (x29806.length : Int)), .cell ⟨b22669, 0, none⟩ (.int .i64 1048576)] (by kernel_rfl) (⟨s.cell (i := 7) (off := 0) rfl rfl, len_v rfl, s.cell (i := 8) (off := 0) rfl rfl⟩) ?_
                refine RW.nil ?_
                by_cases h29996 : (x29806.length : Int) ≥ 1048576
                · have hf := iteT h29996 hf
                  refine WPK.condT (Eq.trans (b := .bool (decide ((x29806.length : Int) ≥ 1048576))) (by kernel_rfl) (bo_t h29996)) ?_
                  refine WPK.exit (blockQ.other rfl (?_))
                  refine RoundEnd.stop (Code.exit 0) hrec29279 s (i := 4) rfl ?_
                  intro w29997 s k29998
                  replace rp29299 := rp29299.st k29998
                  replace rp21060 := rp21060.st k29998
                  replace rp29804 := rp29804.st k29998
                  replace rp29812 := rp29812.st k29998
                  replace eg0 := eg0.st k29998
                  replace kk := kk.trans k29998
                  refine hR29992 _ _ ?_
                  refine RW.seg hT 1 [] [] [.bool true] [] (by kernel_rfl) (trivial) ?_
                  refine RW.nil ?_
                  refine WPK.condT (by kernel_rfl) ?_
                  refine WPK.ret (blockQ.ret (blockQ.ret (?_)))
                  refine Fin.of (rs := []) hT [] (.tuple #[]) [] rfl (by kernel_rfl) (trivial) ?_
                  refine hR29283 _ _ (RangeEnd.jump hrec29279 s (i := 4) rfl ?_)
                  intro w29999 s k30000
                  replace rp29299 := rp29299.st k30000
                  replace rp21060 := rp21060.st k30000
                  replace rp29804 := rp29804.st k30000
                  replace rp29812 := rp29812.st k30000
                  replace eg0 := eg0.st k30000
                  replace kk := kk.trans k30000
                  refine WPK.exit (blockQ.same ?_)
                  replace s := s.pick [2, 3, 5, 6, 9, 10, 4] 11 rfl
                  exact fun X h => kc (by kernel_rfl) rfl (h I29941 x29798 x29806 d29277 [.func (.func 31) #[] #[.pointer (some ⟨b21068, 0, none⟩)], .int .i64 1048576, undef, .pointer (some ⟨b22669, 0, none⟩), undef, undef, .func (.func 31) #[] #[.pointer (some ⟨b21068, 0, none⟩)], .bool false, .func (.func 31) #[] #[.pointer (some ⟨b21068, 0, none⟩)], undef, undef, undef, undef, undef, undef, undef, undef, undef, undef, undef, undef, undef, undef] A29799 c29801 cl29802 A29807 c29809 cl29810 _ hf s kk rp29804 rp29812 rp21060 eg0)
                · have hf := iteF h29996 hf
                  refine WPK.condF (Eq.trans (b := .bool (decide ((x29806.length : Int) ≥ 1048576))) (by kernel_rfl) (bo_f h29996)) ?_
                  refine WPK.skip ?_
                  refine WPK.seq ?_
                  refine WPK.region ?_
                  refine RW.seg hT 2 [.slice A29807 x29806.length c29809] [] [.slice A29807 x29806.length c29809, .int .i64 x29797] [.cell ⟨b22672, 0, none⟩ (.slice A29807 x29806.length c29809)] (by kernel_rfl) (s.cell (i := 7) (off := 0) rfl rfl) ?_
                  refine RW.op (by kernel_rfl) (OK.new hT (f := fun b => .slice (some ⟨b, 0, none⟩) 1 1) (cs := [.int .i64 x29797]) (e := 3) (c := .tt) s (by kernel_rfl) trivial ?_)
                  rintro w30001 b30002 s k30003 -
                  replace rp29299 := rp29299.st k30003
                  replace rp21060 := rp21060.st k30003
                  replace rp29804 := rp29804.st k30003
                  replace rp29812 := rp29812.st k30003
                  replace eg0 := eg0.st k30003
                  replace kk := kk.trans k30003
                  have rp30004 : RepL (Rp.int .i64) I29941 w30001 [.int .i64 x29797] ([x29797] : List Int) := RepL.cons (c := [.int .i64 x29797]) (d := []) (rfl) (RepL.nil)
                  replace s : St w0 M I29941 ((.sl (.slice (some ⟨b30002, 0, none⟩) 1 1) 3 1 1 [.int .i64 x29797]) :: (.blk b29293 (.cells #[.int .i64 x29292.n, .slice A29294 n29295 c29296] 53 (0, 0))) :: (.sl (.slice A29294 n29295 c29296) 61 1 n29295 cl29297) :: (.blk b21054 (.cells #[.int .i64 x21053.n, .slice A21055 n21056 c21057] 53 (0, 0))) :: (.sl (.slice A21055 n21056 c21057) 61 1 n21056 cl21058) :: (.blk l29276 (rec29278 .busy none)) :: (.blk d29277 (.deferred (some []))) :: (.blk b22675 (.cells #[.slice A29799 x29798.length c29801] 22 (0, 0))) :: (.blk b22672 (.cells #[.slice A29807 x29806.length c29809] 22 (0, 0))) :: (.blk b22669 (.cells #[.int .i64 1048576] 3 (0, 0))) :: (.blk b21068 (.cells #[.pointer (some ⟨b21054, 0, none⟩)] 25 (0, 0))) :: (.sl (.slice A29799 x29798.length c29801) 3 1 x29798.length cl29802) :: (.sl (.slice A29807 x29806.length c29809) 3 1 x29806.length cl29810) :: F) w30001 := s.blkSl (i := 0) (n := 1) (c := 1) (size := 1) rfl rfl (Nat.le_refl _) (by decide)
                  have hs30007 := St.src s (i := 0) rfl rfl rp30004
                  have rq30008 := rp30004
                  obtain ⟨x30009, hx30010, hf⟩ := bindS hf
                  refine RW.op (by kernel_rfl) (OK.app hT (r := (Rp.int .i64)) (i := 12) (t := 22) (e := 3) (size := 1) (bytes := 8) (c := c29809) (n := x29806.length) (m := 1) s (by kernel_rfl) rfl rfl rfl rfl rfl (by decide) rfl rfl rfl rfl rp29812 hs30007 rq30008 flat_int rfl hx30010 ?_)
                  rintro A30011 c30012 cl30013 w30014 s k30015 rp30016
                  replace rp30004 := rp30004.st k30015
                  replace rp29299 := rp29299.st k30015
                  replace rp21060 := rp21060.st k30015
                  replace rp29804 := rp29804.st k30015
                  replace rp29812 := rp29812.st k30015
                  replace eg0 := eg0.st k30015
                  replace kk := kk.trans k30015
                  refine RW.op (by kernel_rfl) (OK.store hT (i := 8) (b := b22672) (off := 0) (n := 1) (vs := [.slice A30011 x30009.length c30012]) (cs := [(.slice A29807 x29806.length c29809)]) (e := 22) s (by kernel_rfl) rfl rfl (flat_ok rfl) (Nat.le_of_ble_eq_true rfl) ?_)
                  rintro w30017 s k30018 -
                  replace rp30004 := rp30004.st k30018
                  replace rp29299 := rp29299.st k30018
                  replace rp21060 := rp21060.st k30018
                  replace rp29804 := rp29804.st k30018
                  replace rp30016 := rp30016.st k30018
                  replace eg0 := eg0.st k30018
                  replace kk := kk.trans k30018
                  refine RW.nil ?_
                  refine WPK.region ?_
                  refine RW.seg hT 2 [.slice A29799 x29798.length c29801] [] [.slice A29799 x29798.length c29801, .int .i64 (IntKind.i64.wrap (x29944 - x29797))] [.cell ⟨b22675, 0, none⟩ (.slice A29799 x29798.length c29801)] (by kernel_rfl) (s.cell (i := 7) (off := 0) rfl rfl) ?_
                  refine RW.op (by kernel_rfl) (OK.new hT (f := fun b => .slice (some ⟨b, 0, none⟩) 1 1) (cs := [.int .i64 (IntKind.i64.wrap (x29944 - x29797))]) (e := 3) (c := .tt) s (by kernel_rfl) trivial ?_)
                  rintro w30019 b30020 s k30021 -
                  replace rp30004 := rp30004.st k30021
                  replace rp29299 := rp29299.st k30021
                  replace rp21060 := rp21060.st k30021
                  replace rp29804 := rp29804.st k30021
                  replace rp30016 := rp30016.st k30021
                  replace eg0 := eg0.st k30021
                  replace kk := kk.trans k30021
                  have rp30022 : RepL (Rp.int .i64) I29941 w30019 [.int .i64 (IntKind.i64.wrap (x29944 - x29797))] ([IntKind.i64.wrap (x29944 - x29797)] : List Int) := RepL.cons (c := [.int .i64 (IntKind.i64.wrap (x29944 - x29797))]) (d := []) (rfl) (RepL.nil)
                  replace s : St w0 M I29941 ((.sl (.slice (some ⟨b30020, 0, none⟩) 1 1) 3 1 1 [.int .i64 (IntKind.i64.wrap (x29944 - x29797))]) :: (.sl (.slice (some ⟨b30002, 0, none⟩) 1 1) 3 1 1 [.int .i64 x29797]) :: (.blk b29293 (.cells #[.int .i64 x29292.n, .slice A29294 n29295 c29296] 53 (0, 0))) :: (.sl (.slice A29294 n29295 c29296) 61 1 n29295 cl29297) :: (.blk b21054 (.cells #[.int .i64 x21053.n, .slice A21055 n21056 c21057] 53 (0, 0))) :: (.sl (.slice A21055 n21056 c21057) 61 1 n21056 cl21058) :: (.blk l29276 (rec29278 .busy none)) :: (.blk d29277 (.deferred (some []))) :: (.blk b22675 (.cells #[.slice A29799 x29798.length c29801] 22 (0, 0))) :: (.blk b22672 (.cells #[.slice A30011 x30009.length c30012] 22 (0, 0))) :: (.blk b22669 (.cells #[.int .i64 1048576] 3 (0, 0))) :: (.blk b21068 (.cells #[.pointer (some ⟨b21054, 0, none⟩)] 25 (0, 0))) :: (.sl (.slice A29799 x29798.length c29801) 3 1 x29798.length cl29802) :: (.sl (.slice A30011 x30009.length c30012) 3 1 x30009.length cl30013) :: F) w30019 := s.blkSl (i := 0) (n := 1) (c := 1) (size := 1) rfl rfl (Nat.le_refl _) (by decide)
                  have hs30025 := St.src s (i := 0) rfl rfl rp30022
                  have rq30026 := rp30022
                  obtain ⟨x30027, hx30028, hf⟩ := bindS hf
                  refine RW.op (by kernel_rfl) (OK.app hT (r := (Rp.int .i64)) (i := 12) (t := 22) (e := 3) (size := 1) (bytes := 8) (c := c29801) (n := x29798.length) (m := 1) s (by kernel_rfl) rfl rfl rfl rfl rfl (by decide) rfl rfl rfl rfl rp29804 hs30025 rq30026 flat_int rfl hx30028 ?_)
                  rintro A30029 c30030 cl30031 w30032 s k30033 rp30034
                  replace rp30022 := rp30022.st k30033
                  replace rp30004 := rp30004.st k30033
                  replace rp29299 := rp29299.st k30033
                  replace rp21060 := rp21060.st k30033
                  replace rp29804 := rp29804.st k30033
                  replace rp30016 := rp30016.st k30033
                  replace eg0 := eg0.st k30033
                  replace kk := kk.trans k30033
                  refine RW.op (by kernel_rfl) (OK.store hT (i := 8) (b := b22675) (off := 0) (n := 1) (vs := [.slice A30029 x30027.length c30030]) (cs := [(.slice A29799 x29798.length c29801)]) (e := 22) s (by kernel_rfl) rfl rfl (flat_ok rfl) (Nat.le_of_ble_eq_true rfl) ?_)
                  rintro w30035 s k30036 -
                  replace rp30022 := rp30022.st k30036
                  replace rp30004 := rp30004.st k30036
                  replace rp29299 := rp29299.st k30036
                  replace rp21060 := rp21060.st k30036
                  replace rp30034 := rp30034.st k30036
                  replace rp30016 := rp30016.st k30036
                  replace eg0 := eg0.st k30036
                  replace kk := kk.trans k30036
                  refine RW.nil ?_
                  refine RoundEnd.next hrec29279 s (i := 6) rfl ?_
                  intro w30037 s k30038
                  replace rp30022 := rp30022.st k30038
                  replace rp30004 := rp30004.st k30038
                  replace rp29299 := rp29299.st k30038
                  replace rp21060 := rp21060.st k30038
                  replace rp30034 := rp30034.st k30038
                  replace rp30016 := rp30016.st k30038
                  replace eg0 := eg0.st k30038
                  replace kk := kk.trans k30038
                  refine hR29992 _ _ ?_
                  refine RW.seg hT 1 [] [] [.bool false] [] (by kernel_rfl) (trivial) ?_
                  refine RW.nil ?_
                  refine WPK.condF (by kernel_rfl) ?_
                  refine WPK.skip ?_
                  refine WPK.region ?_
                  refine RW.seg hT 2 [.pointer (some ⟨b21054, 0, none⟩)] [] [.pointer (some ⟨b21054, 0, none⟩), .int .i64 x29944] [.cell ⟨b21068, 0, none⟩ (.pointer (some ⟨b21054, 0, none⟩))] (by kernel_rfl) (s.cell (i := 11) (off := 0) rfl rfl) ?_
                  replace s := s.pick [4, 5, 0, 1, 2, 3, 6, 7, 8, 9, 10, 11, 12, 13] 14 rfl
                  obtain ⟨x30039, hx30040, hf⟩ := bindS hf
                  refine RW.op (by kernel_rfl) (OK.call' en27 (by kernel_rfl) (c27 (F := (.sl (.slice (some ⟨b30020, 0, none⟩) 1 1) 3 1 1 [.int .i64 (IntKind.i64.wrap (x29944 - x29797))]) :: (.sl (.slice (some ⟨b30002, 0, none⟩) 1 1) 3 1 1 [.int .i64 x29797]) :: (.blk b29293 (.cells #[.int .i64 x29292.n, .slice A29294 n29295 c29296] 53 (0, 0))) :: (.sl (.slice A29294 n29295 c29296) 61 1 n29295 cl29297) :: (.blk l29276 (rec29278 .ready none)) :: (.blk d29277 (.deferred (some []))) :: (.blk b22675 (.cells #[.slice A30029 x30027.length c30030] 22 (0, 0))) :: (.blk b22672 (.cells #[.slice A30011 x30009.length c30012] 22 (0, 0))) :: (.blk b22669 (.cells #[.int .i64 1048576] 3 (0, 0))) :: (.blk b21068 (.cells #[.pointer (some ⟨b21054, 0, none⟩)] 25 (0, 0))) :: (.sl (.slice A30029 x30027.length c30030) 3 1 x30027.length cl30031) :: (.sl (.slice A30011 x30009.length c30012) 3 1 x30009.length cl30013) :: F) x21053 x29944 b21054 A21055 n21056 c21057 cl21058 hn21059 rp21060 eg0 s hx30040) ?_)
                  intro X30043 hX30044
                  refine fun _ _ hJ => hJ X30043 ?_
                  intro I30045 w30041 s k30042
                  refine hX30044 _ _ ?_
                  replace rp21060 := rp21060.st k30042
                  replace rp30022 := rp30022.st k30042
                  replace rp30004 := rp30004.st k30042
                  replace rp29299 := rp29299.st k30042
                  replace rp30034 := rp30034.st k30042
                  replace rp30016 := rp30016.st k30042
                  replace eg0 := eg0.st k30042
                  replace kk := kk.trans k30042
                  refine RW.seg hT 1 [] [] [.int .i64 x30039] [] (by kernel_rfl) (trivial) ?_
                  refine RW.nil ?_
                  subst hrec29932
                  replace s := s.pick [0, 1, 4, 5, 6, 7, 8, 9, 10, 11, 12, 13] 14 rfl
                  exact ⟨n29931, Nat.le_refl _, fun X h => kc (by kernel_rfl) rfl (h I30045 x30039 x30027 x30009 [(D29943.getD 0 undef), .int .i64 x29944, (D29943.getD 1 undef), (D29943.getD 2 undef), (D29943.getD 3 undef), (D29943.getD 4 undef), .int .i64 x29797, .bool (decide (x29797 ≥ 0)), (D29943.getD 5 undef), (D29943.getD 6 undef), .int .i64 x29935, .int .i64 x29935, .bool (decide (x29935 < 0)), (D29943.getD 7 undef), (D29943.getD 8 undef), (D29943.getD 9 undef), (D29943.getD 10 undef), .func (.yield l29276) #[] #[], .int .i64 x29797, .int .i64 x29944, .int .i64 x29797, .int .i64 (IntKind.i64.wrap (x29944 - x29797)), .bool true, .bool false, .pointer (some ⟨b21054, 0, none⟩), .int .i64 x29944, .int .i64 x30039] A30029 c30030 cl30031 A30011 c30012 cl30013 _ hf s kk rp30034 rp30016 rp21060 rp29299 eg0)⟩
              · refine WPK.seq ?_
                refine WPK.region ?_
                refine RW.seg hT 2 [] [] [.int .i64 x29935, .bool (decide (x29935 < 0))] [] (by kernel_rfl) (trivial) ?_
                refine RW.nil ?_
                by_cases h30048 : x29935 < 0
                · have hf := iteT h30048 hf
                  refine WPK.condT (Eq.trans (b := .bool (decide (x29935 < 0))) (by kernel_rfl) (bo_t h30048)) ?_
                  refine WPK.region ?_
                  refine RW.seg hT 5 [.pointer (some ⟨b21054, 0, none⟩), .int .i64 x21053.n] [] [.pointer (some ⟨b21054, 0, none⟩), .pointer (some ⟨b21054, 0, none⟩), .pointer (some ⟨b21054, 0, none⟩), .int .i64 x21053.n, .int .i64 x21053.n] [.cell ⟨b21068, 0, none⟩ (.pointer (some ⟨b21054, 0, none⟩)), .cell ⟨b21054, 0, none⟩ (.int .i64 x21053.n)] (by kernel_rfl) (⟨s.cell (i := 9) (off := 0) rfl rfl, s.cell (i := 2) (off := 0) rfl rfl⟩) ?_
                  refine RW.nil ?_
                  exact fun X h => kc (by kernel_rfl) rfl (h x21053.n [(D29796.getD 0 undef), (D29796.getD 2 undef), (D29796.getD 3 undef), (D29796.getD 4 undef), (D29796.getD 5 undef), .pointer (some ⟨b29293, 0, none⟩), .int .i64 x29797, .pointer (some ⟨b21054, 0, none⟩), .pointer (some ⟨b21054, 0, none⟩), .pointer (some ⟨b21054, 0, none⟩), .int .i64 x21053.n, (D29796.getD 17 undef), (D29796.getD 18 undef), (D29796.getD 21 undef), (D29796.getD 24 undef), (D29796.getD 25 undef)] hf)
                · have hf := iteF h30048 hf
                  refine WPK.condF (Eq.trans (b := .bool (decide (x29935 < 0))) (by kernel_rfl) (bo_f h30048)) ?_
                  refine WPK.skip ?_
                  exact fun X h => kc (by kernel_rfl) rfl (h x29935 [(D29796.getD 0 undef), (D29796.getD 2 undef), (D29796.getD 3 undef), (D29796.getD 4 undef), (D29796.getD 5 undef), .pointer (some ⟨b29293, 0, none⟩), .int .i64 x29797, (D29796.getD 13 undef), (D29796.getD 14 undef), (D29796.getD 15 undef), (D29796.getD 16 undef), (D29796.getD 17 undef), (D29796.getD 18 undef), (D29796.getD 21 undef), (D29796.getD 24 undef), (D29796.getD 25 undef)] hf)
            · have hf := iteF h29934 hf
              refine WPK.condF (Eq.trans (b := .bool (decide (x29797 ≥ 0))) (by kernel_rfl) (bo_f h29934)) ?_
              refine WPK.exit (blockQ.same ?_)
              refine Fin.of (rs := []) hT [] (.tuple #[]) [] rfl (by kernel_rfl) (trivial) ?_
              refine hR29283 _ _ (RangeEnd.done hrec29279 s (i := 4) rfl ?_)
              intro w30049 s k30050
              replace rp21060 := rp21060.st k30050
              replace rp29299 := rp29299.st k30050
              replace rp29804 := rp29804.st k30050
              replace rp29812 := rp29812.st k30050
              replace eg0 := eg0.st k30050
              replace kk := kk.trans k30050
              replace s := s.pick [0, 1, 5, 6, 9, 10, 4] 11 rfl
              exact fun X h => kc (by kernel_rfl) rfl (h I29815 x29798 x29806 d29277 [.func (.func 31) #[] #[.pointer (some ⟨b21068, 0, none⟩)], .int .i64 1048576, undef, .pointer (some ⟨b22669, 0, none⟩), undef, undef, .func (.func 31) #[] #[.pointer (some ⟨b21068, 0, none⟩)], .bool false, .func (.func 31) #[] #[.pointer (some ⟨b21068, 0, none⟩)], undef, undef, undef, undef, undef, undef, undef, undef, undef, undef, undef, undef, undef, undef] A29799 c29801 cl29802 A29807 c29809 cl29810 _ hf s kk rp29804 rp29812 rp21060 eg0)
  · refine WPK.region ?_
    obtain ⟨x30057, hx30058, hf⟩ := bindS hf
    refine RW.op (by kernel_rfl) (OK.call' en8 (by kernel_rfl) (c8 (F := F) eg0 s hx30058) ?_)
    intro X30061 hX30062
    refine fun _ _ hJ => hJ X30061 ?_
    intro I30063 w30059 s k30060
    refine hX30062 _ _ ?_
    replace e20972 := e20972.st k30060
    replace eg0 := eg0.st k30060
    replace kk := kk.trans k30060
    refine RW.seg hT 1 [] [(13, .bool (decide (¬ (x30057 = true))))] [.bool (decide (¬ (x30057 = true)))] [.veq (.bool (!x30057)) (.bool (decide (¬ (x30057 = true))))] (by kernel_rfl) (not_b) ?_
    by_cases h30064 : ¬ (x30057 = true)
    · have hf := iteT h30064 hf
      refine RW.seg hT 6 [] [(14, .bool true)] [.bool true, undef, undef, undef, undef, .bool true] [.veq (.bool (decide (¬ (x30057 = true)))) (.bool true)] (by kernel_rfl) (bo_t h30064) ?_
      refine RW.nil ?_
      exact fun X h => kc (by kernel_rfl) rfl (h I30063 true [undef, undef, .bool x30057, .bool (decide (¬ (x30057 = true))), .bool true, undef, undef, undef, undef, undef, undef, undef, undef, undef, undef, undef] _ hf s kk e20972 eg0)
    · have hf := iteF h30064 hf
      refine RW.seg hT 3 [] [(14, .bool false)] [.bool false, .int .i64 p0, .slice A20969 p1.length c20970] [.veq (.bool (decide (¬ (x30057 = true)))) (.bool false)] (by kernel_rfl) (bo_f h30064) ?_
      obtain ⟨x30065, hx30066, hf⟩ := bindS hf
      refine RW.op (by kernel_rfl) (OK.call' en9 (by kernel_rfl) (c9 (F := F) p0 p1 A20969 c20970 hc20971 e20972 s hx30066) ?_)
      intro X30069 hX30070
      refine fun _ _ hJ => hJ X30069 ?_
      intro I30071 w30067 s k30068
      refine hX30070 _ _ ?_
      replace e20972 := e20972.st k30068
      replace eg0 := eg0.st k30068
      replace kk := kk.trans k30068
      refine RW.seg hT 2 [] [(18, .bool (decide (¬ (x30065 = true))))] [.bool (decide (¬ (x30065 = true))), .bool (decide (¬ (x30065 = true)))] [.veq (.bool (!x30065)) (.bool (decide (¬ (x30065 = true))))] (by kernel_rfl) (not_b) ?_
      refine RW.nil ?_
      exact fun X h => kc (by kernel_rfl) rfl (h I30071 (decide (¬ (x30065 = true))) [undef, undef, .bool x30057, .bool (decide (¬ (x30057 = true))), .bool false, .int .i64 p0, .slice A20969 p1.length c20970, .bool x30065, .bool (decide (¬ (x30065 = true))), undef, undef, undef, undef, undef, undef, undef] _ hf s kk e20972 eg0)
theorem c4 {w0 w : World} {M I : Nat → Prop} {F : List It} (p0 : Int) (p1 : (List Int)) (p2 : Int) (A31769 : Option Addr) (c31770 : Nat) (hc31771 : (p1.length ≤ c31770 ∧ c31770 ≤ 9223372036854775807)) (e31772 : Elems (Rp.int .i64) I w A31769 p1) (eg0 : Elems (Rp.int .u8) I w (some ⟨0, 0, none⟩) TAB0) (s : St w0 M I (F) w) {r : Bool} (hf : g4 p0 p1 p2 = some r) :
    Ret Tryd.prog 4 [.int .i64 p0, .slice A31769 p1.length c31770, .int .u8 p2] w fun v wz => ∀ X : Value → World → Prop, (∀ (I' : Nat → Prop) (w' : World), St w0 M I' (F) w' → Kp I w I' w' → X (.bool r) w') → X v wz := by
  have kk : Kp I w I w := Kp.refl
  unfold g4 at hf
  refine Ret.of Tryd.func4 rfl ?_
  refine WPK.seq ?_
  refine WPK.region ?_
  refine RW.seg hT 1 [] [] [.bool false] [] (by kernel_rfl) (trivial) ?_
  refine RW.nil ?_
  refine WPK.seq ?_
  refine WPK.seq ?_
  refine WPK.cut' (fun E ds wz => ∀ X : Kont, (∀ (I31836 : Nat → Prop) (x31834 : Bool) (D31833 : List Value) (w' : World), g4_j1 p0 p1 p2 x31834 = some r → St w0 M I31836 (F) w' → Kp I w I31836 w' → Elems (Rp.int .i64) I31836 w' A31769 p1 → Elems (Rp.int .u8) I31836 w' (some ⟨0, 0, none⟩) TAB0 → X [.int .i64 p0, .slice A31769 p1.length c31770, .int .u8 p2, (D31833.getD 0 undef), (D31833.getD 1 undef), (D31833.getD 2 undef), .bool false, undef, undef, undef, undef, undef, undef, (D31833.getD 3 undef), (D31833.getD 4 undef), (D31833.getD 5 undef), (D31833.getD 6 undef), (D31833.getD 7 undef), (D31833.getD 8 undef), (D31833.getD 9 undef), .bool x31834, undef, (D31833.getD 10 undef), (D31833.getD 11 undef), undef, undef, undef, undef, undef, undef, undef, (D31833.getD 12 undef), (D31833.getD 13 undef), undef, undef, undef, undef, undef, undef, undef, undef, undef, undef, undef, undef, undef, undef, (D31833.getD 14 undef), undef, undef, (D31833.getD 15 undef), undef, undef, undef, undef, undef, undef, undef, undef, undef] [] w') → X E ds wz) ?_ ?_
  · intro X33449 hX33450
    refine fun _ _ _ hJ => hJ X33449 ?_
    intro I31836 x31834 D31833 w31835 hf s kk e31772 eg0
    refine hX33450 _ _ _ ?_
    unfold g4_j1 at hf
    by_cases h31837 : x31834 = true
    · have hf := iteT h31837 hf
      refine WPK.condT (Eq.trans (b := .bool x31834) (by kernel_rfl) (b_t h31837)) ?_
      refine WPK.seq ?_
      refine WPK.region ?_
      obtain ⟨x31838, hx31839, hf⟩ := bindS hf
      refine RW.op (by kernel_rfl) (OK.call' en8 (by kernel_rfl) (c8 (F := F) eg0 s hx31839) ?_)
      intro X31842 hX31843
      refine fun _ _ hJ => hJ X31842 ?_
      intro I31844 w31840 s k31841
      refine hX31843 _ _ ?_
      replace e31772 := e31772.st k31841
      replace eg0 := eg0.st k31841
      replace kk := kk.trans k31841
      refine RW.seg hT 1 [] [] [.bool x31838] [] (by kernel_rfl) (trivial) ?_
      refine RW.nil ?_
      refine WPK.ret (?_)
      obtain rfl := someS hf
      refine Fin.of (rs := [.tmp 6]) hT [] (.bool x31838) [] rfl (by kernel_rfl) (trivial) ?_
      exact fun X h => vc rfl (h I31844 _ s kk)
    · have hf := iteF h31837 hf
      refine WPK.condF (Eq.trans (b := .bool x31834) (by kernel_rfl) (b_f h31837)) ?_
      refine WPK.skip ?_
      refine WPK.seq ?_
      refine WPK.region ?_
      refine RW.seg hT 2 [] [] [.int .i64 p0, .slice A31769 p1.length c31770] [] (by kernel_rfl) (trivial) ?_
      obtain ⟨x31845, hx31846, hf⟩ := bindS hf
      refine RW.op (by kernel_rfl) (OK.call' en10 (by kernel_rfl) (c10 (F := F) p0 p1 A31769 c31770 hc31771 e31772 s hx31846) ?_)
      intro X31849 hX31850
      refine fun _ _ hJ => hJ X31849 ?_ ?_
      · intro I31851 w31847 hv s k31848
        refine hX31850 _ _ ?_
        replace hf := optN hv hf
        replace e31772 := e31772.st k31848
        replace eg0 := eg0.st k31848
        replace kk := kk.trans k31848
        refine RW.seg hT 1 [] [] [.pointer none] [] (by kernel_rfl) (trivial) ?_
        refine RW.nil ?_
        refine WPK.seq ?_
        refine WPK.seq ?_
        refine WPK.region ?_
        refine RW.seg hT 2 [] [] [.pointer none, .bool true] [] (by kernel_rfl) (trivial) ?_
        refine RW.nil ?_
        refine WPK.condT (by kernel_rfl) ?_
        refine WPK.seq ?_
        refine WPK.region ?_
        refine RW.seg hT 1 [] [] [.bool false] [] (by kernel_rfl) (trivial) ?_
        refine RW.nil ?_
        refine WPK.ret (?_)
        obtain rfl := someS hf
        refine Fin.of (rs := [.tmp 6]) hT [] (.bool false) [] rfl (by kernel_rfl) (trivial) ?_
        exact fun X h => vc rfl (h I31851 _ s kk)
      · intro x31853 I31852 b31854 A31855 n31856 c31857 cl31858 w31847 hv s k31848 hn31859 rp31860
        refine hX31850 _ _ ?_
        replace hf := optS hv hf
        replace e31772 := e31772.st k31848
        replace eg0 := eg0.st k31848
        replace kk := kk.trans k31848
        refine RW.seg hT 1 [] [] [.pointer (some ⟨b31854, 0, none⟩)] [] (by kernel_rfl) (trivial) ?_
        refine RW.nil ?_
        refine WPK.seq ?_
        refine WPK.seq ?_
        refine WPK.region ?_
        refine RW.seg hT 2 [] [] [.pointer (some ⟨b31854, 0, none⟩), .bool false] [] (by kernel_rfl) (trivial) ?_
        refine RW.nil ?_
        refine WPK.condF (by kernel_rfl) ?_
        refine WPK.skip ?_
        refine WPK.seq ?_
        refine WPK.region ?_
        refine RW.seg hT 5 [undef] [] [.int .u8 p2, .int .i64 (IntKind.i64.wrap p2), .int .i64 (Int.tmod (IntKind.i64.wrap p2) 40), .int .i64 (IntKind.i64.wrap (1 + (Int.tmod (IntKind.i64.wrap p2) 40))), .int .i64 (IntKind.i64.wrap (1 + (Int.tmod (IntKind.i64.wrap p2) 40)))] [.ne0 40] (by kernel_rfl) ((show (40 : Int) ≠ 0 by decide)) ?_
        refine RW.nil ?_
        refine WPK.seq ?_
        refine WPK.region ?_
        refine RW.seg hT 2 [] [] [.pointer (some ⟨b31854, 0, none⟩), .int .i64 (IntKind.i64.wrap (1 + (Int.tmod (IntKind.i64.wrap p2) 40)))] [] (by kernel_rfl) (trivial) ?_
        obtain ⟨x31862, hx31863, hf⟩ := bindS hf
        refine RW.op (by kernel_rfl) (OK.call' en15 (by kernel_rfl) (c15 (F := F) x31853 (IntKind.i64.wrap (1 + (Int.tmod (IntKind.i64.wrap p2) 40))) b31854 A31855 n31856 c31857 cl31858 hn31859 rp31860 eg0 s hx31863) ?_)
        intro X31866 hX31867
        refine fun _ _ hJ => hJ X31866 ?_
        intro I31868 w31864 s k31865
        refine hX31867 _ _ ?_
        replace e31772 := e31772.st k31865
        replace rp31860 := rp31860.st k31865
        replace eg0 := eg0.st k31865
        replace kk := kk.trans k31865
        refine RW.seg hT 1 [] [] [.int .i64 x31862] [] (by kernel_rfl) (trivial) ?_
        refine RW.nil ?_
        refine WPK.seq ?_
        refine WPK.seq ?_
        refine WPK.region ?_
        refine RW.seg hT 1 [] [] [.int .i64 0] [] (by kernel_rfl) (trivial) ?_
        refine RW.nil ?_
        refine WPK.block ?_
        refine WPK.loop' (J := fun n33185 E ds wz => ∀ X : Kont, (∀ (I32923 : Nat → Prop) (x32921 : Int) (D32920 : List Value) (w' : World), g4_l2 p0 p2 x31853 x31862 n33185 x32921 = some r → St w0 M I32923 ((.blk b31854 (.cells #[.int .i64 x31853.n, .slice A31855 n31856 c31857] 53 (0, 0))) :: (.sl (.slice A31855 n31856 c31857) 61 1 n31856 cl31858) :: F) w' → Kp I w I32923 w' → RepL (Rp.int .u64) I32923 w' cl31858 x31853.w → Elems (Rp.int .u8) I32923 w' (some ⟨0, 0, none⟩) TAB0 → X [.int .i64 p0, (D32920.getD 0 undef), (D32920.getD 1 undef), (D32920.getD 2 undef), (D32920.getD 3 undef), (D32920.getD 4 undef), .bool false, .pointer (some ⟨b31854, 0, none⟩), .int .i64 (IntKind.i64.wrap (1 + (Int.tmod (IntKind.i64.wrap p2) 40))), .int .i64 x31862, .int .i64 x32921, (D32920.getD 5 undef), (D32920.getD 6 undef), (D32920.getD 7 undef), (D32920.getD 8 undef), (D32920.getD 9 undef), (D32920.getD 10 undef), (D32920.getD 11 undef), (D32920.getD 12 undef), (D32920.getD 13 undef), (D32920.getD 14 undef), (D32920.getD 15 undef), (D32920.getD 16 undef), (D32920.getD 17 undef), (D32920.getD 18 undef), (D32920.getD 19 undef), (D32920.getD 20 undef), (D32920.getD 21 undef), (D32920.getD 22 undef), (D32920.getD 23 undef), (D32920.getD 24 undef), (D32920.getD 25 undef), (D32920.getD 26 undef), (D32920.getD 27 undef), (D32920.getD 28 undef), (D32920.getD 29 undef), (D32920.getD 30 undef), (D32920.getD 31 undef), (D32920.getD 32 undef), (D32920.getD 33 undef), (D32920.getD 34 undef), (D32920.getD 35 undef), (D32920.getD 36 undef), (D32920.getD 37 undef), (D32920.getD 38 undef), (D32920.getD 39 undef), (D32920.getD 40 undef), (D32920.getD 41 undef), (D32920.getD 42 undef), (D32920.getD 43 undef), (D32920.getD 44 undef), (D32920.getD 45 undef), (D32920.getD 46 undef), (D32920.getD 47 undef), (D32920.getD 48 undef), undef, undef, undef, undef, undef] [] w') → X E ds wz) FUEL (fun X h => kc (by kernel_rfl) rfl (h I31868 0 [.slice A31769 p1.length c31770, .int .u8 p2, (D31833.getD 0 undef), (D31833.getD 1 undef), (D31833.getD 2 undef), undef, undef, (D31833.getD 3 undef), (D31833.getD 4 undef), (D31833.getD 5 undef), (D31833.getD 6 undef), (D31833.getD 7 undef), (D31833.getD 8 undef), (D31833.getD 9 undef), .bool x31834, undef, .int .i64 p0, .slice A31769 p1.length c31770, .pointer (some ⟨b31854, 0, none⟩), .pointer (some ⟨b31854, 0, none⟩), .bool false, .int .u8 p2, .int .i64 (IntKind.i64.wrap p2), .int .i64 (Int.tmod (IntKind.i64.wrap p2) 40), .int .i64 (IntKind.i64.wrap (1 + (Int.tmod (IntKind.i64.wrap p2) 40))), .pointer (some ⟨b31854, 0, none⟩), .int .i64 (IntKind.i64.wrap (1 + (Int.tmod (IntKind.i64.wrap p2) 40))), .int .i64 x31862, undef, undef, undef, undef, undef, undef, undef, undef, undef, undef, undef, undef, undef, (D31833.getD 14 undef), undef, undef, (D31833.getD 15 undef), undef, undef, undef, undef] _ hf s kk rp31860 eg0)) (fun _ _ _ hJ => hJ (fun _ _ _ => False) (by intro I32923 x32921 D32920 w32922 hf s kk rp31860 eg0; exact noneS hf)) ?_
        intro X33447 hX33448
        refine fun n33185 _ _ _ hJ => hJ (X33447 n33185) ?_
        intro I32923 x32921 D32920 w32922 hf s kk rp31860 eg0
        refine hX33448 _ _ _ _ ?_
        replace hf : g4_l2B p0 p2 x31853 x31862 (g4_l2 p0 p2 x31853 x31862 n33185) x32921 = some r := hf
        generalize hrec33186 : g4_l2 p0 p2 x31853 x31862 n33185 = rec33184 at hf
        unfold g4_l2B at hf
        refine WPK.seq ?_
        refine WPK.seq ?_
        refine WPK.region ?_
        obtain ⟨x33190, hx33191, hf⟩ := bindS hf
        refine RW.seg hT 5 [] [(37, .int .i64 x33190)] [.int .i64 x32921, .int .i64 p0, .int .i64 (IntKind.i64.wrap (1 + (Int.tmod (IntKind.i64.wrap p2) 40))), .int .i64 x33190, .bool (decide (x32921 ≤ x33190))] [.veq (.int .i64 (IntKind.i64.wrap (p0 - (IntKind.i64.wrap (1 + (Int.tmod (IntKind.i64.wrap p2) 40)))))) (.int .i64 x33190)] (by kernel_rfl) (int_v (someS hx33191)) ?_
        refine RW.nil ?_
        by_cases h33192 : x32921 ≤ x33190
        · have hf := iteT h33192 hf
          refine WPK.condT (Eq.trans (b := .bool (decide (x32921 ≤ x33190))) (by kernel_rfl) (bo_t h33192)) ?_
          refine WPK.skip ?_
          refine WPK.seq ?_
          refine WPK.block ?_
          refine WPK.seq ?_
          refine WPK.region ?_
          refine RW.seg hT 1 [] [] [.bool true] [] (by kernel_rfl) (trivial) ?_
          refine RW.nil ?_
          refine WPK.seq ?_
          refine WPK.seq ?_
          refine WPK.region ?_
          refine RW.seg hT 2 [] [] [.int .i64 (IntKind.i64.wrap (1 + (Int.tmod (IntKind.i64.wrap p2) 40))), .int .i64 0] [] (by kernel_rfl) (trivial) ?_
          refine RW.nil ?_
          refine WPK.block ?_
          refine WPK.loop' (J := fun n33424 E ds wz => ∀ X : Kont, (∀ (I33404 : Nat → Prop) (x33401 : Bool) (x33402 : Int) (D33400 : List Value) (w' : World), g4_l3 p2 x31853 x31862 x32921 rec33184 n33424 x33401 x33402 = some r → St w0 M I33404 ((.blk b31854 (.cells #[.int .i64 x31853.n, .slice A31855 n31856 c31857] 53 (0, 0))) :: (.sl (.slice A31855 n31856 c31857) 61 1 n31856 cl31858) :: F) w' → Kp I w I33404 w' → RepL (Rp.int .u64) I33404 w' cl31858 x31853.w → Elems (Rp.int .u8) I33404 w' (some ⟨0, 0, none⟩) TAB0 → X [.int .i64 p0, (D33400.getD 0 undef), (D33400.getD 1 undef), (D33400.getD 2 undef), (D33400.getD 3 undef), (D33400.getD 4 undef), .bool false, .pointer (some ⟨b31854, 0, none⟩), .int .i64 (IntKind.i64.wrap (1 + (Int.tmod (IntKind.i64.wrap p2) 40))), .int .i64 x31862, .int .i64 x32921, .bool x33401, (D33400.getD 5 undef), (D33400.getD 6 undef), (D33400.getD 7 undef), (D33400.getD 8 undef), (D33400.getD 9 undef), (D33400.getD 10 undef), (D33400.getD 11 undef), (D33400.getD 12 undef), (D33400.getD 13 undef), (D33400.getD 14 undef), (D33400.getD 15 undef), (D33400.getD 16 undef), (D33400.getD 17 undef), (D33400.getD 18 undef), (D33400.getD 19 undef), (D33400.getD 20 undef), (D33400.getD 21 undef), (D33400.getD 22 undef), (D33400.getD 23 undef), (D33400.getD 24 undef), (D33400.getD 25 undef), (D33400.getD 26 undef), .int .i64 x32921, .int .i64 p0, .int .i64 (IntKind.i64.wrap (1 + (Int.tmod (IntKind.i64.wrap p2) 40))), .int .i64 x33190, .bool (decide (x32921 ≤ x33190)), (D32920.getD 33 undef), (D32920.getD 34 undef), .int .i64 (IntKind.i64.wrap (1 + (Int.tmod (IntKind.i64.wrap p2) 40))), .int .i64 x33402, (D33400.getD 27 undef), (D33400.getD 28 undef), (D33400.getD 29 undef), (D33400.getD 30 undef), (D33400.getD 31 undef), (D33400.getD 32 undef), (D33400.getD 33 undef), (D33400.getD 34 undef), (D33400.getD 35 undef), (D33400.getD 36 undef), (D33400.getD 37 undef), (D32920.getD 48 undef), undef, undef, undef, undef, undef] [] w') → X E ds wz) FUEL (fun X h => kc (by kernel_rfl) rfl (h I32923 true 0 [(D32920.getD 0 undef), (D32920.getD 1 undef), (D32920.getD 2 undef), (D32920.getD 3 undef), (D32920.getD 4 undef), (D32920.getD 6 undef), (D32920.getD 7 undef), (D32920.getD 8 undef), (D32920.getD 9 undef), (D32920.getD 10 undef), (D32920.getD 11 undef), (D32920.getD 12 undef), (D32920.getD 13 undef), (D32920.getD 14 undef), (D32920.getD 15 undef), (D32920.getD 16 undef), (D32920.getD 17 undef), (D32920.getD 18 undef), (D32920.getD 19 undef), (D32920.getD 20 undef), (D32920.getD 21 undef), (D32920.getD 22 undef), (D32920.getD 23 undef), (D32920.getD 24 undef), (D32920.getD 25 undef), (D32920.getD 26 undef), (D32920.getD 27 undef), (D32920.getD 37 undef), (D32920.getD 38 undef), (D32920.getD 39 undef), (D32920.getD 40 undef), (D32920.getD 41 undef), (D32920.getD 42 undef), (D32920.getD 43 undef), (D32920.getD 44 undef), (D32920.getD 45 undef), (D32920.getD 46 undef), (D32920.getD 47 undef)] _ hf s kk rp31860 eg0)) (fun _ _ _ hJ => hJ (fun _ _ _ => False) (by intro I33404 x33401 x33402 D33400 w33403 hf s kk rp31860 eg0; exact noneS hf)) ?_
          intro X33445 hX33446
          refine fun n33424 _ _ _ hJ => hJ (X33445 n33424) ?_
          intro I33404 x33401 x33402 D33400 w33403 hf s kk rp31860 eg0
          refine hX33446 _ _ _ _ ?_
          replace hf : g4_l3B p2 x31853 x31862 x32921 rec33184 (g4_l3 p2 x31853 x31862 x32921 rec33184 n33424) x33401 x33402 = some r := hf
          generalize hrec33425 : g4_l3 p2 x31853 x31862 x32921 rec33184 n33424 = rec33423 at hf
          unfold g4_l3B at hf
          refine WPK.seq ?_
          refine WPK.region ?_
          refine RW.seg hT 1 [] [] [.bool (decide (x33402 < (IntKind.i64.wrap (1 + (Int.tmod (IntKind.i64.wrap p2) 40)))))] [] (by kernel_rfl) (trivial) ?_
          refine RW.nil ?_
          refine WPK.seq ?_
          by_cases h33427 : x33402 < (IntKind.i64.wrap (1 + (Int.tmod (IntKind.i64.wrap p2) 40)))
          · have hf := iteT h33427 hf
            refine WPK.condT (Eq.trans (b := .bool (decide (x33402 < (IntKind.i64.wrap (1 + (Int.tmod (IntKind.i64.wrap p2) 40)))))) (by kernel_rfl) (bo_t h33427)) ?_
            refine WPK.skip ?_
            refine WPK.seq ?_
            refine WPK.block ?_
            refine WPK.seq ?_
            refine WPK.region ?_
            refine RW.seg hT 2 [] [] [.int .i64 x33402, .int .i64 x33402] [] (by kernel_rfl) (trivial) ?_
            refine RW.nil ?_
            refine WPK.region ?_
            refine RW.seg hT 1 [] [] [.bool x33401] [] (by kernel_rfl) (trivial) ?_
            by_cases h33436 : x33401 = true
            · have hf := iteT h33436 hf
              refine RW.seg hT 5 [] [(46, .bool true)] [.bool true, .pointer (some ⟨b31854, 0, none⟩), .int .i64 x32921, .int .i64 x33402, .int .i64 (IntKind.i64.wrap (x32921 + x33402))] [.veq (.bool (x33401)) (.bool true)] (by kernel_rfl) (b_t h33436) ?_
              obtain ⟨x33437, hx33438, hf⟩ := bindS hf
              refine RW.op (by kernel_rfl) (OK.call' en13 (by kernel_rfl) (c13 (F := F) x31853 (IntKind.i64.wrap (x32921 + x33402)) b31854 A31855 n31856 c31857 cl31858 hn31859 rp31860 s hx33438) ?_)
              intro X33441 hX33442
              refine fun _ _ hJ => hJ X33441 ?_
              intro I33443 w33439 s k33440
              refine hX33442 _ _ ?_
              replace rp31860 := rp31860.st k33440
              replace eg0 := eg0.st k33440
              replace kk := kk.trans k33440
              refine RW.seg hT 2 [] [] [.bool x33437, .bool x33437] [] (by kernel_rfl) (trivial) ?_
              refine RW.nil ?_
              refine WPK.region ?_
              refine RW.seg hT 2 [] [] [.int .i64 (IntKind.i64.wrap (x33402 + 1)), .int .i64 (IntKind.i64.wrap (x33402 + 1))] [] (by kernel_rfl) (trivial) ?_
              refine RW.nil ?_
              subst hrec33425
              exact ⟨n33424, Nat.le_refl _, fun X h => kc (by kernel_rfl) rfl (h I33443 x33437 (IntKind.i64.wrap (x33402 + 1)) [(D33400.getD 0 undef), (D33400.getD 1 undef), (D33400.getD 2 undef), (D33400.getD 3 undef), (D33400.getD 4 undef), .int .i64 x33402, (D33400.getD 6 undef), (D33400.getD 7 undef), (D33400.getD 8 undef), (D33400.getD 9 undef), (D33400.getD 10 undef), (D33400.getD 11 undef), (D33400.getD 12 undef), (D33400.getD 13 undef), (D33400.getD 14 undef), (D33400.getD 15 undef), (D33400.getD 16 undef), (D33400.getD 17 undef), (D33400.getD 18 undef), (D33400.getD 19 undef), (D33400.getD 20 undef), (D33400.getD 21 undef), (D33400.getD 22 undef), (D33400.getD 23 undef), (D33400.getD 24 undef), (D33400.getD 25 undef), (D33400.getD 26 undef), .bool (decide (x33402 < (IntKind.i64.wrap (1 + (Int.tmod (IntKind.i64.wrap p2) 40))))), .int .i64 x33402, .bool x33401, .bool true, .pointer (some ⟨b31854, 0, none⟩), .int .i64 x32921, .int .i64 x33402, .int .i64 (IntKind.i64.wrap (x32921 + x33402)), .bool x33437, .bool x33437, .int .i64 (IntKind.i64.wrap (x33402 + 1))] _ hf s kk rp31860 eg0)⟩
            · have hf := iteF h33436 hf
              refine RW.seg hT 8 [] [(46, .bool false)] [.bool false, undef, undef, undef, undef, undef, .bool false, .bool false] [.veq (.bool (x33401)) (.bool false)] (by kernel_rfl) (b_f h33436) ?_
              refine RW.nil ?_
              refine WPK.region ?_
              refine RW.seg hT 2 [] [] [.int .i64 (IntKind.i64.wrap (x33402 + 1)), .int .i64 (IntKind.i64.wrap (x33402 + 1))] [] (by kernel_rfl) (trivial) ?_
              refine RW.nil ?_
              subst hrec33425
              exact ⟨n33424, Nat.le_refl _, fun X h => kc (by kernel_rfl) rfl (h I33404 false (IntKind.i64.wrap (x33402 + 1)) [(D33400.getD 0 undef), (D33400.getD 1 undef), (D33400.getD 2 undef), (D33400.getD 3 undef), (D33400.getD 4 undef), .int .i64 x33402, (D33400.getD 6 undef), (D33400.getD 7 undef), (D33400.getD 8 undef), (D33400.getD 9 undef), (D33400.getD 10 undef), (D33400.getD 11 undef), (D33400.getD 12 undef), (D33400.getD 13 undef), (D33400.getD 14 undef), (D33400.getD 15 undef), (D33400.getD 16 undef), (D33400.getD 17 undef), (D33400.getD 18 undef), (D33400.getD 19 undef), (D33400.getD 20 undef), (D33400.getD 21 undef), (D33400.getD 22 undef), (D33400.getD 23 undef), (D33400.getD 24 undef), (D33400.getD 25 undef), (D33400.getD 26 undef), .bool (decide (x33402 < (IntKind.i64.wrap (1 + (Int.tmod (IntKind.i64.wrap p2) 40))))), .int .i64 x33402, .bool x33401, .bool false, undef, undef, undef, undef, undef, .bool false, .int .i64 (IntKind.i64.wrap (x33402 + 1))] _ hf s kk rp31860 eg0)⟩
          · have hf := iteF h33427 hf
            refine WPK.condF (Eq.trans (b := .bool (decide (x33402 < (IntKind.i64.wrap (1 + (Int.tmod (IntKind.i64.wrap p2) 40)))))) (by kernel_rfl) (bo_f h33427)) ?_
            refine WPK.exit (blockQ.same ?_)
            refine WPK.seq ?_
            refine WPK.region ?_
            refine RW.seg hT 1 [] [] [.bool x33401] [] (by kernel_rfl) (trivial) ?_
            refine RW.nil ?_
            by_cases h33444 : x33401 = true
            · have hf := iteT h33444 hf
              refine WPK.condT (Eq.trans (b := .bool x33401) (by kernel_rfl) (b_t h33444)) ?_
              refine WPK.seq ?_
              refine WPK.region ?_
              refine RW.seg hT 4 [] [(57, .bool (decide (x31862 = x32921)))] [.int .i64 x31862, .int .i64 x32921, .bool (decide (x31862 = x32921)), .bool (decide (x31862 = x32921))] [.veq (.bool (x31862 == x32921)) (.bool (decide (x31862 = x32921)))] (by kernel_rfl) (eq_v) ?_
              refine RW.nil ?_
              refine WPK.ret (blockQ.ret (blockQ.ret (?_)))
              obtain rfl := someS hf
              refine Fin.of (rs := [.tmp 6]) hT [] (.bool (decide (x31862 = x32921))) [] rfl (by kernel_rfl) (trivial) ?_
              replace s := s.pick [] 2 rfl
              exact fun X h => vc rfl (h I33404 _ s kk)
            · have hf := iteF h33444 hf
              refine WPK.condF (Eq.trans (b := .bool x33401) (by kernel_rfl) (b_f h33444)) ?_
              refine WPK.skip ?_
              refine WPK.region ?_
              refine RW.seg hT 3 [] [] [.int .i64 x32921, .int .i64 (IntKind.i64.wrap (x32921 + 1)), .int .i64 (IntKind.i64.wrap (x32921 + 1))] [] (by kernel_rfl) (trivial) ?_
              refine RW.nil ?_
              subst hrec33186
              exact ⟨n33185, Nat.le_refl _, fun X h => kc (by kernel_rfl) rfl (h I33404 (IntKind.i64.wrap (x32921 + 1)) [(D33400.getD 0 undef), (D33400.getD 1 undef), (D33400.getD 2 undef), (D33400.getD 3 undef), (D33400.getD 4 undef), .bool x33401, (D33400.getD 5 undef), (D33400.getD 6 undef), (D33400.getD 7 undef), (D33400.getD 8 undef), (D33400.getD 9 undef), (D33400.getD 10 undef), (D33400.getD 11 undef), (D33400.getD 12 undef), (D33400.getD 13 undef), (D33400.getD 14 undef), (D33400.getD 15 undef), (D33400.getD 16 undef), (D33400.getD 17 undef), (D33400.getD 18 undef), (D33400.getD 19 undef), (D33400.getD 20 undef), (D33400.getD 21 undef), (D33400.getD 22 undef), (D33400.getD 23 undef), (D33400.getD 24 undef), (D33400.getD 25 undef), (D33400.getD 26 undef), .int .i64 x32921, .int .i64 p0, .int .i64 (IntKind.i64.wrap (1 + (Int.tmod (IntKind.i64.wrap p2) 40))), .int .i64 x33190, .bool (decide (x32921 ≤ x33190)), .int .i64 x32921, .int .i64 (IntKind.i64.wrap (x32921 + 1)), .int .i64 (IntKind.i64.wrap (1 + (Int.tmod (IntKind.i64.wrap p2) 40))), .int .i64 x33402, .bool (decide (x33402 < (IntKind.i64.wrap (1 + (Int.tmod (IntKind.i64.wrap p2) 40))))), (D33400.getD 28 undef), (D33400.getD 29 undef), (D33400.getD 30 undef), (D33400.getD 31 undef), (D33400.getD 32 undef), (D33400.getD 33 undef), (D33400.getD 34 undef), (D33400.getD 35 undef), (D33400.getD 36 undef), (D33400.getD 37 undef), .bool x33401] _ hf s kk rp31860 eg0)⟩
        · have hf := iteF h33192 hf
          refine WPK.condF (Eq.trans (b := .bool (decide (x32921 ≤ x33190))) (by kernel_rfl) (bo_f h33192)) ?_
          refine WPK.exit (blockQ.same ?_)
          refine WPK.seq ?_
          refine WPK.region ?_
          refine RW.seg hT 3 [] [(59, .bool (decide (x31862 = (-1))))] [.int .i64 x31862, .bool (decide (x31862 = (-1))), .bool (decide (x31862 = (-1)))] [.veq (.bool (x31862 == (-1))) (.bool (decide (x31862 = (-1))))] (by kernel_rfl) (eq_v) ?_
          refine RW.nil ?_
          refine WPK.ret (?_)
          obtain rfl := someS hf
          refine Fin.of (rs := [.tmp 6]) hT [] (.bool (decide (x31862 = (-1)))) [] rfl (by kernel_rfl) (trivial) ?_
          replace s := s.pick [] 2 rfl
          exact fun X h => vc rfl (h I32923 _ s kk)
  · refine WPK.region ?_
    obtain ⟨x33451, hx33452, hf⟩ := bindS hf
    refine RW.op (by kernel_rfl) (OK.call' en8 (by kernel_rfl) (c8 (F := F) eg0 s hx33452) ?_)
    intro X33455 hX33456
    refine fun _ _ hJ => hJ X33455 ?_
    intro I33457 w33453 s k33454
    refine hX33456 _ _ ?_
    replace e31772 := e31772.st k33454
    replace eg0 := eg0.st k33454
    replace kk := kk.trans k33454
    refine RW.seg hT 1 [] [(14, .bool (decide (¬ (x33451 = true))))] [.bool (decide (¬ (x33451 = true)))] [.veq (.bool (!x33451)) (.bool (decide (¬ (x33451 = true))))] (by kernel_rfl) (not_b) ?_
    by_cases h33458 : ¬ (x33451 = true)
    · have hf := iteT h33458 hf
      refine RW.seg hT 6 [] [(15, .bool true)] [.bool true, undef, undef, undef, undef, .bool true] [.veq (.bool (decide (¬ (x33451 = true)))) (.bool true)] (by kernel_rfl) (bo_t h33458) ?_
      refine RW.nil ?_
      exact fun X h => kc (by kernel_rfl) rfl (h I33457 true [undef, undef, undef, .bool x33451, .bool (decide (¬ (x33451 = true))), .bool true, undef, undef, undef, undef, undef, undef, undef, undef, undef, undef] _ hf s kk e31772 eg0)
    · have hf := iteF h33458 hf
      refine RW.seg hT 3 [] [(15, .bool false)] [.bool false, .int .i64 p0, .slice A31769 p1.length c31770] [.veq (.bool (decide (¬ (x33451 = true)))) (.bool false)] (by kernel_rfl) (bo_f h33458) ?_
      obtain ⟨x33459, hx33460, hf⟩ := bindS hf
      refine RW.op (by kernel_rfl) (OK.call' en9 (by kernel_rfl) (c9 (F := F) p0 p1 A31769 c31770 hc31771 e31772 s hx33460) ?_)
      intro X33463 hX33464
      refine fun _ _ hJ => hJ X33463 ?_
      intro I33465 w33461 s k33462
      refine hX33464 _ _ ?_
      replace e31772 := e31772.st k33462
      replace eg0 := eg0.st k33462
      replace kk := kk.trans k33462
      refine RW.seg hT 2 [] [(19, .bool (decide (¬ (x33459 = true))))] [.bool (decide (¬ (x33459 = true))), .bool (decide (¬ (x33459 = true)))] [.veq (.bool (!x33459)) (.bool (decide (¬ (x33459 = true))))] (by kernel_rfl) (not_b) ?_
      refine RW.nil ?_
      exact fun X h => kc (by kernel_rfl) rfl (h I33465 (decide (¬ (x33459 = true))) [undef, undef, undef, .bool x33451, .bool (decide (¬ (x33451 = true))), .bool false, .int .i64 p0, .slice A31769 p1.length c31770, .bool x33459, .bool (decide (¬ (x33459 = true))), undef, undef, undef, undef, undef, undef] _ hf s kk e31772 eg0)
theorem c17 {w0 w : World} {M I : Nat → Prop} {F : List It} (p0 : T_extent_Set) (b33648 : Nat) (A33649 : Option Addr) (n33650 : Nat) (c33651 : Nat) (cl33652 : List Value) (hn33653 : n33650 = p0.w.length) (rp33654 : RepL (Rp.int .u64) I w cl33652 p0.w) (s : St w0 M I ((.blk b33648 (.cells #[.int .i64 p0.n, .slice A33649 n33650 c33651] 53 (0, 0))) :: (.sl (.slice A33649 n33650 c33651) 61 1 n33650 cl33652) :: F) w) {r : Int} (hf : g17 p0 = some r) :
    Ret Tryd.prog 17 [.pointer (some ⟨b33648, 0, none⟩)] w fun v wz => ∀ X : Value → World → Prop, (∀ (I' : Nat → Prop) (w' : World), St w0 M I' ((.blk b33648 (.cells #[.int .i64 p0.n, .slice A33649 n33650 c33651] 53 (0, 0))) :: (.sl (.slice A33649 n33650 c33651) 61 1 n33650 cl33652) :: F) w' → Kp I w I' w' → X (.int .i64 r) w') → X v wz := by
  have kk : Kp I w I w := Kp.refl
  unfold g17 at hf
  refine Ret.of Tryd.func17 rfl ?_
  refine WPK.seq ?_
  refine WPK.region ?_
  refine RW.seg hT 1 [] [] [.int .i64 0] [] (by kernel_rfl) (trivial) ?_
  refine RW.nil ?_
  refine WPK.seq ?_
  refine WPK.seq ?_
  refine WPK.region ?_
  refine RW.seg hT 1 [] [] [.pointer (some ⟨b33648, 0, none⟩)] [] (by kernel_rfl) (trivial) ?_
  obtain ⟨x33664, hx33665, hf⟩ := bindS hf
  refine RW.op (by kernel_rfl) (OK.call' en34 (by kernel_rfl) (c34 (F := F) p0 b33648 A33649 n33650 c33651 cl33652 hn33653 rp33654 s hx33665) ?_)
  intro X33668 hX33669
  refine fun _ _ hJ => hJ X33668 ?_
  intro I33670 w33666 s k33667
  refine hX33669 _ _ ?_
  replace rp33654 := rp33654.st k33667
  replace kk := kk.trans k33667
  refine RW.nil ?_
  by_cases h33671 : x33664 = true
  · have hf := iteT h33671 hf
    refine WPK.condT (Eq.trans (b := .bool x33664) (by kernel_rfl) (b_t h33671)) ?_
    refine WPK.seq ?_
    refine WPK.region ?_
    refine RW.seg hT 1 [] [] [.int .i64 0] [] (by kernel_rfl) (trivial) ?_
    refine RW.nil ?_
    refine WPK.ret (?_)
    obtain rfl := someS hf
    refine Fin.of (rs := [.tmp 2]) hT [] (.int .i64 0) [] rfl (by kernel_rfl) (trivial) ?_
    exact fun X h => vc rfl (h I33670 _ s kk)
  · have hf := iteF h33671 hf
    refine WPK.condF (Eq.trans (b := .bool x33664) (by kernel_rfl) (b_f h33671)) ?_
    refine WPK.skip ?_
    refine WPK.seq ?_
    refine WPK.region ?_
    refine RW.seg hT 5 [.int .i64 p0.n] [] [.pointer (some ⟨b33648, 0, none⟩), .pointer (some ⟨b33648, 0, none⟩), .pointer (some ⟨b33648, 0, none⟩), .int .i64 p0.n, .int .i64 p0.n] [.cell ⟨b33648, 0, none⟩ (.int .i64 p0.n)] (by kernel_rfl) (s.cell (i := 0) (off := 0) rfl rfl) ?_
    refine RW.nil ?_
    refine WPK.ret (?_)
    obtain rfl := someS hf
    refine Fin.of (rs := [.tmp 2]) hT [] (.int .i64 p0.n) [] rfl (by kernel_rfl) (trivial) ?_
    exact fun X h => vc rfl (h I33670 _ s kk)
end Go.Proofs.YtgcielbnmlfjbaaDoor
