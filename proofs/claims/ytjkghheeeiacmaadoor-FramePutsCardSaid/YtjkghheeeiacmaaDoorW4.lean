/- PRINTED BY sy.py: each call computes what the plain function of its number tells. -/
import Derived.Test.YtjkghheeeiacmaaDoorW3
namespace Go.Proofs.YtjkghheeeiacmaaDoor
open Go Go.SX Go.RowKit
set_option maxRecDepth 100000
set_option linter.unusedVariables false
attribute [local irreducible] WPK RW RD Ret SX.Fin SX.Any opK RoundBeg RoundEnd RangeEnd Rounds
theorem c4 {w0 w : World} {M I : Nat → Prop} {F : List It} (p0 : T_api_Frame) (p1 : Int) (A22426 : Option Addr) (c22427 : Nat) (hc22428 : (p0.Data.length ≤ c22427 ∧ c22427 ≤ 9223372036854775807)) (e22429 : Elems (Rp.int .u8) I w A22426 p0.Data) (eg0 : Elems (Rp.int .u32) I w (some ⟨0, 0, none⟩) TAB0) (s : St w0 M I (F) w) {r : Bool} (hf : g4 p0 p1 = some r) :
    Ret Tryd.prog 4 [.agg #[.int .i64 p0.Kind, .int .i64 p0.Page, .int .u64 p0.Epoch, .slice A22426 p0.Data.length c22427], .int .i64 p1] w fun v wz => ∀ X : Value → World → Prop, (∀ (I' : Nat → Prop) (w' : World), St w0 M I' (F) w' → Kp I w I' w' → X (.bool r) w') → X v wz := by
  have kk : Kp I w I w := Kp.refl
  unfold g4 at hf
  refine Ret.of Tryd.func4 rfl ?_
  refine WPK.seq ?_
  refine WPK.region ?_
  refine RW.op (by kernel_rfl) (OK.new hT (f := fun b => .pointer (some ⟨b, 0, none⟩)) (cs := [.int .i64 p0.Kind, .int .i64 p0.Page, .int .u64 p0.Epoch, .slice A22426 p0.Data.length c22427]) (e := 25) (c := .tt) s (by kernel_rfl) trivial ?_)
  rintro w22430 b22431 s k22432 -
  replace e22429 := e22429.st k22432
  replace eg0 := eg0.st k22432
  replace kk := kk.trans k22432
  refine RW.seg hT 1 [] [] [.bool false] [] (by kernel_rfl) (trivial) ?_
  refine RW.nil ?_
  refine WPK.seq ?_
  refine WPK.seq ?_
  refine WPK.cut' (Kn fun E ds wz => ∀ X : Kont, (∀ (I22529 : Nat → Prop) (x22527 : Bool) (D22526 : List Value) (w' : World), g4_j1 p0 p1 x22527 = some r → St w0 M I22529 ((.blk b22431 (.cells #[.int .i64 p0.Kind, .int .i64 p0.Page, .int .u64 p0.Epoch, .slice A22426 p0.Data.length c22427] 25 (0, 0))) :: F) w' → Kp I w I22529 w' → Elems (Rp.int .u8) I22529 w' A22426 p0.Data → Elems (Rp.int .u32) I22529 w' (some ⟨0, 0, none⟩) TAB0 → X [(D22526.getD 0 undef), .int .i64 p1, .pointer (some ⟨b22431, 0, none⟩), (D22526.getD 1 undef), .bool false, undef, undef, undef, (D22526.getD 2 undef), (D22526.getD 3 undef), (D22526.getD 4 undef), (D22526.getD 5 undef), (D22526.getD 6 undef), (D22526.getD 7 undef), (D22526.getD 8 undef), .bool x22527, undef, undef, (D22526.getD 9 undef), undef, undef, undef, undef, undef, (D22526.getD 10 undef), undef, undef, undef, (D22526.getD 11 undef), (D22526.getD 12 undef), undef, undef, undef, undef, undef, undef, undef, undef, undef, undef, undef, undef, undef, undef, undef, undef, undef, (D22526.getD 13 undef), (D22526.getD 14 undef), undef, undef, undef, undef] [] w') → X E ds wz) ?_ ?_
  · intro X26328 hX26329
    refine fun _ _ _ hJ => hJ X26328 ?_
    intro I22529 x22527 D22526 w22528 hf s kk e22429 eg0
    refine hX26329 _ _ _ ?_
    unfold g4_j1 at hf
    by_cases h22530 : x22527 = true
    · have hf := iteT h22530 hf
      refine WPK.condT (Eq.trans (b := .bool x22527) (by kernel_rfl) (b_t h22530)) ?_
      refine WPK.seq ?_
      refine WPK.region ?_
      obtain ⟨x22531, hx22532, hf⟩ := bindS hf
      refine RW.op (by kernel_rfl) (OK.call' en9 (by kernel_rfl) (c9 (F := (.blk b22431 (.cells #[.int .i64 p0.Kind, .int .i64 p0.Page, .int .u64 p0.Epoch, .slice A22426 p0.Data.length c22427] 25 (0, 0))) :: F) eg0 s hx22532) ?_)
      intro X22535 hX22536
      refine fun _ _ hJ => hJ X22535 ?_
      intro I22537 w22533 s k22534
      refine hX22536 _ _ ?_
      replace e22429 := e22429.st k22534
      replace eg0 := eg0.st k22534
      replace kk := kk.trans k22534
      refine RW.seg hT 1 [] [] [.bool x22531] [] (by kernel_rfl) (trivial) ?_
      refine RW.nil ?_
      refine WPK.ret (?_)
      obtain rfl := someS hf
      refine Fin.of (rs := [.tmp 4]) hT [] (.bool x22531) [] rfl (by kernel_rfl) (trivial) ?_
      replace s := s.pick [] 1 rfl
      exact fun X h => vc rfl (h I22537 _ s kk)
    · have hf := iteF h22530 hf
      refine WPK.condF (Eq.trans (b := .bool x22527) (by kernel_rfl) (b_f h22530)) ?_
      refine WPK.skip ?_
      refine WPK.seq ?_
      refine WPK.region ?_
      refine RW.seg hT 1 [.agg #[.int .i64 p0.Kind, .int .i64 p0.Page, .int .u64 p0.Epoch, .slice A22426 p0.Data.length c22427]] [] [.agg #[.int .i64 p0.Kind, .int .i64 p0.Page, .int .u64 p0.Epoch, .slice A22426 p0.Data.length c22427]] [.cells ⟨b22431, 0, none⟩ [.int .i64 p0.Kind, .int .i64 p0.Page, .int .u64 p0.Epoch, .slice A22426 p0.Data.length c22427] 4] (by kernel_rfl) (s.cells (i := 0) rfl rfl rfl) ?_
      obtain ⟨x22538, hx22539, hf⟩ := bindS hf
      refine RW.op (by kernel_rfl) (OK.call' en11 (by kernel_rfl) (c11 (F := (.blk b22431 (.cells #[.int .i64 p0.Kind, .int .i64 p0.Page, .int .u64 p0.Epoch, .slice A22426 p0.Data.length c22427] 25 (0, 0))) :: F) p0 A22426 c22427 hc22428 e22429 eg0 s hx22539) ?_)
      intro X22542 hX22543
      refine fun _ _ hJ => hJ X22542 ?_
      intro I22544 A22545 n22546 c22547 cl22548 w22540 s k22541 hn22549 rp22550
      refine hX22543 _ _ ?_
      replace e22429 := e22429.st k22541
      replace eg0 := eg0.st k22541
      replace kk := kk.trans k22541
      refine RW.seg hT 5 [] [] [.tuple #[.slice A22545 n22546 c22547, .int .i64 x22538.2], .slice A22545 n22546 c22547, .int .i64 x22538.2, .slice A22545 n22546 c22547, .int .i64 x22538.2] [] (by kernel_rfl) (trivial) ?_
      refine RW.nil ?_
      refine WPK.seq ?_
      refine WPK.seq ?_
      refine WPK.region ?_
      refine RW.seg hT 2 [] [(23, .bool (decide (x22538.2 ≠ 0)))] [.int .i64 x22538.2, .bool (decide (x22538.2 ≠ 0))] [.veq (.bool (x22538.2 != 0)) (.bool (decide (x22538.2 ≠ 0)))] (by kernel_rfl) (ne_v) ?_
      refine RW.nil ?_
      by_cases h22553 : x22538.2 ≠ 0
      · have hf := iteT h22553 hf
        refine WPK.condT (Eq.trans (b := .bool (decide (x22538.2 ≠ 0))) (by kernel_rfl) (bo_t h22553)) ?_
        refine WPK.seq ?_
        refine WPK.region ?_
        refine RW.seg hT 4 [] [(25, .int .i64 (x22538.1.length : Int)), (26, .bool (decide ((x22538.1.length : Int) = 0)))] [.slice A22545 n22546 c22547, .int .i64 (x22538.1.length : Int), .bool (decide ((x22538.1.length : Int) = 0)), .bool (decide ((x22538.1.length : Int) = 0))] [.veq (.int .i64 (n22546 : Nat)) (.int .i64 (x22538.1.length : Int)), .veq (.bool ((x22538.1.length : Int) == 0)) (.bool (decide ((x22538.1.length : Int) = 0)))] (by kernel_rfl) (⟨len_v hn22549, eq_v⟩) ?_
        refine RW.nil ?_
        refine WPK.ret (?_)
        obtain rfl := someS hf
        refine Fin.of (rs := [.tmp 4]) hT [] (.bool (decide ((x22538.1.length : Int) = 0))) [] rfl (by kernel_rfl) (trivial) ?_
        replace s := s.pick [] 2 rfl
        exact fun X h => vc rfl (h I22544 _ s kk)
      · have hf := iteF h22553 hf
        refine WPK.condF (Eq.trans (b := .bool (decide (x22538.2 ≠ 0))) (by kernel_rfl) (bo_f h22553)) ?_
        refine WPK.skip ?_
        refine WPK.seq ?_
        refine WPK.region ?_
        refine RW.seg hT 2 [] [] [.slice A22545 n22546 c22547, .int .i64 p1] [] (by kernel_rfl) (trivial) ?_
        refine RW.op (by kernel_rfl) (OK.inl (args := [.slice A22545 n22546 c22547, .int .i64 p1]) en8 (by kernel_rfl) ?_)
        intro R22571 hR22572
        refine Ret.cut (fun v wz => ∀ X : Value → World → Prop, (∀ (I24440 : Nat → Prop) (x24430 : Int) (x24431 : Int) (x24432 : Int) (x24433 : (List Int)) (x24438 : Int) (A24434 : Option Addr) (c24435 : Nat) (w' : World), g4_j2 p0 p1 x24430 x24431 x24432 x24433 x24438 = some r → St w0 M I24440 ((.blk b22431 (.cells #[.int .i64 p0.Kind, .int .i64 p0.Page, .int .u64 p0.Epoch, .slice A22426 p0.Data.length c22427] 25 (0, 0))) :: F) w' → Kp I w I24440 w' → (x24433.length ≤ c24435 ∧ c24435 ≤ 9223372036854775807) → Elems (Rp.int .u8) I24440 w' A24434 x24433 → Elems (Rp.int .u8) I24440 w' A22426 p0.Data → Elems (Rp.int .u32) I24440 w' (some ⟨0, 0, none⟩) TAB0 → X (.tuple #[.agg #[.int .i64 x24430, .int .i64 x24431, .int .u64 x24432, .slice A24434 x24433.length c24435], .int .i64 x24438]) w') → X v wz) ?_ ?_
        · refine fun _ _ hJ => hJ R22571 ?_
          intro I24440 x24430 x24431 x24432 x24433 x24438 A24434 c24435 w24439 hf s kk hc24436 e24437 e22429 eg0
          refine hR22572 _ _ ?_
          unfold g4_j2 at hf
          refine RW.seg hT 3 [] [] [.tuple #[.agg #[.int .i64 x24430, .int .i64 x24431, .int .u64 x24432, .slice A24434 x24433.length c24435], .int .i64 x24438], .agg #[.int .i64 x24430, .int .i64 x24431, .int .u64 x24432, .slice A24434 x24433.length c24435], .int .i64 x24438] [] (by kernel_rfl) (trivial) ?_
          refine RW.op (by kernel_rfl) (OK.new hT (f := fun b => .pointer (some ⟨b, 0, none⟩)) (cs := [.int .i64 0, .int .i64 0, .int .u64 0, .slice none 0 0]) (e := 25) (c := .tt) s (by kernel_rfl) trivial ?_)
          rintro w24441 b24442 s k24443 -
          replace e24437 := e24437.st k24443
          replace e22429 := e22429.st k24443
          replace eg0 := eg0.st k24443
          replace kk := kk.trans k24443
          refine RW.op (by kernel_rfl) (OK.store hT (i := 0) (b := b24442) (off := 0) (n := 4) (vs := [.int .i64 x24430, .int .i64 x24431, .int .u64 x24432, .slice A24434 x24433.length c24435]) (cs := [.int .i64 0, .int .i64 0, .int .u64 0, .slice none 0 0]) (e := 25) s (by kernel_rfl) rfl rfl (flat_ok rfl) (Nat.le_of_ble_eq_true rfl) ?_)
          rintro w24444 s k24445 -
          replace e24437 := e24437.st k24445
          replace e22429 := e22429.st k24445
          replace eg0 := eg0.st k24445
          replace kk := kk.trans k24445
          refine RW.seg hT 1 [] [] [.int .i64 x24438] [] (by kernel_rfl) (trivial) ?_
          refine RW.nil ?_
          refine WPK.seq ?_
          refine WPK.cut' (Kn fun E ds wz => ∀ X : Kont, (∀ (I24459 : Nat → Prop) (x24457 : Bool) (D24456 : List Value) (w' : World), g4_j3 x24457 = some r → St w0 M I24459 (F) w' → Kp I w I24459 w' → Elems (Rp.int .u32) I24459 w' (some ⟨0, 0, none⟩) TAB0 → X [(D24456.getD 0 undef), (D24456.getD 1 undef), (D24456.getD 2 undef), (D24456.getD 3 undef), .bool x24457, (D24456.getD 4 undef), (D24456.getD 5 undef), (D24456.getD 6 undef), (D24456.getD 7 undef), (D24456.getD 8 undef), (D24456.getD 9 undef), (D24456.getD 10 undef), (D24456.getD 11 undef), (D24456.getD 12 undef), (D24456.getD 13 undef), (D24456.getD 14 undef), (D24456.getD 15 undef), (D24456.getD 16 undef), (D24456.getD 17 undef), (D24456.getD 18 undef), (D24456.getD 19 undef), (D24456.getD 20 undef), (D24456.getD 21 undef), (D24456.getD 22 undef), (D24456.getD 23 undef), (D24456.getD 24 undef), (D24456.getD 25 undef), (D24456.getD 26 undef), (D24456.getD 27 undef), (D24456.getD 28 undef), (D24456.getD 29 undef), (D24456.getD 30 undef), (D24456.getD 31 undef), (D24456.getD 32 undef), (D24456.getD 33 undef), (D24456.getD 34 undef), (D24456.getD 35 undef), (D24456.getD 36 undef), (D24456.getD 37 undef), (D24456.getD 38 undef), (D24456.getD 39 undef), (D24456.getD 40 undef), (D24456.getD 41 undef), (D24456.getD 42 undef), (D24456.getD 43 undef), (D24456.getD 44 undef), (D24456.getD 45 undef), (D24456.getD 46 undef), (D24456.getD 47 undef), (D24456.getD 48 undef), (D24456.getD 49 undef), (D24456.getD 50 undef), (D24456.getD 51 undef)] [] w') → X E ds wz) ?_ ?_
          · intro X24460 hX24461
            refine fun _ _ _ hJ => hJ X24460 ?_
            intro I24459 x24457 D24456 w24458 hf s kk eg0
            refine hX24461 _ _ _ ?_
            unfold g4_j3 at hf
            refine WPK.ret (?_)
            obtain rfl := someS hf
            refine Fin.of (rs := [.tmp 4]) hT [] (.bool x24457) [] rfl (by kernel_rfl) (trivial) ?_
            exact fun X h => vc rfl (h I24459 _ s kk)
          · refine WPK.region ?_
            refine RW.seg hT 7 [.int .i64 p0.Page] [(34, .bool (decide (x24438 = 0))), (38, .bool (decide (p1 = p0.Page))), (39, .bool (decide ((decide (x24438 = 0)) = (decide (p1 = p0.Page)))))] [.int .i64 x24438, .bool (decide (x24438 = 0)), .int .i64 p1, .pointer (some ⟨b22431, 1, none⟩), .int .i64 p0.Page, .bool (decide (p1 = p0.Page)), .bool (decide ((decide (x24438 = 0)) = (decide (p1 = p0.Page))))] [.veq (.bool (x24438 == 0)) (.bool (decide (x24438 = 0))), .cell ⟨b22431, 1, none⟩ (.int .i64 p0.Page), .veq (.bool (p1 == p0.Page)) (.bool (decide (p1 = p0.Page))), .veq (.bool ((decide (x24438 = 0)) == (decide (p1 = p0.Page)))) (.bool (decide ((decide (x24438 = 0)) = (decide (p1 = p0.Page)))))] (by kernel_rfl) (⟨eq_v, s.cell (i := 1) (off := 1) rfl rfl, eq_v, beq_v⟩) ?_
            by_cases h24462 : (decide (x24438 = 0)) = (decide (p1 = p0.Page))
            · have hf := iteT h24462 hf
              refine RW.seg hT 3 [] [(40, .bool true), (42, .bool (decide (x24438 = 0)))] [.bool true, .int .i64 x24438, .bool (decide (x24438 = 0))] [.veq (.bool (decide ((decide (x24438 = 0)) = (decide (p1 = p0.Page))))) (.bool true), .veq (.bool (x24438 == 0)) (.bool (decide (x24438 = 0)))] (by kernel_rfl) (⟨bo_t h24462, eq_v⟩) ?_
              by_cases h24463 : x24438 = 0
              · have hf := iteT h24463 hf
                refine RW.seg hT 11 [] [(43, .bool true)] [.bool true, undef, undef, undef, undef, undef, undef, undef, .bool true, .bool true, .bool true] [.veq (.bool (decide (x24438 = 0))) (.bool true)] (by kernel_rfl) (bo_t h24463) ?_
                refine RW.nil ?_
                replace s := s.pick [] 2 rfl
                exact fun X h => kc (by kernel_rfl) rfl (h I24440 true [((D22526.getD 0 undef)), .int .i64 p1, .pointer (some ⟨b22431, 0, none⟩), ((D22526.getD 1 undef)), (.slice A22545 n22546 c22547), .int .i64 x24438, .pointer (some ⟨b24442, 0, none⟩), ((D22526.getD 2 undef)), ((D22526.getD 3 undef)), ((D22526.getD 4 undef)), ((D22526.getD 5 undef)), ((D22526.getD 6 undef)), ((D22526.getD 7 undef)), ((D22526.getD 8 undef)), (.bool x22527), (undef), (.tuple #[.slice A22545 n22546 c22547, .int .i64 x22538.2]), (.agg #[.int .i64 p0.Kind, .int .i64 p0.Page, .int .u64 p0.Epoch, .slice A22426 p0.Data.length c22427]), (.tuple #[.slice A22545 n22546 c22547, .int .i64 x22538.2]), (.slice A22545 n22546 c22547), (.int .i64 x22538.2), (.int .i64 x22538.2), (.bool (decide (x22538.2 ≠ 0))), ((D22526.getD 10 undef)), (undef), (undef), .tuple #[.agg #[.int .i64 x24430, .int .i64 x24431, .int .u64 x24432, .slice A24434 x24433.length c24435], .int .i64 x24438], (.slice A22545 n22546 c22547), (.int .i64 p1), .tuple #[.agg #[.int .i64 x24430, .int .i64 x24431, .int .u64 x24432, .slice A24434 x24433.length c24435], .int .i64 x24438], .agg #[.int .i64 x24430, .int .i64 x24431, .int .u64 x24432, .slice A24434 x24433.length c24435], .int .i64 x24438, .int .i64 x24438, .bool (decide (x24438 = 0)), .int .i64 p1, .pointer (some ⟨b22431, 1, none⟩), .int .i64 p0.Page, .bool (decide (p1 = p0.Page)), .bool (decide ((decide (x24438 = 0)) = (decide (p1 = p0.Page)))), .bool true, .int .i64 x24438, .bool (decide (x24438 = 0)), .bool true, undef, undef, undef, undef, undef, undef, undef, .bool true, .bool true] _ hf s kk eg0)
              · have hf := iteF h24463 hf
                refine RW.seg hT 3 [] [(43, .bool false), (45, .bool (decide (x24438 = 41)))] [.bool false, .int .i64 x24438, .bool (decide (x24438 = 41))] [.veq (.bool (decide (x24438 = 0))) (.bool false), .veq (.bool (x24438 == 41)) (.bool (decide (x24438 = 41)))] (by kernel_rfl) (⟨bo_f h24463, eq_v⟩) ?_
                by_cases h24464 : x24438 = 41
                · have hf := iteT h24464 hf
                  refine RW.seg hT 3 [.agg #[.int .i64 x24430, .int .i64 x24431, .int .u64 x24432, .slice A24434 x24433.length c24435]] [(46, .bool true)] [.bool true, .agg #[.int .i64 x24430, .int .i64 x24431, .int .u64 x24432, .slice A24434 x24433.length c24435], .agg #[.int .i64 0, .int .i64 0, .int .u64 0, .slice none 0 0]] [.veq (.bool (decide (x24438 = 41))) (.bool true), .cells ⟨b24442, 0, none⟩ [.int .i64 x24430, .int .i64 x24431, .int .u64 x24432, .slice A24434 x24433.length c24435] 4] (by kernel_rfl) (⟨bo_t h24464, s.cells (i := 0) rfl rfl rfl⟩) ?_
                  obtain ⟨x24465, hx24466, hf⟩ := bindS hf
                  refine RW.op (by kernel_rfl) (OK.call' en12 (by kernel_rfl) (c12 (F := (.blk b24442 (.cells #[.int .i64 x24430, .int .i64 x24431, .int .u64 x24432, .slice A24434 x24433.length c24435] 25 (0, 0))) :: (.blk b22431 (.cells #[.int .i64 p0.Kind, .int .i64 p0.Page, .int .u64 p0.Epoch, .slice A22426 p0.Data.length c22427] 25 (0, 0))) :: F) (T_api_Frame.mk x24430 x24431 x24432 x24433) (T_api_Frame.mk 0 0 0 []) A24434 c24435 none 0 hc24436 e24437 nil_hc Elems.nil s hx24466) ?_)
                  intro X24469 hX24470
                  refine fun _ _ hJ => hJ X24469 ?_
                  intro I24471 w24467 s k24468
                  refine hX24470 _ _ ?_
                  replace e24437 := e24437.st k24468
                  replace e22429 := e22429.st k24468
                  replace eg0 := eg0.st k24468
                  replace kk := kk.trans k24468
                  refine RW.seg hT 4 [] [] [.bool x24465, .bool x24465, .bool x24465, .bool x24465] [] (by kernel_rfl) (trivial) ?_
                  refine RW.nil ?_
                  replace s := s.pick [] 2 rfl
                  exact fun X h => kc (by kernel_rfl) rfl (h I24471 x24465 [((D22526.getD 0 undef)), .int .i64 p1, .pointer (some ⟨b22431, 0, none⟩), ((D22526.getD 1 undef)), (.slice A22545 n22546 c22547), .int .i64 x24438, .pointer (some ⟨b24442, 0, none⟩), ((D22526.getD 2 undef)), ((D22526.getD 3 undef)), ((D22526.getD 4 undef)), ((D22526.getD 5 undef)), ((D22526.getD 6 undef)), ((D22526.getD 7 undef)), ((D22526.getD 8 undef)), (.bool x22527), (undef), (.tuple #[.slice A22545 n22546 c22547, .int .i64 x22538.2]), (.agg #[.int .i64 p0.Kind, .int .i64 p0.Page, .int .u64 p0.Epoch, .slice A22426 p0.Data.length c22427]), (.tuple #[.slice A22545 n22546 c22547, .int .i64 x22538.2]), (.slice A22545 n22546 c22547), (.int .i64 x22538.2), (.int .i64 x22538.2), (.bool (decide (x22538.2 ≠ 0))), ((D22526.getD 10 undef)), (undef), (undef), .tuple #[.agg #[.int .i64 x24430, .int .i64 x24431, .int .u64 x24432, .slice A24434 x24433.length c24435], .int .i64 x24438], (.slice A22545 n22546 c22547), (.int .i64 p1), .tuple #[.agg #[.int .i64 x24430, .int .i64 x24431, .int .u64 x24432, .slice A24434 x24433.length c24435], .int .i64 x24438], .agg #[.int .i64 x24430, .int .i64 x24431, .int .u64 x24432, .slice A24434 x24433.length c24435], .int .i64 x24438, .int .i64 x24438, .bool (decide (x24438 = 0)), .int .i64 p1, .pointer (some ⟨b22431, 1, none⟩), .int .i64 p0.Page, .bool (decide (p1 = p0.Page)), .bool (decide ((decide (x24438 = 0)) = (decide (p1 = p0.Page)))), .bool true, .int .i64 x24438, .bool (decide (x24438 = 0)), .bool false, .int .i64 x24438, .bool (decide (x24438 = 41)), .bool true, .agg #[.int .i64 x24430, .int .i64 x24431, .int .u64 x24432, .slice A24434 x24433.length c24435], .agg #[.int .i64 0, .int .i64 0, .int .u64 0, .slice none 0 0], .bool x24465, .bool x24465, .bool x24465, .bool x24465] _ hf s kk eg0)
                · have hf := iteF h24464 hf
                  refine RW.seg hT 8 [] [(46, .bool false)] [.bool false, undef, undef, undef, .bool false, .bool false, .bool false, .bool false] [.veq (.bool (decide (x24438 = 41))) (.bool false)] (by kernel_rfl) (bo_f h24464) ?_
                  refine RW.nil ?_
                  replace s := s.pick [] 2 rfl
                  exact fun X h => kc (by kernel_rfl) rfl (h I24440 false [((D22526.getD 0 undef)), .int .i64 p1, .pointer (some ⟨b22431, 0, none⟩), ((D22526.getD 1 undef)), (.slice A22545 n22546 c22547), .int .i64 x24438, .pointer (some ⟨b24442, 0, none⟩), ((D22526.getD 2 undef)), ((D22526.getD 3 undef)), ((D22526.getD 4 undef)), ((D22526.getD 5 undef)), ((D22526.getD 6 undef)), ((D22526.getD 7 undef)), ((D22526.getD 8 undef)), (.bool x22527), (undef), (.tuple #[.slice A22545 n22546 c22547, .int .i64 x22538.2]), (.agg #[.int .i64 p0.Kind, .int .i64 p0.Page, .int .u64 p0.Epoch, .slice A22426 p0.Data.length c22427]), (.tuple #[.slice A22545 n22546 c22547, .int .i64 x22538.2]), (.slice A22545 n22546 c22547), (.int .i64 x22538.2), (.int .i64 x22538.2), (.bool (decide (x22538.2 ≠ 0))), ((D22526.getD 10 undef)), (undef), (undef), .tuple #[.agg #[.int .i64 x24430, .int .i64 x24431, .int .u64 x24432, .slice A24434 x24433.length c24435], .int .i64 x24438], (.slice A22545 n22546 c22547), (.int .i64 p1), .tuple #[.agg #[.int .i64 x24430, .int .i64 x24431, .int .u64 x24432, .slice A24434 x24433.length c24435], .int .i64 x24438], .agg #[.int .i64 x24430, .int .i64 x24431, .int .u64 x24432, .slice A24434 x24433.length c24435], .int .i64 x24438, .int .i64 x24438, .bool (decide (x24438 = 0)), .int .i64 p1, .pointer (some ⟨b22431, 1, none⟩), .int .i64 p0.Page, .bool (decide (p1 = p0.Page)), .bool (decide ((decide (x24438 = 0)) = (decide (p1 = p0.Page)))), .bool true, .int .i64 x24438, .bool (decide (x24438 = 0)), .bool false, .int .i64 x24438, .bool (decide (x24438 = 41)), .bool false, undef, undef, undef, .bool false, .bool false, .bool false] _ hf s kk eg0)
            · have hf := iteF h24462 hf
              refine RW.seg hT 14 [] [(40, .bool false)] [.bool false, undef, undef, undef, undef, undef, undef, undef, undef, undef, undef, undef, .bool false, .bool false] [.veq (.bool (decide ((decide (x24438 = 0)) = (decide (p1 = p0.Page))))) (.bool false)] (by kernel_rfl) (bo_f h24462) ?_
              refine RW.nil ?_
              replace s := s.pick [] 2 rfl
              exact fun X h => kc (by kernel_rfl) rfl (h I24440 false [((D22526.getD 0 undef)), .int .i64 p1, .pointer (some ⟨b22431, 0, none⟩), ((D22526.getD 1 undef)), (.slice A22545 n22546 c22547), .int .i64 x24438, .pointer (some ⟨b24442, 0, none⟩), ((D22526.getD 2 undef)), ((D22526.getD 3 undef)), ((D22526.getD 4 undef)), ((D22526.getD 5 undef)), ((D22526.getD 6 undef)), ((D22526.getD 7 undef)), ((D22526.getD 8 undef)), (.bool x22527), (undef), (.tuple #[.slice A22545 n22546 c22547, .int .i64 x22538.2]), (.agg #[.int .i64 p0.Kind, .int .i64 p0.Page, .int .u64 p0.Epoch, .slice A22426 p0.Data.length c22427]), (.tuple #[.slice A22545 n22546 c22547, .int .i64 x22538.2]), (.slice A22545 n22546 c22547), (.int .i64 x22538.2), (.int .i64 x22538.2), (.bool (decide (x22538.2 ≠ 0))), ((D22526.getD 10 undef)), (undef), (undef), .tuple #[.agg #[.int .i64 x24430, .int .i64 x24431, .int .u64 x24432, .slice A24434 x24433.length c24435], .int .i64 x24438], (.slice A22545 n22546 c22547), (.int .i64 p1), .tuple #[.agg #[.int .i64 x24430, .int .i64 x24431, .int .u64 x24432, .slice A24434 x24433.length c24435], .int .i64 x24438], .agg #[.int .i64 x24430, .int .i64 x24431, .int .u64 x24432, .slice A24434 x24433.length c24435], .int .i64 x24438, .int .i64 x24438, .bool (decide (x24438 = 0)), .int .i64 p1, .pointer (some ⟨b22431, 1, none⟩), .int .i64 p0.Page, .bool (decide (p1 = p0.Page)), .bool (decide ((decide (x24438 = 0)) = (decide (p1 = p0.Page)))), .bool false, undef, undef, undef, undef, undef, undef, undef, undef, undef, undef, undef, .bool false] _ hf s kk eg0)
        · refine Ret.of Tryd.func8 rfl ?_
          refine WPK.seq ?_
          refine WPK.region ?_
          refine RW.op (by kernel_rfl) (OK.new hT (f := fun b => .pointer (some ⟨b, 0, none⟩)) (cs := [.int .i64 0, .int .i64 0, .int .u64 0, .slice none 0 0]) (e := 25) (c := .tt) s (by kernel_rfl) trivial ?_)
          rintro w24472 b24473 s k24474 -
          replace e22429 := e22429.st k24474
          replace rp22550 := rp22550.st k24474
          replace eg0 := eg0.st k24474
          replace kk := kk.trans k24474
          refine RW.seg hT 1 [] [] [.int .i64 0] [] (by kernel_rfl) (trivial) ?_
          refine RW.nil ?_
          refine WPK.seq ?_
          refine WPK.seq ?_
          refine WPK.region ?_
          refine RW.seg hT 3 [] [(10, .int .i64 (x22538.1.length : Int)), (11, .bool (decide ((x22538.1.length : Int) ≠ 256)))] [.slice A22545 n22546 c22547, .int .i64 (x22538.1.length : Int), .bool (decide ((x22538.1.length : Int) ≠ 256))] [.veq (.int .i64 (n22546 : Nat)) (.int .i64 (x22538.1.length : Int)), .veq (.bool ((x22538.1.length : Int) != 256)) (.bool (decide ((x22538.1.length : Int) ≠ 256)))] (by kernel_rfl) (⟨len_v hn22549, ne_v⟩) ?_
          refine RW.nil ?_
          by_cases h24478 : (x22538.1.length : Int) ≠ 256
          · have hf := iteT h24478 hf
            refine WPK.condT (Eq.trans (b := .bool (decide ((x22538.1.length : Int) ≠ 256))) (by kernel_rfl) (bo_t h24478)) ?_
            refine WPK.seq ?_
            refine WPK.region ?_
            refine RW.seg hT 1 [] [] [.agg #[.int .i64 0, .int .i64 0, .int .u64 0, .slice none 0 0]] [] (by kernel_rfl) (trivial) ?_
            refine RW.op (by kernel_rfl) (OK.store hT (i := 0) (b := b24473) (off := 0) (n := 4) (vs := [.int .i64 0, .int .i64 0, .int .u64 0, .slice none 0 0]) (cs := [.int .i64 0, .int .i64 0, .int .u64 0, .slice none 0 0]) (e := 25) s (by kernel_rfl) rfl rfl (flat_ok rfl) (Nat.le_of_ble_eq_true rfl) ?_)
            rintro w24479 s k24480 -
            replace e22429 := e22429.st k24480
            replace rp22550 := rp22550.st k24480
            replace eg0 := eg0.st k24480
            replace kk := kk.trans k24480
            refine RW.seg hT 1 [] [] [.int .i64 1] [] (by kernel_rfl) (trivial) ?_
            refine RW.nil ?_
            refine WPK.ret (?_)
            refine Fin.of (rs := [.cell 4 25, .tmp 5]) hT [.agg #[.int .i64 0, .int .i64 0, .int .u64 0, .slice none 0 0]] (.tuple #[.agg #[.int .i64 0, .int .i64 0, .int .u64 0, .slice none 0 0], .int .i64 1]) [.cells ⟨b24473, 0, none⟩ [.int .i64 0, .int .i64 0, .int .u64 0, .slice none 0 0] 4] rfl (by kernel_rfl) (s.cells (i := 0) rfl rfl rfl) ?_
            replace s := s.pick [2] 3 rfl
            exact fun X h => vc rfl (h I22544 0 0 0 [] 1 none 0 _ hf s kk nil_hc Elems.nil e22429 eg0)
          · have hf := iteF h24478 hf
            refine WPK.condF (Eq.trans (b := .bool (decide ((x22538.1.length : Int) ≠ 256))) (by kernel_rfl) (bo_f h24478)) ?_
            refine WPK.skip ?_
            refine WPK.seq ?_
            refine WPK.region ?_
            refine RW.seg hT 1 [] [] [.slice A22545 n22546 c22547] [] (by kernel_rfl) (trivial) ?_
            obtain ⟨h24482, hf⟩ := iteS hf
            obtain ⟨b24483, rfl⟩ := row_addr (s.at (i := 1) rfl) (by have hnn := hn22549; omega)
            have pt24484 := Pt.whole (size := 1) (row_hc (s.at (i := 1) rfl)).1
            obtain ⟨y24485, hy24486, hf⟩ := bindS hf
            rw [← hn22549] at hy24486
            obtain ⟨h24481, hf⟩ := iteS hf
            have h24487 : 256 ≤ n22546 := by have e1 := (cutS hy24486).2.2; have e2 := (pt24484).len; omega
            refine RW.op (by kernel_rfl) (OK.head hT (t := 49) (N := 256) (e := 5) (A := (some ⟨b24483, 0, none⟩)) (n := n22546) (c := c22547) (by kernel_rfl) rfl rfl h24487 ?_)
            have hl24488 : 256 = ((List.take 256 y24485)).length := by rw [List.length_take]; omega
            refine RW.seg hT 1 [.agg (List.map (Value.int .u8) (List.take 256 y24485)).toArray] [] [.agg (List.map (Value.int .u8) (List.take 256 y24485)).toArray] [.cells ⟨b24483, 0, none⟩ (List.map (Value.int .u8) (List.take 256 y24485)) 256] (by kernel_rfl) (St.arrPt s (i := 1) rfl rfl rp22550 pt24484 hy24486 h24481 (by decide)) ?_
            refine RW.op (by kernel_rfl) (OK.new hT (f := fun b => .pointer (some ⟨b, 0, none⟩)) (cs := (List.replicate 256 (Value.int .u8 0))) (e := 49) (c := .tt) s (by kernel_rfl) trivial ?_)
            rintro w24489 b24490 s k24491 -
            have hn24495 : 256 = ((List.replicate 256 (0 : Int))).length := by simp
            obtain ⟨cl24492, hcl24493⟩ : ∃ q, q = (List.replicate 256 (Value.int .u8 0)) := ⟨_, rfl⟩
            replace s := s.blkSl (i := 0) (n := 256) (c := 256) (size := 1) rfl (by simp) (Nat.le_refl _) (by decide)
            rw [List.take_of_length_le (by simp), ← hcl24493] at s
            replace e22429 := e22429.st k24491
            replace rp22550 := rp22550.st k24491
            replace eg0 := eg0.st k24491
            replace kk := kk.trans k24491
            have rp24494 : RepL (Rp.int .u8) I22544 w24489 cl24492 (List.replicate 256 (0 : Int)) := by rw [hcl24493]; exact RepL.rep rfl _
            obtain ⟨cl24498, hcl24499⟩ : ∃ q, q = List.map (Value.int .u8) (List.take 256 y24485) := ⟨_, rfl⟩
            have rp24500 : RepL (Rp.int .u8) I22544 w24489 cl24498 (List.take 256 y24485) := by rw [hcl24499]; exact repl_map
            have hn24501 := hl24488
            refine RW.op (by kernel_rfl) (OK.storeAt hT (i := 0) (b := b24490) (off := 0) (m := 256) (vs := (List.map (Value.int .u8) (List.take 256 y24485))) (c := 256) (e := 49) (size := 1) (n := 256) (cl := cl24492) (cl' := cl24498) s (by kernel_rfl) rfl (by rw [List.length_map]; exact (hl24488).symm) (RepL.flat flat_int (repl_map (I := I22544) (w := w24489))) (by have h1 := RepL.length rp24494; have h2 := (hn24495).symm.trans hl24488; have h3 : (Rp.int .u8).n = 1 := rfl; rw [h3] at h1; simp only [List.length_map]; omega) (by rw [hcl24499]; have h1 := RepL.length rp24494; have h3 : (Rp.int .u8).n = 1 := rfl; rw [h3, Nat.mul_one, ← hn24495] at h1; exact setL_all (by rw [List.length_map, h1]; exact (hl24488).symm)) ?_)
            rintro w24496 s k24497
            replace e22429 := e22429.st k24497
            replace rp24500 := rp24500.st k24497
            replace rp22550 := rp22550.st k24497
            replace eg0 := eg0.st k24497
            replace kk := kk.trans k24497
            refine RW.nil ?_
            refine WPK.seq ?_
            refine WPK.region ?_
            refine RW.seg hT 1 [.agg (List.map (Value.int .u8) (List.take 256 y24485)).toArray] [] [.agg (List.map (Value.int .u8) (List.take 256 y24485)).toArray] [.cells ⟨b24490, 0, none⟩ (List.map (Value.int .u8) (List.take 256 y24485)) 256] (by kernel_rfl) (St.arr s (i := 0) rfl rp24500 hn24501) ?_
            obtain ⟨x24502, hx24503, hf⟩ := bindS hf
            refine RW.op (by kernel_rfl) (OK.call' en25 (by kernel_rfl) (c25 (F := (.sl (.slice (some ⟨b24490, 0, none⟩) 256 256) 49 1 256 cl24498) :: (.blk b24473 (.cells #[.int .i64 0, .int .i64 0, .int .u64 0, .slice none 0 0] 25 (0, 0))) :: (.sl (.slice (some ⟨b24483, 0, none⟩) n22546 c22547) 49 1 n22546 cl22548) :: (.blk b22431 (.cells #[.int .i64 p0.Kind, .int .i64 p0.Page, .int .u64 p0.Epoch, .slice A22426 p0.Data.length c22427] 25 (0, 0))) :: F) (List.take 256 y24485) hn24501 s hx24503) ?_)
            intro X24506 hX24507
            refine fun _ _ hJ => hJ X24506 ?_
            intro I24508 A24509 c24510 w24504 s k24505 hc24511 e24512
            refine hX24507 _ _ ?_
            replace e22429 := e22429.st k24505
            replace rp24500 := rp24500.st k24505
            replace rp22550 := rp22550.st k24505
            replace eg0 := eg0.st k24505
            replace kk := kk.trans k24505
            refine RW.seg hT 3 [] [] [.tuple #[.agg #[.int .i64 x24502.1.Kind, .int .i64 x24502.1.Page, .int .u64 x24502.1.Epoch, .slice A24509 x24502.1.Data.length c24510], .int .u32 x24502.2], .agg #[.int .i64 x24502.1.Kind, .int .i64 x24502.1.Page, .int .u64 x24502.1.Epoch, .slice A24509 x24502.1.Data.length c24510], .int .u32 x24502.2] [] (by kernel_rfl) (trivial) ?_
            refine RW.op (by kernel_rfl) (OK.new hT (f := fun b => .pointer (some ⟨b, 0, none⟩)) (cs := [.int .i64 0, .int .i64 0, .int .u64 0, .slice none 0 0]) (e := 25) (c := .tt) s (by kernel_rfl) trivial ?_)
            rintro w24513 b24514 s k24515 -
            replace e24512 := e24512.st k24515
            replace e22429 := e22429.st k24515
            replace rp24500 := rp24500.st k24515
            replace rp22550 := rp22550.st k24515
            replace eg0 := eg0.st k24515
            replace kk := kk.trans k24515
            refine RW.op (by kernel_rfl) (OK.store hT (i := 0) (b := b24514) (off := 0) (n := 4) (vs := [.int .i64 x24502.1.Kind, .int .i64 x24502.1.Page, .int .u64 x24502.1.Epoch, .slice A24509 x24502.1.Data.length c24510]) (cs := [.int .i64 0, .int .i64 0, .int .u64 0, .slice none 0 0]) (e := 25) s (by kernel_rfl) rfl rfl (flat_ok rfl) (Nat.le_of_ble_eq_true rfl) ?_)
            rintro w24516 s k24517 -
            replace e24512 := e24512.st k24517
            replace e22429 := e22429.st k24517
            replace rp24500 := rp24500.st k24517
            replace rp22550 := rp22550.st k24517
            replace eg0 := eg0.st k24517
            replace kk := kk.trans k24517
            refine RW.seg hT 1 [] [] [.int .u32 x24502.2] [] (by kernel_rfl) (trivial) ?_
            refine RW.nil ?_
            refine WPK.seq ?_
            refine WPK.block ?_
            refine WPK.seq ?_
            refine WPK.cut' (Kn fun E ds wz => ∀ X : Kont, (∀ (I25849 : Nat → Prop) (x25847 : Bool) (D25846 : List Value) (w' : World), g4_j4 p0 p1 y24485 x24502 x25847 = some r → St w0 M I25849 ((.blk b24514 (.cells #[.int .i64 x24502.1.Kind, .int .i64 x24502.1.Page, .int .u64 x24502.1.Epoch, .slice A24509 x24502.1.Data.length c24510] 25 (0, 0))) :: (.sl (.slice (some ⟨b24490, 0, none⟩) 256 256) 49 1 256 cl24498) :: (.blk b24473 (.cells #[.int .i64 0, .int .i64 0, .int .u64 0, .slice none 0 0] 25 (0, 0))) :: (.blk b22431 (.cells #[.int .i64 p0.Kind, .int .i64 p0.Page, .int .u64 p0.Epoch, .slice A22426 p0.Data.length c22427] 25 (0, 0))) :: F) w' → Kp I w I25849 w' → Elems (Rp.int .u8) I25849 w' A24509 x24502.1.Data → Elems (Rp.int .u8) I25849 w' A22426 p0.Data → RepL (Rp.int .u8) I25849 w' cl24498 (List.take 256 y24485) → Elems (Rp.int .u32) I25849 w' (some ⟨0, 0, none⟩) TAB0 → X [(D25846.getD 0 undef), .int .i64 p1, (D25846.getD 1 undef), (D25846.getD 2 undef), .pointer (some ⟨b24473, 0, none⟩), .int .i64 0, .pointer (some ⟨b24490, 0, none⟩), .pointer (some ⟨b24514, 0, none⟩), (D25846.getD 3 undef), (D25846.getD 4 undef), (D25846.getD 5 undef), (D25846.getD 6 undef), (D25846.getD 7 undef), (D25846.getD 8 undef), (D25846.getD 9 undef), (D25846.getD 10 undef), (D25846.getD 11 undef), (D25846.getD 12 undef), (D25846.getD 13 undef), (D25846.getD 14 undef), (D25846.getD 15 undef), .bool x25847, (D25846.getD 16 undef), (D25846.getD 17 undef), (D25846.getD 18 undef), (D25846.getD 19 undef), (D25846.getD 20 undef), (D25846.getD 21 undef), (D25846.getD 22 undef), (D25846.getD 23 undef), undef, undef, undef, (D25846.getD 24 undef), undef, undef, undef, undef, undef, undef, undef, undef, undef, undef, undef, undef, undef, undef, undef, undef, undef, undef, undef, undef] [] w') → X E ds wz) ?_ ?_
            · intro X25901 hX25902
              refine fun _ _ _ hJ => hJ X25901 ?_
              intro I25849 x25847 D25846 w25848 hf s kk e24512 e22429 rp24500 eg0
              refine hX25902 _ _ _ ?_
              unfold g4_j4 at hf
              by_cases h25850 : x25847 = true
              · have hf := iteT h25850 hf
                refine WPK.condT (Eq.trans (b := .bool x25847) (by kernel_rfl) (b_t h25850)) ?_
                refine WPK.seq ?_
                refine WPK.region ?_
                refine RW.seg hT 1 [] [] [.agg #[.int .i64 0, .int .i64 0, .int .u64 0, .slice none 0 0]] [] (by kernel_rfl) (trivial) ?_
                refine RW.op (by kernel_rfl) (OK.store hT (i := 2) (b := b24473) (off := 0) (n := 4) (vs := [.int .i64 0, .int .i64 0, .int .u64 0, .slice none 0 0]) (cs := [.int .i64 0, .int .i64 0, .int .u64 0, .slice none 0 0]) (e := 25) s (by kernel_rfl) rfl rfl (flat_ok rfl) (Nat.le_of_ble_eq_true rfl) ?_)
                rintro w25851 s k25852 -
                replace e24512 := e24512.st k25852
                replace e22429 := e22429.st k25852
                replace rp24500 := rp24500.st k25852
                replace eg0 := eg0.st k25852
                replace kk := kk.trans k25852
                refine RW.seg hT 1 [] [] [.int .i64 40] [] (by kernel_rfl) (trivial) ?_
                refine RW.nil ?_
                refine WPK.ret (blockQ.ret (?_))
                refine Fin.of (rs := [.cell 4 25, .tmp 5]) hT [.agg #[.int .i64 0, .int .i64 0, .int .u64 0, .slice none 0 0]] (.tuple #[.agg #[.int .i64 0, .int .i64 0, .int .u64 0, .slice none 0 0], .int .i64 40]) [.cells ⟨b24473, 0, none⟩ [.int .i64 0, .int .i64 0, .int .u64 0, .slice none 0 0] 4] rfl (by kernel_rfl) (s.cells (i := 2) rfl rfl rfl) ?_
                replace s := s.pick [3] 4 rfl
                exact fun X h => vc rfl (h I25849 0 0 0 [] 40 none 0 _ hf s kk nil_hc Elems.nil e22429 eg0)
              · have hf := iteF h25850 hf
                refine WPK.condF (Eq.trans (b := .bool x25847) (by kernel_rfl) (b_f h25850)) ?_
                refine WPK.seq ?_
                refine WPK.cut' (Kn fun E ds wz => ∀ X : Kont, (∀ (I25870 : Nat → Prop) (x25868 : Bool) (D25867 : List Value) (w' : World), g4_j5 p0 p1 x24502 x25868 = some r → St w0 M I25870 ((.blk b24514 (.cells #[.int .i64 x24502.1.Kind, .int .i64 x24502.1.Page, .int .u64 x24502.1.Epoch, .slice A24509 x24502.1.Data.length c24510] 25 (0, 0))) :: (.blk b24473 (.cells #[.int .i64 0, .int .i64 0, .int .u64 0, .slice none 0 0] 25 (0, 0))) :: (.blk b22431 (.cells #[.int .i64 p0.Kind, .int .i64 p0.Page, .int .u64 p0.Epoch, .slice A22426 p0.Data.length c22427] 25 (0, 0))) :: F) w' → Kp I w I25870 w' → Elems (Rp.int .u8) I25870 w' A24509 x24502.1.Data → Elems (Rp.int .u8) I25870 w' A22426 p0.Data → Elems (Rp.int .u32) I25870 w' (some ⟨0, 0, none⟩) TAB0 → X [(D25867.getD 0 undef), .int .i64 p1, (D25867.getD 1 undef), (D25867.getD 2 undef), .pointer (some ⟨b24473, 0, none⟩), .int .i64 0, (D25867.getD 3 undef), .pointer (some ⟨b24514, 0, none⟩), (D25867.getD 4 undef), (D25867.getD 5 undef), (D25867.getD 6 undef), (D25867.getD 7 undef), (D25867.getD 8 undef), (D25867.getD 9 undef), (D25867.getD 10 undef), (D25867.getD 11 undef), (D25867.getD 12 undef), (D25867.getD 13 undef), (D25867.getD 14 undef), (D25867.getD 15 undef), (D25867.getD 16 undef), (D25867.getD 17 undef), (D25867.getD 18 undef), (D25867.getD 19 undef), (D25867.getD 20 undef), (D25867.getD 21 undef), (D25867.getD 22 undef), (D25867.getD 23 undef), (D25867.getD 24 undef), (D25867.getD 25 undef), (D25867.getD 26 undef), .bool x25868, (D25867.getD 27 undef), (D25867.getD 28 undef), (D25867.getD 29 undef), (D25867.getD 30 undef), (D25867.getD 31 undef), (D25867.getD 32 undef), (D25867.getD 33 undef), (D25867.getD 34 undef), (D25867.getD 35 undef), undef, undef, undef, undef, undef, undef, undef, undef, undef, undef, undef, undef, undef] [] w') → X E ds wz) ?_ ?_
                · intro X25885 hX25886
                  refine fun _ _ _ hJ => hJ X25885 ?_
                  intro I25870 x25868 D25867 w25869 hf s kk e24512 e22429 eg0
                  refine hX25886 _ _ _ ?_
                  unfold g4_j5 at hf
                  by_cases h25871 : x25868 = true
                  · have hf := iteT h25871 hf
                    refine WPK.condT (Eq.trans (b := .bool x25868) (by kernel_rfl) (b_t h25871)) ?_
                    refine WPK.seq ?_
                    refine WPK.region ?_
                    refine RW.seg hT 1 [] [] [.agg #[.int .i64 0, .int .i64 0, .int .u64 0, .slice none 0 0]] [] (by kernel_rfl) (trivial) ?_
                    refine RW.op (by kernel_rfl) (OK.store hT (i := 1) (b := b24473) (off := 0) (n := 4) (vs := [.int .i64 0, .int .i64 0, .int .u64 0, .slice none 0 0]) (cs := [.int .i64 0, .int .i64 0, .int .u64 0, .slice none 0 0]) (e := 25) s (by kernel_rfl) rfl rfl (flat_ok rfl) (Nat.le_of_ble_eq_true rfl) ?_)
                    rintro w25872 s k25873 -
                    replace e24512 := e24512.st k25873
                    replace e22429 := e22429.st k25873
                    replace eg0 := eg0.st k25873
                    replace kk := kk.trans k25873
                    refine RW.seg hT 1 [] [] [.int .i64 42] [] (by kernel_rfl) (trivial) ?_
                    refine RW.nil ?_
                    refine WPK.ret (blockQ.ret (?_))
                    refine Fin.of (rs := [.cell 4 25, .tmp 5]) hT [.agg #[.int .i64 0, .int .i64 0, .int .u64 0, .slice none 0 0]] (.tuple #[.agg #[.int .i64 0, .int .i64 0, .int .u64 0, .slice none 0 0], .int .i64 42]) [.cells ⟨b24473, 0, none⟩ [.int .i64 0, .int .i64 0, .int .u64 0, .slice none 0 0] 4] rfl (by kernel_rfl) (s.cells (i := 1) rfl rfl rfl) ?_
                    replace s := s.pick [2] 3 rfl
                    exact fun X h => vc rfl (h I25870 0 0 0 [] 42 none 0 _ hf s kk nil_hc Elems.nil e22429 eg0)
                  · have hf := iteF h25871 hf
                    refine WPK.condF (Eq.trans (b := .bool x25868) (by kernel_rfl) (b_f h25871)) ?_
                    refine WPK.seq ?_
                    refine WPK.cut' (Kn fun E ds wz => ∀ X : Kont, (∀ (x25876 : Bool) (D25875 : List Value), g4_j6 p0 p1 x24502 x25876 = some r → X [(D25875.getD 0 undef), (D25875.getD 1 undef), (D25875.getD 2 undef), (D25875.getD 3 undef), .pointer (some ⟨b24473, 0, none⟩), .int .i64 0, (D25875.getD 4 undef), .pointer (some ⟨b24514, 0, none⟩), (D25875.getD 5 undef), (D25875.getD 6 undef), (D25875.getD 7 undef), (D25875.getD 8 undef), (D25875.getD 9 undef), (D25875.getD 10 undef), (D25875.getD 11 undef), (D25875.getD 12 undef), (D25875.getD 13 undef), (D25875.getD 14 undef), (D25875.getD 15 undef), (D25875.getD 16 undef), (D25875.getD 17 undef), (D25875.getD 18 undef), (D25875.getD 19 undef), (D25875.getD 20 undef), (D25875.getD 21 undef), (D25875.getD 22 undef), (D25875.getD 23 undef), (D25875.getD 24 undef), (D25875.getD 25 undef), (D25875.getD 26 undef), (D25875.getD 27 undef), (D25875.getD 28 undef), (D25875.getD 29 undef), (D25875.getD 30 undef), (D25875.getD 31 undef), (D25875.getD 32 undef), (D25875.getD 33 undef), (D25875.getD 34 undef), (D25875.getD 35 undef), (D25875.getD 36 undef), (D25875.getD 37 undef), (D25875.getD 38 undef), .bool x25876, (D25875.getD 39 undef), (D25875.getD 40 undef), (D25875.getD 41 undef), (D25875.getD 42 undef), (D25875.getD 43 undef), (D25875.getD 44 undef), (D25875.getD 45 undef), (D25875.getD 46 undef), (D25875.getD 47 undef), undef, undef] [] w25869) → X E ds wz) ?_ ?_
                    · intro X25882 hX25883
                      refine fun _ _ _ hJ => hJ X25882 ?_
                      intro x25876 D25875 hf
                      refine hX25883 _ _ _ ?_
                      unfold g4_j6 at hf
                      by_cases h25877 : x25876 = true
                      · have hf := iteT h25877 hf
                        refine WPK.condT (Eq.trans (b := .bool x25876) (by kernel_rfl) (b_t h25877)) ?_
                        refine WPK.seq ?_
                        refine WPK.region ?_
                        refine RW.seg hT 1 [] [] [.agg #[.int .i64 0, .int .i64 0, .int .u64 0, .slice none 0 0]] [] (by kernel_rfl) (trivial) ?_
                        refine RW.op (by kernel_rfl) (OK.store hT (i := 1) (b := b24473) (off := 0) (n := 4) (vs := [.int .i64 0, .int .i64 0, .int .u64 0, .slice none 0 0]) (cs := [.int .i64 0, .int .i64 0, .int .u64 0, .slice none 0 0]) (e := 25) s (by kernel_rfl) rfl rfl (flat_ok rfl) (Nat.le_of_ble_eq_true rfl) ?_)
                        rintro w25878 s k25879 -
                        replace e24512 := e24512.st k25879
                        replace e22429 := e22429.st k25879
                        replace eg0 := eg0.st k25879
                        replace kk := kk.trans k25879
                        refine RW.seg hT 1 [] [] [.int .i64 41] [] (by kernel_rfl) (trivial) ?_
                        refine RW.nil ?_
                        refine WPK.ret (blockQ.ret (?_))
                        refine Fin.of (rs := [.cell 4 25, .tmp 5]) hT [.agg #[.int .i64 0, .int .i64 0, .int .u64 0, .slice none 0 0]] (.tuple #[.agg #[.int .i64 0, .int .i64 0, .int .u64 0, .slice none 0 0], .int .i64 41]) [.cells ⟨b24473, 0, none⟩ [.int .i64 0, .int .i64 0, .int .u64 0, .slice none 0 0] 4] rfl (by kernel_rfl) (s.cells (i := 1) rfl rfl rfl) ?_
                        replace s := s.pick [2] 3 rfl
                        exact fun X h => vc rfl (h I25870 0 0 0 [] 41 none 0 _ hf s kk nil_hc Elems.nil e22429 eg0)
                      · have hf := iteF h25877 hf
                        refine WPK.condF (Eq.trans (b := .bool x25876) (by kernel_rfl) (b_f h25877)) ?_
                        refine WPK.skip ?_
                        refine WPK.seq ?_
                        refine WPK.region ?_
                        refine RW.seg hT 1 [.agg #[.int .i64 x24502.1.Kind, .int .i64 x24502.1.Page, .int .u64 x24502.1.Epoch, .slice A24509 x24502.1.Data.length c24510]] [] [.agg #[.int .i64 x24502.1.Kind, .int .i64 x24502.1.Page, .int .u64 x24502.1.Epoch, .slice A24509 x24502.1.Data.length c24510]] [.cells ⟨b24514, 0, none⟩ [.int .i64 x24502.1.Kind, .int .i64 x24502.1.Page, .int .u64 x24502.1.Epoch, .slice A24509 x24502.1.Data.length c24510] 4] (by kernel_rfl) (s.cells (i := 0) rfl rfl rfl) ?_
                        refine RW.op (by kernel_rfl) (OK.store hT (i := 1) (b := b24473) (off := 0) (n := 4) (vs := [.int .i64 x24502.1.Kind, .int .i64 x24502.1.Page, .int .u64 x24502.1.Epoch, .slice A24509 x24502.1.Data.length c24510]) (cs := [.int .i64 0, .int .i64 0, .int .u64 0, .slice none 0 0]) (e := 25) s (by kernel_rfl) rfl rfl (flat_ok rfl) (Nat.le_of_ble_eq_true rfl) ?_)
                        rintro w25880 s k25881 -
                        replace e24512 := e24512.st k25881
                        replace e22429 := e22429.st k25881
                        replace eg0 := eg0.st k25881
                        replace kk := kk.trans k25881
                        refine RW.seg hT 1 [] [] [.int .i64 0] [] (by kernel_rfl) (trivial) ?_
                        refine RW.nil ?_
                        refine WPK.ret (?_)
                        refine Fin.of (rs := [.cell 4 25, .tmp 5]) hT [.agg #[.int .i64 x24502.1.Kind, .int .i64 x24502.1.Page, .int .u64 x24502.1.Epoch, .slice A24509 x24502.1.Data.length c24510]] (.tuple #[.agg #[.int .i64 x24502.1.Kind, .int .i64 x24502.1.Page, .int .u64 x24502.1.Epoch, .slice A24509 x24502.1.Data.length c24510], .int .i64 0]) [.cells ⟨b24473, 0, none⟩ [.int .i64 x24502.1.Kind, .int .i64 x24502.1.Page, .int .u64 x24502.1.Epoch, .slice A24509 x24502.1.Data.length c24510] 4] rfl (by kernel_rfl) (s.cells (i := 1) rfl rfl rfl) ?_
                        replace s := s.pick [2] 3 rfl
                        exact fun X h => vc rfl (h I25870 x24502.1.Kind x24502.1.Page x24502.1.Epoch x24502.1.Data 0 A24509 c24510 _ hf s kk hc24511 e24512 e22429 eg0)
                    · refine WPK.region ?_
                      refine RW.seg hT 4 [.int .i64 x24502.1.Page] [(46, .bool (decide (x24502.1.Page ≠ p1)))] [.pointer (some ⟨b24514, 1, none⟩), .int .i64 x24502.1.Page, .int .i64 p1, .bool (decide (x24502.1.Page ≠ p1))] [.cell ⟨b24514, 1, none⟩ (.int .i64 x24502.1.Page), .veq (.bool (x24502.1.Page != p1)) (.bool (decide (x24502.1.Page ≠ p1)))] (by kernel_rfl) (⟨s.cell (i := 0) (off := 1) rfl rfl, ne_v⟩) ?_
                      by_cases h25884 : x24502.1.Page ≠ p1
                      · have hf := iteT h25884 hf
                        refine RW.seg hT 6 [] [(47, .bool true)] [.bool true, undef, undef, undef, .bool true, .bool true] [.veq (.bool (decide (x24502.1.Page ≠ p1))) (.bool true)] (by kernel_rfl) (bo_t h25884) ?_
                        refine RW.nil ?_
                        exact fun X h => kc (by kernel_rfl) rfl (h true [(D25867.getD 0 undef), .int .i64 p1, (D25867.getD 1 undef), (D25867.getD 2 undef), (D25867.getD 3 undef), (D25867.getD 4 undef), (D25867.getD 5 undef), (D25867.getD 6 undef), (D25867.getD 7 undef), (D25867.getD 8 undef), (D25867.getD 9 undef), (D25867.getD 10 undef), (D25867.getD 11 undef), (D25867.getD 12 undef), (D25867.getD 13 undef), (D25867.getD 14 undef), (D25867.getD 15 undef), (D25867.getD 16 undef), (D25867.getD 17 undef), (D25867.getD 18 undef), (D25867.getD 19 undef), (D25867.getD 20 undef), (D25867.getD 21 undef), (D25867.getD 22 undef), (D25867.getD 23 undef), (D25867.getD 24 undef), (D25867.getD 25 undef), (D25867.getD 26 undef), .bool x25868, (D25867.getD 27 undef), (D25867.getD 28 undef), (D25867.getD 29 undef), (D25867.getD 30 undef), (D25867.getD 31 undef), (D25867.getD 32 undef), (D25867.getD 33 undef), (D25867.getD 34 undef), (D25867.getD 35 undef), undef, .pointer (some ⟨b24514, 1, none⟩), .int .i64 x24502.1.Page, .int .i64 p1, .bool (decide (x24502.1.Page ≠ p1)), .bool true, undef, undef, undef, .bool true] hf)
                      · have hf := iteF h25884 hf
                        refine RW.seg hT 6 [.int .i64 x24502.1.Page] [(47, .bool false)] [.bool false, .pointer (some ⟨b24514, 1, none⟩), .int .i64 x24502.1.Page, .bool (decide (x24502.1.Page ≥ 2048)), .bool (decide (x24502.1.Page ≥ 2048)), .bool (decide (x24502.1.Page ≥ 2048))] [.veq (.bool (decide (x24502.1.Page ≠ p1))) (.bool false), .cell ⟨b24514, 1, none⟩ (.int .i64 x24502.1.Page)] (by kernel_rfl) (⟨bo_f h25884, s.cell (i := 0) (off := 1) rfl rfl⟩) ?_
                        refine RW.nil ?_
                        exact fun X h => kc (by kernel_rfl) rfl (h (decide (x24502.1.Page ≥ 2048)) [(D25867.getD 0 undef), .int .i64 p1, (D25867.getD 1 undef), (D25867.getD 2 undef), (D25867.getD 3 undef), (D25867.getD 4 undef), (D25867.getD 5 undef), (D25867.getD 6 undef), (D25867.getD 7 undef), (D25867.getD 8 undef), (D25867.getD 9 undef), (D25867.getD 10 undef), (D25867.getD 11 undef), (D25867.getD 12 undef), (D25867.getD 13 undef), (D25867.getD 14 undef), (D25867.getD 15 undef), (D25867.getD 16 undef), (D25867.getD 17 undef), (D25867.getD 18 undef), (D25867.getD 19 undef), (D25867.getD 20 undef), (D25867.getD 21 undef), (D25867.getD 22 undef), (D25867.getD 23 undef), (D25867.getD 24 undef), (D25867.getD 25 undef), (D25867.getD 26 undef), .bool x25868, (D25867.getD 27 undef), (D25867.getD 28 undef), (D25867.getD 29 undef), (D25867.getD 30 undef), (D25867.getD 31 undef), (D25867.getD 32 undef), (D25867.getD 33 undef), (D25867.getD 34 undef), (D25867.getD 35 undef), undef, .pointer (some ⟨b24514, 1, none⟩), .int .i64 x24502.1.Page, .int .i64 p1, .bool (decide (x24502.1.Page ≠ p1)), .bool false, .pointer (some ⟨b24514, 1, none⟩), .int .i64 x24502.1.Page, .bool (decide (x24502.1.Page ≥ 2048)), .bool (decide (x24502.1.Page ≥ 2048))] hf)
                · refine WPK.region ?_
                  refine RW.seg hT 2 [.int .i64 x24502.1.Kind] [] [.pointer (some ⟨b24514, 0, none⟩), .int .i64 x24502.1.Kind] [.cell ⟨b24514, 0, none⟩ (.int .i64 x24502.1.Kind)] (by kernel_rfl) (s.cell (i := 0) (off := 0) rfl rfl) ?_
                  obtain ⟨x25887, hx25888, hf⟩ := bindS hf
                  refine RW.op (by kernel_rfl) (OK.call' en27 (by kernel_rfl) (c27 (F := (.blk b24514 (.cells #[.int .i64 x24502.1.Kind, .int .i64 x24502.1.Page, .int .u64 x24502.1.Epoch, .slice A24509 x24502.1.Data.length c24510] 25 (0, 0))) :: (.sl (.slice (some ⟨b24490, 0, none⟩) 256 256) 49 1 256 cl24498) :: (.blk b24473 (.cells #[.int .i64 0, .int .i64 0, .int .u64 0, .slice none 0 0] 25 (0, 0))) :: (.blk b22431 (.cells #[.int .i64 p0.Kind, .int .i64 p0.Page, .int .u64 p0.Epoch, .slice A22426 p0.Data.length c22427] 25 (0, 0))) :: F) x24502.1.Kind s hx25888) ?_)
                  intro X25891 hX25892
                  refine fun _ _ hJ => hJ X25891 ?_
                  intro I25893 w25889 s k25890
                  refine hX25892 _ _ ?_
                  replace e24512 := e24512.st k25890
                  replace e22429 := e22429.st k25890
                  replace rp24500 := rp24500.st k25890
                  replace eg0 := eg0.st k25890
                  replace kk := kk.trans k25890
                  refine RW.seg hT 1 [] [(35, .bool (decide (¬ (x25887 = true))))] [.bool (decide (¬ (x25887 = true)))] [.veq (.bool (!x25887)) (.bool (decide (¬ (x25887 = true))))] (by kernel_rfl) (not_b) ?_
                  by_cases h25894 : ¬ (x25887 = true)
                  · have hf := iteT h25894 hf
                    refine RW.seg hT 6 [] [(36, .bool true)] [.bool true, undef, undef, undef, .bool true, .bool true] [.veq (.bool (decide (¬ (x25887 = true)))) (.bool true)] (by kernel_rfl) (bo_t h25894) ?_
                    refine RW.nil ?_
                    replace s := s.pick [0, 2, 3] 4 rfl
                    exact fun X h => kc (by kernel_rfl) rfl (h I25893 true [(D25846.getD 0 undef), (D25846.getD 1 undef), (D25846.getD 2 undef), .pointer (some ⟨b24490, 0, none⟩), (D25846.getD 3 undef), (D25846.getD 4 undef), (D25846.getD 5 undef), (D25846.getD 6 undef), (D25846.getD 7 undef), (D25846.getD 8 undef), (D25846.getD 9 undef), (D25846.getD 10 undef), (D25846.getD 11 undef), (D25846.getD 12 undef), (D25846.getD 13 undef), (D25846.getD 14 undef), (D25846.getD 15 undef), .bool x25847, (D25846.getD 16 undef), (D25846.getD 17 undef), (D25846.getD 18 undef), (D25846.getD 19 undef), (D25846.getD 20 undef), (D25846.getD 21 undef), (D25846.getD 22 undef), (D25846.getD 23 undef), undef, .pointer (some ⟨b24514, 0, none⟩), .int .i64 x24502.1.Kind, .bool x25887, .bool (decide (¬ (x25887 = true))), .bool true, undef, undef, undef, .bool true] _ hf s kk e24512 e22429 eg0)
                  · have hf := iteF h25894 hf
                    obtain ⟨x25895, hx25896, hf⟩ := bindS hf
                    obtain ⟨h25897, hx25896⟩ := getS hx25896
                    rw [← hn24501] at h25897
                    obtain ⟨-, cs25898, hr25899, ha25900⟩ := St.elem s (i := 1) rfl hn24501 rp24500 hx25896
                    replace ha25900 := ha25900 _ rfl
                    obtain rfl : cs25898 = [.int .u8 x25895] := hr25899
                    refine RW.seg hT 6 [.int .u8 x25895] [(36, .bool false), (39, .bool (decide (x25895 ≠ 0)))] [.bool false, .pointer (some ⟨b24490, 0 + (5 : Int).toNat * 1, none⟩), .int .u8 x25895, .bool (decide (x25895 ≠ 0)), .bool (decide (x25895 ≠ 0)), .bool (decide (x25895 ≠ 0))] [.veq (.bool (decide (¬ (x25887 = true)))) (.bool false), .idx 5 256, .cell ⟨b24490, 0 + (5 : Int).toNat * 1, none⟩ (.int .u8 x25895), .veq (.bool (x25895 != 0)) (.bool (decide (x25895 ≠ 0)))] (by kernel_rfl) (⟨bo_f h25894, h25897, ha25900 0 _ rfl, ne_v⟩) ?_
                    refine RW.nil ?_
                    replace s := s.pick [0, 2, 3] 4 rfl
                    exact fun X h => kc (by kernel_rfl) rfl (h I25893 (decide (x25895 ≠ 0)) [(D25846.getD 0 undef), (D25846.getD 1 undef), (D25846.getD 2 undef), .pointer (some ⟨b24490, 0, none⟩), (D25846.getD 3 undef), (D25846.getD 4 undef), (D25846.getD 5 undef), (D25846.getD 6 undef), (D25846.getD 7 undef), (D25846.getD 8 undef), (D25846.getD 9 undef), (D25846.getD 10 undef), (D25846.getD 11 undef), (D25846.getD 12 undef), (D25846.getD 13 undef), (D25846.getD 14 undef), (D25846.getD 15 undef), .bool x25847, (D25846.getD 16 undef), (D25846.getD 17 undef), (D25846.getD 18 undef), (D25846.getD 19 undef), (D25846.getD 20 undef), (D25846.getD 21 undef), (D25846.getD 22 undef), (D25846.getD 23 undef), undef, .pointer (some ⟨b24514, 0, none⟩), .int .i64 x24502.1.Kind, .bool x25887, .bool (decide (¬ (x25887 = true))), .bool false, .pointer (some ⟨b24490, 0 + (5 : Int).toNat * 1, none⟩), .int .u8 x25895, .bool (decide (x25895 ≠ 0)), .bool (decide (x25895 ≠ 0))] _ hf s kk e24512 e22429 eg0)
            · refine WPK.region ?_
              refine RW.seg hT 2 [.agg (List.map (Value.int .u8) (List.take 256 y24485)).toArray] [] [.agg (List.map (Value.int .u8) (List.take 256 y24485)).toArray, .agg (List.map (Value.int .u8) (List.replicate 256 (0 : Int))).toArray] [.cells ⟨b24490, 0, none⟩ (List.map (Value.int .u8) (List.take 256 y24485)) 256] (by kernel_rfl) (St.arr s (i := 1) rfl rp24500 hn24501) ?_
              refine RW.op (by kernel_rfl) (OK.arrEq hT (t := 49) (N := 256) (e := 5) (k := .u8) (b := true) (xs := (List.take 256 y24485)) (ys := (List.replicate 256 (0 : Int))) (by kernel_rfl) (by kernel_rfl) rfl rfl rfl rfl rfl hn24501 (by simp) ?_)
              by_cases h25903 : (List.take 256 y24485) = (List.replicate 256 (0 : Int))
              · have hf := iteT h25903 hf
                refine RW.seg hT 6 [] [(25, .bool true)] [.bool true, undef, undef, undef, .bool true, .bool true] [.veq (.bool (decide ((List.take 256 y24485) = (List.replicate 256 (0 : Int))))) (.bool true)] (by kernel_rfl) (bo_t h25903) ?_
                refine RW.nil ?_
                replace s := s.pick [0, 1, 2, 4] 5 rfl
                exact fun X h => kc (by kernel_rfl) rfl (h I24508 true [.slice (some ⟨b24483, 0, none⟩) n22546 c22547, undef, undef, .int .u32 x24502.2, .slice (some ⟨b24483, 0, none⟩) n22546 c22547, .int .i64 (x22538.1.length : Int), .bool (decide ((x22538.1.length : Int) ≠ 256)), undef, .slice (some ⟨b24483, 0, none⟩) n22546 c22547, .pointer (some ⟨b24483, 0, none⟩), .agg (List.map (Value.int .u8) (List.take 256 y24485)).toArray, .tuple #[.agg #[.int .i64 x24502.1.Kind, .int .i64 x24502.1.Page, .int .u64 x24502.1.Epoch, .slice A24509 x24502.1.Data.length c24510], .int .u32 x24502.2], .agg (List.map (Value.int .u8) (List.take 256 y24485)).toArray, .tuple #[.agg #[.int .i64 x24502.1.Kind, .int .i64 x24502.1.Page, .int .u64 x24502.1.Epoch, .slice A24509 x24502.1.Data.length c24510], .int .u32 x24502.2], .agg #[.int .i64 x24502.1.Kind, .int .i64 x24502.1.Page, .int .u64 x24502.1.Epoch, .slice A24509 x24502.1.Data.length c24510], .int .u32 x24502.2, .agg (List.map (Value.int .u8) (List.take 256 y24485)).toArray, .agg (List.map (Value.int .u8) (List.replicate 256 (0 : Int))).toArray, .bool (decide ((List.take 256 y24485) = (List.replicate 256 (0 : Int)))), .bool true, undef, undef, undef, .bool true, undef] _ hf s kk e24512 e22429 rp24500 eg0)
              · have hf := iteF h25903 hf
                refine RW.seg hT 2 [] [(25, .bool false)] [.bool false, .int .u32 x24502.2] [.veq (.bool (decide ((List.take 256 y24485) = (List.replicate 256 (0 : Int))))) (.bool false)] (by kernel_rfl) (bo_f h25903) ?_
                refine RW.op (by kernel_rfl) (OK.inl (args := [.pointer (some ⟨b24490, 0, none⟩)]) en26 (by kernel_rfl) ?_)
                intro R25904 hR25905
                refine Ret.of Tryd.func26 rfl ?_
                refine WPK.seq ?_
                refine WPK.region ?_
                refine RW.seg hT 1 [] [] [.int .u32 0] [] (by kernel_rfl) (trivial) ?_
                refine RW.nil ?_
                refine WPK.seq ?_
                refine WPK.region ?_
                obtain ⟨h26126, hf⟩ := iteS hf
                replace h26126 : (0 : Int) ≤ 4 ∧ 4 ≤ ((List.take 256 y24485).length : Int) ∧ ((List.take 256 y24485).length : Int) ≤ ((256 : Nat) : Int) - 0 := by have hnn := hn24501; omega
                obtain ⟨o26117, n26118, c26119, q26120, q26121, q26122, q26123, q26124, pt26125⟩ := partS (b := b24490) (c := 256) (Pt.whole (size := 1) (row_hc (s.at (i := 1) rfl)).1) (Nat.le_refl _) h26126
                rw [Int.zero_add, Int.zero_add] at pt26125
                replace q26121 : 256 - (4 : Int).toNat = n26118 := by rw [← q26121]; have hnn := hn24501; omega
                refine RW.seg hT 3 [] [(5, .slice (some ⟨b24490, o26117, none⟩) n26118 c26119)] [.pointer (some ⟨b24490, 0, none⟩), .pointer (some ⟨b24490, 0, none⟩), .slice (some ⟨b24490, o26117, none⟩) n26118 c26119] [.both (.cut 4 (256 : Nat) 256 256) (.veq (.slice (cutA (some ⟨b24490, 0, none⟩) (4 : Int).toNat 256 1) (256 - (4 : Int).toNat) (256 - (4 : Int).toNat)) (.slice (some ⟨b24490, o26117, none⟩) n26118 c26119))] (by kernel_rfl) (⟨⟨(q26124).1, by have h1 := (q26124).2.1; have h2 := (q26124).2.2.1; omega, by have := (q26124).2.2.2; omega, by omega⟩, sl_eq q26120 q26121 q26122⟩) ?_
                refine RW.op (by kernel_rfl) (OK.new hT (f := fun b => .slice (some ⟨b, 0, none⟩) 1 1) (cs := [.slice (some ⟨b24490, o26117, none⟩) n26118 c26119]) (e := 23) (c := .tt) s (by kernel_rfl) trivial ?_)
                rintro w26127 b26128 s k26129 -
                replace e24512 := e24512.st k26129
                replace e22429 := e22429.st k26129
                replace rp24500 := rp24500.st k26129
                replace rp22550 := rp22550.st k26129
                replace eg0 := eg0.st k26129
                replace kk := kk.trans k26129
                refine RW.op (by kernel_rfl) (OK.inl (args := [.slice (some ⟨b26128, 0, none⟩) 1 1]) en40 (by kernel_rfl) ?_)
                intro R26130 hR26131
                refine Ret.of Tryd.func40 rfl ?_
                refine WPK.seq ?_
                refine WPK.region ?_
                refine RW.seg hT 1 [] [] [.int .u32 0] [] (by kernel_rfl) (trivial) ?_
                refine RW.nil ?_
                refine WPK.seq ?_
                refine WPK.region ?_
                refine RW.seg hT 1 [] [] [.slice (some ⟨b26128, 0, none⟩) 1 1] [] (by kernel_rfl) (trivial) ?_
                refine RW.op (by kernel_rfl) (OK.inl (args := [.int .u32 0, .slice (some ⟨b26128, 0, none⟩) 1 1]) en52 (by kernel_rfl) ?_)
                intro R26230 hR26231
                refine Ret.of Tryd.func52 rfl ?_
                refine WPK.seq ?_
                refine WPK.region ?_
                refine RW.seg hT 1 [] [] [.int .u32 0] [] (by kernel_rfl) (trivial) ?_
                refine RW.nil ?_
                refine WPK.seq ?_
                refine WPK.region ?_
                refine RW.seg hT 1 [] [] [.int .u32 0] [] (by kernel_rfl) (trivial) ?_
                obtain ⟨x26280, hx26281, hf⟩ := bindS hf
                refine RW.op (by kernel_rfl) (OK.call' en59 (by kernel_rfl) (c59 (F := (.blk b26128 (.cells #[.slice (some ⟨b24490, o26117, none⟩) n26118 c26119] 23 (0, 0))) :: (.blk b24514 (.cells #[.int .i64 x24502.1.Kind, .int .i64 x24502.1.Page, .int .u64 x24502.1.Epoch, .slice A24509 x24502.1.Data.length c24510] 25 (0, 0))) :: (.sl (.slice (some ⟨b24490, 0, none⟩) 256 256) 49 1 256 cl24498) :: (.blk b24473 (.cells #[.int .i64 0, .int .i64 0, .int .u64 0, .slice none 0 0] 25 (0, 0))) :: (.sl (.slice (some ⟨b24483, 0, none⟩) n22546 c22547) 49 1 n22546 cl22548) :: (.blk b22431 (.cells #[.int .i64 p0.Kind, .int .i64 p0.Page, .int .u64 p0.Epoch, .slice A22426 p0.Data.length c22427] 25 (0, 0))) :: F) 0 s hx26281) ?_)
                intro X26284 hX26285
                refine fun _ _ hJ => hJ X26284 ?_
                intro I26286 w26282 s k26283
                refine hX26285 _ _ ?_
                replace e24512 := e24512.st k26283
                replace e22429 := e22429.st k26283
                replace rp24500 := rp24500.st k26283
                replace rp22550 := rp22550.st k26283
                replace eg0 := eg0.st k26283
                replace kk := kk.trans k26283
                refine RW.seg hT 1 [] [] [.int .u32 x26280] [] (by kernel_rfl) (trivial) ?_
                refine RW.nil ?_
                refine WPK.seq ?_
                refine WPK.seq ?_
                refine WPK.region ?_
                refine RW.seg hT 3 [] [] [.slice (some ⟨b26128, 0, none⟩) 1 1, .int .i64 1, .int .i64 0] [] (by kernel_rfl) (trivial) ?_
                refine RW.nil ?_
                refine WPK.block ?_
                refine WPK.rounds 12 ?_
                refine Rounds.go ?_
                refine WPK.seq ?_
                refine WPK.region ?_
                refine RW.seg hT 1 [] [] [.bool true] [] (by kernel_rfl) (trivial) ?_
                refine RW.nil ?_
                refine WPK.seq ?_
                refine WPK.condT (by kernel_rfl) ?_
                refine WPK.skip ?_
                refine WPK.seq ?_
                refine WPK.block ?_
                refine WPK.seq ?_
                refine WPK.region ?_
                refine RW.seg hT 3 [.slice (some ⟨b24490, o26117, none⟩) n26118 c26119] [] [.pointer (some ⟨b26128, 0, none⟩), .slice (some ⟨b24490, o26117, none⟩) n26118 c26119, .slice (some ⟨b24490, o26117, none⟩) n26118 c26119] [.idx 0 1, .cell ⟨b26128, 0, none⟩ (.slice (some ⟨b24490, o26117, none⟩) n26118 c26119)] (by kernel_rfl) (⟨⟨by decide, by decide⟩, s.cell (i := 0) (off := 0) rfl rfl⟩) ?_
                refine RW.nil ?_
                refine WPK.region ?_
                refine RW.seg hT 2 [] [] [.int .u32 x26280, .slice (some ⟨b24490, o26117, none⟩) n26118 c26119] [] (by kernel_rfl) (trivial) ?_
                obtain ⟨y26308, hy26309, hf⟩ := bindS hf
                have sa26304 := s
                obtain ⟨hm26310, hc26305, e26306⟩ := St.lendPt s (i := 2) rfl rfl rp24500 pt26125 (q26123) hy26309
                have k26307 := Kp.shut (I := I26286) (w := w26282) (p := .sl (.slice (some ⟨b24490, 0, none⟩) 256 256) 49 1 256 cl24498)
                replace s := s.shut 2 rfl
                obtain ⟨x26311, hx26312, hf⟩ := bindS hf
                have hc26315 := c60 (F := (.blk b26128 (.cells #[.slice (some ⟨b24490, o26117, none⟩) n26118 c26119] 23 (0, 0))) :: (.blk b24514 (.cells #[.int .i64 x24502.1.Kind, .int .i64 x24502.1.Page, .int .u64 x24502.1.Epoch, .slice A24509 x24502.1.Data.length c24510] 25 (0, 0))) :: (.blk b24473 (.cells #[.int .i64 0, .int .i64 0, .int .u64 0, .slice none 0 0] 25 (0, 0))) :: (.sl (.slice (some ⟨b24483, 0, none⟩) n22546 c22547) 49 1 n22546 cl22548) :: (.blk b22431 (.cells #[.int .i64 p0.Kind, .int .i64 p0.Page, .int .u64 p0.Epoch, .slice A22426 p0.Data.length c22427] 25 (0, 0))) :: F) x26280 y26308 (some ⟨b24490, o26117, none⟩) c26119 hc26305 e26306 (eg0.st k26307) s hx26312
                rw [← hm26310] at hc26315
                refine RW.op (by kernel_rfl) (OK.call' en60 (by kernel_rfl) (hc26315) ?_)
                intro X26316 hX26317
                refine fun _ _ hJ => hJ X26316 ?_
                intro I26318 w26313 s k26314
                refine hX26317 _ _ ?_
                have s' := St.back sa26304 (i := 2) rfl s k26314
                replace k26314 := Kp.back sa26304 (i := 2) rfl k26314
                replace s := s'; clear s'
                obtain ⟨I26320, s, k26314⟩ : ∃ I : Nat → Prop, St w0 M I ((.sl (.slice (some ⟨b24490, 0, none⟩) 256 256) 49 1 256 cl24498) :: (.blk b26128 (.cells #[.slice (some ⟨b24490, o26117, none⟩) n26118 c26119] 23 (0, 0))) :: (.blk b24514 (.cells #[.int .i64 x24502.1.Kind, .int .i64 x24502.1.Page, .int .u64 x24502.1.Epoch, .slice A24509 x24502.1.Data.length c24510] 25 (0, 0))) :: (.blk b24473 (.cells #[.int .i64 0, .int .i64 0, .int .u64 0, .slice none 0 0] 25 (0, 0))) :: (.sl (.slice (some ⟨b24483, 0, none⟩) n22546 c22547) 49 1 n22546 cl22548) :: (.blk b22431 (.cells #[.int .i64 p0.Kind, .int .i64 p0.Page, .int .u64 p0.Epoch, .slice A22426 p0.Data.length c22427] 25 (0, 0))) :: F) w26313 ∧ Kp _ _ I _ := ⟨_, s, k26314⟩
                replace e24512 := e24512.st k26314
                replace e22429 := e22429.st k26314
                replace rp22550 := rp22550.st k26314
                replace eg0 := eg0.st k26314
                replace rp24500 := rp24500.st k26314
                replace kk := kk.trans k26314
                refine RW.seg hT 1 [] [] [.int .u32 x26311] [] (by kernel_rfl) (trivial) ?_
                refine RW.nil ?_
                refine WPK.region ?_
                refine RW.seg hT 2 [] [] [.int .i64 1, .int .i64 1] [] (by kernel_rfl) (trivial) ?_
                refine RW.nil ?_
                refine Rounds.go ?_
                refine WPK.seq ?_
                refine WPK.region ?_
                refine RW.seg hT 1 [] [] [.bool false] [] (by kernel_rfl) (trivial) ?_
                refine RW.nil ?_
                refine WPK.seq ?_
                refine WPK.condF (by kernel_rfl) ?_
                refine WPK.exit (blockQ.same ?_)
                refine WPK.seq ?_
                refine WPK.region ?_
                refine RW.seg hT 1 [] [] [.int .u32 x26311] [] (by kernel_rfl) (trivial) ?_
                obtain ⟨x26321, hx26322, hf⟩ := bindS hf
                refine RW.op (by kernel_rfl) (OK.call' en61 (by kernel_rfl) (c61 (F := (.sl (.slice (some ⟨b24490, 0, none⟩) 256 256) 49 1 256 cl24498) :: (.blk b26128 (.cells #[.slice (some ⟨b24490, o26117, none⟩) n26118 c26119] 23 (0, 0))) :: (.blk b24514 (.cells #[.int .i64 x24502.1.Kind, .int .i64 x24502.1.Page, .int .u64 x24502.1.Epoch, .slice A24509 x24502.1.Data.length c24510] 25 (0, 0))) :: (.blk b24473 (.cells #[.int .i64 0, .int .i64 0, .int .u64 0, .slice none 0 0] 25 (0, 0))) :: (.sl (.slice (some ⟨b24483, 0, none⟩) n22546 c22547) 49 1 n22546 cl22548) :: (.blk b22431 (.cells #[.int .i64 p0.Kind, .int .i64 p0.Page, .int .u64 p0.Epoch, .slice A22426 p0.Data.length c22427] 25 (0, 0))) :: F) x26311 s hx26322) ?_)
                intro X26325 hX26326
                refine fun _ _ hJ => hJ X26325 ?_
                intro I26327 w26323 s k26324
                refine hX26326 _ _ ?_
                replace e24512 := e24512.st k26324
                replace e22429 := e22429.st k26324
                replace rp24500 := rp24500.st k26324
                replace rp22550 := rp22550.st k26324
                replace eg0 := eg0.st k26324
                replace kk := kk.trans k26324
                refine RW.seg hT 1 [] [] [.int .u32 x26321] [] (by kernel_rfl) (trivial) ?_
                refine RW.nil ?_
                refine WPK.ret (?_)
                refine Fin.of (rs := [.tmp 4]) hT [] (.int .u32 x26321) [] rfl (by kernel_rfl) (trivial) ?_
                refine hR26231 _ _ ?_
                refine RW.seg hT 1 [] [] [.int .u32 x26321] [] (by kernel_rfl) (trivial) ?_
                refine RW.nil ?_
                refine WPK.ret (?_)
                refine Fin.of (rs := [.tmp 2]) hT [] (.int .u32 x26321) [] rfl (by kernel_rfl) (trivial) ?_
                refine hR26131 _ _ ?_
                refine RW.seg hT 1 [] [] [.int .u32 x26321] [] (by kernel_rfl) (trivial) ?_
                refine RW.nil ?_
                refine WPK.ret (?_)
                refine Fin.of (rs := [.tmp 2]) hT [] (.int .u32 x26321) [] rfl (by kernel_rfl) (trivial) ?_
                refine hR25905 _ _ ?_
                refine RW.seg hT 3 [] [(28, .bool (decide (x24502.2 ≠ x26321)))] [.bool (decide (x24502.2 ≠ x26321)), .bool (decide (x24502.2 ≠ x26321)), .bool (decide (x24502.2 ≠ x26321))] [.veq (.bool (x24502.2 != x26321)) (.bool (decide (x24502.2 ≠ x26321)))] (by kernel_rfl) (ne_v) ?_
                refine RW.nil ?_
                replace s := s.pick [2, 0, 3, 5] 6 rfl
                exact fun X h => kc (by kernel_rfl) rfl (h I26327 (decide (x24502.2 ≠ x26321)) [.slice (some ⟨b24483, 0, none⟩) n22546 c22547, undef, undef, .int .u32 x24502.2, .slice (some ⟨b24483, 0, none⟩) n22546 c22547, .int .i64 (x22538.1.length : Int), .bool (decide ((x22538.1.length : Int) ≠ 256)), undef, .slice (some ⟨b24483, 0, none⟩) n22546 c22547, .pointer (some ⟨b24483, 0, none⟩), .agg (List.map (Value.int .u8) (List.take 256 y24485)).toArray, .tuple #[.agg #[.int .i64 x24502.1.Kind, .int .i64 x24502.1.Page, .int .u64 x24502.1.Epoch, .slice A24509 x24502.1.Data.length c24510], .int .u32 x24502.2], .agg (List.map (Value.int .u8) (List.take 256 y24485)).toArray, .tuple #[.agg #[.int .i64 x24502.1.Kind, .int .i64 x24502.1.Page, .int .u64 x24502.1.Epoch, .slice A24509 x24502.1.Data.length c24510], .int .u32 x24502.2], .agg #[.int .i64 x24502.1.Kind, .int .i64 x24502.1.Page, .int .u64 x24502.1.Epoch, .slice A24509 x24502.1.Data.length c24510], .int .u32 x24502.2, .agg (List.map (Value.int .u8) (List.take 256 y24485)).toArray, .agg (List.map (Value.int .u8) (List.replicate 256 (0 : Int))).toArray, .bool (decide ((List.take 256 y24485) = (List.replicate 256 (0 : Int)))), .bool false, .int .u32 x24502.2, .int .u32 x26321, .bool (decide (x24502.2 ≠ x26321)), .bool (decide (x24502.2 ≠ x26321)), undef] _ hf s kk e24512 e22429 rp24500 eg0)
  · refine WPK.region ?_
    obtain ⟨x26330, hx26331, hf⟩ := bindS hf
    refine RW.op (by kernel_rfl) (OK.call' en9 (by kernel_rfl) (c9 (F := (.blk b22431 (.cells #[.int .i64 p0.Kind, .int .i64 p0.Page, .int .u64 p0.Epoch, .slice A22426 p0.Data.length c22427] 25 (0, 0))) :: F) eg0 s hx26331) ?_)
    intro X26334 hX26335
    refine fun _ _ hJ => hJ X26334 ?_
    intro I26336 w26332 s k26333
    refine hX26335 _ _ ?_
    replace e22429 := e22429.st k26333
    replace eg0 := eg0.st k26333
    replace kk := kk.trans k26333
    refine RW.seg hT 1 [] [(9, .bool (decide (¬ (x26330 = true))))] [.bool (decide (¬ (x26330 = true)))] [.veq (.bool (!x26330)) (.bool (decide (¬ (x26330 = true))))] (by kernel_rfl) (not_b) ?_
    by_cases h26337 : ¬ (x26330 = true)
    · have hf := iteT h26337 hf
      refine RW.seg hT 6 [] [(10, .bool true)] [.bool true, undef, undef, undef, undef, .bool true] [.veq (.bool (decide (¬ (x26330 = true)))) (.bool true)] (by kernel_rfl) (bo_t h26337) ?_
      refine RW.nil ?_
      exact fun X h => kc (by kernel_rfl) rfl (h I26336 true [.agg #[.int .i64 p0.Kind, .int .i64 p0.Page, .int .u64 p0.Epoch, .slice A22426 p0.Data.length c22427], undef, .bool x26330, .bool (decide (¬ (x26330 = true))), .bool true, undef, undef, undef, undef, undef, undef, undef, undef, undef, undef] _ hf s kk e22429 eg0)
    · have hf := iteF h26337 hf
      refine RW.seg hT 2 [.agg #[.int .i64 p0.Kind, .int .i64 p0.Page, .int .u64 p0.Epoch, .slice A22426 p0.Data.length c22427]] [(10, .bool false)] [.bool false, .agg #[.int .i64 p0.Kind, .int .i64 p0.Page, .int .u64 p0.Epoch, .slice A22426 p0.Data.length c22427]] [.veq (.bool (decide (¬ (x26330 = true)))) (.bool false), .cells ⟨b22431, 0, none⟩ [.int .i64 p0.Kind, .int .i64 p0.Page, .int .u64 p0.Epoch, .slice A22426 p0.Data.length c22427] 4] (by kernel_rfl) (⟨bo_f h26337, s.cells (i := 0) rfl rfl rfl⟩) ?_
      refine RW.op (by kernel_rfl) (OK.new hT (f := fun b => .slice (some ⟨b, 0, none⟩) 1 1) (cs := [.int .i64 p0.Kind, .int .i64 p0.Page, .int .u64 p0.Epoch, .slice A22426 p0.Data.length c22427]) (e := 25) (c := .tt) s (by kernel_rfl) trivial ?_)
      rintro w26338 b26339 s k26340 -
      replace e22429 := e22429.st k26340
      replace eg0 := eg0.st k26340
      replace kk := kk.trans k26340
      have rp26341 : RepL rp_T_api_Frame I26336 w26338 [.int .i64 p0.Kind, .int .i64 p0.Page, .int .u64 p0.Epoch, .slice A22426 p0.Data.length c22427] ([p0] : List T_api_Frame) := RepL.cons (c := [.int .i64 p0.Kind, .int .i64 p0.Page, .int .u64 p0.Epoch, .slice A22426 p0.Data.length c22427]) (d := []) (⟨[.int .i64 p0.Kind], [.int .i64 p0.Page, .int .u64 p0.Epoch, .slice A22426 p0.Data.length c22427], rfl, rfl, ⟨[.int .i64 p0.Page], [.int .u64 p0.Epoch, .slice A22426 p0.Data.length c22427], rfl, rfl, ⟨[.int .u64 p0.Epoch], [.slice A22426 p0.Data.length c22427], rfl, rfl, ⟨_, _, rfl, hc22428.1, hc22428.2, e22429⟩⟩⟩⟩) (RepL.nil)
      replace s : St w0 M I26336 ((.sl (.slice (some ⟨b26339, 0, none⟩) 1 1) 25 4 1 [.int .i64 p0.Kind, .int .i64 p0.Page, .int .u64 p0.Epoch, .slice A22426 p0.Data.length c22427]) :: (.blk b22431 (.cells #[.int .i64 p0.Kind, .int .i64 p0.Page, .int .u64 p0.Epoch, .slice A22426 p0.Data.length c22427] 25 (0, 0))) :: F) w26338 := s.blkSl (i := 0) (n := 1) (c := 1) (size := 4) rfl rfl (Nat.le_refl _) (by decide)
      have sa26343 := s
      obtain ⟨hc26344, e26345⟩ := St.lend s (i := 0) rfl rfl rp26341
      have k26346 := Kp.shut (I := I26336) (w := w26338) (p := .sl (.slice (some ⟨b26339, 0, none⟩) 1 1) 25 4 1 [.int .i64 p0.Kind, .int .i64 p0.Page, .int .u64 p0.Epoch, .slice A22426 p0.Data.length c22427])
      replace s := s.shut 0 rfl
      obtain ⟨x26347, hx26348, hf⟩ := bindS hf
      refine RW.op (by kernel_rfl) (OK.call' en10 (by kernel_rfl) (c10 (F := (.blk b22431 (.cells #[.int .i64 p0.Kind, .int .i64 p0.Page, .int .u64 p0.Epoch, .slice A22426 p0.Data.length c22427] 25 (0, 0))) :: F) ([p0] : List T_api_Frame) (some ⟨b26339, 0, none⟩) 1 hc26344 e26345 s hx26348) ?_)
      intro X26351 hX26352
      refine fun _ _ hJ => hJ X26351 ?_
      intro I26353 w26349 s k26350
      refine hX26352 _ _ ?_
      have s' := St.back sa26343 (i := 0) rfl s k26350
      replace k26350 := Kp.back sa26343 (i := 0) rfl k26350
      replace s := s'; clear s'
      obtain ⟨I26355, s, k26350⟩ : ∃ I : Nat → Prop, St w0 M I ((.sl (.slice (some ⟨b26339, 0, none⟩) 1 1) 25 4 1 [.int .i64 p0.Kind, .int .i64 p0.Page, .int .u64 p0.Epoch, .slice A22426 p0.Data.length c22427]) :: (.blk b22431 (.cells #[.int .i64 p0.Kind, .int .i64 p0.Page, .int .u64 p0.Epoch, .slice A22426 p0.Data.length c22427] 25 (0, 0))) :: F) w26349 ∧ Kp _ _ I _ := ⟨_, s, k26350⟩
      replace e22429 := e22429.st k26350
      replace eg0 := eg0.st k26350
      replace rp26341 := rp26341.st k26350
      replace kk := kk.trans k26350
      refine RW.seg hT 2 [] [(14, .bool (decide (¬ (x26347 = true))))] [.bool (decide (¬ (x26347 = true))), .bool (decide (¬ (x26347 = true)))] [.veq (.bool (!x26347)) (.bool (decide (¬ (x26347 = true))))] (by kernel_rfl) (not_b) ?_
      refine RW.nil ?_
      replace s := s.pick [1] 2 rfl
      exact fun X h => kc (by kernel_rfl) rfl (h I26355 (decide (¬ (x26347 = true))) [.agg #[.int .i64 p0.Kind, .int .i64 p0.Page, .int .u64 p0.Epoch, .slice A22426 p0.Data.length c22427], undef, .bool x26330, .bool (decide (¬ (x26330 = true))), .bool false, .agg #[.int .i64 p0.Kind, .int .i64 p0.Page, .int .u64 p0.Epoch, .slice A22426 p0.Data.length c22427], .slice (some ⟨b26339, 0, none⟩) 1 1, .bool x26347, .bool (decide (¬ (x26347 = true))), undef, undef, undef, undef, undef, undef] _ hf s kk e22429 eg0)
theorem c13 {w0 w : World} {M I : Nat → Prop} {F : List It} (p0 : (List Int)) (A26449 : Option Addr) (c26450 : Nat) (hc26451 : (p0.length ≤ c26450 ∧ c26450 ≤ 9223372036854775807)) (e26452 : Elems (Rp.int .u8) I w A26449 p0) (s : St w0 M I (F) w) {r : (List Int)} (hf : g13 p0 = some r) :
    Ret Tryd.prog 13 [.slice A26449 p0.length c26450] w fun v wz => ∀ X : Value → World → Prop, (∀ (I' : Nat → Prop) (A26475 : Option Addr) (n26476 : Nat) (c26477 : Nat) (cl26478 : List Value) (w' : World), St w0 M I' ((.sl (.slice A26475 n26476 c26477) 5 1 n26476 cl26478) :: F) w' → Kp I w I' w' → n26476 = r.length → RepL (Rp.int .u8) I' w' cl26478 r → X (.slice A26475 n26476 c26477) w') → X v wz := by
  have kk : Kp I w I w := Kp.refl
  unfold g13 at hf
  refine Ret.of Tryd.func13 rfl ?_
  refine WPK.seq ?_
  refine WPK.region ?_
  refine RW.seg hT 1 [] [] [.slice none 0 0] [] (by kernel_rfl) (trivial) ?_
  refine RW.nil ?_
  refine WPK.seq ?_
  refine WPK.seq ?_
  refine WPK.region ?_
  refine RW.seg hT 1 [] [] [.slice A26449 p0.length c26450] [] (by kernel_rfl) (trivial) ?_
  rcases A26449 with _ | a26457
  · have hx26456 : p0 = [] := Elems.none_nil e26452
    replace hf : (some ([] : List Int)) = some r := by simpa [hx26456, appI, List.length_nil] using hf
    refine RW.seg hT 1 [] [] [.bool true] [] (by kernel_rfl) (trivial) ?_
    refine RW.nil ?_
    refine WPK.condT (by kernel_rfl) ?_
    refine WPK.seq ?_
    refine WPK.region ?_
    refine RW.seg hT 1 [] [] [.slice none 0 0] [] (by kernel_rfl) (trivial) ?_
    refine RW.nil ?_
    refine WPK.ret (?_)
    obtain rfl := someS hf
    refine Fin.of (rs := [.tmp 2]) hT [] (.slice none 0 0) [] rfl (by kernel_rfl) (trivial) ?_
    replace s := s.pushNil 5 1
    exact fun X h => vc rfl (h I none 0 0 [] _ s kk rfl (RepL.nil (r := (Rp.int .u8))))
  · refine RW.seg hT 1 [] [] [.bool false] [] (by kernel_rfl) (trivial) ?_
    refine RW.nil ?_
    refine WPK.condF (by kernel_rfl) ?_
    refine WPK.skip ?_
    refine WPK.seq ?_
    refine WPK.region ?_
    refine RW.op (by kernel_rfl) (OK.new hT (f := fun b => .slice (some ⟨b, 0, none⟩) 0 0) (cs := []) (e := 5) (c := .tt) s (by kernel_rfl) trivial ?_)
    rintro w26459 b26460 s k26461 -
    replace e26452 := e26452.st k26461
    replace kk := kk.trans k26461
    have rp26462 : RepL (Rp.int .u8) I w26459 [] ([] : List Int) := RepL.nil
    replace s : St w0 M I ((.sl (.slice (some ⟨b26460, 0, none⟩) 0 0) 5 1 0 []) :: F) w26459 := s.blkSl (i := 0) (n := 0) (c := 0) (size := 1) rfl rfl (Nat.le_refl _) (by decide)
    refine RW.seg hT 1 [] [] [.slice (some a26457) p0.length c26450] [] (by kernel_rfl) (trivial) ?_
    obtain ⟨nw26464, hs26465, rq26466⟩ := Elems.src e26452
    obtain ⟨x26467, hx26468, hf⟩ := bindS hf
    refine RW.op (by kernel_rfl) (OK.app hT (r := (Rp.int .u8)) (i := 0) (t := 23) (e := 5) (size := 1) (bytes := 1) (c := 0) (n := 0) (m := p0.length) s (by kernel_rfl) rfl rfl rfl rfl rfl (by decide) rfl rfl rfl rfl rp26462 hs26465 rq26466 flat_int rfl hx26468 ?_)
    rintro A26469 c26470 cl26471 w26472 s k26473 rp26474
    replace e26452 := e26452.st k26473
    replace rp26462 := rp26462.st k26473
    replace kk := kk.trans k26473
    refine RW.seg hT 1 [] [] [.slice A26469 x26467.length c26470] [] (by kernel_rfl) (trivial) ?_
    refine RW.nil ?_
    refine WPK.ret (?_)
    obtain rfl := someS hf
    refine Fin.of (rs := [.tmp 2]) hT [] (.slice A26469 x26467.length c26470) [] rfl (by kernel_rfl) (trivial) ?_
    exact fun X h => vc rfl (h I A26469 x26467.length c26470 cl26471 _ s kk rfl rp26474)
theorem c44 {w0 w : World} {M I : Nat → Prop} {F : List It} (p0 : (List Int)) (p1 : Int) (A28560 : Option Addr) (c28561 : Nat) (hc28562 : (p0.length ≤ c28561 ∧ c28561 ≤ 9223372036854775807)) (e28563 : Elems (Rp.int .i64) I w A28560 p0) (s : St w0 M I (F) w) {r : Int} (hf : g44 p0 p1 = some r) :
    Ret Tryd.prog 44 [.slice A28560 p0.length c28561, .int .i64 p1] w fun v wz => ∀ X : Value → World → Prop, (∀ (I' : Nat → Prop) (w' : World), St w0 M I' (F) w' → Kp I w I' w' → X (.int .i64 r) w') → X v wz := by
  have kk : Kp I w I w := Kp.refl
  unfold g44 at hf
  refine Ret.of Tryd.func44 rfl ?_
  refine WPK.seq ?_
  refine WPK.region ?_
  refine RW.seg hT 1 [] [] [.int .i64 0] [] (by kernel_rfl) (trivial) ?_
  refine RW.nil ?_
  refine WPK.seq ?_
  refine WPK.seq ?_
  refine WPK.region ?_
  refine RW.seg hT 3 [] [] [.slice A28560 p0.length c28561, .int .i64 (p0.length : Int), .int .i64 0] [] (by kernel_rfl) (trivial) ?_
  refine RW.nil ?_
  refine WPK.block ?_
  refine WPK.loop' (J := fun n28676 E ds wz => ∀ X : Kont, (∀ (x28654 : Int) (D28653 : List Value), g44_l1 p0 p1 n28676 x28654 = some r → X [.slice A28560 p0.length c28561, .int .i64 p1, (D28653.getD 0 undef), (D28653.getD 1 undef), .int .i64 0, (D28653.getD 2 undef), (D28653.getD 3 undef), .int .i64 (p0.length : Int), .int .i64 x28654, (D28653.getD 4 undef), (D28653.getD 5 undef), (D28653.getD 6 undef), (D28653.getD 7 undef), (D28653.getD 8 undef), (D28653.getD 9 undef), (D28653.getD 10 undef), (D28653.getD 11 undef), undef, (D28653.getD 12 undef)] [] w) → X E ds wz) FUEL (fun X h => kc (by kernel_rfl) rfl (h 0 [undef, undef, undef, .slice A28560 p0.length c28561, undef, undef, undef, undef, undef, undef, undef, undef, undef] hf)) (fun _ _ _ hJ => hJ (fun _ _ _ => False) (by intro x28654 D28653 hf; exact noneS hf)) ?_
  intro X28698 hX28699
  refine fun n28676 _ _ _ hJ => hJ (X28698 n28676) ?_
  intro x28654 D28653 hf
  refine hX28699 _ _ _ _ ?_
  replace hf : g44_l1B p0 p1 (g44_l1 p0 p1 n28676) x28654 = some r := hf
  generalize hrec28677 : g44_l1 p0 p1 n28676 = rec28675 at hf
  unfold g44_l1B at hf
  refine WPK.seq ?_
  refine WPK.region ?_
  refine RW.seg hT 1 [] [] [.bool (decide (x28654 < (p0.length : Int)))] [] (by kernel_rfl) (trivial) ?_
  refine RW.nil ?_
  refine WPK.seq ?_
  by_cases h28679 : x28654 < (p0.length : Int)
  · have hf := iteT h28679 hf
    refine WPK.condT (Eq.trans (b := .bool (decide (x28654 < (p0.length : Int)))) (by kernel_rfl) (bo_t h28679)) ?_
    refine WPK.skip ?_
    refine WPK.seq ?_
    refine WPK.block ?_
    refine WPK.seq ?_
    refine WPK.region ?_
    refine RW.seg hT 2 [] [] [.int .i64 x28654, .int .i64 x28654] [] (by kernel_rfl) (trivial) ?_
    refine RW.nil ?_
    refine WPK.seq ?_
    refine WPK.region ?_
    obtain ⟨x28689, hx28690, hf⟩ := bindS hf
    obtain ⟨h28691, hx28690⟩ := getS hx28690
    obtain ⟨b28692, o28693, rfl⟩ := Elems.opn e28563 hx28690
    obtain ⟨cs28694, hr28695, ha28696⟩ := Elems.get e28563 hx28690
    obtain rfl : cs28694 = [.int .i64 x28689] := hr28695
    refine RW.seg hT 6 [.int .i64 x28689] [(16, .bool (decide (p1 = x28689)))] [.int .i64 p1, .slice (some ⟨b28692, o28693, none⟩) p0.length c28561, .int .i64 x28654, .pointer (some ⟨b28692, o28693 + x28654.toNat * 1, none⟩), .int .i64 x28689, .bool (decide (p1 = x28689))] [.idx x28654 p0.length, .cell ⟨b28692, o28693 + x28654.toNat * 1, none⟩ (.int .i64 x28689), .veq (.bool (p1 == x28689)) (.bool (decide (p1 = x28689)))] (by kernel_rfl) (⟨h28691, ha28696 0 _ rfl, eq_v⟩) ?_
    refine RW.nil ?_
    by_cases h28697 : p1 = x28689
    · have hf := iteT h28697 hf
      refine WPK.condT (Eq.trans (b := .bool (decide (p1 = x28689))) (by kernel_rfl) (bo_t h28697)) ?_
      refine WPK.seq ?_
      refine WPK.region ?_
      refine RW.seg hT 2 [] [] [.int .i64 x28654, .int .i64 x28654] [] (by kernel_rfl) (trivial) ?_
      refine RW.nil ?_
      refine WPK.ret (blockQ.ret (blockQ.ret (?_)))
      obtain rfl := someS hf
      refine Fin.of (rs := [.tmp 4]) hT [] (.int .i64 x28654) [] rfl (by kernel_rfl) (trivial) ?_
      exact fun X h => vc rfl (h I _ s kk)
    · have hf := iteF h28697 hf
      refine WPK.condF (Eq.trans (b := .bool (decide (p1 = x28689))) (by kernel_rfl) (bo_f h28697)) ?_
      refine WPK.skip ?_
      refine WPK.region ?_
      refine RW.seg hT 2 [] [] [.int .i64 (IntKind.i64.wrap (x28654 + 1)), .int .i64 (IntKind.i64.wrap (x28654 + 1))] [] (by kernel_rfl) (trivial) ?_
      refine RW.nil ?_
      subst hrec28677
      exact ⟨n28676, Nat.le_refl _, fun X h => kc (by kernel_rfl) rfl (h (IntKind.i64.wrap (x28654 + 1)) [(D28653.getD 0 undef), (D28653.getD 1 undef), .int .i64 x28654, (D28653.getD 3 undef), .bool (decide (x28654 < (p0.length : Int))), .int .i64 x28654, .int .i64 p1, .slice (some ⟨b28692, o28693, none⟩) p0.length c28561, .int .i64 x28654, .pointer (some ⟨b28692, o28693 + x28654.toNat * 1, none⟩), .int .i64 x28689, .bool (decide (p1 = x28689)), .int .i64 (IntKind.i64.wrap (x28654 + 1))] hf)⟩
  · have hf := iteF h28679 hf
    refine WPK.condF (Eq.trans (b := .bool (decide (x28654 < (p0.length : Int)))) (by kernel_rfl) (bo_f h28679)) ?_
    refine WPK.exit (blockQ.same ?_)
    refine WPK.seq ?_
    refine WPK.region ?_
    refine RW.seg hT 1 [] [] [.int .i64 (-1)] [] (by kernel_rfl) (trivial) ?_
    refine RW.nil ?_
    refine WPK.ret (?_)
    obtain rfl := someS hf
    refine Fin.of (rs := [.tmp 4]) hT [] (.int .i64 (-1)) [] rfl (by kernel_rfl) (trivial) ?_
    exact fun X h => vc rfl (h I _ s kk)
theorem c29 {w0 w : World} {M I : Nat → Prop} {F : List It} (p0 : (List Int)) (p1 : Int) (A28707 : Option Addr) (c28708 : Nat) (hc28709 : (p0.length ≤ c28708 ∧ c28708 ≤ 9223372036854775807)) (e28710 : Elems (Rp.int .i64) I w A28707 p0) (s : St w0 M I (F) w) {r : Bool} (hf : g29 p0 p1 = some r) :
    Ret Tryd.prog 29 [.slice A28707 p0.length c28708, .int .i64 p1] w fun v wz => ∀ X : Value → World → Prop, (∀ (I' : Nat → Prop) (w' : World), St w0 M I' (F) w' → Kp I w I' w' → X (.bool r) w') → X v wz := by
  have kk : Kp I w I w := Kp.refl
  unfold g29 at hf
  refine Ret.of Tryd.func29 rfl ?_
  refine WPK.seq ?_
  refine WPK.region ?_
  refine RW.seg hT 1 [] [] [.bool false] [] (by kernel_rfl) (trivial) ?_
  refine RW.nil ?_
  refine WPK.seq ?_
  refine WPK.region ?_
  refine RW.seg hT 2 [] [] [.slice A28707 p0.length c28708, .int .i64 p1] [] (by kernel_rfl) (trivial) ?_
  obtain ⟨x28711, hx28712, hf⟩ := bindS hf
  refine RW.op (by kernel_rfl) (OK.call' en44 (by kernel_rfl) (c44 (F := F) p0 p1 A28707 c28708 hc28709 e28710 s hx28712) ?_)
  intro X28715 hX28716
  refine fun _ _ hJ => hJ X28715 ?_
  intro I28717 w28713 s k28714
  refine hX28716 _ _ ?_
  replace e28710 := e28710.st k28714
  replace kk := kk.trans k28714
  refine RW.seg hT 2 [] [] [.bool (decide (x28711 ≥ 0)), .bool (decide (x28711 ≥ 0))] [] (by kernel_rfl) (trivial) ?_
  refine RW.nil ?_
  refine WPK.ret (?_)
  obtain rfl := someS hf
  refine Fin.of (rs := [.tmp 4]) hT [] (.bool (decide (x28711 ≥ 0))) [] rfl (by kernel_rfl) (trivial) ?_
  exact fun X h => vc rfl (h I28717 _ s kk)
theorem c14 {w0 w : World} {M I : Nat → Prop} {F : List It} (p0 : (List Int)) (p1 : Int) (p2 : (List Int)) (A28763 : Option Addr) (c28764 : Nat) (A28767 : Option Addr) (c28768 : Nat) (hc28765 : (p0.length ≤ c28764 ∧ c28764 ≤ 9223372036854775807)) (e28766 : Elems (Rp.int .u8) I w A28763 p0) (hc28769 : (p2.length ≤ c28768 ∧ c28768 ≤ 9223372036854775807)) (e28770 : Elems (Rp.int .i64) I w A28767 p2) (eg0 : Elems (Rp.int .u32) I w (some ⟨0, 0, none⟩) TAB0) (s : St w0 M I (F) w) {r : (T_api_Frame × Int)} (hf : g14 p0 p1 p2 = some r) :
    Ret Tryd.prog 14 [.slice A28763 p0.length c28764, .int .i64 p1, .slice A28767 p2.length c28768] w fun v wz => ∀ X : Value → World → Prop, (∀ (I' : Nat → Prop) (A28836 : Option Addr) (c28837 : Nat) (w' : World), St w0 M I' (F) w' → Kp I w I' w' → (r.1.Data.length ≤ c28837 ∧ c28837 ≤ 9223372036854775807) → Elems (Rp.int .u8) I' w' A28836 r.1.Data → X (.tuple #[.agg #[.int .i64 r.1.Kind, .int .i64 r.1.Page, .int .u64 r.1.Epoch, .slice A28836 r.1.Data.length c28837], .int .i64 r.2]) w') → X v wz := by
  have kk : Kp I w I w := Kp.refl
  unfold g14 at hf
  refine Ret.of Tryd.func14 rfl ?_
  refine WPK.seq ?_
  refine WPK.region ?_
  refine RW.op (by kernel_rfl) (OK.new hT (f := fun b => .pointer (some ⟨b, 0, none⟩)) (cs := [.int .i64 0, .int .i64 0, .int .u64 0, .slice none 0 0]) (e := 25) (c := .tt) s (by kernel_rfl) trivial ?_)
  rintro w28771 b28772 s k28773 -
  replace e28766 := e28766.st k28773
  replace e28770 := e28770.st k28773
  replace eg0 := eg0.st k28773
  replace kk := kk.trans k28773
  refine RW.seg hT 1 [] [] [.int .i64 0] [] (by kernel_rfl) (trivial) ?_
  refine RW.nil ?_
  refine WPK.seq ?_
  refine WPK.region ?_
  refine RW.seg hT 2 [] [] [.slice A28763 p0.length c28764, .int .i64 p1] [] (by kernel_rfl) (trivial) ?_
  obtain ⟨x28774, hx28775, hf⟩ := bindS hf
  refine RW.op (by kernel_rfl) (OK.call' en8 (by kernel_rfl) (c8 (F := (.blk b28772 (.cells #[.int .i64 0, .int .i64 0, .int .u64 0, .slice none 0 0] 25 (0, 0))) :: F) p0 p1 A28763 c28764 hc28765 e28766 eg0 s hx28775) ?_)
  intro X28778 hX28779
  refine fun _ _ hJ => hJ X28778 ?_
  intro I28780 A28781 c28782 w28776 s k28777 hc28783 e28784
  refine hX28779 _ _ ?_
  replace e28766 := e28766.st k28777
  replace e28770 := e28770.st k28777
  replace eg0 := eg0.st k28777
  replace kk := kk.trans k28777
  refine RW.seg hT 3 [] [] [.tuple #[.agg #[.int .i64 x28774.1.Kind, .int .i64 x28774.1.Page, .int .u64 x28774.1.Epoch, .slice A28781 x28774.1.Data.length c28782], .int .i64 x28774.2], .agg #[.int .i64 x28774.1.Kind, .int .i64 x28774.1.Page, .int .u64 x28774.1.Epoch, .slice A28781 x28774.1.Data.length c28782], .int .i64 x28774.2] [] (by kernel_rfl) (trivial) ?_
  refine RW.op (by kernel_rfl) (OK.new hT (f := fun b => .pointer (some ⟨b, 0, none⟩)) (cs := [.int .i64 0, .int .i64 0, .int .u64 0, .slice none 0 0]) (e := 25) (c := .tt) s (by kernel_rfl) trivial ?_)
  rintro w28785 b28786 s k28787 -
  replace e28766 := e28766.st k28787
  replace e28770 := e28770.st k28787
  replace e28784 := e28784.st k28787
  replace eg0 := eg0.st k28787
  replace kk := kk.trans k28787
  refine RW.op (by kernel_rfl) (OK.store hT (i := 0) (b := b28786) (off := 0) (n := 4) (vs := [.int .i64 x28774.1.Kind, .int .i64 x28774.1.Page, .int .u64 x28774.1.Epoch, .slice A28781 x28774.1.Data.length c28782]) (cs := [.int .i64 0, .int .i64 0, .int .u64 0, .slice none 0 0]) (e := 25) s (by kernel_rfl) rfl rfl (flat_ok rfl) (Nat.le_of_ble_eq_true rfl) ?_)
  rintro w28788 s k28789 -
  replace e28766 := e28766.st k28789
  replace e28770 := e28770.st k28789
  replace e28784 := e28784.st k28789
  replace eg0 := eg0.st k28789
  replace kk := kk.trans k28789
  refine RW.seg hT 1 [] [] [.int .i64 x28774.2] [] (by kernel_rfl) (trivial) ?_
  refine RW.nil ?_
  refine WPK.seq ?_
  refine WPK.seq ?_
  refine WPK.cut' (Kn fun E ds wz => ∀ X : Kont, (∀ (I28820 : Nat → Prop) (x28818 : Bool) (D28817 : List Value) (w' : World), g14_j1 x28774 x28818 = some r → St w0 M I28820 ((.blk b28786 (.cells #[.int .i64 x28774.1.Kind, .int .i64 x28774.1.Page, .int .u64 x28774.1.Epoch, .slice A28781 x28774.1.Data.length c28782] 25 (0, 0))) :: (.blk b28772 (.cells #[.int .i64 0, .int .i64 0, .int .u64 0, .slice none 0 0] 25 (0, 0))) :: F) w' → Kp I w I28820 w' → Elems (Rp.int .u8) I28820 w' A28781 x28774.1.Data → Elems (Rp.int .u32) I28820 w' (some ⟨0, 0, none⟩) TAB0 → X [(D28817.getD 0 undef), (D28817.getD 1 undef), (D28817.getD 2 undef), (D28817.getD 3 undef), (D28817.getD 4 undef), (D28817.getD 5 undef), .pointer (some ⟨b28772, 0, none⟩), .int .i64 0, .pointer (some ⟨b28786, 0, none⟩), .int .i64 x28774.2, (D28817.getD 6 undef), (D28817.getD 7 undef), (D28817.getD 8 undef), (D28817.getD 9 undef), (D28817.getD 10 undef), (D28817.getD 11 undef), (D28817.getD 12 undef), (D28817.getD 13 undef), (D28817.getD 14 undef), (D28817.getD 15 undef), (D28817.getD 16 undef), (D28817.getD 17 undef), (D28817.getD 18 undef), (D28817.getD 19 undef), .bool x28818, undef, undef, undef] [] w') → X E ds wz) ?_ ?_
  · intro X28826 hX28827
    refine fun _ _ _ hJ => hJ X28826 ?_
    intro I28820 x28818 D28817 w28819 hf s kk e28784 eg0
    refine hX28827 _ _ _ ?_
    unfold g14_j1 at hf
    by_cases h28821 : x28818 = true
    · have hf := iteT h28821 hf
      refine WPK.condT (Eq.trans (b := .bool x28818) (by kernel_rfl) (b_t h28821)) ?_
      refine WPK.seq ?_
      refine WPK.region ?_
      refine RW.seg hT 1 [] [] [.agg #[.int .i64 0, .int .i64 0, .int .u64 0, .slice none 0 0]] [] (by kernel_rfl) (trivial) ?_
      refine RW.op (by kernel_rfl) (OK.store hT (i := 1) (b := b28772) (off := 0) (n := 4) (vs := [.int .i64 0, .int .i64 0, .int .u64 0, .slice none 0 0]) (cs := [.int .i64 0, .int .i64 0, .int .u64 0, .slice none 0 0]) (e := 25) s (by kernel_rfl) rfl rfl (flat_ok rfl) (Nat.le_of_ble_eq_true rfl) ?_)
      rintro w28822 s k28823 -
      replace e28784 := e28784.st k28823
      replace eg0 := eg0.st k28823
      replace kk := kk.trans k28823
      refine RW.seg hT 1 [] [] [.int .i64 42] [] (by kernel_rfl) (trivial) ?_
      refine RW.nil ?_
      refine WPK.ret (?_)
      obtain rfl := someS hf
      refine Fin.of (rs := [.cell 6 25, .tmp 7]) hT [.agg #[.int .i64 0, .int .i64 0, .int .u64 0, .slice none 0 0]] (.tuple #[.agg #[.int .i64 0, .int .i64 0, .int .u64 0, .slice none 0 0], .int .i64 42]) [.cells ⟨b28772, 0, none⟩ [.int .i64 0, .int .i64 0, .int .u64 0, .slice none 0 0] 4] rfl (by kernel_rfl) (s.cells (i := 1) rfl rfl rfl) ?_
      replace s := s.pick [] 2 rfl
      exact fun X h => vc rfl (h I28820 none 0 _ s kk nil_hc Elems.nil)
    · have hf := iteF h28821 hf
      refine WPK.condF (Eq.trans (b := .bool x28818) (by kernel_rfl) (b_f h28821)) ?_
      refine WPK.skip ?_
      refine WPK.seq ?_
      refine WPK.region ?_
      refine RW.seg hT 2 [.agg #[.int .i64 x28774.1.Kind, .int .i64 x28774.1.Page, .int .u64 x28774.1.Epoch, .slice A28781 x28774.1.Data.length c28782]] [] [.agg #[.int .i64 x28774.1.Kind, .int .i64 x28774.1.Page, .int .u64 x28774.1.Epoch, .slice A28781 x28774.1.Data.length c28782], .int .i64 x28774.2] [.cells ⟨b28786, 0, none⟩ [.int .i64 x28774.1.Kind, .int .i64 x28774.1.Page, .int .u64 x28774.1.Epoch, .slice A28781 x28774.1.Data.length c28782] 4] (by kernel_rfl) (s.cells (i := 0) rfl rfl rfl) ?_
      refine RW.op (by kernel_rfl) (OK.store hT (i := 1) (b := b28772) (off := 0) (n := 4) (vs := [.int .i64 x28774.1.Kind, .int .i64 x28774.1.Page, .int .u64 x28774.1.Epoch, .slice A28781 x28774.1.Data.length c28782]) (cs := [.int .i64 0, .int .i64 0, .int .u64 0, .slice none 0 0]) (e := 25) s (by kernel_rfl) rfl rfl (flat_ok rfl) (Nat.le_of_ble_eq_true rfl) ?_)
      rintro w28824 s k28825 -
      replace e28784 := e28784.st k28825
      replace eg0 := eg0.st k28825
      replace kk := kk.trans k28825
      refine RW.seg hT 1 [] [] [.int .i64 x28774.2] [] (by kernel_rfl) (trivial) ?_
      refine RW.nil ?_
      refine WPK.ret (?_)
      obtain rfl := someS hf
      refine Fin.of (rs := [.cell 6 25, .tmp 7]) hT [.agg #[.int .i64 x28774.1.Kind, .int .i64 x28774.1.Page, .int .u64 x28774.1.Epoch, .slice A28781 x28774.1.Data.length c28782]] (.tuple #[.agg #[.int .i64 x28774.1.Kind, .int .i64 x28774.1.Page, .int .u64 x28774.1.Epoch, .slice A28781 x28774.1.Data.length c28782], .int .i64 x28774.2]) [.cells ⟨b28772, 0, none⟩ [.int .i64 x28774.1.Kind, .int .i64 x28774.1.Page, .int .u64 x28774.1.Epoch, .slice A28781 x28774.1.Data.length c28782] 4] rfl (by kernel_rfl) (s.cells (i := 1) rfl rfl rfl) ?_
      replace s := s.pick [] 2 rfl
      exact fun X h => vc rfl (h I28820 A28781 c28782 _ s kk hc28783 e28784)
  · refine WPK.region ?_
    refine RW.seg hT 2 [] [(17, .bool (decide (x28774.2 = 0)))] [.int .i64 x28774.2, .bool (decide (x28774.2 = 0))] [.veq (.bool (x28774.2 == 0)) (.bool (decide (x28774.2 = 0)))] (by kernel_rfl) (eq_v) ?_
    by_cases h28828 : x28774.2 = 0
    · have hf := iteT h28828 hf
      refine RW.seg hT 4 [.int .i64 x28774.1.Kind] [(18, .bool true)] [.bool true, .slice A28767 p2.length c28768, .pointer (some ⟨b28786, 0, none⟩), .int .i64 x28774.1.Kind] [.veq (.bool (decide (x28774.2 = 0))) (.bool true), .cell ⟨b28786, 0, none⟩ (.int .i64 x28774.1.Kind)] (by kernel_rfl) (⟨bo_t h28828, s.cell (i := 0) (off := 0) rfl rfl⟩) ?_
      obtain ⟨x28829, hx28830, hf⟩ := bindS hf
      refine RW.op (by kernel_rfl) (OK.call' en29 (by kernel_rfl) (c29 (F := (.blk b28786 (.cells #[.int .i64 x28774.1.Kind, .int .i64 x28774.1.Page, .int .u64 x28774.1.Epoch, .slice A28781 x28774.1.Data.length c28782] 25 (0, 0))) :: (.blk b28772 (.cells #[.int .i64 0, .int .i64 0, .int .u64 0, .slice none 0 0] 25 (0, 0))) :: F) p2 x28774.1.Kind A28767 c28768 hc28769 e28770 s hx28830) ?_)
      intro X28833 hX28834
      refine fun _ _ hJ => hJ X28833 ?_
      intro I28835 w28831 s k28832
      refine hX28834 _ _ ?_
      replace e28766 := e28766.st k28832
      replace e28770 := e28770.st k28832
      replace e28784 := e28784.st k28832
      replace eg0 := eg0.st k28832
      replace kk := kk.trans k28832
      refine RW.seg hT 2 [] [(23, .bool (decide (¬ (x28829 = true))))] [.bool (decide (¬ (x28829 = true))), .bool (decide (¬ (x28829 = true)))] [.veq (.bool (!x28829)) (.bool (decide (¬ (x28829 = true))))] (by kernel_rfl) (not_b) ?_
      refine RW.nil ?_
      exact fun X h => kc (by kernel_rfl) rfl (h I28835 (decide (¬ (x28829 = true))) [.slice A28763 p0.length c28764, .int .i64 p1, .slice A28767 p2.length c28768, undef, undef, undef, .tuple #[.agg #[.int .i64 x28774.1.Kind, .int .i64 x28774.1.Page, .int .u64 x28774.1.Epoch, .slice A28781 x28774.1.Data.length c28782], .int .i64 x28774.2], .slice A28763 p0.length c28764, .int .i64 p1, .tuple #[.agg #[.int .i64 x28774.1.Kind, .int .i64 x28774.1.Page, .int .u64 x28774.1.Epoch, .slice A28781 x28774.1.Data.length c28782], .int .i64 x28774.2], .agg #[.int .i64 x28774.1.Kind, .int .i64 x28774.1.Page, .int .u64 x28774.1.Epoch, .slice A28781 x28774.1.Data.length c28782], .int .i64 x28774.2, .int .i64 x28774.2, .bool (decide (x28774.2 = 0)), .bool true, .slice A28767 p2.length c28768, .pointer (some ⟨b28786, 0, none⟩), .int .i64 x28774.1.Kind, .bool x28829, .bool (decide (¬ (x28829 = true)))] _ hf s kk e28784 eg0)
    · have hf := iteF h28828 hf
      refine RW.seg hT 7 [] [(18, .bool false)] [.bool false, undef, undef, undef, undef, undef, .bool false] [.veq (.bool (decide (x28774.2 = 0))) (.bool false)] (by kernel_rfl) (bo_f h28828) ?_
      refine RW.nil ?_
      exact fun X h => kc (by kernel_rfl) rfl (h I28780 false [.slice A28763 p0.length c28764, .int .i64 p1, .slice A28767 p2.length c28768, undef, undef, undef, .tuple #[.agg #[.int .i64 x28774.1.Kind, .int .i64 x28774.1.Page, .int .u64 x28774.1.Epoch, .slice A28781 x28774.1.Data.length c28782], .int .i64 x28774.2], .slice A28763 p0.length c28764, .int .i64 p1, .tuple #[.agg #[.int .i64 x28774.1.Kind, .int .i64 x28774.1.Page, .int .u64 x28774.1.Epoch, .slice A28781 x28774.1.Data.length c28782], .int .i64 x28774.2], .agg #[.int .i64 x28774.1.Kind, .int .i64 x28774.1.Page, .int .u64 x28774.1.Epoch, .slice A28781 x28774.1.Data.length c28782], .int .i64 x28774.2, .int .i64 x28774.2, .bool (decide (x28774.2 = 0)), .bool false, undef, undef, undef, undef, undef] _ hf s kk e28784 eg0)
theorem c65 {w0 w : World} {M I : Nat → Prop} {F : List It} (p0 : Int) (p1 : Int) (s : St w0 M I (F) w) {r : Int} (hf : g65 p0 p1 = some r) :
    Ret Tryd.prog 65 [.int .u32 p0, .int .u8 p1] w fun v wz => ∀ X : Value → World → Prop, (∀ (I' : Nat → Prop) (w' : World), St w0 M I' (F) w' → Kp I w I' w' → X (.int .u32 r) w') → X v wz := by
  have kk : Kp I w I w := Kp.refl
  unfold g65 at hf
  refine Ret.of Tryd.func65 rfl ?_
  refine WPK.seq ?_
  refine WPK.region ?_
  refine RW.seg hT 1 [] [] [.int .u32 0] [] (by kernel_rfl) (trivial) ?_
  refine RW.nil ?_
  refine WPK.seq ?_
  refine WPK.region ?_
  refine RW.seg hT 5 [undef] [] [.int .u32 p0, .int .u8 p1, .int .u32 (IntKind.u32.wrap p1), .int .u32 (xorI .u32 p0 (IntKind.u32.wrap p1)), .int .u32 (xorI .u32 p0 (IntKind.u32.wrap p1))] [] (by kernel_rfl) (trivial) ?_
  refine RW.nil ?_
  refine WPK.seq ?_
  refine WPK.seq ?_
  refine WPK.region ?_
  refine RW.seg hT 1 [] [] [.int .i64 0] [] (by kernel_rfl) (trivial) ?_
  refine RW.nil ?_
  refine WPK.block ?_
  refine WPK.loop' (J := fun n33034 E ds wz => ∀ X : Kont, (∀ (x33027 : Int) (x33028 : Int) (D33026 : List Value), g65_l1 n33034 x33027 x33028 = some r → X [.int .u32 x33027, (D33026.getD 0 undef), (D33026.getD 1 undef), (D33026.getD 2 undef), .int .u32 0, .int .i64 x33028, (D33026.getD 3 undef), (D33026.getD 4 undef), (D33026.getD 5 undef), (D33026.getD 6 undef), (D33026.getD 7 undef), (D33026.getD 8 undef), (D33026.getD 9 undef), (D33026.getD 10 undef), (D33026.getD 11 undef), (D33026.getD 12 undef), (D33026.getD 13 undef), (D33026.getD 14 undef), (D33026.getD 15 undef), (D33026.getD 16 undef), (D33026.getD 17 undef), (D33026.getD 18 undef), (D33026.getD 19 undef), undef] [] w) → X E ds wz) FUEL (fun X h => kc (by kernel_rfl) rfl (h (xorI .u32 p0 (IntKind.u32.wrap p1)) 0 [.int .u8 p1, undef, undef, undef, .int .u32 p0, .int .u8 p1, .int .u32 (IntKind.u32.wrap p1), .int .u32 (xorI .u32 p0 (IntKind.u32.wrap p1)), undef, undef, undef, undef, undef, undef, undef, undef, undef, undef, undef, undef] hf)) (fun _ _ _ hJ => hJ (fun _ _ _ => False) (by intro x33027 x33028 D33026 hf; exact noneS hf)) ?_
  intro X33040 hX33041
  refine fun n33034 _ _ _ hJ => hJ (X33040 n33034) ?_
  intro x33027 x33028 D33026 hf
  refine hX33041 _ _ _ _ ?_
  replace hf : g65_l1B (g65_l1 n33034) x33027 x33028 = some r := hf
  generalize hrec33035 : g65_l1 n33034 = rec33033 at hf
  unfold g65_l1B at hf
  refine WPK.seq ?_
  refine WPK.seq ?_
  refine WPK.region ?_
  refine RW.seg hT 2 [] [] [.int .i64 x33028, .bool (decide (x33028 < 8))] [] (by kernel_rfl) (trivial) ?_
  refine RW.nil ?_
  by_cases h33037 : x33028 < 8
  · have hf := iteT h33037 hf
    refine WPK.condT (Eq.trans (b := .bool (decide (x33028 < 8))) (by kernel_rfl) (bo_t h33037)) ?_
    refine WPK.skip ?_
    refine WPK.seq ?_
    refine WPK.block ?_
    refine WPK.seq ?_
    refine WPK.region ?_
    refine RW.seg hT 3 [] [] [.int .u32 x33027, .int .u32 (andI .u32 x33027 1), .int .u32 (andI .u32 x33027 1)] [] (by kernel_rfl) (trivial) ?_
    refine RW.nil ?_
    refine WPK.seq ?_
    refine WPK.region ?_
    refine RW.seg hT 3 [] [] [.int .u32 x33027, .int .u32 (shrI .u32 x33027 1), .int .u32 (shrI .u32 x33027 1)] [.nn 1] (by kernel_rfl) ((show (0 : Int) ≤ 1 by decide)) ?_
    refine RW.nil ?_
    refine WPK.seq ?_
    refine WPK.region ?_
    refine RW.seg hT 2 [] [(20, .bool (decide ((andI .u32 x33027 1) = 1)))] [.int .u32 (andI .u32 x33027 1), .bool (decide ((andI .u32 x33027 1) = 1))] [.veq (.bool ((andI .u32 x33027 1) == 1)) (.bool (decide ((andI .u32 x33027 1) = 1)))] (by kernel_rfl) (eq_v) ?_
    refine RW.nil ?_
    by_cases h33039 : (andI .u32 x33027 1) = 1
    · have hf := iteT h33039 hf
      refine WPK.condT (Eq.trans (b := .bool (decide ((andI .u32 x33027 1) = 1))) (by kernel_rfl) (bo_t h33039)) ?_
      refine WPK.region ?_
      refine RW.seg hT 3 [] [] [.int .u32 (shrI .u32 x33027 1), .int .u32 (xorI .u32 (shrI .u32 x33027 1) 2197175160), .int .u32 (xorI .u32 (shrI .u32 x33027 1) 2197175160)] [] (by kernel_rfl) (trivial) ?_
      refine RW.nil ?_
      refine WPK.region ?_
      refine RW.seg hT 3 [] [] [.int .i64 x33028, .int .i64 (IntKind.i64.wrap (x33028 + 1)), .int .i64 (IntKind.i64.wrap (x33028 + 1))] [] (by kernel_rfl) (trivial) ?_
      refine RW.nil ?_
      subst hrec33035
      exact ⟨n33034, Nat.le_refl _, fun X h => kc (by kernel_rfl) rfl (h (xorI .u32 (shrI .u32 x33027 1) 2197175160) (IntKind.i64.wrap (x33028 + 1)) [(D33026.getD 0 undef), (D33026.getD 1 undef), (D33026.getD 2 undef), .int .u32 (andI .u32 x33027 1), (D33026.getD 4 undef), (D33026.getD 5 undef), (D33026.getD 6 undef), (D33026.getD 7 undef), .int .i64 x33028, .bool (decide (x33028 < 8)), .int .i64 x33028, .int .i64 (IntKind.i64.wrap (x33028 + 1)), .int .u32 x33027, .int .u32 (andI .u32 x33027 1), .int .u32 x33027, .int .u32 (shrI .u32 x33027 1), .int .u32 (andI .u32 x33027 1), .bool (decide ((andI .u32 x33027 1) = 1)), .int .u32 (shrI .u32 x33027 1), .int .u32 (xorI .u32 (shrI .u32 x33027 1) 2197175160)] hf)⟩
    · have hf := iteF h33039 hf
      refine WPK.condF (Eq.trans (b := .bool (decide ((andI .u32 x33027 1) = 1))) (by kernel_rfl) (bo_f h33039)) ?_
      refine WPK.skip ?_
      refine WPK.region ?_
      refine RW.seg hT 3 [] [] [.int .i64 x33028, .int .i64 (IntKind.i64.wrap (x33028 + 1)), .int .i64 (IntKind.i64.wrap (x33028 + 1))] [] (by kernel_rfl) (trivial) ?_
      refine RW.nil ?_
      subst hrec33035
      exact ⟨n33034, Nat.le_refl _, fun X h => kc (by kernel_rfl) rfl (h (shrI .u32 x33027 1) (IntKind.i64.wrap (x33028 + 1)) [(D33026.getD 0 undef), (D33026.getD 1 undef), (D33026.getD 2 undef), .int .u32 (andI .u32 x33027 1), (D33026.getD 4 undef), (D33026.getD 5 undef), (D33026.getD 6 undef), (D33026.getD 7 undef), .int .i64 x33028, .bool (decide (x33028 < 8)), .int .i64 x33028, .int .i64 (IntKind.i64.wrap (x33028 + 1)), .int .u32 x33027, .int .u32 (andI .u32 x33027 1), .int .u32 x33027, .int .u32 (shrI .u32 x33027 1), .int .u32 (andI .u32 x33027 1), .bool (decide ((andI .u32 x33027 1) = 1)), (D33026.getD 18 undef), (D33026.getD 19 undef)] hf)⟩
  · have hf := iteF h33037 hf
    refine WPK.condF (Eq.trans (b := .bool (decide (x33028 < 8))) (by kernel_rfl) (bo_f h33037)) ?_
    refine WPK.exit (blockQ.same ?_)
    refine WPK.seq ?_
    refine WPK.region ?_
    refine RW.seg hT 2 [] [] [.int .u32 x33027, .int .u32 x33027] [] (by kernel_rfl) (trivial) ?_
    refine RW.nil ?_
    refine WPK.ret (?_)
    obtain rfl := someS hf
    refine Fin.of (rs := [.tmp 4]) hT [] (.int .u32 x33027) [] rfl (by kernel_rfl) (trivial) ?_
    exact fun X h => vc rfl (h I _ s kk)
theorem c58 {w0 w : World} {M I : Nat → Prop} {F : List It} (p0 : Int) (p1 : (List (List Int))) (A35276 : Option Addr) (c35277 : Nat) (hc35278 : (p1.length ≤ c35277 ∧ c35277 ≤ 9223372036854775807)) (e35279 : Elems (Rp.slice (Rp.int .u8)) I w A35276 p1) (s : St w0 M I (F) w) {r : Int} (hf : g58 p0 p1 = some r) :
    Ret Tryd.prog 58 [.int .u32 p0, .slice A35276 p1.length c35277] w fun v wz => ∀ X : Value → World → Prop, (∀ (I' : Nat → Prop) (w' : World), St w0 M I' (F) w' → Kp I w I' w' → X (.int .u32 r) w') → X v wz := by
  have kk : Kp I w I w := Kp.refl
  unfold g58 at hf
  refine Ret.of Tryd.func58 rfl ?_
  refine WPK.seq ?_
  refine WPK.region ?_
  refine RW.seg hT 1 [] [] [.int .u32 0] [] (by kernel_rfl) (trivial) ?_
  refine RW.nil ?_
  refine WPK.seq ?_
  refine WPK.region ?_
  refine RW.seg hT 3 [] [] [.int .u32 p0, .int .u32 (cplI .u32 p0), .int .u32 (cplI .u32 p0)] [] (by kernel_rfl) (trivial) ?_
  refine RW.nil ?_
  refine WPK.seq ?_
  refine WPK.seq ?_
  refine WPK.region ?_
  refine RW.seg hT 1 [] [] [.int .i64 0] [] (by kernel_rfl) (trivial) ?_
  refine RW.nil ?_
  refine WPK.block ?_
  refine WPK.loop' (J := fun n37188 E ds wz => ∀ X : Kont, (∀ (I36808 : Nat → Prop) (x36805 : Int) (x36806 : Int) (D36804 : List Value) (w' : World), g58_l1 p1 n37188 x36805 x36806 = some r → St w0 M I36808 (F) w' → Kp I w I36808 w' → Elems (Rp.slice (Rp.int .u8)) I36808 w' A35276 p1 → X [(D36804.getD 0 undef), .slice A35276 p1.length c35277, (D36804.getD 1 undef), (D36804.getD 2 undef), .int .u32 0, .int .u32 x36805, .int .i64 x36806, (D36804.getD 3 undef), (D36804.getD 4 undef), (D36804.getD 5 undef), (D36804.getD 6 undef), (D36804.getD 7 undef), (D36804.getD 8 undef), (D36804.getD 9 undef), (D36804.getD 10 undef), (D36804.getD 11 undef), (D36804.getD 12 undef), (D36804.getD 13 undef), (D36804.getD 14 undef), (D36804.getD 15 undef), (D36804.getD 16 undef), (D36804.getD 17 undef), (D36804.getD 18 undef), (D36804.getD 19 undef), (D36804.getD 20 undef), (D36804.getD 21 undef), (D36804.getD 22 undef), (D36804.getD 23 undef), (D36804.getD 24 undef), (D36804.getD 25 undef), (D36804.getD 26 undef), (D36804.getD 27 undef), (D36804.getD 28 undef), (D36804.getD 29 undef), undef, undef] [] w') → X E ds wz) FUEL (fun X h => kc (by kernel_rfl) rfl (h I (cplI .u32 p0) 0 [.int .u32 p0, undef, undef, undef, .int .u32 p0, .int .u32 (cplI .u32 p0), undef, undef, undef, undef, undef, undef, undef, undef, undef, undef, undef, undef, undef, undef, undef, undef, undef, undef, undef, undef, undef, undef, undef, undef] _ hf s kk e35279)) (fun _ _ _ hJ => hJ (fun _ _ _ => False) (by intro I36808 x36805 x36806 D36804 w36807 hf s kk e35279; exact noneS hf)) ?_
  intro X37568 hX37569
  refine fun n37188 _ _ _ hJ => hJ (X37568 n37188) ?_
  intro I36808 x36805 x36806 D36804 w36807 hf s kk e35279
  refine hX37569 _ _ _ _ ?_
  replace hf : g58_l1B p1 (g58_l1 p1 n37188) x36805 x36806 = some r := hf
  generalize hrec37189 : g58_l1 p1 n37188 = rec37187 at hf
  unfold g58_l1B at hf
  refine WPK.seq ?_
  refine WPK.seq ?_
  refine WPK.region ?_
  refine RW.seg hT 4 [] [] [.int .i64 x36806, .slice A35276 p1.length c35277, .int .i64 (p1.length : Int), .bool (decide (x36806 < (p1.length : Int)))] [] (by kernel_rfl) (trivial) ?_
  refine RW.nil ?_
  by_cases h37191 : x36806 < (p1.length : Int)
  · have hf := iteT h37191 hf
    refine WPK.condT (Eq.trans (b := .bool (decide (x36806 < (p1.length : Int)))) (by kernel_rfl) (bo_t h37191)) ?_
    refine WPK.skip ?_
    refine WPK.seq ?_
    refine WPK.block ?_
    refine WPK.seq ?_
    refine WPK.region ?_
    refine RW.seg hT 1 [] [] [.int .i64 0] [] (by kernel_rfl) (trivial) ?_
    refine RW.nil ?_
    refine WPK.block ?_
    refine WPK.loop' (J := fun n37505 E ds wz => ∀ X : Kont, (∀ (I37444 : Nat → Prop) (x37441 : Int) (x37442 : Int) (D37440 : List Value) (w' : World), g58_l2 p1 x36806 rec37187 n37505 x37441 x37442 = some r → St w0 M I37444 (F) w' → Kp I w I37444 w' → Elems (Rp.slice (Rp.int .u8)) I37444 w' A35276 p1 → X [(D37440.getD 0 undef), .slice A35276 p1.length c35277, (D37440.getD 1 undef), (D37440.getD 2 undef), .int .u32 0, .int .u32 x37441, .int .i64 x36806, .int .i64 x37442, (D37440.getD 3 undef), (D37440.getD 4 undef), .int .i64 x36806, (D37440.getD 5 undef), .int .i64 (p1.length : Int), .bool (decide (x36806 < (p1.length : Int))), (D36804.getD 10 undef), (D36804.getD 11 undef), (D37440.getD 6 undef), (D37440.getD 7 undef), (D37440.getD 8 undef), (D37440.getD 9 undef), (D37440.getD 10 undef), (D37440.getD 11 undef), (D37440.getD 12 undef), (D37440.getD 13 undef), (D37440.getD 14 undef), (D37440.getD 15 undef), (D37440.getD 16 undef), (D37440.getD 17 undef), (D37440.getD 18 undef), (D37440.getD 19 undef), (D37440.getD 20 undef), (D37440.getD 21 undef), (D37440.getD 22 undef), (D37440.getD 23 undef), undef, undef] [] w') → X E ds wz) FUEL (fun X h => kc (by kernel_rfl) rfl (h I36808 x36805 0 [(D36804.getD 0 undef), (D36804.getD 1 undef), (D36804.getD 2 undef), (D36804.getD 4 undef), (D36804.getD 5 undef), .slice A35276 p1.length c35277, (D36804.getD 12 undef), (D36804.getD 13 undef), (D36804.getD 14 undef), (D36804.getD 15 undef), (D36804.getD 16 undef), (D36804.getD 17 undef), (D36804.getD 18 undef), (D36804.getD 19 undef), (D36804.getD 20 undef), (D36804.getD 21 undef), (D36804.getD 22 undef), (D36804.getD 23 undef), (D36804.getD 24 undef), (D36804.getD 25 undef), (D36804.getD 26 undef), (D36804.getD 27 undef), (D36804.getD 28 undef), (D36804.getD 29 undef)] _ hf s kk e35279)) (fun _ _ _ hJ => hJ (fun _ _ _ => False) (by intro I37444 x37441 x37442 D37440 w37443 hf s kk e35279; exact noneS hf)) ?_
    intro X37566 hX37567
    refine fun n37505 _ _ _ hJ => hJ (X37566 n37505) ?_
    intro I37444 x37441 x37442 D37440 w37443 hf s kk e35279
    refine hX37567 _ _ _ _ ?_
    replace hf : g58_l2B p1 x36806 rec37187 (g58_l2 p1 x36806 rec37187 n37505) x37441 x37442 = some r := hf
    generalize hrec37506 : g58_l2 p1 x36806 rec37187 n37505 = rec37504 at hf
    unfold g58_l2B at hf
    refine WPK.seq ?_
    refine WPK.seq ?_
    refine WPK.region ?_
    obtain ⟨x37522, hx37523, hf⟩ := bindS hf
    obtain ⟨h37524, hx37523⟩ := getS hx37523
    obtain ⟨b37525, o37526, rfl⟩ := Elems.opn e35279 hx37523
    obtain ⟨cs37527, hr37528, ha37529⟩ := Elems.get e35279 hx37523
    obtain ⟨A37530, c37531, rfl, q37532, q37533, e37534⟩ := hr37528
    have hc37535 := And.intro q37532 q37533
    refine RW.seg hT 7 [.slice A37530 x37522.length c37531] [] [.int .i64 x37442, .slice (some ⟨b37525, o37526, none⟩) p1.length c35277, .int .i64 x36806, .pointer (some ⟨b37525, o37526 + x36806.toNat * 1, none⟩), .slice A37530 x37522.length c37531, .int .i64 (x37522.length : Int), .bool (decide (x37442 < (x37522.length : Int)))] [.idx x36806 p1.length, .cell ⟨b37525, o37526 + x36806.toNat * 1, none⟩ (.slice A37530 x37522.length c37531)] (by kernel_rfl) (⟨h37524, ha37529 0 _ rfl⟩) ?_
    refine RW.nil ?_
    by_cases h37536 : x37442 < (x37522.length : Int)
    · have hf := iteT h37536 hf
      refine WPK.condT (Eq.trans (b := .bool (decide (x37442 < (x37522.length : Int)))) (by kernel_rfl) (bo_t h37536)) ?_
      refine WPK.skip ?_
      refine WPK.seq ?_
      refine WPK.block ?_
      refine WPK.region ?_
      obtain ⟨x37537, hx37538, hf⟩ := bindS hf
      obtain ⟨h37539, hx37538⟩ := getS hx37538
      obtain ⟨cs37542, hr37543, ha37544⟩ := Elems.get e35279 hx37538
      obtain ⟨A37545, c37546, rfl, q37547, q37548, e37549⟩ := hr37543
      have hc37550 := And.intro q37547 q37548
      obtain ⟨x37551, hx37552, hf⟩ := bindS hf
      obtain ⟨h37553, hx37552⟩ := getS hx37552
      obtain ⟨b37554, o37555, rfl⟩ := Elems.opn e37549 hx37552
      obtain ⟨cs37556, hr37557, ha37558⟩ := Elems.get e37549 hx37552
      obtain rfl : cs37556 = [.int .u8 x37551] := hr37557
      refine RW.seg hT 8 [.slice (some ⟨b37554, o37555, none⟩) x37537.length c37546, .int .u8 x37551] [] [.int .u32 x37441, .slice (some ⟨b37525, o37526, none⟩) p1.length c35277, .int .i64 x36806, .pointer (some ⟨b37525, o37526 + x36806.toNat * 1, none⟩), .slice (some ⟨b37554, o37555, none⟩) x37537.length c37546, .int .i64 x37442, .pointer (some ⟨b37554, o37555 + x37442.toNat * 1, none⟩), .int .u8 x37551] [.idx x36806 p1.length, .cell ⟨b37525, o37526 + x36806.toNat * 1, none⟩ (.slice (some ⟨b37554, o37555, none⟩) x37537.length c37546), .idx x37442 x37537.length, .cell ⟨b37554, o37555 + x37442.toNat * 1, none⟩ (.int .u8 x37551)] (by kernel_rfl) (⟨h37539, ha37544 0 _ rfl, h37553, ha37558 0 _ rfl⟩) ?_
      obtain ⟨x37559, hx37560, hf⟩ := bindS hf
      refine RW.op (by kernel_rfl) (OK.call' en65 (by kernel_rfl) (c65 (F := F) x37441 x37551 s hx37560) ?_)
      intro X37563 hX37564
      refine fun _ _ hJ => hJ X37563 ?_
      intro I37565 w37561 s k37562
      refine hX37564 _ _ ?_
      replace e35279 := e35279.st k37562
      replace e37534 := e37534.st k37562
      replace e37549 := e37549.st k37562
      replace kk := kk.trans k37562
      refine RW.seg hT 1 [] [] [.int .u32 x37559] [] (by kernel_rfl) (trivial) ?_
      refine RW.nil ?_
      refine WPK.region ?_
      refine RW.seg hT 3 [] [] [.int .i64 x37442, .int .i64 (IntKind.i64.wrap (x37442 + 1)), .int .i64 (IntKind.i64.wrap (x37442 + 1))] [] (by kernel_rfl) (trivial) ?_
      refine RW.nil ?_
      subst hrec37506
      exact ⟨n37505, Nat.le_refl _, fun X h => kc (by kernel_rfl) rfl (h I37565 x37559 (IntKind.i64.wrap (x37442 + 1)) [(D37440.getD 0 undef), (D37440.getD 1 undef), (D37440.getD 2 undef), (D37440.getD 3 undef), (D37440.getD 4 undef), (D37440.getD 5 undef), .int .i64 x37442, .slice (some ⟨b37525, o37526, none⟩) p1.length c35277, .int .i64 x36806, .pointer (some ⟨b37525, o37526 + x36806.toNat * 1, none⟩), .slice A37530 x37522.length c37531, .int .i64 (x37522.length : Int), .bool (decide (x37442 < (x37522.length : Int))), .int .i64 x37442, .int .i64 (IntKind.i64.wrap (x37442 + 1)), .int .u32 x37441, .slice (some ⟨b37525, o37526, none⟩) p1.length c35277, .int .i64 x36806, .pointer (some ⟨b37525, o37526 + x36806.toNat * 1, none⟩), .slice (some ⟨b37554, o37555, none⟩) x37537.length c37546, .int .i64 x37442, .pointer (some ⟨b37554, o37555 + x37442.toNat * 1, none⟩), .int .u8 x37551, .int .u32 x37559] _ hf s kk e35279)⟩
    · have hf := iteF h37536 hf
      refine WPK.condF (Eq.trans (b := .bool (decide (x37442 < (x37522.length : Int)))) (by kernel_rfl) (bo_f h37536)) ?_
      refine WPK.exit (blockQ.same ?_)
      refine WPK.region ?_
      refine RW.seg hT 3 [] [] [.int .i64 x36806, .int .i64 (IntKind.i64.wrap (x36806 + 1)), .int .i64 (IntKind.i64.wrap (x36806 + 1))] [] (by kernel_rfl) (trivial) ?_
      refine RW.nil ?_
      subst hrec37189
      exact ⟨n37188, Nat.le_refl _, fun X h => kc (by kernel_rfl) rfl (h I37444 x37441 (IntKind.i64.wrap (x36806 + 1)) [(D37440.getD 0 undef), (D37440.getD 1 undef), (D37440.getD 2 undef), .int .i64 x37442, (D37440.getD 3 undef), (D37440.getD 4 undef), .int .i64 x36806, (D37440.getD 5 undef), .int .i64 (p1.length : Int), .bool (decide (x36806 < (p1.length : Int))), .int .i64 x36806, .int .i64 (IntKind.i64.wrap (x36806 + 1)), .int .i64 x37442, .slice (some ⟨b37525, o37526, none⟩) p1.length c35277, .int .i64 x36806, .pointer (some ⟨b37525, o37526 + x36806.toNat * 1, none⟩), .slice A37530 x37522.length c37531, .int .i64 (x37522.length : Int), .bool (decide (x37442 < (x37522.length : Int))), (D37440.getD 13 undef), (D37440.getD 14 undef), (D37440.getD 15 undef), (D37440.getD 16 undef), (D37440.getD 17 undef), (D37440.getD 18 undef), (D37440.getD 19 undef), (D37440.getD 20 undef), (D37440.getD 21 undef), (D37440.getD 22 undef), (D37440.getD 23 undef)] _ hf s kk e35279)⟩
  · have hf := iteF h37191 hf
    refine WPK.condF (Eq.trans (b := .bool (decide (x36806 < (p1.length : Int)))) (by kernel_rfl) (bo_f h37191)) ?_
    refine WPK.exit (blockQ.same ?_)
    refine WPK.seq ?_
    refine WPK.region ?_
    refine RW.seg hT 3 [] [] [.int .u32 x36805, .int .u32 (cplI .u32 x36805), .int .u32 (cplI .u32 x36805)] [] (by kernel_rfl) (trivial) ?_
    refine RW.nil ?_
    refine WPK.ret (?_)
    obtain rfl := someS hf
    refine Fin.of (rs := [.tmp 4]) hT [] (.int .u32 (cplI .u32 x36805)) [] rfl (by kernel_rfl) (trivial) ?_
    exact fun X h => vc rfl (h I36808 _ s kk)
theorem c46 {w0 w : World} {M I : Nat → Prop} {F : List It} (p0 : (List Int)) (A37583 : Option Addr) (c37584 : Nat) (hc37585 : (p0.length ≤ c37584 ∧ c37584 ≤ 9223372036854775807)) (e37586 : Elems (Rp.int .u8) I w A37583 p0) (s : St w0 M I (F) w) {r : Int} (hf : g46 p0 = some r) :
    Ret Tryd.prog 46 [.slice A37583 p0.length c37584] w fun v wz => ∀ X : Value → World → Prop, (∀ (I' : Nat → Prop) (w' : World), St w0 M I' (F) w' → Kp I w I' w' → X (.int .u32 r) w') → X v wz := by
  have kk : Kp I w I w := Kp.refl
  unfold g46 at hf
  refine Ret.of Tryd.func46 rfl ?_
  refine WPK.seq ?_
  refine WPK.region ?_
  refine RW.seg hT 1 [] [] [.int .u32 0] [] (by kernel_rfl) (trivial) ?_
  refine RW.nil ?_
  refine WPK.seq ?_
  refine WPK.region ?_
  refine RW.seg hT 1 [] [] [.slice A37583 p0.length c37584] [] (by kernel_rfl) (trivial) ?_
  refine RW.op (by kernel_rfl) (OK.new hT (f := fun b => .slice (some ⟨b, 0, none⟩) 1 1) (cs := [.slice A37583 p0.length c37584]) (e := 23) (c := .tt) s (by kernel_rfl) trivial ?_)
  rintro w37587 b37588 s k37589 -
  replace e37586 := e37586.st k37589
  replace kk := kk.trans k37589
  have rp37590 : RepL (Rp.slice (Rp.int .u8)) I w37587 [.slice A37583 p0.length c37584] ([p0] : List (List Int)) := RepL.cons (c := [.slice A37583 p0.length c37584]) (d := []) (⟨_, _, rfl, hc37585.1, hc37585.2, e37586⟩) (RepL.nil)
  replace s : St w0 M I ((.sl (.slice (some ⟨b37588, 0, none⟩) 1 1) 23 1 1 [.slice A37583 p0.length c37584]) :: F) w37587 := s.blkSl (i := 0) (n := 1) (c := 1) (size := 1) rfl rfl (Nat.le_refl _) (by decide)
  have sa37592 := s
  obtain ⟨hc37593, e37594⟩ := St.lend s (i := 0) rfl rfl rp37590
  have k37595 := Kp.shut (I := I) (w := w37587) (p := .sl (.slice (some ⟨b37588, 0, none⟩) 1 1) 23 1 1 [.slice A37583 p0.length c37584])
  replace s := s.shut 0 rfl
  obtain ⟨x37596, hx37597, hf⟩ := bindS hf
  refine RW.op (by kernel_rfl) (OK.call' en58 (by kernel_rfl) (c58 (F := F) 0 ([p0] : List (List Int)) (some ⟨b37588, 0, none⟩) 1 hc37593 e37594 s hx37597) ?_)
  intro X37600 hX37601
  refine fun _ _ hJ => hJ X37600 ?_
  intro I37602 w37598 s k37599
  refine hX37601 _ _ ?_
  have s' := St.back sa37592 (i := 0) rfl s k37599
  replace k37599 := Kp.back sa37592 (i := 0) rfl k37599
  replace s := s'; clear s'
  obtain ⟨I37604, s, k37599⟩ : ∃ I : Nat → Prop, St w0 M I ((.sl (.slice (some ⟨b37588, 0, none⟩) 1 1) 23 1 1 [.slice A37583 p0.length c37584]) :: F) w37598 ∧ Kp _ _ I _ := ⟨_, s, k37599⟩
  replace e37586 := e37586.st k37599
  replace rp37590 := rp37590.st k37599
  replace kk := kk.trans k37599
  refine RW.seg hT 1 [] [] [.int .u32 x37596] [] (by kernel_rfl) (trivial) ?_
  refine RW.nil ?_
  refine WPK.ret (?_)
  obtain rfl := someS hf
  refine Fin.of (rs := [.tmp 2]) hT [] (.int .u32 x37596) [] rfl (by kernel_rfl) (trivial) ?_
  replace s := s.pick [] 1 rfl
  exact fun X h => vc rfl (h I37604 _ s kk)
theorem c32 {w0 w : World} {M I : Nat → Prop} {F : List It} (p0 : (List Int)) (A37628 : Option Addr) (c37629 : Nat) (hc37630 : (p0.length ≤ c37629 ∧ c37629 ≤ 9223372036854775807)) (e37631 : Elems (Rp.int .u8) I w A37628 p0) (s : St w0 M I (F) w) {r : (List Int)} (hf : g32 p0 = some r) :
    Ret Tryd.prog 32 [.slice A37628 p0.length c37629] w fun v wz => ∀ X : Value → World → Prop, (∀ (I' : Nat → Prop) (A37655 : Option Addr) (n37656 : Nat) (c37657 : Nat) (cl37658 : List Value) (w' : World), St w0 M I' ((.sl (.slice A37655 n37656 c37657) 5 1 n37656 cl37658) :: F) w' → Kp I w I' w' → n37656 = r.length → RepL (Rp.int .u8) I' w' cl37658 r → X (.slice A37655 n37656 c37657) w') → X v wz := by
  have kk : Kp I w I w := Kp.refl
  unfold g32 at hf
  refine Ret.of Tryd.func32 rfl ?_
  refine WPK.seq ?_
  refine WPK.region ?_
  refine RW.seg hT 1 [] [] [.slice none 0 0] [] (by kernel_rfl) (trivial) ?_
  refine RW.nil ?_
  refine WPK.seq ?_
  refine WPK.region ?_
  refine RW.seg hT 1 [] [] [.slice A37628 p0.length c37629] [] (by kernel_rfl) (trivial) ?_
  obtain ⟨x37632, hx37633, hf⟩ := bindS hf
  refine RW.op (by kernel_rfl) (OK.call' en46 (by kernel_rfl) (c46 (F := F) p0 A37628 c37629 hc37630 e37631 s hx37633) ?_)
  intro X37636 hX37637
  refine fun _ _ hJ => hJ X37636 ?_
  intro I37638 w37634 s k37635
  refine hX37637 _ _ ?_
  replace e37631 := e37631.st k37635
  replace kk := kk.trans k37635
  refine RW.seg hT 1 [] [] [.int .u32 x37632] [] (by kernel_rfl) (trivial) ?_
  refine RW.nil ?_
  refine WPK.seq ?_
  refine WPK.region ?_
  refine RW.seg hT 11 [undef, undef, undef, undef] [] [.int .u32 x37632, .int .u32 (shrI .u32 x37632 24), .int .u8 (IntKind.u8.wrap (shrI .u32 x37632 24)), .int .u32 x37632, .int .u32 (shrI .u32 x37632 16), .int .u8 (IntKind.u8.wrap (shrI .u32 x37632 16)), .int .u32 x37632, .int .u32 (shrI .u32 x37632 8), .int .u8 (IntKind.u8.wrap (shrI .u32 x37632 8)), .int .u32 x37632, .int .u8 (IntKind.u8.wrap x37632)] [.nn 24, .nn 16, .nn 8] (by kernel_rfl) (⟨(show (0 : Int) ≤ 24 by decide), (show (0 : Int) ≤ 16 by decide), (show (0 : Int) ≤ 8 by decide)⟩) ?_
  refine RW.op (by kernel_rfl) (OK.new hT (f := fun b => .slice (some ⟨b, 0, none⟩) 4 4) (cs := [.int .u8 (IntKind.u8.wrap (shrI .u32 x37632 24)), .int .u8 (IntKind.u8.wrap (shrI .u32 x37632 16)), .int .u8 (IntKind.u8.wrap (shrI .u32 x37632 8)), .int .u8 (IntKind.u8.wrap x37632)]) (e := 5) (c := .tt) s (by kernel_rfl) trivial ?_)
  rintro w37639 b37640 s k37641 -
  replace e37631 := e37631.st k37641
  replace kk := kk.trans k37641
  have rp37642 : RepL (Rp.int .u8) I37638 w37639 [.int .u8 (IntKind.u8.wrap (shrI .u32 x37632 24)), .int .u8 (IntKind.u8.wrap (shrI .u32 x37632 16)), .int .u8 (IntKind.u8.wrap (shrI .u32 x37632 8)), .int .u8 (IntKind.u8.wrap x37632)] ([IntKind.u8.wrap (shrI .u32 x37632 24), IntKind.u8.wrap (shrI .u32 x37632 16), IntKind.u8.wrap (shrI .u32 x37632 8), IntKind.u8.wrap x37632] : List Int) := RepL.cons (c := [.int .u8 (IntKind.u8.wrap (shrI .u32 x37632 24))]) (d := [.int .u8 (IntKind.u8.wrap (shrI .u32 x37632 16)), .int .u8 (IntKind.u8.wrap (shrI .u32 x37632 8)), .int .u8 (IntKind.u8.wrap x37632)]) (rfl) (RepL.cons (c := [.int .u8 (IntKind.u8.wrap (shrI .u32 x37632 16))]) (d := [.int .u8 (IntKind.u8.wrap (shrI .u32 x37632 8)), .int .u8 (IntKind.u8.wrap x37632)]) (rfl) (RepL.cons (c := [.int .u8 (IntKind.u8.wrap (shrI .u32 x37632 8))]) (d := [.int .u8 (IntKind.u8.wrap x37632)]) (rfl) (RepL.cons (c := [.int .u8 (IntKind.u8.wrap x37632)]) (d := []) (rfl) (RepL.nil))))
  replace s : St w0 M I37638 ((.sl (.slice (some ⟨b37640, 0, none⟩) 4 4) 5 1 4 [.int .u8 (IntKind.u8.wrap (shrI .u32 x37632 24)), .int .u8 (IntKind.u8.wrap (shrI .u32 x37632 16)), .int .u8 (IntKind.u8.wrap (shrI .u32 x37632 8)), .int .u8 (IntKind.u8.wrap x37632)]) :: F) w37639 := s.blkSl (i := 0) (n := 4) (c := 4) (size := 1) rfl rfl (Nat.le_refl _) (by decide)
  refine RW.seg hT 1 [] [] [.slice A37628 p0.length c37629] [] (by kernel_rfl) (trivial) ?_
  obtain ⟨nw37644, hs37645, rq37646⟩ := Elems.src e37631
  obtain ⟨x37647, hx37648, hf⟩ := bindS hf
  refine RW.op (by kernel_rfl) (OK.app hT (r := (Rp.int .u8)) (i := 0) (t := 23) (e := 5) (size := 1) (bytes := 1) (c := 4) (n := 4) (m := p0.length) s (by kernel_rfl) rfl rfl rfl rfl rfl (by decide) rfl rfl rfl rfl rp37642 hs37645 rq37646 flat_int rfl hx37648 ?_)
  rintro A37649 c37650 cl37651 w37652 s k37653 rp37654
  replace e37631 := e37631.st k37653
  replace rp37642 := rp37642.st k37653
  replace kk := kk.trans k37653
  refine RW.seg hT 1 [] [] [.slice A37649 x37647.length c37650] [] (by kernel_rfl) (trivial) ?_
  refine RW.nil ?_
  refine WPK.ret (?_)
  obtain rfl := someS hf
  refine Fin.of (rs := [.tmp 2]) hT [] (.slice A37649 x37647.length c37650) [] rfl (by kernel_rfl) (trivial) ?_
  exact fun X h => vc rfl (h I37638 A37649 x37647.length c37650 cl37651 _ s kk rfl rp37654)
theorem c30 {w0 w : World} {M I : Nat → Prop} {F : List It} (p0 : (List Int)) (A37700 : Option Addr) (c37701 : Nat) (hc37702 : (p0.length ≤ c37701 ∧ c37701 ≤ 9223372036854775807)) (e37703 : Elems (Rp.int .u8) I w A37700 p0) (s : St w0 M I (F) w) {r : ((List Int) × Bool)} (hf : g30 p0 = some r) :
    Ret Tryd.prog 30 [.slice A37700 p0.length c37701] w fun v wz => ∀ X : Value → World → Prop, (∀ (I' : Nat → Prop) (A37758 : Option Addr) (n37759 : Nat) (c37760 : Nat) (cl37761 : List Value) (w' : World), St w0 M I' ((.sl (.slice A37758 n37759 c37760) 5 1 n37759 cl37761) :: F) w' → Kp I w I' w' → n37759 = r.1.length → RepL (Rp.int .u8) I' w' cl37761 r.1 → X (.tuple #[.slice A37758 n37759 c37760, .bool r.2]) w') → X v wz := by
  have kk : Kp I w I w := Kp.refl
  unfold g30 at hf
  refine Ret.of Tryd.func30 rfl ?_
  refine WPK.seq ?_
  refine WPK.region ?_
  refine RW.seg hT 2 [] [] [.slice none 0 0, .bool false] [] (by kernel_rfl) (trivial) ?_
  refine RW.nil ?_
  refine WPK.seq ?_
  refine WPK.seq ?_
  refine WPK.region ?_
  refine RW.seg hT 3 [] [] [.slice A37700 p0.length c37701, .int .i64 (p0.length : Int), .bool (decide ((p0.length : Int) < 4))] [] (by kernel_rfl) (trivial) ?_
  refine RW.nil ?_
  by_cases h37706 : (p0.length : Int) < 4
  · have hf := iteT h37706 hf
    refine WPK.condT (Eq.trans (b := .bool (decide ((p0.length : Int) < 4))) (by kernel_rfl) (bo_t h37706)) ?_
    refine WPK.seq ?_
    refine WPK.region ?_
    refine RW.seg hT 2 [] [] [.slice none 0 0, .bool false] [] (by kernel_rfl) (trivial) ?_
    refine RW.nil ?_
    refine WPK.ret (?_)
    obtain rfl := someS hf
    refine Fin.of (rs := [.tmp 2, .tmp 3]) hT [] (.tuple #[.slice none 0 0, .bool false]) [] rfl (by kernel_rfl) (trivial) ?_
    replace s := s.pushNil 5 1
    exact fun X h => vc rfl (h I none 0 0 [] _ s kk rfl (RepL.nil (r := (Rp.int .u8))))
  · have hf := iteF h37706 hf
    refine WPK.condF (Eq.trans (b := .bool (decide ((p0.length : Int) < 4))) (by kernel_rfl) (bo_f h37706)) ?_
    refine WPK.skip ?_
    refine WPK.seq ?_
    refine WPK.region ?_
    obtain ⟨y37708, hy37709, hf⟩ := bindS hf
    obtain ⟨A37710, c37711, h37712, hc37713, e37714, q37715, q37716, q37717⟩ := slS (size := 1) rfl hc37702 e37703 hy37709
    refine RW.seg hT 2 [] [(9, .slice A37710 y37708.length c37711)] [.slice A37700 p0.length c37701, .slice A37710 y37708.length c37711] [.both (.cut 4 (p0.length : Int) c37701 c37701) (.veq (.slice (cutA A37700 (4 : Int).toNat c37701 1) (p0.length - (4 : Int).toNat) (c37701 - (4 : Int).toNat)) (.slice A37710 y37708.length c37711))] (by kernel_rfl) (⟨⟨by omega, by omega, by omega, by omega⟩, sl_eq q37715 q37716 q37717⟩) ?_
    obtain ⟨x37718, hx37719, hf⟩ := bindS hf
    refine RW.op (by kernel_rfl) (OK.call' en32 (by kernel_rfl) (c32 (F := F) y37708 A37710 c37711 hc37713 e37714 s hx37719) ?_)
    intro X37722 hX37723
    refine fun _ _ hJ => hJ X37722 ?_
    intro I37724 A37725 n37726 c37727 cl37728 w37720 s k37721 hn37729 rp37730
    refine hX37723 _ _ ?_
    replace e37703 := e37703.st k37721
    replace e37714 := e37714.st k37721
    replace kk := kk.trans k37721
    refine RW.seg hT 1 [] [] [.slice A37725 n37726 c37727] [] (by kernel_rfl) (trivial) ?_
    refine RW.nil ?_
    refine WPK.seq ?_
    refine WPK.seq ?_
    refine WPK.region ?_
    refine RW.seg hT 5 [.string (strOfNums x37718), .string (strOfNums p0)] [(15, .bool (decide ((strOfNums x37718).toList ≠ (strOfNums p0).toList)))] [.slice A37725 n37726 c37727, .string (strOfNums x37718), .slice A37700 p0.length c37701, .string (strOfNums p0), .bool (decide ((strOfNums x37718).toList ≠ (strOfNums p0).toList))] [.bytes A37725 n37726 (strOfNums x37718), .bytes A37700 p0.length (strOfNums p0), .veq (.bool (!((strOfNums x37718).toList == (strOfNums p0).toList))) (.bool (decide ((strOfNums x37718).toList ≠ (strOfNums p0).toList)))] (by kernel_rfl) (⟨St.bytes s (i := 0) rfl hn37729 rp37730, Elems.bytes e37703, bne_v⟩) ?_
    refine RW.nil ?_
    by_cases h37734 : (strOfNums x37718).toList ≠ (strOfNums p0).toList
    · have hf := iteT h37734 hf
      refine WPK.condT (Eq.trans (b := .bool (decide ((strOfNums x37718).toList ≠ (strOfNums p0).toList))) (by kernel_rfl) (bo_t h37734)) ?_
      refine WPK.seq ?_
      refine WPK.region ?_
      refine RW.seg hT 2 [] [] [.slice none 0 0, .bool false] [] (by kernel_rfl) (trivial) ?_
      refine RW.nil ?_
      refine WPK.ret (?_)
      obtain rfl := someS hf
      refine Fin.of (rs := [.tmp 2, .tmp 3]) hT [] (.tuple #[.slice none 0 0, .bool false]) [] rfl (by kernel_rfl) (trivial) ?_
      replace s := s.pushNil 5 1
      replace s := s.pick [0] 2 rfl
      exact fun X h => vc rfl (h I37724 none 0 0 [] _ s kk rfl (RepL.nil (r := (Rp.int .u8))))
    · have hf := iteF h37734 hf
      refine WPK.condF (Eq.trans (b := .bool (decide ((strOfNums x37718).toList ≠ (strOfNums p0).toList))) (by kernel_rfl) (bo_f h37734)) ?_
      refine WPK.skip ?_
      refine WPK.seq ?_
      refine WPK.region ?_
      obtain ⟨y37736, hy37737, hf⟩ := bindS hf
      obtain ⟨A37738, c37739, h37740, hc37741, e37742, q37743, q37744, q37745⟩ := slS (size := 1) rfl hc37702 e37703 hy37737
      refine RW.seg hT 2 [] [(17, .slice A37738 y37736.length c37739)] [.slice A37700 p0.length c37701, .slice A37738 y37736.length c37739] [.both (.cut 4 (p0.length : Int) c37701 c37701) (.veq (.slice (cutA A37700 (4 : Int).toNat c37701 1) (p0.length - (4 : Int).toNat) (c37701 - (4 : Int).toNat)) (.slice A37738 y37736.length c37739))] (by kernel_rfl) (⟨⟨by omega, by omega, by omega, by omega⟩, sl_eq q37743 q37744 q37745⟩) ?_
      replace s := s.pushNil 5 1
      obtain ⟨nw37747, hs37748, rq37749⟩ := Elems.src e37742
      obtain ⟨x37750, hx37751, hf⟩ := bindS hf
      refine RW.op (by kernel_rfl) (OK.app hT (r := (Rp.int .u8)) (i := 0) (t := 23) (e := 5) (size := 1) (bytes := 1) (c := 0) (n := 0) (m := y37736.length) s (by kernel_rfl) rfl rfl rfl rfl rfl (by decide) rfl rfl rfl rfl (RepL.nil (r := (Rp.int .u8))) hs37748 rq37749 flat_int rfl hx37751 ?_)
      rintro A37752 c37753 cl37754 w37755 s k37756 rp37757
      replace e37703 := e37703.st k37756
      replace e37714 := e37714.st k37756
      replace e37742 := e37742.st k37756
      replace rp37730 := rp37730.st k37756
      replace kk := kk.trans k37756
      refine RW.seg hT 2 [] [] [.slice A37752 x37750.length c37753, .bool true] [] (by kernel_rfl) (trivial) ?_
      refine RW.nil ?_
      refine WPK.ret (?_)
      obtain rfl := someS hf
      refine Fin.of (rs := [.tmp 2, .tmp 3]) hT [] (.tuple #[.slice A37752 x37750.length c37753, .bool true]) [] rfl (by kernel_rfl) (trivial) ?_
      replace s := s.pick [0] 2 rfl
      exact fun X h => vc rfl (h I37724 A37752 x37750.length c37753 cl37754 _ s kk rfl rp37757)
end Go.Proofs.YtjkghheeeiacmaaDoor
