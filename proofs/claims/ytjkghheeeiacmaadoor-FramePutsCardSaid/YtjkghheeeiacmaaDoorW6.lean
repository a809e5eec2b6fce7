/- PRINTED BY sy.py: each call computes what the plain function of its number tells. -/
import Derived.Test.YtjkghheeeiacmaaDoorW5
namespace Go.Proofs.YtjkghheeeiacmaaDoor
open Go Go.SX Go.RowKit
set_option maxRecDepth 100000
set_option linter.unusedVariables false
attribute [local irreducible] WPK RW RD Ret SX.Fin SX.Any opK RoundBeg RoundEnd RangeEnd Rounds
theorem c5 {w0 w : World} {M I : Nat → Prop} {F : List It} (p0 : (List Int)) (p1 : Int) (p2 : (List Int)) (p3 : Int) (A44912 : Option Addr) (c44913 : Nat) (A44916 : Option Addr) (c44917 : Nat) (hc44914 : (p0.length ≤ c44913 ∧ c44913 ≤ 9223372036854775807)) (e44915 : Elems (Rp.int .u8) I w A44912 p0) (hc44918 : (p2.length ≤ c44917 ∧ c44917 ≤ 9223372036854775807)) (e44919 : Elems (Rp.int .i64) I w A44916 p2) (eg0 : Elems (Rp.int .u32) I w (some ⟨0, 0, none⟩) TAB0) (s : St w0 M I (F) w) {r : Bool} (hf : g5 p0 p1 p2 p3 = some r) :
    Ret Tryd.prog 5 [.slice A44912 p0.length c44913, .int .i64 p1, .slice A44916 p2.length c44917, .int .i64 p3] w fun v wz => ∀ X : Value → World → Prop, (∀ (I' : Nat → Prop) (w' : World), St w0 M I' (F) w' → Kp I w I' w' → X (.bool r) w') → X v wz := by
  have kk : Kp I w I w := Kp.refl
  unfold g5 at hf
  refine Ret.of Tryd.func5 rfl ?_
  refine WPK.seq ?_
  refine WPK.region ?_
  refine RW.seg hT 1 [] [] [.bool false] [] (by kernel_rfl) (trivial) ?_
  refine RW.nil ?_
  refine WPK.seq ?_
  refine WPK.seq ?_
  refine WPK.cut' (Kn fun E ds wz => ∀ X : Kont, (∀ (I44972 : Nat → Prop) (x44970 : Bool) (D44969 : List Value) (w' : World), g5_j1 p0 p1 p2 p3 x44970 = some r → St w0 M I44972 (F) w' → Kp I w I44972 w' → Elems (Rp.int .u8) I44972 w' A44912 p0 → Elems (Rp.int .i64) I44972 w' A44916 p2 → Elems (Rp.int .u32) I44972 w' (some ⟨0, 0, none⟩) TAB0 → X [.slice A44912 p0.length c44913, .int .i64 p1, .slice A44916 p2.length c44917, .int .i64 p3, (D44969.getD 0 undef), (D44969.getD 1 undef), (D44969.getD 2 undef), (D44969.getD 3 undef), .bool false, undef, undef, undef, undef, undef, undef, undef, undef, undef, undef, (D44969.getD 4 undef), (D44969.getD 5 undef), (D44969.getD 6 undef), (D44969.getD 7 undef), (D44969.getD 8 undef), (D44969.getD 9 undef), (D44969.getD 10 undef), (D44969.getD 11 undef), (D44969.getD 12 undef), (D44969.getD 13 undef), (D44969.getD 14 undef), .bool x44970, undef, (D44969.getD 15 undef), undef, undef, (D44969.getD 16 undef), (D44969.getD 17 undef), undef, undef, undef, undef, (D44969.getD 18 undef), (D44969.getD 19 undef), (D44969.getD 20 undef), undef, undef, undef, (D44969.getD 21 undef), undef, undef, undef, undef, undef, undef, undef, undef, undef, undef, undef, undef, (D44969.getD 22 undef), (D44969.getD 23 undef), undef, undef, undef, undef, (D44969.getD 24 undef), (D44969.getD 25 undef), (D44969.getD 26 undef), undef, undef, undef, (D44969.getD 27 undef), (D44969.getD 28 undef), undef, undef, undef, undef, undef, undef, undef, (D44969.getD 29 undef), (D44969.getD 30 undef), undef, undef, undef, undef, undef, undef, undef, undef, (D44969.getD 31 undef), undef, (D44969.getD 32 undef), undef, undef, undef] [] w') → X E ds wz) ?_ ?_
  · intro X56666 hX56667
    refine fun _ _ _ hJ => hJ X56666 ?_
    intro I44972 x44970 D44969 w44971 hf s kk e44915 e44919 eg0
    refine hX56667 _ _ _ ?_
    unfold g5_j1 at hf
    by_cases h44973 : x44970 = true
    · have hf := iteT h44973 hf
      refine WPK.condT (Eq.trans (b := .bool x44970) (by kernel_rfl) (b_t h44973)) ?_
      refine WPK.seq ?_
      refine WPK.region ?_
      obtain ⟨x44974, hx44975, hf⟩ := bindS hf
      refine RW.op (by kernel_rfl) (OK.call' en9 (by kernel_rfl) (c9 (F := F) eg0 s hx44975) ?_)
      intro X44978 hX44979
      refine fun _ _ hJ => hJ X44978 ?_
      intro I44980 w44976 s k44977
      refine hX44979 _ _ ?_
      replace e44915 := e44915.st k44977
      replace e44919 := e44919.st k44977
      replace eg0 := eg0.st k44977
      replace kk := kk.trans k44977
      refine RW.seg hT 1 [] [] [.bool x44974] [] (by kernel_rfl) (trivial) ?_
      refine RW.nil ?_
      refine WPK.ret (?_)
      obtain rfl := someS hf
      refine Fin.of (rs := [.tmp 8]) hT [] (.bool x44974) [] rfl (by kernel_rfl) (trivial) ?_
      exact fun X h => vc rfl (h I44980 _ s kk)
    · have hf := iteF h44973 hf
      refine WPK.condF (Eq.trans (b := .bool x44970) (by kernel_rfl) (b_f h44973)) ?_
      refine WPK.skip ?_
      refine WPK.seq ?_
      refine WPK.region ?_
      refine RW.seg hT 1 [] [] [.slice A44912 p0.length c44913] [] (by kernel_rfl) (trivial) ?_
      obtain ⟨x44981, hx44982, hf⟩ := bindS hf
      refine RW.op (by kernel_rfl) (OK.call' en13 (by kernel_rfl) (c13 (F := F) p0 A44912 c44913 hc44914 e44915 s hx44982) ?_)
      intro X44985 hX44986
      refine fun _ _ hJ => hJ X44985 ?_
      intro I44987 A44988 n44989 c44990 cl44991 w44983 s k44984 hn44992 rp44993
      refine hX44986 _ _ ?_
      replace e44915 := e44915.st k44984
      replace e44919 := e44919.st k44984
      replace eg0 := eg0.st k44984
      replace kk := kk.trans k44984
      refine RW.seg hT 1 [] [] [.slice A44988 n44989 c44990] [] (by kernel_rfl) (trivial) ?_
      refine RW.nil ?_
      refine WPK.seq ?_
      refine WPK.region ?_
      refine RW.seg hT 2 [] [] [.slice A44988 n44989 c44990, .int .i64 p1] [] (by kernel_rfl) (trivial) ?_
      refine RW.op (by kernel_rfl) (OK.inl (args := [.slice A44988 n44989 c44990, .int .i64 p1]) en8 (by kernel_rfl) ?_)
      intro R45012 hR45013
      refine Ret.cut (fun v wz => ∀ X : Value → World → Prop, (∀ (I46881 : Nat → Prop) (x46871 : Int) (x46872 : Int) (x46873 : Int) (x46874 : (List Int)) (x46879 : Int) (A46875 : Option Addr) (c46876 : Nat) (w' : World), g5_j2 p0 p1 p2 p3 x44981 x46871 x46872 x46873 x46874 x46879 = some r → St w0 M I46881 ((.sl (.slice A44988 n44989 c44990) 5 1 n44989 cl44991) :: F) w' → Kp I w I46881 w' → Elems (Rp.int .u8) I46881 w' A44912 p0 → Elems (Rp.int .i64) I46881 w' A44916 p2 → (x46874.length ≤ c46876 ∧ c46876 ≤ 9223372036854775807) → Elems (Rp.int .u8) I46881 w' A46875 x46874 → RepL (Rp.int .u8) I46881 w' cl44991 x44981 → Elems (Rp.int .u32) I46881 w' (some ⟨0, 0, none⟩) TAB0 → X (.tuple #[.agg #[.int .i64 x46871, .int .i64 x46872, .int .u64 x46873, .slice A46875 x46874.length c46876], .int .i64 x46879]) w') → X v wz) ?_ ?_
      · refine fun _ _ hJ => hJ R45012 ?_
        intro I46881 x46871 x46872 x46873 x46874 x46879 A46875 c46876 w46880 hf s kk e44915 e44919 hc46877 e46878 rp44993 eg0
        refine hR45013 _ _ ?_
        unfold g5_j2 at hf
        refine RW.seg hT 3 [] [] [.tuple #[.agg #[.int .i64 x46871, .int .i64 x46872, .int .u64 x46873, .slice A46875 x46874.length c46876], .int .i64 x46879], .agg #[.int .i64 x46871, .int .i64 x46872, .int .u64 x46873, .slice A46875 x46874.length c46876], .int .i64 x46879] [] (by kernel_rfl) (trivial) ?_
        refine RW.op (by kernel_rfl) (OK.new hT (f := fun b => .pointer (some ⟨b, 0, none⟩)) (cs := [.int .i64 0, .int .i64 0, .int .u64 0, .slice none 0 0]) (e := 25) (c := .tt) s (by kernel_rfl) trivial ?_)
        rintro w46882 b46883 s k46884 -
        replace e44915 := e44915.st k46884
        replace e44919 := e44919.st k46884
        replace e46878 := e46878.st k46884
        replace rp44993 := rp44993.st k46884
        replace eg0 := eg0.st k46884
        replace kk := kk.trans k46884
        refine RW.op (by kernel_rfl) (OK.store hT (i := 0) (b := b46883) (off := 0) (n := 4) (vs := [.int .i64 x46871, .int .i64 x46872, .int .u64 x46873, .slice A46875 x46874.length c46876]) (cs := [.int .i64 0, .int .i64 0, .int .u64 0, .slice none 0 0]) (e := 25) s (by kernel_rfl) rfl rfl (flat_ok rfl) (Nat.le_of_ble_eq_true rfl) ?_)
        rintro w46885 s k46886 -
        replace e44915 := e44915.st k46886
        replace e44919 := e44919.st k46886
        replace e46878 := e46878.st k46886
        replace rp44993 := rp44993.st k46886
        replace eg0 := eg0.st k46886
        replace kk := kk.trans k46886
        refine RW.seg hT 1 [] [] [.int .i64 x46879] [] (by kernel_rfl) (trivial) ?_
        refine RW.nil ?_
        refine WPK.seq ?_
        refine WPK.region ?_
        refine RW.seg hT 3 [] [] [.slice A44988 n44989 c44990, .int .i64 p1, .slice A44916 p2.length c44917] [] (by kernel_rfl) (trivial) ?_
        refine RW.op (by kernel_rfl) (OK.inl (args := [.slice A44988 n44989 c44990, .int .i64 p1, .slice A44916 p2.length c44917]) en14 (by kernel_rfl) ?_)
        intro R46904 hR46905
        refine Ret.cut (fun v wz => ∀ X : Value → World → Prop, (∀ (I50713 : Nat → Prop) (x50703 : Int) (x50704 : Int) (x50705 : Int) (x50706 : (List Int)) (x50711 : Int) (A50707 : Option Addr) (c50708 : Nat) (w' : World), g5_j3 p0 p1 p2 p3 x44981 x46871 x46872 x46873 x46874 x46879 x50703 x50704 x50705 x50706 x50711 = some r → St w0 M I50713 ((.blk b46883 (.cells #[.int .i64 x46871, .int .i64 x46872, .int .u64 x46873, .slice A46875 x46874.length c46876] 25 (0, 0))) :: (.sl (.slice A44988 n44989 c44990) 5 1 n44989 cl44991) :: F) w' → Kp I w I50713 w' → Elems (Rp.int .u8) I50713 w' A44912 p0 → Elems (Rp.int .i64) I50713 w' A44916 p2 → (x50706.length ≤ c50708 ∧ c50708 ≤ 9223372036854775807) → Elems (Rp.int .u8) I50713 w' A50707 x50706 → Elems (Rp.int .u8) I50713 w' A46875 x46874 → RepL (Rp.int .u8) I50713 w' cl44991 x44981 → Elems (Rp.int .u32) I50713 w' (some ⟨0, 0, none⟩) TAB0 → X (.tuple #[.agg #[.int .i64 x50703, .int .i64 x50704, .int .u64 x50705, .slice A50707 x50706.length c50708], .int .i64 x50711]) w') → X v wz) ?_ ?_
        · refine fun _ _ hJ => hJ R46904 ?_
          intro I50713 x50703 x50704 x50705 x50706 x50711 A50707 c50708 w50712 hf s kk e44915 e44919 hc50709 e50710 e46878 rp44993 eg0
          refine hR46905 _ _ ?_
          unfold g5_j3 at hf
          refine RW.seg hT 3 [] [] [.tuple #[.agg #[.int .i64 x50703, .int .i64 x50704, .int .u64 x50705, .slice A50707 x50706.length c50708], .int .i64 x50711], .agg #[.int .i64 x50703, .int .i64 x50704, .int .u64 x50705, .slice A50707 x50706.length c50708], .int .i64 x50711] [] (by kernel_rfl) (trivial) ?_
          refine RW.op (by kernel_rfl) (OK.new hT (f := fun b => .pointer (some ⟨b, 0, none⟩)) (cs := [.int .i64 0, .int .i64 0, .int .u64 0, .slice none 0 0]) (e := 25) (c := .tt) s (by kernel_rfl) trivial ?_)
          rintro w50714 b50715 s k50716 -
          replace e44915 := e44915.st k50716
          replace e44919 := e44919.st k50716
          replace e50710 := e50710.st k50716
          replace e46878 := e46878.st k50716
          replace rp44993 := rp44993.st k50716
          replace eg0 := eg0.st k50716
          replace kk := kk.trans k50716
          refine RW.op (by kernel_rfl) (OK.store hT (i := 0) (b := b50715) (off := 0) (n := 4) (vs := [.int .i64 x50703, .int .i64 x50704, .int .u64 x50705, .slice A50707 x50706.length c50708]) (cs := [.int .i64 0, .int .i64 0, .int .u64 0, .slice none 0 0]) (e := 25) s (by kernel_rfl) rfl rfl (flat_ok rfl) (Nat.le_of_ble_eq_true rfl) ?_)
          rintro w50717 s k50718 -
          replace e44915 := e44915.st k50718
          replace e44919 := e44919.st k50718
          replace e50710 := e50710.st k50718
          replace e46878 := e46878.st k50718
          replace rp44993 := rp44993.st k50718
          replace eg0 := eg0.st k50718
          replace kk := kk.trans k50718
          refine RW.seg hT 1 [] [] [.int .i64 x50711] [] (by kernel_rfl) (trivial) ?_
          refine RW.nil ?_
          refine WPK.seq ?_
          refine WPK.seq ?_
          refine WPK.region ?_
          refine RW.seg hT 3 [] [(48, .int .i64 (x44981.length : Int))] [.slice A44988 n44989 c44990, .int .i64 (x44981.length : Int), .int .i64 0] [.veq (.int .i64 (n44989 : Nat)) (.int .i64 (x44981.length : Int))] (by kernel_rfl) (len_v hn44992) ?_
          refine RW.nil ?_
          refine WPK.block ?_
          refine WPK.loop' (J := fun n50868 E ds wz => ∀ X : Kont, (∀ (I50841 : Nat → Prop) (x50835 : Int) (x50836 : (List Int)) (D50834 : List Value) (cl50837 : List Value) (w' : World), g5_l4 p0 p1 p2 p3 x44981 x46871 x46872 x46873 x46874 x46879 x50703 x50704 x50705 x50706 x50711 n50868 x50835 x50836 = some r → St w0 M I50841 ((.blk b50715 (.cells #[.int .i64 x50703, .int .i64 x50704, .int .u64 x50705, .slice A50707 x50706.length c50708] 25 (0, 0))) :: (.blk b46883 (.cells #[.int .i64 x46871, .int .i64 x46872, .int .u64 x46873, .slice A46875 x46874.length c46876] 25 (0, 0))) :: (.sl (.slice A44988 n44989 c44990) 5 1 n44989 cl50837) :: F) w' → Kp I w I50841 w' → Elems (Rp.int .u8) I50841 w' A44912 p0 → Elems (Rp.int .i64) I50841 w' A44916 p2 → Elems (Rp.int .u8) I50841 w' A50707 x50706 → Elems (Rp.int .u8) I50841 w' A46875 x46874 → n44989 = x50836.length → RepL (Rp.int .u8) I50841 w' cl50837 x50836 → Elems (Rp.int .u32) I50841 w' (some ⟨0, 0, none⟩) TAB0 → X [.slice A44912 p0.length c44913, .int .i64 p1, .slice A44916 p2.length c44917, .int .i64 p3, (D50834.getD 0 undef), (D50834.getD 1 undef), (D50834.getD 2 undef), (D50834.getD 3 undef), .bool false, .slice A44988 n44989 c44990, .pointer (some ⟨b46883, 0, none⟩), .int .i64 x46879, .pointer (some ⟨b50715, 0, none⟩), .int .i64 x50711, (D50834.getD 4 undef), undef, undef, undef, undef, (D50834.getD 5 undef), (D50834.getD 6 undef), (D50834.getD 7 undef), (D50834.getD 8 undef), (D50834.getD 9 undef), (D50834.getD 10 undef), (D50834.getD 11 undef), (D50834.getD 12 undef), (D50834.getD 13 undef), (D50834.getD 14 undef), (D50834.getD 15 undef), (D50834.getD 16 undef), (D50834.getD 17 undef), (D50834.getD 18 undef), (D50834.getD 19 undef), (D50834.getD 20 undef), (D50834.getD 21 undef), (D50834.getD 22 undef), (D50834.getD 23 undef), (D50834.getD 24 undef), (D50834.getD 25 undef), (D50834.getD 26 undef), (D50834.getD 27 undef), (D50834.getD 28 undef), (D50834.getD 29 undef), (D50834.getD 30 undef), (D50834.getD 31 undef), (D50834.getD 32 undef), (D50834.getD 33 undef), .int .i64 (x44981.length : Int), .int .i64 x50835, (D50834.getD 34 undef), (D50834.getD 35 undef), (D50834.getD 36 undef), (D50834.getD 37 undef), (D50834.getD 38 undef), (D50834.getD 39 undef), (D50834.getD 40 undef), (D50834.getD 41 undef), (D50834.getD 42 undef), undef, (D50834.getD 43 undef), (D50834.getD 44 undef), undef, undef, undef, undef, (D50834.getD 45 undef), (D50834.getD 46 undef), (D50834.getD 47 undef), undef, undef, undef, (D50834.getD 48 undef), (D50834.getD 49 undef), undef, undef, undef, undef, undef, undef, undef, (D50834.getD 50 undef), (D50834.getD 51 undef), undef, undef, undef, undef, undef, undef, undef, undef, (D50834.getD 52 undef), undef, (D50834.getD 53 undef), undef, undef, undef] [] w') → X E ds wz) FUEL (fun X h => kc (by kernel_rfl) rfl (h I50713 0 x44981 [(((D44969.getD 0 undef))), (((D44969.getD 1 undef))), (((D44969.getD 2 undef))), (((D44969.getD 3 undef))), undef, (((D44969.getD 4 undef))), (((D44969.getD 5 undef))), (((D44969.getD 6 undef))), (((D44969.getD 7 undef))), (((D44969.getD 8 undef))), (((D44969.getD 9 undef))), (((D44969.getD 10 undef))), (((D44969.getD 11 undef))), (((D44969.getD 12 undef))), (((D44969.getD 13 undef))), (((D44969.getD 14 undef))), ((.bool x44970)), ((undef)), ((.slice A44912 p0.length c44913)), ((.slice A44988 n44989 c44990)), (.tuple #[.agg #[.int .i64 x46871, .int .i64 x46872, .int .u64 x46873, .slice A46875 x46874.length c46876], .int .i64 x46879]), ((.slice A44988 n44989 c44990)), ((.int .i64 p1)), (.tuple #[.agg #[.int .i64 x46871, .int .i64 x46872, .int .u64 x46873, .slice A46875 x46874.length c46876], .int .i64 x46879]), (.agg #[.int .i64 x46871, .int .i64 x46872, .int .u64 x46873, .slice A46875 x46874.length c46876]), (.int .i64 x46879), .tuple #[.agg #[.int .i64 x50703, .int .i64 x50704, .int .u64 x50705, .slice A50707 x50706.length c50708], .int .i64 x50711], (.slice A44988 n44989 c44990), (.int .i64 p1), (.slice A44916 p2.length c44917), .tuple #[.agg #[.int .i64 x50703, .int .i64 x50704, .int .u64 x50705, .slice A50707 x50706.length c50708], .int .i64 x50711], .agg #[.int .i64 x50703, .int .i64 x50704, .int .u64 x50705, .slice A50707 x50706.length c50708], .int .i64 x50711, .slice A44988 n44989 c44990, undef, undef, undef, undef, undef, undef, undef, undef, undef, (((D44969.getD 22 undef))), (((D44969.getD 23 undef))), (((D44969.getD 24 undef))), (((D44969.getD 25 undef))), (((D44969.getD 26 undef))), (((D44969.getD 27 undef))), (((D44969.getD 28 undef))), (((D44969.getD 29 undef))), (((D44969.getD 30 undef))), (((D44969.getD 31 undef))), (((D44969.getD 32 undef)))] cl44991 _ hf s kk e44915 e44919 e50710 e46878 hn44992 rp44993 eg0)) (fun _ _ _ hJ => hJ (fun _ _ _ => False) (by intro I50841 x50835 x50836 D50834 cl50837 w50840 hf s kk e44915 e44919 e50710 e46878 hn50838 rp50839 eg0; exact noneS hf)) ?_
          intro X51012 hX51013
          refine fun n50868 _ _ _ hJ => hJ (X51012 n50868) ?_
          intro I50841 x50835 x50836 D50834 cl50837 w50840 hf s kk e44915 e44919 e50710 e46878 hn50838 rp50839 eg0
          refine hX51013 _ _ _ _ ?_
          replace hf : g5_l4B p0 p1 p2 p3 x44981 x46871 x46872 x46873 x46874 x46879 x50703 x50704 x50705 x50706 x50711 (g5_l4 p0 p1 p2 p3 x44981 x46871 x46872 x46873 x46874 x46879 x50703 x50704 x50705 x50706 x50711 n50868) x50835 x50836 = some r := hf
          generalize hrec50869 : g5_l4 p0 p1 p2 p3 x44981 x46871 x46872 x46873 x46874 x46879 x50703 x50704 x50705 x50706 x50711 n50868 = rec50867 at hf
          unfold g5_l4B at hf
          refine WPK.seq ?_
          refine WPK.region ?_
          refine RW.seg hT 1 [] [] [.bool (decide (x50835 < (x44981.length : Int)))] [] (by kernel_rfl) (trivial) ?_
          refine RW.nil ?_
          refine WPK.seq ?_
          by_cases h50871 : x50835 < (x44981.length : Int)
          · have hf := iteT h50871 hf
            refine WPK.condT (Eq.trans (b := .bool (decide (x50835 < (x44981.length : Int)))) (by kernel_rfl) (bo_t h50871)) ?_
            refine WPK.skip ?_
            refine WPK.seq ?_
            refine WPK.block ?_
            refine WPK.seq ?_
            refine WPK.region ?_
            refine RW.seg hT 2 [] [] [.int .i64 x50835, .int .i64 x50835] [] (by kernel_rfl) (trivial) ?_
            refine RW.nil ?_
            refine WPK.region ?_
            obtain ⟨x50872, hx50873, hf⟩ := bindS hf
            obtain ⟨h50874, hx50873⟩ := getS hx50873
            obtain ⟨b50875, rfl⟩ := (St.elem s (i := 2) rfl hn50838 rp50839 hx50873).1
            obtain ⟨-, cs50877, hr50878, ha50879⟩ := St.elem s (i := 2) rfl hn50838 rp50839 hx50873
            replace ha50879 := ha50879 _ rfl
            obtain rfl : cs50877 = [.int .u8 x50872] := hr50878
            obtain ⟨x50880, hx50881, hf⟩ := bindS hf
            obtain ⟨h50882, hx50881⟩ := getS hx50881
            refine RW.seg hT 6 [.int .u8 x50872] [] [.slice (some ⟨b50875, 0, none⟩) n44989 c44990, .int .i64 x50835, .pointer (some ⟨b50875, 0 + x50835.toNat * 1, none⟩), .int .u8 x50872, .int .u8 (xorI .u8 x50872 255), .pointer (some ⟨b50875, 0 + x50835.toNat * 1, none⟩)] [.idx x50835 n44989, .cell ⟨b50875, 0 + x50835.toNat * 1, none⟩ (.int .u8 x50872), .idx x50835 n44989] (by kernel_rfl) (⟨(by rw [hn50838]; exact h50874), ha50879 0 _ rfl, (by rw [hn50838]; exact h50882)⟩) ?_
            obtain ⟨y50887, hy50888, hf⟩ := bindS hf
            obtain ⟨h50889, hq50890⟩ := setS hy50888
            obtain ⟨cl50891, hcl50892⟩ : ∃ q, setL cl50837 (0 + x50835.toNat * 1) [.int .u8 (xorI .u8 x50872 255)] = q := ⟨_, rfl⟩
            have rp50893 : RepL (Rp.int .u8) I50841 w50840 cl50891 y50887 := by rw [hq50890, ← hcl50892, Nat.zero_add]; exact RepL.set rp50839 (by omega) (rfl)
            have hn50894 : n44989 = y50887.length := by rw [hq50890, List.length_set]; exact hn50838
            refine RW.op (by kernel_rfl) (OK.storeSl hT (i := 2) (b := b50875) (off := 0 + x50835.toNat * 1) (m := 1) (vs := [.int .u8 (xorI .u8 x50872 255)]) (c := c44990) (e := 5) (size := 1) (n := n44989) (cl := cl50837) (cl' := cl50891) s (by kernel_rfl) rfl rfl (flat_ok rfl) (by have h1 := RepL.length rp50839; simp only [List.length_cons, List.length_nil, h1]; exact row_bd (n := 1) h50889 rfl) hcl50892 ?_)
            rintro w50885 s k50886
            replace e44915 := e44915.st k50886
            replace e44919 := e44919.st k50886
            replace e50710 := e50710.st k50886
            replace e46878 := e46878.st k50886
            replace rp50893 := rp50893.st k50886
            replace eg0 := eg0.st k50886
            replace kk := kk.trans k50886
            refine RW.nil ?_
            refine WPK.region ?_
            refine RW.seg hT 2 [] [] [.int .i64 (IntKind.i64.wrap (x50835 + 1)), .int .i64 (IntKind.i64.wrap (x50835 + 1))] [] (by kernel_rfl) (trivial) ?_
            refine RW.nil ?_
            subst hrec50869
            exact ⟨n50868, Nat.le_refl _, fun X h => kc (by kernel_rfl) rfl (h I50841 (IntKind.i64.wrap (x50835 + 1)) y50887 [(D50834.getD 0 undef), (D50834.getD 1 undef), (D50834.getD 2 undef), (D50834.getD 3 undef), .int .i64 x50835, (D50834.getD 5 undef), (D50834.getD 6 undef), (D50834.getD 7 undef), (D50834.getD 8 undef), (D50834.getD 9 undef), (D50834.getD 10 undef), (D50834.getD 11 undef), (D50834.getD 12 undef), (D50834.getD 13 undef), (D50834.getD 14 undef), (D50834.getD 15 undef), (D50834.getD 16 undef), (D50834.getD 17 undef), (D50834.getD 18 undef), (D50834.getD 19 undef), (D50834.getD 20 undef), (D50834.getD 21 undef), (D50834.getD 22 undef), (D50834.getD 23 undef), (D50834.getD 24 undef), (D50834.getD 25 undef), (D50834.getD 26 undef), (D50834.getD 27 undef), (D50834.getD 28 undef), (D50834.getD 29 undef), (D50834.getD 30 undef), (D50834.getD 31 undef), (D50834.getD 32 undef), (D50834.getD 33 undef), .bool (decide (x50835 < (x44981.length : Int))), .int .i64 x50835, .slice (some ⟨b50875, 0, none⟩) n44989 c44990, .int .i64 x50835, (.pointer (some ⟨b50875, 0 + x50835.toNat * 1, none⟩)), .int .u8 x50872, .int .u8 (xorI .u8 x50872 255), (.pointer (some ⟨b50875, 0 + x50835.toNat * 1, none⟩)), .int .i64 (IntKind.i64.wrap (x50835 + 1)), (D50834.getD 43 undef), (D50834.getD 44 undef), (D50834.getD 45 undef), (D50834.getD 46 undef), (D50834.getD 47 undef), (D50834.getD 48 undef), (D50834.getD 49 undef), (D50834.getD 50 undef), (D50834.getD 51 undef), (D50834.getD 52 undef), (D50834.getD 53 undef)] cl50891 _ hf s kk e44915 e44919 e50710 e46878 hn50894 rp50893 eg0)⟩
          · have hf := iteF h50871 hf
            refine WPK.condF (Eq.trans (b := .bool (decide (x50835 < (x44981.length : Int)))) (by kernel_rfl) (bo_f h50871)) ?_
            refine WPK.exit (blockQ.same ?_)
            refine WPK.seq ?_
            refine WPK.region ?_
            refine RW.seg hT 2 [] [] [.slice A44912 p0.length c44913, .int .i64 p1] [] (by kernel_rfl) (trivial) ?_
            obtain ⟨x50895, hx50896, hf⟩ := bindS hf
            refine RW.op (by kernel_rfl) (OK.call' en15 (by kernel_rfl) (c15 (F := (.blk b50715 (.cells #[.int .i64 x50703, .int .i64 x50704, .int .u64 x50705, .slice A50707 x50706.length c50708] 25 (0, 0))) :: (.blk b46883 (.cells #[.int .i64 x46871, .int .i64 x46872, .int .u64 x46873, .slice A46875 x46874.length c46876] 25 (0, 0))) :: (.sl (.slice A44988 n44989 c44990) 5 1 n44989 cl50837) :: F) p0 p1 A44912 c44913 hc44914 e44915 s hx50896) ?_)
            intro X50899 hX50900
            refine fun _ _ hJ => hJ X50899 ?_
            intro I50901 B50902 m50903 d50904 cl50905 ys50906 A50909 n50910 c50911 w50897 s k50898 hn50907 rp50908 hw50912
            refine hX50900 _ _ ?_
            replace e44915 := e44915.st k50898
            replace e44919 := e44919.st k50898
            replace e50710 := e50710.st k50898
            replace e46878 := e46878.st k50898
            replace rp50839 := rp50839.st k50898
            replace eg0 := eg0.st k50898
            replace kk := kk.trans k50898
            rw [hn50907] at s
            try rw [hn50907]
            obtain ⟨I50914, s', k50915, hc50916, e50917⟩ := St.give s (i := 0) rfl rfl rp50908
            replace s := s'; clear s'
            replace e44915 := e44915.st k50915
            replace e44919 := e44919.st k50915
            replace e50710 := e50710.st k50915
            replace e46878 := e46878.st k50915
            replace rp50839 := rp50839.st k50915
            replace eg0 := eg0.st k50915
            replace kk := kk.trans k50915
            obtain ⟨hm50918, hc50919, e50920⟩ := Win.real hw50912 e50917
            subst hm50918
            refine RW.seg hT 3 [] [] [.tuple #[.agg #[.int .i64 x50895.1.Kind, .int .i64 x50895.1.Page, .int .u64 x50895.1.Epoch, .slice A50909 x50895.1.Data.length c50911], .int .i64 x50895.2], .agg #[.int .i64 x50895.1.Kind, .int .i64 x50895.1.Page, .int .u64 x50895.1.Epoch, .slice A50909 x50895.1.Data.length c50911], .int .i64 x50895.2] [] (by kernel_rfl) (trivial) ?_
            refine RW.op (by kernel_rfl) (OK.new hT (f := fun b => .pointer (some ⟨b, 0, none⟩)) (cs := [.int .i64 0, .int .i64 0, .int .u64 0, .slice none 0 0]) (e := 25) (c := .tt) s (by kernel_rfl) trivial ?_)
            rintro w50921 b50922 s k50923 -
            replace e44915 := e44915.st k50923
            replace e44919 := e44919.st k50923
            replace e50920 := e50920.st k50923
            replace e50710 := e50710.st k50923
            replace e46878 := e46878.st k50923
            replace rp50839 := rp50839.st k50923
            replace eg0 := eg0.st k50923
            replace kk := kk.trans k50923
            refine RW.op (by kernel_rfl) (OK.store hT (i := 0) (b := b50922) (off := 0) (n := 4) (vs := [.int .i64 x50895.1.Kind, .int .i64 x50895.1.Page, .int .u64 x50895.1.Epoch, .slice A50909 x50895.1.Data.length c50911]) (cs := [.int .i64 0, .int .i64 0, .int .u64 0, .slice none 0 0]) (e := 25) s (by kernel_rfl) rfl rfl (flat_ok rfl) (Nat.le_of_ble_eq_true rfl) ?_)
            rintro w50924 s k50925 -
            replace e44915 := e44915.st k50925
            replace e44919 := e44919.st k50925
            replace e50920 := e50920.st k50925
            replace e50710 := e50710.st k50925
            replace e46878 := e46878.st k50925
            replace rp50839 := rp50839.st k50925
            replace eg0 := eg0.st k50925
            replace kk := kk.trans k50925
            refine RW.seg hT 1 [] [] [.int .i64 x50895.2] [] (by kernel_rfl) (trivial) ?_
            refine RW.nil ?_
            refine WPK.seq ?_
            refine WPK.region ?_
            refine RW.seg hT 3 [] [] [.slice A44912 p0.length c44913, .int .i64 p1, .slice A44916 p2.length c44917] [] (by kernel_rfl) (trivial) ?_
            obtain ⟨x50926, hx50927, hf⟩ := bindS hf
            refine RW.op (by kernel_rfl) (OK.call' en16 (by kernel_rfl) (c16 (F := (.blk b50922 (.cells #[.int .i64 x50895.1.Kind, .int .i64 x50895.1.Page, .int .u64 x50895.1.Epoch, .slice A50909 x50895.1.Data.length c50911] 25 (0, 0))) :: (.blk b50715 (.cells #[.int .i64 x50703, .int .i64 x50704, .int .u64 x50705, .slice A50707 x50706.length c50708] 25 (0, 0))) :: (.blk b46883 (.cells #[.int .i64 x46871, .int .i64 x46872, .int .u64 x46873, .slice A46875 x46874.length c46876] 25 (0, 0))) :: (.sl (.slice A44988 n44989 c44990) 5 1 n44989 cl50837) :: F) p0 p1 p2 A44912 c44913 A44916 c44917 hc44914 e44915 hc44918 e44919 s hx50927) ?_)
            intro X50930 hX50931
            refine fun _ _ hJ => hJ X50930 ?_
            intro I50932 A50933 c50934 w50928 s k50929 hc50935 e50936
            refine hX50931 _ _ ?_
            replace e44915 := e44915.st k50929
            replace e44919 := e44919.st k50929
            replace e50920 := e50920.st k50929
            replace e50710 := e50710.st k50929
            replace e46878 := e46878.st k50929
            replace rp50839 := rp50839.st k50929
            replace eg0 := eg0.st k50929
            replace kk := kk.trans k50929
            refine RW.seg hT 3 [] [] [.tuple #[.agg #[.int .i64 x50926.1.Kind, .int .i64 x50926.1.Page, .int .u64 x50926.1.Epoch, .slice A50933 x50926.1.Data.length c50934], .int .i64 x50926.2], .agg #[.int .i64 x50926.1.Kind, .int .i64 x50926.1.Page, .int .u64 x50926.1.Epoch, .slice A50933 x50926.1.Data.length c50934], .int .i64 x50926.2] [] (by kernel_rfl) (trivial) ?_
            refine RW.op (by kernel_rfl) (OK.new hT (f := fun b => .pointer (some ⟨b, 0, none⟩)) (cs := [.int .i64 0, .int .i64 0, .int .u64 0, .slice none 0 0]) (e := 25) (c := .tt) s (by kernel_rfl) trivial ?_)
            rintro w50937 b50938 s k50939 -
            replace e44915 := e44915.st k50939
            replace e44919 := e44919.st k50939
            replace e50920 := e50920.st k50939
            replace e50936 := e50936.st k50939
            replace e50710 := e50710.st k50939
            replace e46878 := e46878.st k50939
            replace rp50839 := rp50839.st k50939
            replace eg0 := eg0.st k50939
            replace kk := kk.trans k50939
            refine RW.op (by kernel_rfl) (OK.store hT (i := 0) (b := b50938) (off := 0) (n := 4) (vs := [.int .i64 x50926.1.Kind, .int .i64 x50926.1.Page, .int .u64 x50926.1.Epoch, .slice A50933 x50926.1.Data.length c50934]) (cs := [.int .i64 0, .int .i64 0, .int .u64 0, .slice none 0 0]) (e := 25) s (by kernel_rfl) rfl rfl (flat_ok rfl) (Nat.le_of_ble_eq_true rfl) ?_)
            rintro w50940 s k50941 -
            replace e44915 := e44915.st k50941
            replace e44919 := e44919.st k50941
            replace e50920 := e50920.st k50941
            replace e50936 := e50936.st k50941
            replace e50710 := e50710.st k50941
            replace e46878 := e46878.st k50941
            replace rp50839 := rp50839.st k50941
            replace eg0 := eg0.st k50941
            replace kk := kk.trans k50941
            refine RW.seg hT 1 [] [] [.int .i64 x50926.2] [] (by kernel_rfl) (trivial) ?_
            refine RW.nil ?_
            refine WPK.seq ?_
            refine WPK.cut' (Kn fun E ds wz => ∀ X : Kont, (∀ (I50977 : Nat → Prop) (x50975 : Bool) (D50974 : List Value) (w' : World), g5_j5 x50975 = some r → St w0 M I50977 (F) w' → Kp I w I50977 w' → Elems (Rp.int .u32) I50977 w' (some ⟨0, 0, none⟩) TAB0 → X [(D50974.getD 0 undef), (D50974.getD 1 undef), (D50974.getD 2 undef), (D50974.getD 3 undef), (D50974.getD 4 undef), (D50974.getD 5 undef), (D50974.getD 6 undef), (D50974.getD 7 undef), .bool x50975, (D50974.getD 8 undef), (D50974.getD 9 undef), (D50974.getD 10 undef), (D50974.getD 11 undef), (D50974.getD 12 undef), (D50974.getD 13 undef), (D50974.getD 14 undef), (D50974.getD 15 undef), (D50974.getD 16 undef), (D50974.getD 17 undef), (D50974.getD 18 undef), (D50974.getD 19 undef), (D50974.getD 20 undef), (D50974.getD 21 undef), (D50974.getD 22 undef), (D50974.getD 23 undef), (D50974.getD 24 undef), (D50974.getD 25 undef), (D50974.getD 26 undef), (D50974.getD 27 undef), (D50974.getD 28 undef), (D50974.getD 29 undef), (D50974.getD 30 undef), (D50974.getD 31 undef), (D50974.getD 32 undef), (D50974.getD 33 undef), (D50974.getD 34 undef), (D50974.getD 35 undef), (D50974.getD 36 undef), (D50974.getD 37 undef), (D50974.getD 38 undef), (D50974.getD 39 undef), (D50974.getD 40 undef), (D50974.getD 41 undef), (D50974.getD 42 undef), (D50974.getD 43 undef), (D50974.getD 44 undef), (D50974.getD 45 undef), (D50974.getD 46 undef), (D50974.getD 47 undef), (D50974.getD 48 undef), (D50974.getD 49 undef), (D50974.getD 50 undef), (D50974.getD 51 undef), (D50974.getD 52 undef), (D50974.getD 53 undef), (D50974.getD 54 undef), (D50974.getD 55 undef), (D50974.getD 56 undef), (D50974.getD 57 undef), (D50974.getD 58 undef), (D50974.getD 59 undef), (D50974.getD 60 undef), (D50974.getD 61 undef), (D50974.getD 62 undef), (D50974.getD 63 undef), (D50974.getD 64 undef), (D50974.getD 65 undef), (D50974.getD 66 undef), (D50974.getD 67 undef), (D50974.getD 68 undef), (D50974.getD 69 undef), (D50974.getD 70 undef), (D50974.getD 71 undef), (D50974.getD 72 undef), (D50974.getD 73 undef), (D50974.getD 74 undef), (D50974.getD 75 undef), (D50974.getD 76 undef), (D50974.getD 77 undef), (D50974.getD 78 undef), (D50974.getD 79 undef), (D50974.getD 80 undef), (D50974.getD 81 undef), (D50974.getD 82 undef), (D50974.getD 83 undef), (D50974.getD 84 undef), (D50974.getD 85 undef), (D50974.getD 86 undef), (D50974.getD 87 undef), (D50974.getD 88 undef), (D50974.getD 89 undef), (D50974.getD 90 undef), (D50974.getD 91 undef), (D50974.getD 92 undef), (D50974.getD 93 undef), (D50974.getD 94 undef), (D50974.getD 95 undef)] [] w') → X E ds wz) ?_ ?_
            · intro X50978 hX50979
              refine fun _ _ _ hJ => hJ X50978 ?_
              intro I50977 x50975 D50974 w50976 hf s kk eg0
              refine hX50979 _ _ _ ?_
              unfold g5_j5 at hf
              refine WPK.ret (?_)
              obtain rfl := someS hf
              refine Fin.of (rs := [.tmp 8]) hT [] (.bool x50975) [] rfl (by kernel_rfl) (trivial) ?_
              exact fun X h => vc rfl (h I50977 _ s kk)
            · refine WPK.region ?_
              refine RW.seg hT 2 [.agg #[.int .i64 x46871, .int .i64 x46872, .int .u64 x46873, .slice A46875 x46874.length c46876], .agg #[.int .i64 x50895.1.Kind, .int .i64 x50895.1.Page, .int .u64 x50895.1.Epoch, .slice A50909 x50895.1.Data.length c50911]] [] [.agg #[.int .i64 x46871, .int .i64 x46872, .int .u64 x46873, .slice A46875 x46874.length c46876], .agg #[.int .i64 x50895.1.Kind, .int .i64 x50895.1.Page, .int .u64 x50895.1.Epoch, .slice A50909 x50895.1.Data.length c50911]] [.cells ⟨b46883, 0, none⟩ [.int .i64 x46871, .int .i64 x46872, .int .u64 x46873, .slice A46875 x46874.length c46876] 4, .cells ⟨b50922, 0, none⟩ [.int .i64 x50895.1.Kind, .int .i64 x50895.1.Page, .int .u64 x50895.1.Epoch, .slice A50909 x50895.1.Data.length c50911] 4] (by kernel_rfl) (⟨s.cells (i := 3) rfl rfl rfl, s.cells (i := 1) rfl rfl rfl⟩) ?_
              obtain ⟨x50980, hx50981, hf⟩ := bindS hf
              refine RW.op (by kernel_rfl) (OK.call' en12 (by kernel_rfl) (c12 (F := (.blk b50938 (.cells #[.int .i64 x50926.1.Kind, .int .i64 x50926.1.Page, .int .u64 x50926.1.Epoch, .slice A50933 x50926.1.Data.length c50934] 25 (0, 0))) :: (.blk b50922 (.cells #[.int .i64 x50895.1.Kind, .int .i64 x50895.1.Page, .int .u64 x50895.1.Epoch, .slice A50909 x50895.1.Data.length c50911] 25 (0, 0))) :: (.blk b50715 (.cells #[.int .i64 x50703, .int .i64 x50704, .int .u64 x50705, .slice A50707 x50706.length c50708] 25 (0, 0))) :: (.blk b46883 (.cells #[.int .i64 x46871, .int .i64 x46872, .int .u64 x46873, .slice A46875 x46874.length c46876] 25 (0, 0))) :: (.sl (.slice A44988 n44989 c44990) 5 1 n44989 cl50837) :: F) (T_api_Frame.mk x46871 x46872 x46873 x46874) x50895.1 A46875 c46876 A50909 c50911 hc46877 e46878 hc50919 e50920 s hx50981) ?_)
              intro X50984 hX50985
              refine fun _ _ hJ => hJ X50984 ?_
              intro I50986 w50982 s k50983
              refine hX50985 _ _ ?_
              replace e44915 := e44915.st k50983
              replace e44919 := e44919.st k50983
              replace e50920 := e50920.st k50983
              replace e50936 := e50936.st k50983
              replace e46878 := e46878.st k50983
              replace e50710 := e50710.st k50983
              replace rp50839 := rp50839.st k50983
              replace eg0 := eg0.st k50983
              replace kk := kk.trans k50983
              by_cases h50987 : x50980 = true
              · have hf := iteT h50987 hf
                refine RW.seg hT 5 [] [(75, .bool true), (78, .bool (decide (x46879 = x50895.2)))] [.bool true, .int .i64 x46879, .int .i64 x50895.2, .bool (decide (x46879 = x50895.2)), .bool (decide (x46879 = x50895.2))] [.veq (.bool (x50980)) (.bool true), .veq (.bool (x46879 == x50895.2)) (.bool (decide (x46879 = x50895.2)))] (by kernel_rfl) (⟨b_t h50987, eq_v⟩) ?_
                by_cases h50988 : x46879 = x50895.2
                · have hf := iteT h50988 hf
                  refine RW.seg hT 3 [.agg #[.int .i64 x50703, .int .i64 x50704, .int .u64 x50705, .slice A50707 x50706.length c50708], .agg #[.int .i64 x50926.1.Kind, .int .i64 x50926.1.Page, .int .u64 x50926.1.Epoch, .slice A50933 x50926.1.Data.length c50934]] [(80, .bool true)] [.bool true, .agg #[.int .i64 x50703, .int .i64 x50704, .int .u64 x50705, .slice A50707 x50706.length c50708], .agg #[.int .i64 x50926.1.Kind, .int .i64 x50926.1.Page, .int .u64 x50926.1.Epoch, .slice A50933 x50926.1.Data.length c50934]] [.veq (.bool (decide (x46879 = x50895.2))) (.bool true), .cells ⟨b50715, 0, none⟩ [.int .i64 x50703, .int .i64 x50704, .int .u64 x50705, .slice A50707 x50706.length c50708] 4, .cells ⟨b50938, 0, none⟩ [.int .i64 x50926.1.Kind, .int .i64 x50926.1.Page, .int .u64 x50926.1.Epoch, .slice A50933 x50926.1.Data.length c50934] 4] (by kernel_rfl) (⟨bo_t h50988, s.cells (i := 2) rfl rfl rfl, s.cells (i := 0) rfl rfl rfl⟩) ?_
                  obtain ⟨x50989, hx50990, hf⟩ := bindS hf
                  refine RW.op (by kernel_rfl) (OK.call' en12 (by kernel_rfl) (c12 (F := (.blk b50938 (.cells #[.int .i64 x50926.1.Kind, .int .i64 x50926.1.Page, .int .u64 x50926.1.Epoch, .slice A50933 x50926.1.Data.length c50934] 25 (0, 0))) :: (.blk b50922 (.cells #[.int .i64 x50895.1.Kind, .int .i64 x50895.1.Page, .int .u64 x50895.1.Epoch, .slice A50909 x50895.1.Data.length c50911] 25 (0, 0))) :: (.blk b50715 (.cells #[.int .i64 x50703, .int .i64 x50704, .int .u64 x50705, .slice A50707 x50706.length c50708] 25 (0, 0))) :: (.blk b46883 (.cells #[.int .i64 x46871, .int .i64 x46872, .int .u64 x46873, .slice A46875 x46874.length c46876] 25 (0, 0))) :: (.sl (.slice A44988 n44989 c44990) 5 1 n44989 cl50837) :: F) (T_api_Frame.mk x50703 x50704 x50705 x50706) x50926.1 A50707 c50708 A50933 c50934 hc50709 e50710 hc50935 e50936 s hx50990) ?_)
                  intro X50993 hX50994
                  refine fun _ _ hJ => hJ X50993 ?_
                  intro I50995 w50991 s k50992
                  refine hX50994 _ _ ?_
                  replace e44915 := e44915.st k50992
                  replace e44919 := e44919.st k50992
                  replace e50920 := e50920.st k50992
                  replace e50936 := e50936.st k50992
                  replace e46878 := e46878.st k50992
                  replace e50710 := e50710.st k50992
                  replace rp50839 := rp50839.st k50992
                  replace eg0 := eg0.st k50992
                  replace kk := kk.trans k50992
                  refine RW.seg hT 1 [] [] [.bool x50989] [] (by kernel_rfl) (trivial) ?_
                  by_cases h50996 : x50989 = true
                  · have hf := iteT h50996 hf
                    refine RW.seg hT 5 [] [(85, .bool true), (88, .bool (decide (x50711 = x50926.2)))] [.bool true, .int .i64 x50711, .int .i64 x50926.2, .bool (decide (x50711 = x50926.2)), .bool (decide (x50711 = x50926.2))] [.veq (.bool (x50989)) (.bool true), .veq (.bool (x50711 == x50926.2)) (.bool (decide (x50711 = x50926.2)))] (by kernel_rfl) (⟨b_t h50996, eq_v⟩) ?_
                    by_cases h50997 : x50711 = x50926.2
                    · have hf := iteT h50997 hf
                      refine RW.seg hT 2 [] [(90, .bool true)] [.bool true, .int .i64 p3] [.veq (.bool (decide (x50711 = x50926.2))) (.bool true)] (by kernel_rfl) (bo_t h50997) ?_
                      obtain ⟨x50998, hx50999, hf⟩ := bindS hf
                      refine RW.op (by kernel_rfl) (OK.call' en17 (by kernel_rfl) (c17 (F := (.blk b50938 (.cells #[.int .i64 x50926.1.Kind, .int .i64 x50926.1.Page, .int .u64 x50926.1.Epoch, .slice A50933 x50926.1.Data.length c50934] 25 (0, 0))) :: (.blk b50922 (.cells #[.int .i64 x50895.1.Kind, .int .i64 x50895.1.Page, .int .u64 x50895.1.Epoch, .slice A50909 x50895.1.Data.length c50911] 25 (0, 0))) :: (.blk b50715 (.cells #[.int .i64 x50703, .int .i64 x50704, .int .u64 x50705, .slice A50707 x50706.length c50708] 25 (0, 0))) :: (.blk b46883 (.cells #[.int .i64 x46871, .int .i64 x46872, .int .u64 x46873, .slice A46875 x46874.length c46876] 25 (0, 0))) :: (.sl (.slice A44988 n44989 c44990) 5 1 n44989 cl50837) :: F) p3 s hx50999) ?_)
                      intro X51002 hX51003
                      refine fun _ _ hJ => hJ X51002 ?_
                      intro I51004 w51000 s k51001
                      refine hX51003 _ _ ?_
                      replace e44915 := e44915.st k51001
                      replace e44919 := e44919.st k51001
                      replace e50920 := e50920.st k51001
                      replace e50936 := e50936.st k51001
                      replace e46878 := e46878.st k51001
                      replace e50710 := e50710.st k51001
                      replace rp50839 := rp50839.st k51001
                      replace eg0 := eg0.st k51001
                      replace kk := kk.trans k51001
                      refine RW.seg hT 1 [] [] [.int .i64 p3] [] (by kernel_rfl) (trivial) ?_
                      obtain ⟨x51005, hx51006, hf⟩ := bindS hf
                      refine RW.op (by kernel_rfl) (OK.call' en18 (by kernel_rfl) (c18 (F := (.blk b50938 (.cells #[.int .i64 x50926.1.Kind, .int .i64 x50926.1.Page, .int .u64 x50926.1.Epoch, .slice A50933 x50926.1.Data.length c50934] 25 (0, 0))) :: (.blk b50922 (.cells #[.int .i64 x50895.1.Kind, .int .i64 x50895.1.Page, .int .u64 x50895.1.Epoch, .slice A50909 x50895.1.Data.length c50911] 25 (0, 0))) :: (.blk b50715 (.cells #[.int .i64 x50703, .int .i64 x50704, .int .u64 x50705, .slice A50707 x50706.length c50708] 25 (0, 0))) :: (.blk b46883 (.cells #[.int .i64 x46871, .int .i64 x46872, .int .u64 x46873, .slice A46875 x46874.length c46876] 25 (0, 0))) :: (.sl (.slice A44988 n44989 c44990) 5 1 n44989 cl50837) :: F) p3 s hx51006) ?_)
                      intro X51009 hX51010
                      refine fun _ _ hJ => hJ X51009 ?_
                      intro I51011 w51007 s k51008
                      refine hX51010 _ _ ?_
                      replace e44915 := e44915.st k51008
                      replace e44919 := e44919.st k51008
                      replace e50920 := e50920.st k51008
                      replace e50936 := e50936.st k51008
                      replace e46878 := e46878.st k51008
                      replace e50710 := e50710.st k51008
                      replace rp50839 := rp50839.st k51008
                      replace eg0 := eg0.st k51008
                      replace kk := kk.trans k51008
                      refine RW.seg hT 3 [] [(95, .bool (decide (x50998.toList = x51005.toList)))] [.bool (decide (x50998.toList = x51005.toList)), .bool (decide (x50998.toList = x51005.toList)), .bool (decide (x50998.toList = x51005.toList))] [.veq (.bool (x50998.toList == x51005.toList)) (.bool (decide (x50998.toList = x51005.toList)))] (by kernel_rfl) (beq_v) ?_
                      refine RW.nil ?_
                      replace s := s.pick [] 5 rfl
                      exact fun X h => kc (by kernel_rfl) rfl (h I51011 (decide (x50998.toList = x51005.toList)) [.slice A44912 p0.length c44913, .int .i64 p1, .slice A44916 p2.length c44917, .int .i64 p3, (D50834.getD 0 undef), (D50834.getD 1 undef), (D50834.getD 2 undef), (D50834.getD 3 undef), .slice A44988 n44989 c44990, .pointer (some ⟨b46883, 0, none⟩), .int .i64 x46879, .pointer (some ⟨b50715, 0, none⟩), .int .i64 x50711, (D50834.getD 4 undef), .pointer (some ⟨b50922, 0, none⟩), .int .i64 x50895.2, .pointer (some ⟨b50938, 0, none⟩), .int .i64 x50926.2, (D50834.getD 5 undef), (D50834.getD 6 undef), (D50834.getD 7 undef), (D50834.getD 8 undef), (D50834.getD 9 undef), (D50834.getD 10 undef), (D50834.getD 11 undef), (D50834.getD 12 undef), (D50834.getD 13 undef), (D50834.getD 14 undef), (D50834.getD 15 undef), (D50834.getD 16 undef), (D50834.getD 17 undef), (D50834.getD 18 undef), (D50834.getD 19 undef), (D50834.getD 20 undef), (D50834.getD 21 undef), (D50834.getD 22 undef), (D50834.getD 23 undef), (D50834.getD 24 undef), (D50834.getD 25 undef), (D50834.getD 26 undef), (D50834.getD 27 undef), (D50834.getD 28 undef), (D50834.getD 29 undef), (D50834.getD 30 undef), (D50834.getD 31 undef), (D50834.getD 32 undef), (D50834.getD 33 undef), .int .i64 (x44981.length : Int), .int .i64 x50835, .bool (decide (x50835 < (x44981.length : Int))), (D50834.getD 35 undef), (D50834.getD 36 undef), (D50834.getD 37 undef), (D50834.getD 38 undef), (D50834.getD 39 undef), (D50834.getD 40 undef), (D50834.getD 41 undef), (D50834.getD 42 undef), .tuple #[.agg #[.int .i64 x50895.1.Kind, .int .i64 x50895.1.Page, .int .u64 x50895.1.Epoch, .slice A50909 x50895.1.Data.length c50911], .int .i64 x50895.2], .slice A44912 p0.length c44913, .int .i64 p1, .tuple #[.agg #[.int .i64 x50895.1.Kind, .int .i64 x50895.1.Page, .int .u64 x50895.1.Epoch, .slice A50909 x50895.1.Data.length c50911], .int .i64 x50895.2], .agg #[.int .i64 x50895.1.Kind, .int .i64 x50895.1.Page, .int .u64 x50895.1.Epoch, .slice A50909 x50895.1.Data.length c50911], .int .i64 x50895.2, .tuple #[.agg #[.int .i64 x50926.1.Kind, .int .i64 x50926.1.Page, .int .u64 x50926.1.Epoch, .slice A50933 x50926.1.Data.length c50934], .int .i64 x50926.2], .slice A44912 p0.length c44913, .int .i64 p1, .slice A44916 p2.length c44917, .tuple #[.agg #[.int .i64 x50926.1.Kind, .int .i64 x50926.1.Page, .int .u64 x50926.1.Epoch, .slice A50933 x50926.1.Data.length c50934], .int .i64 x50926.2], .agg #[.int .i64 x50926.1.Kind, .int .i64 x50926.1.Page, .int .u64 x50926.1.Epoch, .slice A50933 x50926.1.Data.length c50934], .int .i64 x50926.2, .agg #[.int .i64 x46871, .int .i64 x46872, .int .u64 x46873, .slice A46875 x46874.length c46876], .agg #[.int .i64 x50895.1.Kind, .int .i64 x50895.1.Page, .int .u64 x50895.1.Epoch, .slice A50909 x50895.1.Data.length c50911], .bool x50980, .bool true, .int .i64 x46879, .int .i64 x50895.2, .bool (decide (x46879 = x50895.2)), .bool (decide (x46879 = x50895.2)), .bool true, .agg #[.int .i64 x50703, .int .i64 x50704, .int .u64 x50705, .slice A50707 x50706.length c50708], .agg #[.int .i64 x50926.1.Kind, .int .i64 x50926.1.Page, .int .u64 x50926.1.Epoch, .slice A50933 x50926.1.Data.length c50934], .bool x50989, .bool x50989, .bool true, .int .i64 x50711, .int .i64 x50926.2, .bool (decide (x50711 = x50926.2)), .bool (decide (x50711 = x50926.2)), .bool true, .int .i64 p3, .string x50998, .int .i64 p3, .string x51005, .bool (decide (x50998.toList = x51005.toList)), .bool (decide (x50998.toList = x51005.toList))] _ hf s kk eg0)
                    · have hf := iteF h50997 hf
                      refine RW.seg hT 8 [] [(90, .bool false)] [.bool false, undef, undef, undef, undef, undef, .bool false, .bool false] [.veq (.bool (decide (x50711 = x50926.2))) (.bool false)] (by kernel_rfl) (bo_f h50997) ?_
                      refine RW.nil ?_
                      replace s := s.pick [] 5 rfl
                      exact fun X h => kc (by kernel_rfl) rfl (h I50995 false [.slice A44912 p0.length c44913, .int .i64 p1, .slice A44916 p2.length c44917, .int .i64 p3, (D50834.getD 0 undef), (D50834.getD 1 undef), (D50834.getD 2 undef), (D50834.getD 3 undef), .slice A44988 n44989 c44990, .pointer (some ⟨b46883, 0, none⟩), .int .i64 x46879, .pointer (some ⟨b50715, 0, none⟩), .int .i64 x50711, (D50834.getD 4 undef), .pointer (some ⟨b50922, 0, none⟩), .int .i64 x50895.2, .pointer (some ⟨b50938, 0, none⟩), .int .i64 x50926.2, (D50834.getD 5 undef), (D50834.getD 6 undef), (D50834.getD 7 undef), (D50834.getD 8 undef), (D50834.getD 9 undef), (D50834.getD 10 undef), (D50834.getD 11 undef), (D50834.getD 12 undef), (D50834.getD 13 undef), (D50834.getD 14 undef), (D50834.getD 15 undef), (D50834.getD 16 undef), (D50834.getD 17 undef), (D50834.getD 18 undef), (D50834.getD 19 undef), (D50834.getD 20 undef), (D50834.getD 21 undef), (D50834.getD 22 undef), (D50834.getD 23 undef), (D50834.getD 24 undef), (D50834.getD 25 undef), (D50834.getD 26 undef), (D50834.getD 27 undef), (D50834.getD 28 undef), (D50834.getD 29 undef), (D50834.getD 30 undef), (D50834.getD 31 undef), (D50834.getD 32 undef), (D50834.getD 33 undef), .int .i64 (x44981.length : Int), .int .i64 x50835, .bool (decide (x50835 < (x44981.length : Int))), (D50834.getD 35 undef), (D50834.getD 36 undef), (D50834.getD 37 undef), (D50834.getD 38 undef), (D50834.getD 39 undef), (D50834.getD 40 undef), (D50834.getD 41 undef), (D50834.getD 42 undef), .tuple #[.agg #[.int .i64 x50895.1.Kind, .int .i64 x50895.1.Page, .int .u64 x50895.1.Epoch, .slice A50909 x50895.1.Data.length c50911], .int .i64 x50895.2], .slice A44912 p0.length c44913, .int .i64 p1, .tuple #[.agg #[.int .i64 x50895.1.Kind, .int .i64 x50895.1.Page, .int .u64 x50895.1.Epoch, .slice A50909 x50895.1.Data.length c50911], .int .i64 x50895.2], .agg #[.int .i64 x50895.1.Kind, .int .i64 x50895.1.Page, .int .u64 x50895.1.Epoch, .slice A50909 x50895.1.Data.length c50911], .int .i64 x50895.2, .tuple #[.agg #[.int .i64 x50926.1.Kind, .int .i64 x50926.1.Page, .int .u64 x50926.1.Epoch, .slice A50933 x50926.1.Data.length c50934], .int .i64 x50926.2], .slice A44912 p0.length c44913, .int .i64 p1, .slice A44916 p2.length c44917, .tuple #[.agg #[.int .i64 x50926.1.Kind, .int .i64 x50926.1.Page, .int .u64 x50926.1.Epoch, .slice A50933 x50926.1.Data.length c50934], .int .i64 x50926.2], .agg #[.int .i64 x50926.1.Kind, .int .i64 x50926.1.Page, .int .u64 x50926.1.Epoch, .slice A50933 x50926.1.Data.length c50934], .int .i64 x50926.2, .agg #[.int .i64 x46871, .int .i64 x46872, .int .u64 x46873, .slice A46875 x46874.length c46876], .agg #[.int .i64 x50895.1.Kind, .int .i64 x50895.1.Page, .int .u64 x50895.1.Epoch, .slice A50909 x50895.1.Data.length c50911], .bool x50980, .bool true, .int .i64 x46879, .int .i64 x50895.2, .bool (decide (x46879 = x50895.2)), .bool (decide (x46879 = x50895.2)), .bool true, .agg #[.int .i64 x50703, .int .i64 x50704, .int .u64 x50705, .slice A50707 x50706.length c50708], .agg #[.int .i64 x50926.1.Kind, .int .i64 x50926.1.Page, .int .u64 x50926.1.Epoch, .slice A50933 x50926.1.Data.length c50934], .bool x50989, .bool x50989, .bool true, .int .i64 x50711, .int .i64 x50926.2, .bool (decide (x50711 = x50926.2)), .bool (decide (x50711 = x50926.2)), .bool false, undef, undef, undef, undef, undef, .bool false] _ hf s kk eg0)
                  · have hf := iteF h50996 hf
                    refine RW.seg hT 13 [] [(85, .bool false)] [.bool false, undef, undef, undef, .bool false, .bool false, undef, undef, undef, undef, undef, .bool false, .bool false] [.veq (.bool (x50989)) (.bool false)] (by kernel_rfl) (b_f h50996) ?_
                    refine RW.nil ?_
                    replace s := s.pick [] 5 rfl
                    exact fun X h => kc (by kernel_rfl) rfl (h I50995 false [.slice A44912 p0.length c44913, .int .i64 p1, .slice A44916 p2.length c44917, .int .i64 p3, (D50834.getD 0 undef), (D50834.getD 1 undef), (D50834.getD 2 undef), (D50834.getD 3 undef), .slice A44988 n44989 c44990, .pointer (some ⟨b46883, 0, none⟩), .int .i64 x46879, .pointer (some ⟨b50715, 0, none⟩), .int .i64 x50711, (D50834.getD 4 undef), .pointer (some ⟨b50922, 0, none⟩), .int .i64 x50895.2, .pointer (some ⟨b50938, 0, none⟩), .int .i64 x50926.2, (D50834.getD 5 undef), (D50834.getD 6 undef), (D50834.getD 7 undef), (D50834.getD 8 undef), (D50834.getD 9 undef), (D50834.getD 10 undef), (D50834.getD 11 undef), (D50834.getD 12 undef), (D50834.getD 13 undef), (D50834.getD 14 undef), (D50834.getD 15 undef), (D50834.getD 16 undef), (D50834.getD 17 undef), (D50834.getD 18 undef), (D50834.getD 19 undef), (D50834.getD 20 undef), (D50834.getD 21 undef), (D50834.getD 22 undef), (D50834.getD 23 undef), (D50834.getD 24 undef), (D50834.getD 25 undef), (D50834.getD 26 undef), (D50834.getD 27 undef), (D50834.getD 28 undef), (D50834.getD 29 undef), (D50834.getD 30 undef), (D50834.getD 31 undef), (D50834.getD 32 undef), (D50834.getD 33 undef), .int .i64 (x44981.length : Int), .int .i64 x50835, .bool (decide (x50835 < (x44981.length : Int))), (D50834.getD 35 undef), (D50834.getD 36 undef), (D50834.getD 37 undef), (D50834.getD 38 undef), (D50834.getD 39 undef), (D50834.getD 40 undef), (D50834.getD 41 undef), (D50834.getD 42 undef), .tuple #[.agg #[.int .i64 x50895.1.Kind, .int .i64 x50895.1.Page, .int .u64 x50895.1.Epoch, .slice A50909 x50895.1.Data.length c50911], .int .i64 x50895.2], .slice A44912 p0.length c44913, .int .i64 p1, .tuple #[.agg #[.int .i64 x50895.1.Kind, .int .i64 x50895.1.Page, .int .u64 x50895.1.Epoch, .slice A50909 x50895.1.Data.length c50911], .int .i64 x50895.2], .agg #[.int .i64 x50895.1.Kind, .int .i64 x50895.1.Page, .int .u64 x50895.1.Epoch, .slice A50909 x50895.1.Data.length c50911], .int .i64 x50895.2, .tuple #[.agg #[.int .i64 x50926.1.Kind, .int .i64 x50926.1.Page, .int .u64 x50926.1.Epoch, .slice A50933 x50926.1.Data.length c50934], .int .i64 x50926.2], .slice A44912 p0.length c44913, .int .i64 p1, .slice A44916 p2.length c44917, .tuple #[.agg #[.int .i64 x50926.1.Kind, .int .i64 x50926.1.Page, .int .u64 x50926.1.Epoch, .slice A50933 x50926.1.Data.length c50934], .int .i64 x50926.2], .agg #[.int .i64 x50926.1.Kind, .int .i64 x50926.1.Page, .int .u64 x50926.1.Epoch, .slice A50933 x50926.1.Data.length c50934], .int .i64 x50926.2, .agg #[.int .i64 x46871, .int .i64 x46872, .int .u64 x46873, .slice A46875 x46874.length c46876], .agg #[.int .i64 x50895.1.Kind, .int .i64 x50895.1.Page, .int .u64 x50895.1.Epoch, .slice A50909 x50895.1.Data.length c50911], .bool x50980, .bool true, .int .i64 x46879, .int .i64 x50895.2, .bool (decide (x46879 = x50895.2)), .bool (decide (x46879 = x50895.2)), .bool true, .agg #[.int .i64 x50703, .int .i64 x50704, .int .u64 x50705, .slice A50707 x50706.length c50708], .agg #[.int .i64 x50926.1.Kind, .int .i64 x50926.1.Page, .int .u64 x50926.1.Epoch, .slice A50933 x50926.1.Data.length c50934], .bool x50989, .bool x50989, .bool false, undef, undef, undef, .bool false, .bool false, undef, undef, undef, undef, undef, .bool false] _ hf s kk eg0)
                · have hf := iteF h50988 hf
                  refine RW.seg hT 18 [] [(80, .bool false)] [.bool false, undef, undef, undef, .bool false, .bool false, undef, undef, undef, .bool false, .bool false, undef, undef, undef, undef, undef, .bool false, .bool false] [.veq (.bool (decide (x46879 = x50895.2))) (.bool false)] (by kernel_rfl) (bo_f h50988) ?_
                  refine RW.nil ?_
                  replace s := s.pick [] 5 rfl
                  exact fun X h => kc (by kernel_rfl) rfl (h I50986 false [.slice A44912 p0.length c44913, .int .i64 p1, .slice A44916 p2.length c44917, .int .i64 p3, (D50834.getD 0 undef), (D50834.getD 1 undef), (D50834.getD 2 undef), (D50834.getD 3 undef), .slice A44988 n44989 c44990, .pointer (some ⟨b46883, 0, none⟩), .int .i64 x46879, .pointer (some ⟨b50715, 0, none⟩), .int .i64 x50711, (D50834.getD 4 undef), .pointer (some ⟨b50922, 0, none⟩), .int .i64 x50895.2, .pointer (some ⟨b50938, 0, none⟩), .int .i64 x50926.2, (D50834.getD 5 undef), (D50834.getD 6 undef), (D50834.getD 7 undef), (D50834.getD 8 undef), (D50834.getD 9 undef), (D50834.getD 10 undef), (D50834.getD 11 undef), (D50834.getD 12 undef), (D50834.getD 13 undef), (D50834.getD 14 undef), (D50834.getD 15 undef), (D50834.getD 16 undef), (D50834.getD 17 undef), (D50834.getD 18 undef), (D50834.getD 19 undef), (D50834.getD 20 undef), (D50834.getD 21 undef), (D50834.getD 22 undef), (D50834.getD 23 undef), (D50834.getD 24 undef), (D50834.getD 25 undef), (D50834.getD 26 undef), (D50834.getD 27 undef), (D50834.getD 28 undef), (D50834.getD 29 undef), (D50834.getD 30 undef), (D50834.getD 31 undef), (D50834.getD 32 undef), (D50834.getD 33 undef), .int .i64 (x44981.length : Int), .int .i64 x50835, .bool (decide (x50835 < (x44981.length : Int))), (D50834.getD 35 undef), (D50834.getD 36 undef), (D50834.getD 37 undef), (D50834.getD 38 undef), (D50834.getD 39 undef), (D50834.getD 40 undef), (D50834.getD 41 undef), (D50834.getD 42 undef), .tuple #[.agg #[.int .i64 x50895.1.Kind, .int .i64 x50895.1.Page, .int .u64 x50895.1.Epoch, .slice A50909 x50895.1.Data.length c50911], .int .i64 x50895.2], .slice A44912 p0.length c44913, .int .i64 p1, .tuple #[.agg #[.int .i64 x50895.1.Kind, .int .i64 x50895.1.Page, .int .u64 x50895.1.Epoch, .slice A50909 x50895.1.Data.length c50911], .int .i64 x50895.2], .agg #[.int .i64 x50895.1.Kind, .int .i64 x50895.1.Page, .int .u64 x50895.1.Epoch, .slice A50909 x50895.1.Data.length c50911], .int .i64 x50895.2, .tuple #[.agg #[.int .i64 x50926.1.Kind, .int .i64 x50926.1.Page, .int .u64 x50926.1.Epoch, .slice A50933 x50926.1.Data.length c50934], .int .i64 x50926.2], .slice A44912 p0.length c44913, .int .i64 p1, .slice A44916 p2.length c44917, .tuple #[.agg #[.int .i64 x50926.1.Kind, .int .i64 x50926.1.Page, .int .u64 x50926.1.Epoch, .slice A50933 x50926.1.Data.length c50934], .int .i64 x50926.2], .agg #[.int .i64 x50926.1.Kind, .int .i64 x50926.1.Page, .int .u64 x50926.1.Epoch, .slice A50933 x50926.1.Data.length c50934], .int .i64 x50926.2, .agg #[.int .i64 x46871, .int .i64 x46872, .int .u64 x46873, .slice A46875 x46874.length c46876], .agg #[.int .i64 x50895.1.Kind, .int .i64 x50895.1.Page, .int .u64 x50895.1.Epoch, .slice A50909 x50895.1.Data.length c50911], .bool x50980, .bool true, .int .i64 x46879, .int .i64 x50895.2, .bool (decide (x46879 = x50895.2)), .bool (decide (x46879 = x50895.2)), .bool false, undef, undef, undef, .bool false, .bool false, undef, undef, undef, .bool false, .bool false, undef, undef, undef, undef, undef, .bool false] _ hf s kk eg0)
              · have hf := iteF h50987 hf
                refine RW.seg hT 23 [] [(75, .bool false)] [.bool false, undef, undef, undef, .bool false, .bool false, undef, undef, undef, .bool false, .bool false, undef, undef, undef, .bool false, .bool false, undef, undef, undef, undef, undef, .bool false, .bool false] [.veq (.bool (x50980)) (.bool false)] (by kernel_rfl) (b_f h50987) ?_
                refine RW.nil ?_
                replace s := s.pick [] 5 rfl
                exact fun X h => kc (by kernel_rfl) rfl (h I50986 false [.slice A44912 p0.length c44913, .int .i64 p1, .slice A44916 p2.length c44917, .int .i64 p3, (D50834.getD 0 undef), (D50834.getD 1 undef), (D50834.getD 2 undef), (D50834.getD 3 undef), .slice A44988 n44989 c44990, .pointer (some ⟨b46883, 0, none⟩), .int .i64 x46879, .pointer (some ⟨b50715, 0, none⟩), .int .i64 x50711, (D50834.getD 4 undef), .pointer (some ⟨b50922, 0, none⟩), .int .i64 x50895.2, .pointer (some ⟨b50938, 0, none⟩), .int .i64 x50926.2, (D50834.getD 5 undef), (D50834.getD 6 undef), (D50834.getD 7 undef), (D50834.getD 8 undef), (D50834.getD 9 undef), (D50834.getD 10 undef), (D50834.getD 11 undef), (D50834.getD 12 undef), (D50834.getD 13 undef), (D50834.getD 14 undef), (D50834.getD 15 undef), (D50834.getD 16 undef), (D50834.getD 17 undef), (D50834.getD 18 undef), (D50834.getD 19 undef), (D50834.getD 20 undef), (D50834.getD 21 undef), (D50834.getD 22 undef), (D50834.getD 23 undef), (D50834.getD 24 undef), (D50834.getD 25 undef), (D50834.getD 26 undef), (D50834.getD 27 undef), (D50834.getD 28 undef), (D50834.getD 29 undef), (D50834.getD 30 undef), (D50834.getD 31 undef), (D50834.getD 32 undef), (D50834.getD 33 undef), .int .i64 (x44981.length : Int), .int .i64 x50835, .bool (decide (x50835 < (x44981.length : Int))), (D50834.getD 35 undef), (D50834.getD 36 undef), (D50834.getD 37 undef), (D50834.getD 38 undef), (D50834.getD 39 undef), (D50834.getD 40 undef), (D50834.getD 41 undef), (D50834.getD 42 undef), .tuple #[.agg #[.int .i64 x50895.1.Kind, .int .i64 x50895.1.Page, .int .u64 x50895.1.Epoch, .slice A50909 x50895.1.Data.length c50911], .int .i64 x50895.2], .slice A44912 p0.length c44913, .int .i64 p1, .tuple #[.agg #[.int .i64 x50895.1.Kind, .int .i64 x50895.1.Page, .int .u64 x50895.1.Epoch, .slice A50909 x50895.1.Data.length c50911], .int .i64 x50895.2], .agg #[.int .i64 x50895.1.Kind, .int .i64 x50895.1.Page, .int .u64 x50895.1.Epoch, .slice A50909 x50895.1.Data.length c50911], .int .i64 x50895.2, .tuple #[.agg #[.int .i64 x50926.1.Kind, .int .i64 x50926.1.Page, .int .u64 x50926.1.Epoch, .slice A50933 x50926.1.Data.length c50934], .int .i64 x50926.2], .slice A44912 p0.length c44913, .int .i64 p1, .slice A44916 p2.length c44917, .tuple #[.agg #[.int .i64 x50926.1.Kind, .int .i64 x50926.1.Page, .int .u64 x50926.1.Epoch, .slice A50933 x50926.1.Data.length c50934], .int .i64 x50926.2], .agg #[.int .i64 x50926.1.Kind, .int .i64 x50926.1.Page, .int .u64 x50926.1.Epoch, .slice A50933 x50926.1.Data.length c50934], .int .i64 x50926.2, .agg #[.int .i64 x46871, .int .i64 x46872, .int .u64 x46873, .slice A46875 x46874.length c46876], .agg #[.int .i64 x50895.1.Kind, .int .i64 x50895.1.Page, .int .u64 x50895.1.Epoch, .slice A50909 x50895.1.Data.length c50911], .bool x50980, .bool false, undef, undef, undef, .bool false, .bool false, undef, undef, undef, .bool false, .bool false, undef, undef, undef, .bool false, .bool false, undef, undef, undef, undef, undef, .bool false] _ hf s kk eg0)
        · refine Ret.of Tryd.func14 rfl ?_
          refine WPK.seq ?_
          refine WPK.region ?_
          refine RW.op (by kernel_rfl) (OK.new hT (f := fun b => .pointer (some ⟨b, 0, none⟩)) (cs := [.int .i64 0, .int .i64 0, .int .u64 0, .slice none 0 0]) (e := 25) (c := .tt) s (by kernel_rfl) trivial ?_)
          rintro w51014 b51015 s k51016 -
          replace e44919 := e44919.st k51016
          replace e44915 := e44915.st k51016
          replace e46878 := e46878.st k51016
          replace rp44993 := rp44993.st k51016
          replace eg0 := eg0.st k51016
          replace kk := kk.trans k51016
          refine RW.seg hT 1 [] [] [.int .i64 0] [] (by kernel_rfl) (trivial) ?_
          refine RW.nil ?_
          refine WPK.seq ?_
          refine WPK.region ?_
          refine RW.seg hT 2 [] [] [.slice A44988 n44989 c44990, .int .i64 p1] [] (by kernel_rfl) (trivial) ?_
          refine RW.op (by kernel_rfl) (OK.inl (args := [.slice A44988 n44989 c44990, .int .i64 p1]) en8 (by kernel_rfl) ?_)
          intro R51034 hR51035
          refine Ret.cut (fun v wz => ∀ X : Value → World → Prop, (∀ (I52903 : Nat → Prop) (x52893 : Int) (x52894 : Int) (x52895 : Int) (x52896 : (List Int)) (x52901 : Int) (A52897 : Option Addr) (c52898 : Nat) (w' : World), g5_j6 p0 p1 p2 p3 x44981 x46871 x46872 x46873 x46874 x46879 x52893 x52894 x52895 x52896 x52901 = some r → St w0 M I52903 ((.blk b51015 (.cells #[.int .i64 0, .int .i64 0, .int .u64 0, .slice none 0 0] 25 (0, 0))) :: (.blk b46883 (.cells #[.int .i64 x46871, .int .i64 x46872, .int .u64 x46873, .slice A46875 x46874.length c46876] 25 (0, 0))) :: (.sl (.slice A44988 n44989 c44990) 5 1 n44989 cl44991) :: F) w' → Kp I w I52903 w' → Elems (Rp.int .i64) I52903 w' A44916 p2 → (x52896.length ≤ c52898 ∧ c52898 ≤ 9223372036854775807) → Elems (Rp.int .u8) I52903 w' A52897 x52896 → Elems (Rp.int .u8) I52903 w' A46875 x46874 → RepL (Rp.int .u8) I52903 w' cl44991 x44981 → Elems (Rp.int .u8) I52903 w' A44912 p0 → Elems (Rp.int .u32) I52903 w' (some ⟨0, 0, none⟩) TAB0 → X (.tuple #[.agg #[.int .i64 x52893, .int .i64 x52894, .int .u64 x52895, .slice A52897 x52896.length c52898], .int .i64 x52901]) w') → X v wz) ?_ ?_
          · refine fun _ _ hJ => hJ R51034 ?_
            intro I52903 x52893 x52894 x52895 x52896 x52901 A52897 c52898 w52902 hf s kk e44919 hc52899 e52900 e46878 rp44993 e44915 eg0
            refine hR51035 _ _ ?_
            unfold g5_j6 at hf
            refine RW.seg hT 3 [] [] [.tuple #[.agg #[.int .i64 x52893, .int .i64 x52894, .int .u64 x52895, .slice A52897 x52896.length c52898], .int .i64 x52901], .agg #[.int .i64 x52893, .int .i64 x52894, .int .u64 x52895, .slice A52897 x52896.length c52898], .int .i64 x52901] [] (by kernel_rfl) (trivial) ?_
            refine RW.op (by kernel_rfl) (OK.new hT (f := fun b => .pointer (some ⟨b, 0, none⟩)) (cs := [.int .i64 0, .int .i64 0, .int .u64 0, .slice none 0 0]) (e := 25) (c := .tt) s (by kernel_rfl) trivial ?_)
            rintro w52904 b52905 s k52906 -
            replace e44919 := e44919.st k52906
            replace e52900 := e52900.st k52906
            replace e44915 := e44915.st k52906
            replace e46878 := e46878.st k52906
            replace rp44993 := rp44993.st k52906
            replace eg0 := eg0.st k52906
            replace kk := kk.trans k52906
            refine RW.op (by kernel_rfl) (OK.store hT (i := 0) (b := b52905) (off := 0) (n := 4) (vs := [.int .i64 x52893, .int .i64 x52894, .int .u64 x52895, .slice A52897 x52896.length c52898]) (cs := [.int .i64 0, .int .i64 0, .int .u64 0, .slice none 0 0]) (e := 25) s (by kernel_rfl) rfl rfl (flat_ok rfl) (Nat.le_of_ble_eq_true rfl) ?_)
            rintro w52907 s k52908 -
            replace e44919 := e44919.st k52908
            replace e52900 := e52900.st k52908
            replace e44915 := e44915.st k52908
            replace e46878 := e46878.st k52908
            replace rp44993 := rp44993.st k52908
            replace eg0 := eg0.st k52908
            replace kk := kk.trans k52908
            refine RW.seg hT 1 [] [] [.int .i64 x52901] [] (by kernel_rfl) (trivial) ?_
            refine RW.nil ?_
            refine WPK.seq ?_
            refine WPK.cut' (Kn fun E ds wz => ∀ X : Kont, (∀ (I52930 : Nat → Prop) (D52928 : List Value) (w' : World), g5_j7 p0 p1 p2 p3 x44981 x46871 x46872 x46873 x46874 x46879 x52893 x52894 x52895 x52896 x52901 = some r → St w0 M I52930 ((.blk b52905 (.cells #[.int .i64 x52893, .int .i64 x52894, .int .u64 x52895, .slice A52897 x52896.length c52898] 25 (0, 0))) :: (.blk b51015 (.cells #[.int .i64 0, .int .i64 0, .int .u64 0, .slice none 0 0] 25 (0, 0))) :: (.blk b46883 (.cells #[.int .i64 x46871, .int .i64 x46872, .int .u64 x46873, .slice A46875 x46874.length c46876] 25 (0, 0))) :: (.sl (.slice A44988 n44989 c44990) 5 1 n44989 cl44991) :: F) w' → Kp I w I52930 w' → Elems (Rp.int .u8) I52930 w' A52897 x52896 → Elems (Rp.int .u8) I52930 w' A46875 x46874 → RepL (Rp.int .u8) I52930 w' cl44991 x44981 → Elems (Rp.int .u8) I52930 w' A44912 p0 → Elems (Rp.int .i64) I52930 w' A44916 p2 → Elems (Rp.int .u32) I52930 w' (some ⟨0, 0, none⟩) TAB0 → X [(D52928.getD 0 undef), (D52928.getD 1 undef), (D52928.getD 2 undef), (D52928.getD 3 undef), (D52928.getD 4 undef), (D52928.getD 5 undef), .pointer (some ⟨b51015, 0, none⟩), .int .i64 0, .pointer (some ⟨b52905, 0, none⟩), .int .i64 x52901, (D52928.getD 6 undef), (D52928.getD 7 undef), (D52928.getD 8 undef), (D52928.getD 9 undef), (D52928.getD 10 undef), (D52928.getD 11 undef), (D52928.getD 12 undef), (D52928.getD 13 undef), (D52928.getD 14 undef), (D52928.getD 15 undef), (D52928.getD 16 undef), (D52928.getD 17 undef), (D52928.getD 18 undef), (D52928.getD 19 undef), (D52928.getD 20 undef), (D52928.getD 21 undef), undef, undef] [] w') → X E ds wz) ?_ ?_
            · intro X52933 hX52934
              refine fun _ _ _ hJ => hJ X52933 ?_
              intro I52930 D52928 w52929 hf s kk e52900 e46878 rp44993 e44915 e44919 eg0
              refine hX52934 _ _ _ ?_
              unfold g5_j7 at hf
              refine WPK.seq ?_
              refine WPK.region ?_
              refine RW.seg hT 2 [.agg #[.int .i64 x52893, .int .i64 x52894, .int .u64 x52895, .slice A52897 x52896.length c52898]] [] [.agg #[.int .i64 x52893, .int .i64 x52894, .int .u64 x52895, .slice A52897 x52896.length c52898], .int .i64 x52901] [.cells ⟨b52905, 0, none⟩ [.int .i64 x52893, .int .i64 x52894, .int .u64 x52895, .slice A52897 x52896.length c52898] 4] (by kernel_rfl) (s.cells (i := 0) rfl rfl rfl) ?_
              refine RW.op (by kernel_rfl) (OK.store hT (i := 1) (b := b51015) (off := 0) (n := 4) (vs := [.int .i64 x52893, .int .i64 x52894, .int .u64 x52895, .slice A52897 x52896.length c52898]) (cs := [.int .i64 0, .int .i64 0, .int .u64 0, .slice none 0 0]) (e := 25) s (by kernel_rfl) rfl rfl (flat_ok rfl) (Nat.le_of_ble_eq_true rfl) ?_)
              rintro w52931 s k52932 -
              replace e52900 := e52900.st k52932
              replace e44915 := e44915.st k52932
              replace e44919 := e44919.st k52932
              replace e46878 := e46878.st k52932
              replace rp44993 := rp44993.st k52932
              replace eg0 := eg0.st k52932
              replace kk := kk.trans k52932
              refine RW.seg hT 1 [] [] [.int .i64 x52901] [] (by kernel_rfl) (trivial) ?_
              refine RW.nil ?_
              refine WPK.ret (?_)
              refine Fin.of (rs := [.cell 6 25, .tmp 7]) hT [.agg #[.int .i64 x52893, .int .i64 x52894, .int .u64 x52895, .slice A52897 x52896.length c52898]] (.tuple #[.agg #[.int .i64 x52893, .int .i64 x52894, .int .u64 x52895, .slice A52897 x52896.length c52898], .int .i64 x52901]) [.cells ⟨b51015, 0, none⟩ [.int .i64 x52893, .int .i64 x52894, .int .u64 x52895, .slice A52897 x52896.length c52898] 4] rfl (by kernel_rfl) (s.cells (i := 1) rfl rfl rfl) ?_
              replace s := s.pick [2, 3] 4 rfl
              exact fun X h => vc rfl (h I52930 x52893 x52894 x52895 x52896 x52901 A52897 c52898 _ hf s kk e44915 e44919 hc52899 e52900 e46878 rp44993 eg0)
            · refine WPK.seq ?_
              refine WPK.region ?_
              refine RW.seg hT 2 [] [(17, .bool (decide (x52901 = 0)))] [.int .i64 x52901, .bool (decide (x52901 = 0))] [.veq (.bool (x52901 == 0)) (.bool (decide (x52901 = 0)))] (by kernel_rfl) (eq_v) ?_
              by_cases h52943 : x52901 = 0
              · have hf := iteT h52943 hf
                refine RW.seg hT 4 [.int .i64 x52893] [(18, .bool true)] [.bool true, .slice A44916 p2.length c44917, .pointer (some ⟨b52905, 0, none⟩), .int .i64 x52893] [.veq (.bool (decide (x52901 = 0))) (.bool true), .cell ⟨b52905, 0, none⟩ (.int .i64 x52893)] (by kernel_rfl) (⟨bo_t h52943, s.cell (i := 0) (off := 0) rfl rfl⟩) ?_
                obtain ⟨x52944, hx52945, hf⟩ := bindS hf
                refine RW.op (by kernel_rfl) (OK.call' en29 (by kernel_rfl) (c29 (F := (.blk b52905 (.cells #[.int .i64 x52893, .int .i64 x52894, .int .u64 x52895, .slice A52897 x52896.length c52898] 25 (0, 0))) :: (.blk b51015 (.cells #[.int .i64 0, .int .i64 0, .int .u64 0, .slice none 0 0] 25 (0, 0))) :: (.blk b46883 (.cells #[.int .i64 x46871, .int .i64 x46872, .int .u64 x46873, .slice A46875 x46874.length c46876] 25 (0, 0))) :: (.sl (.slice A44988 n44989 c44990) 5 1 n44989 cl44991) :: F) p2 x52893 A44916 c44917 hc44918 e44919 s hx52945) ?_)
                intro X52948 hX52949
                refine fun _ _ hJ => hJ X52948 ?_
                intro I52950 w52946 s k52947
                refine hX52949 _ _ ?_
                replace e44919 := e44919.st k52947
                replace e52900 := e52900.st k52947
                replace e44915 := e44915.st k52947
                replace e46878 := e46878.st k52947
                replace rp44993 := rp44993.st k52947
                replace eg0 := eg0.st k52947
                replace kk := kk.trans k52947
                refine RW.seg hT 2 [] [(23, .bool (decide (¬ (x52944 = true))))] [.bool (decide (¬ (x52944 = true))), .bool (decide (¬ (x52944 = true)))] [.veq (.bool (!x52944)) (.bool (decide (¬ (x52944 = true))))] (by kernel_rfl) (not_b) ?_
                refine RW.nil ?_
                by_cases h52951 : ¬ (x52944 = true)
                · have hf := iteT h52951 hf
                  refine WPK.condT (Eq.trans (b := .bool (decide (¬ (x52944 = true)))) (by kernel_rfl) (bo_t h52951)) ?_
                  refine WPK.seq ?_
                  refine WPK.region ?_
                  refine RW.seg hT 1 [] [] [.agg #[.int .i64 0, .int .i64 0, .int .u64 0, .slice none 0 0]] [] (by kernel_rfl) (trivial) ?_
                  refine RW.op (by kernel_rfl) (OK.store hT (i := 1) (b := b51015) (off := 0) (n := 4) (vs := [.int .i64 0, .int .i64 0, .int .u64 0, .slice none 0 0]) (cs := [.int .i64 0, .int .i64 0, .int .u64 0, .slice none 0 0]) (e := 25) s (by kernel_rfl) rfl rfl (flat_ok rfl) (Nat.le_of_ble_eq_true rfl) ?_)
                  rintro w52952 s k52953 -
                  replace e44919 := e44919.st k52953
                  replace e52900 := e52900.st k52953
                  replace e44915 := e44915.st k52953
                  replace e46878 := e46878.st k52953
                  replace rp44993 := rp44993.st k52953
                  replace eg0 := eg0.st k52953
                  replace kk := kk.trans k52953
                  refine RW.seg hT 1 [] [] [.int .i64 42] [] (by kernel_rfl) (trivial) ?_
                  refine RW.nil ?_
                  refine WPK.ret (?_)
                  refine Fin.of (rs := [.cell 6 25, .tmp 7]) hT [.agg #[.int .i64 0, .int .i64 0, .int .u64 0, .slice none 0 0]] (.tuple #[.agg #[.int .i64 0, .int .i64 0, .int .u64 0, .slice none 0 0], .int .i64 42]) [.cells ⟨b51015, 0, none⟩ [.int .i64 0, .int .i64 0, .int .u64 0, .slice none 0 0] 4] rfl (by kernel_rfl) (s.cells (i := 1) rfl rfl rfl) ?_
                  replace s := s.pick [2, 3] 4 rfl
                  exact fun X h => vc rfl (h I52950 0 0 0 [] 42 none 0 _ hf s kk e44915 e44919 nil_hc Elems.nil e46878 rp44993 eg0)
                · have hf := iteF h52951 hf
                  refine WPK.condF (Eq.trans (b := .bool (decide (¬ (x52944 = true)))) (by kernel_rfl) (bo_f h52951)) ?_
                  refine WPK.skip ?_
                  exact fun X h => kc (by kernel_rfl) rfl (h I52950 [(.slice A44988 n44989 c44990), (.int .i64 p1), .slice A44916 p2.length c44917, (undef), (undef), (undef), .tuple #[.agg #[.int .i64 x52893, .int .i64 x52894, .int .u64 x52895, .slice A52897 x52896.length c52898], .int .i64 x52901], (.slice A44988 n44989 c44990), (.int .i64 p1), .tuple #[.agg #[.int .i64 x52893, .int .i64 x52894, .int .u64 x52895, .slice A52897 x52896.length c52898], .int .i64 x52901], .agg #[.int .i64 x52893, .int .i64 x52894, .int .u64 x52895, .slice A52897 x52896.length c52898], .int .i64 x52901, .int .i64 x52901, .bool (decide (x52901 = 0)), .bool true, .slice A44916 p2.length c44917, .pointer (some ⟨b52905, 0, none⟩), .int .i64 x52893, .bool x52944, .bool (decide (¬ (x52944 = true))), .bool (decide (¬ (x52944 = true))), undef] _ hf s kk e52900 e46878 rp44993 e44915 e44919 eg0)
              · have hf := iteF h52943 hf
                refine RW.seg hT 7 [] [(18, .bool false)] [.bool false, undef, undef, undef, undef, undef, .bool false] [.veq (.bool (decide (x52901 = 0))) (.bool false)] (by kernel_rfl) (bo_f h52943) ?_
                refine RW.nil ?_
                refine WPK.condF (by kernel_rfl) ?_
                refine WPK.skip ?_
                exact fun X h => kc (by kernel_rfl) rfl (h I52903 [(.slice A44988 n44989 c44990), (.int .i64 p1), .slice A44916 p2.length c44917, (undef), (undef), (undef), .tuple #[.agg #[.int .i64 x52893, .int .i64 x52894, .int .u64 x52895, .slice A52897 x52896.length c52898], .int .i64 x52901], (.slice A44988 n44989 c44990), (.int .i64 p1), .tuple #[.agg #[.int .i64 x52893, .int .i64 x52894, .int .u64 x52895, .slice A52897 x52896.length c52898], .int .i64 x52901], .agg #[.int .i64 x52893, .int .i64 x52894, .int .u64 x52895, .slice A52897 x52896.length c52898], .int .i64 x52901, .int .i64 x52901, .bool (decide (x52901 = 0)), .bool false, undef, undef, undef, undef, undef, .bool false, undef] _ hf s kk e52900 e46878 rp44993 e44915 e44919 eg0)
          · refine Ret.of Tryd.func8 rfl ?_
            refine WPK.seq ?_
            refine WPK.region ?_
            refine RW.op (by kernel_rfl) (OK.new hT (f := fun b => .pointer (some ⟨b, 0, none⟩)) (cs := [.int .i64 0, .int .i64 0, .int .u64 0, .slice none 0 0]) (e := 25) (c := .tt) s (by kernel_rfl) trivial ?_)
            rintro w52954 b52955 s k52956 -
            replace e44915 := e44915.st k52956
            replace e44919 := e44919.st k52956
            replace e46878 := e46878.st k52956
            replace rp44993 := rp44993.st k52956
            replace eg0 := eg0.st k52956
            replace kk := kk.trans k52956
            refine RW.seg hT 1 [] [] [.int .i64 0] [] (by kernel_rfl) (trivial) ?_
            refine RW.nil ?_
            refine WPK.seq ?_
            refine WPK.seq ?_
            refine WPK.region ?_
            refine RW.seg hT 3 [] [(10, .int .i64 (x44981.length : Int)), (11, .bool (decide ((x44981.length : Int) ≠ 256)))] [.slice A44988 n44989 c44990, .int .i64 (x44981.length : Int), .bool (decide ((x44981.length : Int) ≠ 256))] [.veq (.int .i64 (n44989 : Nat)) (.int .i64 (x44981.length : Int)), .veq (.bool ((x44981.length : Int) != 256)) (.bool (decide ((x44981.length : Int) ≠ 256)))] (by kernel_rfl) (⟨len_v hn44992, ne_v⟩) ?_
            refine RW.nil ?_
            by_cases h52960 : (x44981.length : Int) ≠ 256
            · have hf := iteT h52960 hf
              refine WPK.condT (Eq.trans (b := .bool (decide ((x44981.length : Int) ≠ 256))) (by kernel_rfl) (bo_t h52960)) ?_
              refine WPK.seq ?_
              refine WPK.region ?_
              refine RW.seg hT 1 [] [] [.agg #[.int .i64 0, .int .i64 0, .int .u64 0, .slice none 0 0]] [] (by kernel_rfl) (trivial) ?_
              refine RW.op (by kernel_rfl) (OK.store hT (i := 0) (b := b52955) (off := 0) (n := 4) (vs := [.int .i64 0, .int .i64 0, .int .u64 0, .slice none 0 0]) (cs := [.int .i64 0, .int .i64 0, .int .u64 0, .slice none 0 0]) (e := 25) s (by kernel_rfl) rfl rfl (flat_ok rfl) (Nat.le_of_ble_eq_true rfl) ?_)
              rintro w52961 s k52962 -
              replace e44915 := e44915.st k52962
              replace e44919 := e44919.st k52962
              replace e46878 := e46878.st k52962
              replace rp44993 := rp44993.st k52962
              replace eg0 := eg0.st k52962
              replace kk := kk.trans k52962
              refine RW.seg hT 1 [] [] [.int .i64 1] [] (by kernel_rfl) (trivial) ?_
              refine RW.nil ?_
              refine WPK.ret (?_)
              refine Fin.of (rs := [.cell 4 25, .tmp 5]) hT [.agg #[.int .i64 0, .int .i64 0, .int .u64 0, .slice none 0 0]] (.tuple #[.agg #[.int .i64 0, .int .i64 0, .int .u64 0, .slice none 0 0], .int .i64 1]) [.cells ⟨b52955, 0, none⟩ [.int .i64 0, .int .i64 0, .int .u64 0, .slice none 0 0] 4] rfl (by kernel_rfl) (s.cells (i := 0) rfl rfl rfl) ?_
              replace s := s.pick [1, 2, 3] 4 rfl
              exact fun X h => vc rfl (h I46881 0 0 0 [] 1 none 0 _ hf s kk e44919 nil_hc Elems.nil e46878 rp44993 e44915 eg0)
            · have hf := iteF h52960 hf
              refine WPK.condF (Eq.trans (b := .bool (decide ((x44981.length : Int) ≠ 256))) (by kernel_rfl) (bo_f h52960)) ?_
              refine WPK.skip ?_
              refine WPK.seq ?_
              refine WPK.region ?_
              refine RW.seg hT 1 [] [] [.slice A44988 n44989 c44990] [] (by kernel_rfl) (trivial) ?_
              obtain ⟨h52964, hf⟩ := iteS hf
              obtain ⟨b52965, rfl⟩ := row_addr (s.at (i := 3) rfl) (by have hnn := hn44992; omega)
              have pt52966 := Pt.whole (size := 1) (row_hc (s.at (i := 3) rfl)).1
              obtain ⟨y52967, hy52968, hf⟩ := bindS hf
              rw [← hn44992] at hy52968
              obtain ⟨h52963, hf⟩ := iteS hf
              have h52969 : 256 ≤ n44989 := by have e1 := (cutS hy52968).2.2; have e2 := (pt52966).len; omega
              refine RW.op (by kernel_rfl) (OK.head hT (t := 49) (N := 256) (e := 5) (A := (some ⟨b52965, 0, none⟩)) (n := n44989) (c := c44990) (by kernel_rfl) rfl rfl h52969 ?_)
              have hl52970 : 256 = ((List.take 256 y52967)).length := by rw [List.length_take]; omega
              refine RW.seg hT 1 [.agg (List.map (Value.int .u8) (List.take 256 y52967)).toArray] [] [.agg (List.map (Value.int .u8) (List.take 256 y52967)).toArray] [.cells ⟨b52965, 0, none⟩ (List.map (Value.int .u8) (List.take 256 y52967)) 256] (by kernel_rfl) (St.arrPt s (i := 3) rfl rfl rp44993 pt52966 hy52968 h52963 (by decide)) ?_
              refine RW.op (by kernel_rfl) (OK.new hT (f := fun b => .pointer (some ⟨b, 0, none⟩)) (cs := (List.replicate 256 (Value.int .u8 0))) (e := 49) (c := .tt) s (by kernel_rfl) trivial ?_)
              rintro w52971 b52972 s k52973 -
              have hn52977 : 256 = ((List.replicate 256 (0 : Int))).length := by simp
              obtain ⟨cl52974, hcl52975⟩ : ∃ q, q = (List.replicate 256 (Value.int .u8 0)) := ⟨_, rfl⟩
              replace s := s.blkSl (i := 0) (n := 256) (c := 256) (size := 1) rfl (by simp) (Nat.le_refl _) (by decide)
              rw [List.take_of_length_le (by simp), ← hcl52975] at s
              replace e44915 := e44915.st k52973
              replace e44919 := e44919.st k52973
              replace e46878 := e46878.st k52973
              replace rp44993 := rp44993.st k52973
              replace eg0 := eg0.st k52973
              replace kk := kk.trans k52973
              have rp52976 : RepL (Rp.int .u8) I46881 w52971 cl52974 (List.replicate 256 (0 : Int)) := by rw [hcl52975]; exact RepL.rep rfl _
              obtain ⟨cl52980, hcl52981⟩ : ∃ q, q = List.map (Value.int .u8) (List.take 256 y52967) := ⟨_, rfl⟩
              have rp52982 : RepL (Rp.int .u8) I46881 w52971 cl52980 (List.take 256 y52967) := by rw [hcl52981]; exact repl_map
              have hn52983 := hl52970
              refine RW.op (by kernel_rfl) (OK.storeAt hT (i := 0) (b := b52972) (off := 0) (m := 256) (vs := (List.map (Value.int .u8) (List.take 256 y52967))) (c := 256) (e := 49) (size := 1) (n := 256) (cl := cl52974) (cl' := cl52980) s (by kernel_rfl) rfl (by rw [List.length_map]; exact (hl52970).symm) (RepL.flat flat_int (repl_map (I := I46881) (w := w52971))) (by have h1 := RepL.length rp52976; have h2 := (hn52977).symm.trans hl52970; have h3 : (Rp.int .u8).n = 1 := rfl; rw [h3] at h1; simp only [List.length_map]; omega) (by rw [hcl52981]; have h1 := RepL.length rp52976; have h3 : (Rp.int .u8).n = 1 := rfl; rw [h3, Nat.mul_one, ← hn52977] at h1; exact setL_all (by rw [List.length_map, h1]; exact (hl52970).symm)) ?_)
              rintro w52978 s k52979
              replace e44915 := e44915.st k52979
              replace e44919 := e44919.st k52979
              replace e46878 := e46878.st k52979
              replace rp52982 := rp52982.st k52979
              replace rp44993 := rp44993.st k52979
              replace eg0 := eg0.st k52979
              replace kk := kk.trans k52979
              refine RW.nil ?_
              refine WPK.seq ?_
              refine WPK.region ?_
              refine RW.seg hT 1 [.agg (List.map (Value.int .u8) (List.take 256 y52967)).toArray] [] [.agg (List.map (Value.int .u8) (List.take 256 y52967)).toArray] [.cells ⟨b52972, 0, none⟩ (List.map (Value.int .u8) (List.take 256 y52967)) 256] (by kernel_rfl) (St.arr s (i := 0) rfl rp52982 hn52983) ?_
              obtain ⟨x52984, hx52985, hf⟩ := bindS hf
              refine RW.op (by kernel_rfl) (OK.call' en25 (by kernel_rfl) (c25 (F := (.sl (.slice (some ⟨b52972, 0, none⟩) 256 256) 49 1 256 cl52980) :: (.blk b52955 (.cells #[.int .i64 0, .int .i64 0, .int .u64 0, .slice none 0 0] 25 (0, 0))) :: (.blk b51015 (.cells #[.int .i64 0, .int .i64 0, .int .u64 0, .slice none 0 0] 25 (0, 0))) :: (.blk b46883 (.cells #[.int .i64 x46871, .int .i64 x46872, .int .u64 x46873, .slice A46875 x46874.length c46876] 25 (0, 0))) :: (.sl (.slice (some ⟨b52965, 0, none⟩) n44989 c44990) 5 1 n44989 cl44991) :: F) (List.take 256 y52967) hn52983 s hx52985) ?_)
              intro X52988 hX52989
              refine fun _ _ hJ => hJ X52988 ?_
              intro I52990 A52991 c52992 w52986 s k52987 hc52993 e52994
              refine hX52989 _ _ ?_
              replace e44915 := e44915.st k52987
              replace e44919 := e44919.st k52987
              replace e46878 := e46878.st k52987
              replace rp52982 := rp52982.st k52987
              replace rp44993 := rp44993.st k52987
              replace eg0 := eg0.st k52987
              replace kk := kk.trans k52987
              refine RW.seg hT 3 [] [] [.tuple #[.agg #[.int .i64 x52984.1.Kind, .int .i64 x52984.1.Page, .int .u64 x52984.1.Epoch, .slice A52991 x52984.1.Data.length c52992], .int .u32 x52984.2], .agg #[.int .i64 x52984.1.Kind, .int .i64 x52984.1.Page, .int .u64 x52984.1.Epoch, .slice A52991 x52984.1.Data.length c52992], .int .u32 x52984.2] [] (by kernel_rfl) (trivial) ?_
              refine RW.op (by kernel_rfl) (OK.new hT (f := fun b => .pointer (some ⟨b, 0, none⟩)) (cs := [.int .i64 0, .int .i64 0, .int .u64 0, .slice none 0 0]) (e := 25) (c := .tt) s (by kernel_rfl) trivial ?_)
              rintro w52995 b52996 s k52997 -
              replace e52994 := e52994.st k52997
              replace e44915 := e44915.st k52997
              replace e44919 := e44919.st k52997
              replace e46878 := e46878.st k52997
              replace rp52982 := rp52982.st k52997
              replace rp44993 := rp44993.st k52997
              replace eg0 := eg0.st k52997
              replace kk := kk.trans k52997
              refine RW.op (by kernel_rfl) (OK.store hT (i := 0) (b := b52996) (off := 0) (n := 4) (vs := [.int .i64 x52984.1.Kind, .int .i64 x52984.1.Page, .int .u64 x52984.1.Epoch, .slice A52991 x52984.1.Data.length c52992]) (cs := [.int .i64 0, .int .i64 0, .int .u64 0, .slice none 0 0]) (e := 25) s (by kernel_rfl) rfl rfl (flat_ok rfl) (Nat.le_of_ble_eq_true rfl) ?_)
              rintro w52998 s k52999 -
              replace e52994 := e52994.st k52999
              replace e44915 := e44915.st k52999
              replace e44919 := e44919.st k52999
              replace e46878 := e46878.st k52999
              replace rp52982 := rp52982.st k52999
              replace rp44993 := rp44993.st k52999
              replace eg0 := eg0.st k52999
              replace kk := kk.trans k52999
              refine RW.seg hT 1 [] [] [.int .u32 x52984.2] [] (by kernel_rfl) (trivial) ?_
              refine RW.nil ?_
              refine WPK.seq ?_
              refine WPK.block ?_
              refine WPK.seq ?_
              refine WPK.cut' (Kn fun E ds wz => ∀ X : Kont, (∀ (I54331 : Nat → Prop) (x54329 : Bool) (D54328 : List Value) (w' : World), g5_j8 p0 p1 p2 p3 x44981 x46871 x46872 x46873 x46874 x46879 y52967 x52984 x54329 = some r → St w0 M I54331 ((.blk b52996 (.cells #[.int .i64 x52984.1.Kind, .int .i64 x52984.1.Page, .int .u64 x52984.1.Epoch, .slice A52991 x52984.1.Data.length c52992] 25 (0, 0))) :: (.sl (.slice (some ⟨b52972, 0, none⟩) 256 256) 49 1 256 cl52980) :: (.blk b52955 (.cells #[.int .i64 0, .int .i64 0, .int .u64 0, .slice none 0 0] 25 (0, 0))) :: (.blk b51015 (.cells #[.int .i64 0, .int .i64 0, .int .u64 0, .slice none 0 0] 25 (0, 0))) :: (.blk b46883 (.cells #[.int .i64 x46871, .int .i64 x46872, .int .u64 x46873, .slice A46875 x46874.length c46876] 25 (0, 0))) :: (.sl (.slice (some ⟨b52965, 0, none⟩) n44989 c44990) 5 1 n44989 cl44991) :: F) w' → Kp I w I54331 w' → Elems (Rp.int .u8) I54331 w' A52991 x52984.1.Data → Elems (Rp.int .u8) I54331 w' A46875 x46874 → RepL (Rp.int .u8) I54331 w' cl52980 (List.take 256 y52967) → RepL (Rp.int .u8) I54331 w' cl44991 x44981 → Elems (Rp.int .u8) I54331 w' A44912 p0 → Elems (Rp.int .i64) I54331 w' A44916 p2 → Elems (Rp.int .u32) I54331 w' (some ⟨0, 0, none⟩) TAB0 → X [(D54328.getD 0 undef), .int .i64 p1, (D54328.getD 1 undef), (D54328.getD 2 undef), .pointer (some ⟨b52955, 0, none⟩), .int .i64 0, .pointer (some ⟨b52972, 0, none⟩), .pointer (some ⟨b52996, 0, none⟩), (D54328.getD 3 undef), (D54328.getD 4 undef), (D54328.getD 5 undef), (D54328.getD 6 undef), (D54328.getD 7 undef), (D54328.getD 8 undef), (D54328.getD 9 undef), (D54328.getD 10 undef), (D54328.getD 11 undef), (D54328.getD 12 undef), (D54328.getD 13 undef), (D54328.getD 14 undef), (D54328.getD 15 undef), .bool x54329, (D54328.getD 16 undef), (D54328.getD 17 undef), (D54328.getD 18 undef), (D54328.getD 19 undef), (D54328.getD 20 undef), (D54328.getD 21 undef), (D54328.getD 22 undef), (D54328.getD 23 undef), undef, undef, undef, (D54328.getD 24 undef), undef, undef, undef, undef, undef, undef, undef, undef, undef, undef, undef, undef, undef, undef, undef, undef, undef, undef, undef, undef] [] w') → X E ds wz) ?_ ?_
              · intro X54383 hX54384
                refine fun _ _ _ hJ => hJ X54383 ?_
                intro I54331 x54329 D54328 w54330 hf s kk e52994 e46878 rp52982 rp44993 e44915 e44919 eg0
                refine hX54384 _ _ _ ?_
                unfold g5_j8 at hf
                by_cases h54332 : x54329 = true
                · have hf := iteT h54332 hf
                  refine WPK.condT (Eq.trans (b := .bool x54329) (by kernel_rfl) (b_t h54332)) ?_
                  refine WPK.seq ?_
                  refine WPK.region ?_
                  refine RW.seg hT 1 [] [] [.agg #[.int .i64 0, .int .i64 0, .int .u64 0, .slice none 0 0]] [] (by kernel_rfl) (trivial) ?_
                  refine RW.op (by kernel_rfl) (OK.store hT (i := 2) (b := b52955) (off := 0) (n := 4) (vs := [.int .i64 0, .int .i64 0, .int .u64 0, .slice none 0 0]) (cs := [.int .i64 0, .int .i64 0, .int .u64 0, .slice none 0 0]) (e := 25) s (by kernel_rfl) rfl rfl (flat_ok rfl) (Nat.le_of_ble_eq_true rfl) ?_)
                  rintro w54333 s k54334 -
                  replace e44915 := e44915.st k54334
                  replace e44919 := e44919.st k54334
                  replace e52994 := e52994.st k54334
                  replace e46878 := e46878.st k54334
                  replace rp52982 := rp52982.st k54334
                  replace rp44993 := rp44993.st k54334
                  replace eg0 := eg0.st k54334
                  replace kk := kk.trans k54334
                  refine RW.seg hT 1 [] [] [.int .i64 40] [] (by kernel_rfl) (trivial) ?_
                  refine RW.nil ?_
                  refine WPK.ret (blockQ.ret (?_))
                  refine Fin.of (rs := [.cell 4 25, .tmp 5]) hT [.agg #[.int .i64 0, .int .i64 0, .int .u64 0, .slice none 0 0]] (.tuple #[.agg #[.int .i64 0, .int .i64 0, .int .u64 0, .slice none 0 0], .int .i64 40]) [.cells ⟨b52955, 0, none⟩ [.int .i64 0, .int .i64 0, .int .u64 0, .slice none 0 0] 4] rfl (by kernel_rfl) (s.cells (i := 2) rfl rfl rfl) ?_
                  replace s := s.pick [3, 4, 5] 6 rfl
                  exact fun X h => vc rfl (h I54331 0 0 0 [] 40 none 0 _ hf s kk e44919 nil_hc Elems.nil e46878 rp44993 e44915 eg0)
                · have hf := iteF h54332 hf
                  refine WPK.condF (Eq.trans (b := .bool x54329) (by kernel_rfl) (b_f h54332)) ?_
                  refine WPK.seq ?_
                  refine WPK.cut' (Kn fun E ds wz => ∀ X : Kont, (∀ (I54352 : Nat → Prop) (x54350 : Bool) (D54349 : List Value) (w' : World), g5_j9 p0 p1 p2 p3 x44981 x46871 x46872 x46873 x46874 x46879 x52984 x54350 = some r → St w0 M I54352 ((.blk b52996 (.cells #[.int .i64 x52984.1.Kind, .int .i64 x52984.1.Page, .int .u64 x52984.1.Epoch, .slice A52991 x52984.1.Data.length c52992] 25 (0, 0))) :: (.blk b52955 (.cells #[.int .i64 0, .int .i64 0, .int .u64 0, .slice none 0 0] 25 (0, 0))) :: (.blk b51015 (.cells #[.int .i64 0, .int .i64 0, .int .u64 0, .slice none 0 0] 25 (0, 0))) :: (.blk b46883 (.cells #[.int .i64 x46871, .int .i64 x46872, .int .u64 x46873, .slice A46875 x46874.length c46876] 25 (0, 0))) :: (.sl (.slice (some ⟨b52965, 0, none⟩) n44989 c44990) 5 1 n44989 cl44991) :: F) w' → Kp I w I54352 w' → Elems (Rp.int .u8) I54352 w' A52991 x52984.1.Data → Elems (Rp.int .u8) I54352 w' A46875 x46874 → RepL (Rp.int .u8) I54352 w' cl44991 x44981 → Elems (Rp.int .u8) I54352 w' A44912 p0 → Elems (Rp.int .i64) I54352 w' A44916 p2 → Elems (Rp.int .u32) I54352 w' (some ⟨0, 0, none⟩) TAB0 → X [(D54349.getD 0 undef), .int .i64 p1, (D54349.getD 1 undef), (D54349.getD 2 undef), .pointer (some ⟨b52955, 0, none⟩), .int .i64 0, (D54349.getD 3 undef), .pointer (some ⟨b52996, 0, none⟩), (D54349.getD 4 undef), (D54349.getD 5 undef), (D54349.getD 6 undef), (D54349.getD 7 undef), (D54349.getD 8 undef), (D54349.getD 9 undef), (D54349.getD 10 undef), (D54349.getD 11 undef), (D54349.getD 12 undef), (D54349.getD 13 undef), (D54349.getD 14 undef), (D54349.getD 15 undef), (D54349.getD 16 undef), (D54349.getD 17 undef), (D54349.getD 18 undef), (D54349.getD 19 undef), (D54349.getD 20 undef), (D54349.getD 21 undef), (D54349.getD 22 undef), (D54349.getD 23 undef), (D54349.getD 24 undef), (D54349.getD 25 undef), (D54349.getD 26 undef), .bool x54350, (D54349.getD 27 undef), (D54349.getD 28 undef), (D54349.getD 29 undef), (D54349.getD 30 undef), (D54349.getD 31 undef), (D54349.getD 32 undef), (D54349.getD 33 undef), (D54349.getD 34 undef), (D54349.getD 35 undef), undef, undef, undef, undef, undef, undef, undef, undef, undef, undef, undef, undef, undef] [] w') → X E ds wz) ?_ ?_
                  · intro X54367 hX54368
                    refine fun _ _ _ hJ => hJ X54367 ?_
                    intro I54352 x54350 D54349 w54351 hf s kk e52994 e46878 rp44993 e44915 e44919 eg0
                    refine hX54368 _ _ _ ?_
                    unfold g5_j9 at hf
                    by_cases h54353 : x54350 = true
                    · have hf := iteT h54353 hf
                      refine WPK.condT (Eq.trans (b := .bool x54350) (by kernel_rfl) (b_t h54353)) ?_
                      refine WPK.seq ?_
                      refine WPK.region ?_
                      refine RW.seg hT 1 [] [] [.agg #[.int .i64 0, .int .i64 0, .int .u64 0, .slice none 0 0]] [] (by kernel_rfl) (trivial) ?_
                      refine RW.op (by kernel_rfl) (OK.store hT (i := 1) (b := b52955) (off := 0) (n := 4) (vs := [.int .i64 0, .int .i64 0, .int .u64 0, .slice none 0 0]) (cs := [.int .i64 0, .int .i64 0, .int .u64 0, .slice none 0 0]) (e := 25) s (by kernel_rfl) rfl rfl (flat_ok rfl) (Nat.le_of_ble_eq_true rfl) ?_)
                      rintro w54354 s k54355 -
                      replace e44915 := e44915.st k54355
                      replace e44919 := e44919.st k54355
                      replace e52994 := e52994.st k54355
                      replace e46878 := e46878.st k54355
                      replace rp44993 := rp44993.st k54355
                      replace eg0 := eg0.st k54355
                      replace kk := kk.trans k54355
                      refine RW.seg hT 1 [] [] [.int .i64 42] [] (by kernel_rfl) (trivial) ?_
                      refine RW.nil ?_
                      refine WPK.ret (blockQ.ret (?_))
                      refine Fin.of (rs := [.cell 4 25, .tmp 5]) hT [.agg #[.int .i64 0, .int .i64 0, .int .u64 0, .slice none 0 0]] (.tuple #[.agg #[.int .i64 0, .int .i64 0, .int .u64 0, .slice none 0 0], .int .i64 42]) [.cells ⟨b52955, 0, none⟩ [.int .i64 0, .int .i64 0, .int .u64 0, .slice none 0 0] 4] rfl (by kernel_rfl) (s.cells (i := 1) rfl rfl rfl) ?_
                      replace s := s.pick [2, 3, 4] 5 rfl
                      exact fun X h => vc rfl (h I54352 0 0 0 [] 42 none 0 _ hf s kk e44919 nil_hc Elems.nil e46878 rp44993 e44915 eg0)
                    · have hf := iteF h54353 hf
                      refine WPK.condF (Eq.trans (b := .bool x54350) (by kernel_rfl) (b_f h54353)) ?_
                      refine WPK.seq ?_
                      refine WPK.cut' (Kn fun E ds wz => ∀ X : Kont, (∀ (x54358 : Bool) (D54357 : List Value), g5_j10 p0 p1 p2 p3 x44981 x46871 x46872 x46873 x46874 x46879 x52984 x54358 = some r → X [(D54357.getD 0 undef), (D54357.getD 1 undef), (D54357.getD 2 undef), (D54357.getD 3 undef), .pointer (some ⟨b52955, 0, none⟩), .int .i64 0, (D54357.getD 4 undef), .pointer (some ⟨b52996, 0, none⟩), (D54357.getD 5 undef), (D54357.getD 6 undef), (D54357.getD 7 undef), (D54357.getD 8 undef), (D54357.getD 9 undef), (D54357.getD 10 undef), (D54357.getD 11 undef), (D54357.getD 12 undef), (D54357.getD 13 undef), (D54357.getD 14 undef), (D54357.getD 15 undef), (D54357.getD 16 undef), (D54357.getD 17 undef), (D54357.getD 18 undef), (D54357.getD 19 undef), (D54357.getD 20 undef), (D54357.getD 21 undef), (D54357.getD 22 undef), (D54357.getD 23 undef), (D54357.getD 24 undef), (D54357.getD 25 undef), (D54357.getD 26 undef), (D54357.getD 27 undef), (D54357.getD 28 undef), (D54357.getD 29 undef), (D54357.getD 30 undef), (D54357.getD 31 undef), (D54357.getD 32 undef), (D54357.getD 33 undef), (D54357.getD 34 undef), (D54357.getD 35 undef), (D54357.getD 36 undef), (D54357.getD 37 undef), (D54357.getD 38 undef), .bool x54358, (D54357.getD 39 undef), (D54357.getD 40 undef), (D54357.getD 41 undef), (D54357.getD 42 undef), (D54357.getD 43 undef), (D54357.getD 44 undef), (D54357.getD 45 undef), (D54357.getD 46 undef), (D54357.getD 47 undef), undef, undef] [] w54351) → X E ds wz) ?_ ?_
                      · intro X54364 hX54365
                        refine fun _ _ _ hJ => hJ X54364 ?_
                        intro x54358 D54357 hf
                        refine hX54365 _ _ _ ?_
                        unfold g5_j10 at hf
                        by_cases h54359 : x54358 = true
                        · have hf := iteT h54359 hf
                          refine WPK.condT (Eq.trans (b := .bool x54358) (by kernel_rfl) (b_t h54359)) ?_
                          refine WPK.seq ?_
                          refine WPK.region ?_
                          refine RW.seg hT 1 [] [] [.agg #[.int .i64 0, .int .i64 0, .int .u64 0, .slice none 0 0]] [] (by kernel_rfl) (trivial) ?_
                          refine RW.op (by kernel_rfl) (OK.store hT (i := 1) (b := b52955) (off := 0) (n := 4) (vs := [.int .i64 0, .int .i64 0, .int .u64 0, .slice none 0 0]) (cs := [.int .i64 0, .int .i64 0, .int .u64 0, .slice none 0 0]) (e := 25) s (by kernel_rfl) rfl rfl (flat_ok rfl) (Nat.le_of_ble_eq_true rfl) ?_)
                          rintro w54360 s k54361 -
                          replace e44915 := e44915.st k54361
                          replace e44919 := e44919.st k54361
                          replace e52994 := e52994.st k54361
                          replace e46878 := e46878.st k54361
                          replace rp44993 := rp44993.st k54361
                          replace eg0 := eg0.st k54361
                          replace kk := kk.trans k54361
                          refine RW.seg hT 1 [] [] [.int .i64 41] [] (by kernel_rfl) (trivial) ?_
                          refine RW.nil ?_
                          refine WPK.ret (blockQ.ret (?_))
                          refine Fin.of (rs := [.cell 4 25, .tmp 5]) hT [.agg #[.int .i64 0, .int .i64 0, .int .u64 0, .slice none 0 0]] (.tuple #[.agg #[.int .i64 0, .int .i64 0, .int .u64 0, .slice none 0 0], .int .i64 41]) [.cells ⟨b52955, 0, none⟩ [.int .i64 0, .int .i64 0, .int .u64 0, .slice none 0 0] 4] rfl (by kernel_rfl) (s.cells (i := 1) rfl rfl rfl) ?_
                          replace s := s.pick [2, 3, 4] 5 rfl
                          exact fun X h => vc rfl (h I54352 0 0 0 [] 41 none 0 _ hf s kk e44919 nil_hc Elems.nil e46878 rp44993 e44915 eg0)
                        · have hf := iteF h54359 hf
                          refine WPK.condF (Eq.trans (b := .bool x54358) (by kernel_rfl) (b_f h54359)) ?_
                          refine WPK.skip ?_
                          refine WPK.seq ?_
                          refine WPK.region ?_
                          refine RW.seg hT 1 [.agg #[.int .i64 x52984.1.Kind, .int .i64 x52984.1.Page, .int .u64 x52984.1.Epoch, .slice A52991 x52984.1.Data.length c52992]] [] [.agg #[.int .i64 x52984.1.Kind, .int .i64 x52984.1.Page, .int .u64 x52984.1.Epoch, .slice A52991 x52984.1.Data.length c52992]] [.cells ⟨b52996, 0, none⟩ [.int .i64 x52984.1.Kind, .int .i64 x52984.1.Page, .int .u64 x52984.1.Epoch, .slice A52991 x52984.1.Data.length c52992] 4] (by kernel_rfl) (s.cells (i := 0) rfl rfl rfl) ?_
                          refine RW.op (by kernel_rfl) (OK.store hT (i := 1) (b := b52955) (off := 0) (n := 4) (vs := [.int .i64 x52984.1.Kind, .int .i64 x52984.1.Page, .int .u64 x52984.1.Epoch, .slice A52991 x52984.1.Data.length c52992]) (cs := [.int .i64 0, .int .i64 0, .int .u64 0, .slice none 0 0]) (e := 25) s (by kernel_rfl) rfl rfl (flat_ok rfl) (Nat.le_of_ble_eq_true rfl) ?_)
                          rintro w54362 s k54363 -
                          replace e52994 := e52994.st k54363
                          replace e44915 := e44915.st k54363
                          replace e44919 := e44919.st k54363
                          replace e46878 := e46878.st k54363
                          replace rp44993 := rp44993.st k54363
                          replace eg0 := eg0.st k54363
                          replace kk := kk.trans k54363
                          refine RW.seg hT 1 [] [] [.int .i64 0] [] (by kernel_rfl) (trivial) ?_
                          refine RW.nil ?_
                          refine WPK.ret (?_)
                          refine Fin.of (rs := [.cell 4 25, .tmp 5]) hT [.agg #[.int .i64 x52984.1.Kind, .int .i64 x52984.1.Page, .int .u64 x52984.1.Epoch, .slice A52991 x52984.1.Data.length c52992]] (.tuple #[.agg #[.int .i64 x52984.1.Kind, .int .i64 x52984.1.Page, .int .u64 x52984.1.Epoch, .slice A52991 x52984.1.Data.length c52992], .int .i64 0]) [.cells ⟨b52955, 0, none⟩ [.int .i64 x52984.1.Kind, .int .i64 x52984.1.Page, .int .u64 x52984.1.Epoch, .slice A52991 x52984.1.Data.length c52992] 4] rfl (by kernel_rfl) (s.cells (i := 1) rfl rfl rfl) ?_
                          replace s := s.pick [2, 3, 4] 5 rfl
                          exact fun X h => vc rfl (h I54352 x52984.1.Kind x52984.1.Page x52984.1.Epoch x52984.1.Data 0 A52991 c52992 _ hf s kk e44919 hc52993 e52994 e46878 rp44993 e44915 eg0)
                      · refine WPK.region ?_
                        refine RW.seg hT 4 [.int .i64 x52984.1.Page] [(46, .bool (decide (x52984.1.Page ≠ p1)))] [.pointer (some ⟨b52996, 1, none⟩), .int .i64 x52984.1.Page, .int .i64 p1, .bool (decide (x52984.1.Page ≠ p1))] [.cell ⟨b52996, 1, none⟩ (.int .i64 x52984.1.Page), .veq (.bool (x52984.1.Page != p1)) (.bool (decide (x52984.1.Page ≠ p1)))] (by kernel_rfl) (⟨s.cell (i := 0) (off := 1) rfl rfl, ne_v⟩) ?_
                        by_cases h54366 : x52984.1.Page ≠ p1
                        · have hf := iteT h54366 hf
                          refine RW.seg hT 6 [] [(47, .bool true)] [.bool true, undef, undef, undef, .bool true, .bool true] [.veq (.bool (decide (x52984.1.Page ≠ p1))) (.bool true)] (by kernel_rfl) (bo_t h54366) ?_
                          refine RW.nil ?_
                          exact fun X h => kc (by kernel_rfl) rfl (h true [(D54349.getD 0 undef), .int .i64 p1, (D54349.getD 1 undef), (D54349.getD 2 undef), (D54349.getD 3 undef), (D54349.getD 4 undef), (D54349.getD 5 undef), (D54349.getD 6 undef), (D54349.getD 7 undef), (D54349.getD 8 undef), (D54349.getD 9 undef), (D54349.getD 10 undef), (D54349.getD 11 undef), (D54349.getD 12 undef), (D54349.getD 13 undef), (D54349.getD 14 undef), (D54349.getD 15 undef), (D54349.getD 16 undef), (D54349.getD 17 undef), (D54349.getD 18 undef), (D54349.getD 19 undef), (D54349.getD 20 undef), (D54349.getD 21 undef), (D54349.getD 22 undef), (D54349.getD 23 undef), (D54349.getD 24 undef), (D54349.getD 25 undef), (D54349.getD 26 undef), .bool x54350, (D54349.getD 27 undef), (D54349.getD 28 undef), (D54349.getD 29 undef), (D54349.getD 30 undef), (D54349.getD 31 undef), (D54349.getD 32 undef), (D54349.getD 33 undef), (D54349.getD 34 undef), (D54349.getD 35 undef), undef, .pointer (some ⟨b52996, 1, none⟩), .int .i64 x52984.1.Page, .int .i64 p1, .bool (decide (x52984.1.Page ≠ p1)), .bool true, undef, undef, undef, .bool true] hf)
                        · have hf := iteF h54366 hf
                          refine RW.seg hT 6 [.int .i64 x52984.1.Page] [(47, .bool false)] [.bool false, .pointer (some ⟨b52996, 1, none⟩), .int .i64 x52984.1.Page, .bool (decide (x52984.1.Page ≥ 2048)), .bool (decide (x52984.1.Page ≥ 2048)), .bool (decide (x52984.1.Page ≥ 2048))] [.veq (.bool (decide (x52984.1.Page ≠ p1))) (.bool false), .cell ⟨b52996, 1, none⟩ (.int .i64 x52984.1.Page)] (by kernel_rfl) (⟨bo_f h54366, s.cell (i := 0) (off := 1) rfl rfl⟩) ?_
                          refine RW.nil ?_
                          exact fun X h => kc (by kernel_rfl) rfl (h (decide (x52984.1.Page ≥ 2048)) [(D54349.getD 0 undef), .int .i64 p1, (D54349.getD 1 undef), (D54349.getD 2 undef), (D54349.getD 3 undef), (D54349.getD 4 undef), (D54349.getD 5 undef), (D54349.getD 6 undef), (D54349.getD 7 undef), (D54349.getD 8 undef), (D54349.getD 9 undef), (D54349.getD 10 undef), (D54349.getD 11 undef), (D54349.getD 12 undef), (D54349.getD 13 undef), (D54349.getD 14 undef), (D54349.getD 15 undef), (D54349.getD 16 undef), (D54349.getD 17 undef), (D54349.getD 18 undef), (D54349.getD 19 undef), (D54349.getD 20 undef), (D54349.getD 21 undef), (D54349.getD 22 undef), (D54349.getD 23 undef), (D54349.getD 24 undef), (D54349.getD 25 undef), (D54349.getD 26 undef), .bool x54350, (D54349.getD 27 undef), (D54349.getD 28 undef), (D54349.getD 29 undef), (D54349.getD 30 undef), (D54349.getD 31 undef), (D54349.getD 32 undef), (D54349.getD 33 undef), (D54349.getD 34 undef), (D54349.getD 35 undef), undef, .pointer (some ⟨b52996, 1, none⟩), .int .i64 x52984.1.Page, .int .i64 p1, .bool (decide (x52984.1.Page ≠ p1)), .bool false, .pointer (some ⟨b52996, 1, none⟩), .int .i64 x52984.1.Page, .bool (decide (x52984.1.Page ≥ 2048)), .bool (decide (x52984.1.Page ≥ 2048))] hf)
                  · refine WPK.region ?_
                    refine RW.seg hT 2 [.int .i64 x52984.1.Kind] [] [.pointer (some ⟨b52996, 0, none⟩), .int .i64 x52984.1.Kind] [.cell ⟨b52996, 0, none⟩ (.int .i64 x52984.1.Kind)] (by kernel_rfl) (s.cell (i := 0) (off := 0) rfl rfl) ?_
                    obtain ⟨x54369, hx54370, hf⟩ := bindS hf
                    refine RW.op (by kernel_rfl) (OK.call' en27 (by kernel_rfl) (c27 (F := (.blk b52996 (.cells #[.int .i64 x52984.1.Kind, .int .i64 x52984.1.Page, .int .u64 x52984.1.Epoch, .slice A52991 x52984.1.Data.length c52992] 25 (0, 0))) :: (.sl (.slice (some ⟨b52972, 0, none⟩) 256 256) 49 1 256 cl52980) :: (.blk b52955 (.cells #[.int .i64 0, .int .i64 0, .int .u64 0, .slice none 0 0] 25 (0, 0))) :: (.blk b51015 (.cells #[.int .i64 0, .int .i64 0, .int .u64 0, .slice none 0 0] 25 (0, 0))) :: (.blk b46883 (.cells #[.int .i64 x46871, .int .i64 x46872, .int .u64 x46873, .slice A46875 x46874.length c46876] 25 (0, 0))) :: (.sl (.slice (some ⟨b52965, 0, none⟩) n44989 c44990) 5 1 n44989 cl44991) :: F) x52984.1.Kind s hx54370) ?_)
                    intro X54373 hX54374
                    refine fun _ _ hJ => hJ X54373 ?_
                    intro I54375 w54371 s k54372
                    refine hX54374 _ _ ?_
                    replace e44915 := e44915.st k54372
                    replace e44919 := e44919.st k54372
                    replace e52994 := e52994.st k54372
                    replace e46878 := e46878.st k54372
                    replace rp52982 := rp52982.st k54372
                    replace rp44993 := rp44993.st k54372
                    replace eg0 := eg0.st k54372
                    replace kk := kk.trans k54372
                    refine RW.seg hT 1 [] [(35, .bool (decide (¬ (x54369 = true))))] [.bool (decide (¬ (x54369 = true)))] [.veq (.bool (!x54369)) (.bool (decide (¬ (x54369 = true))))] (by kernel_rfl) (not_b) ?_
                    by_cases h54376 : ¬ (x54369 = true)
                    · have hf := iteT h54376 hf
                      refine RW.seg hT 6 [] [(36, .bool true)] [.bool true, undef, undef, undef, .bool true, .bool true] [.veq (.bool (decide (¬ (x54369 = true)))) (.bool true)] (by kernel_rfl) (bo_t h54376) ?_
                      refine RW.nil ?_
                      replace s := s.pick [0, 2, 3, 4, 5] 6 rfl
                      exact fun X h => kc (by kernel_rfl) rfl (h I54375 true [(D54328.getD 0 undef), (D54328.getD 1 undef), (D54328.getD 2 undef), .pointer (some ⟨b52972, 0, none⟩), (D54328.getD 3 undef), (D54328.getD 4 undef), (D54328.getD 5 undef), (D54328.getD 6 undef), (D54328.getD 7 undef), (D54328.getD 8 undef), (D54328.getD 9 undef), (D54328.getD 10 undef), (D54328.getD 11 undef), (D54328.getD 12 undef), (D54328.getD 13 undef), (D54328.getD 14 undef), (D54328.getD 15 undef), .bool x54329, (D54328.getD 16 undef), (D54328.getD 17 undef), (D54328.getD 18 undef), (D54328.getD 19 undef), (D54328.getD 20 undef), (D54328.getD 21 undef), (D54328.getD 22 undef), (D54328.getD 23 undef), undef, .pointer (some ⟨b52996, 0, none⟩), .int .i64 x52984.1.Kind, .bool x54369, .bool (decide (¬ (x54369 = true))), .bool true, undef, undef, undef, .bool true] _ hf s kk e52994 e46878 rp44993 e44915 e44919 eg0)
                    · have hf := iteF h54376 hf
                      obtain ⟨x54377, hx54378, hf⟩ := bindS hf
                      obtain ⟨h54379, hx54378⟩ := getS hx54378
                      rw [← hn52983] at h54379
                      obtain ⟨-, cs54380, hr54381, ha54382⟩ := St.elem s (i := 1) rfl hn52983 rp52982 hx54378
                      replace ha54382 := ha54382 _ rfl
                      obtain rfl : cs54380 = [.int .u8 x54377] := hr54381
                      refine RW.seg hT 6 [.int .u8 x54377] [(36, .bool false), (39, .bool (decide (x54377 ≠ 0)))] [.bool false, .pointer (some ⟨b52972, 0 + (5 : Int).toNat * 1, none⟩), .int .u8 x54377, .bool (decide (x54377 ≠ 0)), .bool (decide (x54377 ≠ 0)), .bool (decide (x54377 ≠ 0))] [.veq (.bool (decide (¬ (x54369 = true)))) (.bool false), .idx 5 256, .cell ⟨b52972, 0 + (5 : Int).toNat * 1, none⟩ (.int .u8 x54377), .veq (.bool (x54377 != 0)) (.bool (decide (x54377 ≠ 0)))] (by kernel_rfl) (⟨bo_f h54376, h54379, ha54382 0 _ rfl, ne_v⟩) ?_
                      refine RW.nil ?_
                      replace s := s.pick [0, 2, 3, 4, 5] 6 rfl
                      exact fun X h => kc (by kernel_rfl) rfl (h I54375 (decide (x54377 ≠ 0)) [(D54328.getD 0 undef), (D54328.getD 1 undef), (D54328.getD 2 undef), .pointer (some ⟨b52972, 0, none⟩), (D54328.getD 3 undef), (D54328.getD 4 undef), (D54328.getD 5 undef), (D54328.getD 6 undef), (D54328.getD 7 undef), (D54328.getD 8 undef), (D54328.getD 9 undef), (D54328.getD 10 undef), (D54328.getD 11 undef), (D54328.getD 12 undef), (D54328.getD 13 undef), (D54328.getD 14 undef), (D54328.getD 15 undef), .bool x54329, (D54328.getD 16 undef), (D54328.getD 17 undef), (D54328.getD 18 undef), (D54328.getD 19 undef), (D54328.getD 20 undef), (D54328.getD 21 undef), (D54328.getD 22 undef), (D54328.getD 23 undef), undef, .pointer (some ⟨b52996, 0, none⟩), .int .i64 x52984.1.Kind, .bool x54369, .bool (decide (¬ (x54369 = true))), .bool false, .pointer (some ⟨b52972, 0 + (5 : Int).toNat * 1, none⟩), .int .u8 x54377, .bool (decide (x54377 ≠ 0)), .bool (decide (x54377 ≠ 0))] _ hf s kk e52994 e46878 rp44993 e44915 e44919 eg0)
              · refine WPK.region ?_
                refine RW.seg hT 2 [.agg (List.map (Value.int .u8) (List.take 256 y52967)).toArray] [] [.agg (List.map (Value.int .u8) (List.take 256 y52967)).toArray, .agg (List.map (Value.int .u8) (List.replicate 256 (0 : Int))).toArray] [.cells ⟨b52972, 0, none⟩ (List.map (Value.int .u8) (List.take 256 y52967)) 256] (by kernel_rfl) (St.arr s (i := 1) rfl rp52982 hn52983) ?_
                refine RW.op (by kernel_rfl) (OK.arrEq hT (t := 49) (N := 256) (e := 5) (k := .u8) (b := true) (xs := (List.take 256 y52967)) (ys := (List.replicate 256 (0 : Int))) (by kernel_rfl) (by kernel_rfl) rfl rfl rfl rfl rfl hn52983 (by simp) ?_)
                by_cases h54385 : (List.take 256 y52967) = (List.replicate 256 (0 : Int))
                · have hf := iteT h54385 hf
                  refine RW.seg hT 6 [] [(25, .bool true)] [.bool true, undef, undef, undef, .bool true, .bool true] [.veq (.bool (decide ((List.take 256 y52967) = (List.replicate 256 (0 : Int))))) (.bool true)] (by kernel_rfl) (bo_t h54385) ?_
                  refine RW.nil ?_
                  exact fun X h => kc (by kernel_rfl) rfl (h I52990 true [.slice (some ⟨b52965, 0, none⟩) n44989 c44990, undef, undef, .int .u32 x52984.2, .slice (some ⟨b52965, 0, none⟩) n44989 c44990, .int .i64 (x44981.length : Int), .bool (decide ((x44981.length : Int) ≠ 256)), undef, .slice (some ⟨b52965, 0, none⟩) n44989 c44990, .pointer (some ⟨b52965, 0, none⟩), .agg (List.map (Value.int .u8) (List.take 256 y52967)).toArray, .tuple #[.agg #[.int .i64 x52984.1.Kind, .int .i64 x52984.1.Page, .int .u64 x52984.1.Epoch, .slice A52991 x52984.1.Data.length c52992], .int .u32 x52984.2], .agg (List.map (Value.int .u8) (List.take 256 y52967)).toArray, .tuple #[.agg #[.int .i64 x52984.1.Kind, .int .i64 x52984.1.Page, .int .u64 x52984.1.Epoch, .slice A52991 x52984.1.Data.length c52992], .int .u32 x52984.2], .agg #[.int .i64 x52984.1.Kind, .int .i64 x52984.1.Page, .int .u64 x52984.1.Epoch, .slice A52991 x52984.1.Data.length c52992], .int .u32 x52984.2, .agg (List.map (Value.int .u8) (List.take 256 y52967)).toArray, .agg (List.map (Value.int .u8) (List.replicate 256 (0 : Int))).toArray, .bool (decide ((List.take 256 y52967) = (List.replicate 256 (0 : Int)))), .bool true, undef, undef, undef, .bool true, undef] _ hf s kk e52994 e46878 rp52982 rp44993 e44915 e44919 eg0)
                · have hf := iteF h54385 hf
                  refine RW.seg hT 2 [] [(25, .bool false)] [.bool false, .int .u32 x52984.2] [.veq (.bool (decide ((List.take 256 y52967) = (List.replicate 256 (0 : Int))))) (.bool false)] (by kernel_rfl) (bo_f h54385) ?_
                  refine RW.op (by kernel_rfl) (OK.inl (args := [.pointer (some ⟨b52972, 0, none⟩)]) en26 (by kernel_rfl) ?_)
                  intro R54386 hR54387
                  refine Ret.of Tryd.func26 rfl ?_
                  refine WPK.seq ?_
                  refine WPK.region ?_
                  refine RW.seg hT 1 [] [] [.int .u32 0] [] (by kernel_rfl) (trivial) ?_
                  refine RW.nil ?_
                  refine WPK.seq ?_
                  refine WPK.region ?_
                  obtain ⟨h54608, hf⟩ := iteS hf
                  replace h54608 : (0 : Int) ≤ 4 ∧ 4 ≤ ((List.take 256 y52967).length : Int) ∧ ((List.take 256 y52967).length : Int) ≤ ((256 : Nat) : Int) - 0 := by have hnn := hn52983; omega
                  obtain ⟨o54599, n54600, c54601, q54602, q54603, q54604, q54605, q54606, pt54607⟩ := partS (b := b52972) (c := 256) (Pt.whole (size := 1) (row_hc (s.at (i := 1) rfl)).1) (Nat.le_refl _) h54608
                  rw [Int.zero_add, Int.zero_add] at pt54607
                  replace q54603 : 256 - (4 : Int).toNat = n54600 := by rw [← q54603]; have hnn := hn52983; omega
                  refine RW.seg hT 3 [] [(5, .slice (some ⟨b52972, o54599, none⟩) n54600 c54601)] [.pointer (some ⟨b52972, 0, none⟩), .pointer (some ⟨b52972, 0, none⟩), .slice (some ⟨b52972, o54599, none⟩) n54600 c54601] [.both (.cut 4 (256 : Nat) 256 256) (.veq (.slice (cutA (some ⟨b52972, 0, none⟩) (4 : Int).toNat 256 1) (256 - (4 : Int).toNat) (256 - (4 : Int).toNat)) (.slice (some ⟨b52972, o54599, none⟩) n54600 c54601))] (by kernel_rfl) (⟨⟨(q54606).1, by have h1 := (q54606).2.1; have h2 := (q54606).2.2.1; omega, by have := (q54606).2.2.2; omega, by omega⟩, sl_eq q54602 q54603 q54604⟩) ?_
                  refine RW.op (by kernel_rfl) (OK.new hT (f := fun b => .slice (some ⟨b, 0, none⟩) 1 1) (cs := [.slice (some ⟨b52972, o54599, none⟩) n54600 c54601]) (e := 23) (c := .tt) s (by kernel_rfl) trivial ?_)
                  rintro w54609 b54610 s k54611 -
                  replace e44915 := e44915.st k54611
                  replace e44919 := e44919.st k54611
                  replace e52994 := e52994.st k54611
                  replace e46878 := e46878.st k54611
                  replace rp52982 := rp52982.st k54611
                  replace rp44993 := rp44993.st k54611
                  replace eg0 := eg0.st k54611
                  replace kk := kk.trans k54611
                  refine RW.op (by kernel_rfl) (OK.inl (args := [.slice (some ⟨b54610, 0, none⟩) 1 1]) en40 (by kernel_rfl) ?_)
                  intro R54612 hR54613
                  refine Ret.of Tryd.func40 rfl ?_
                  refine WPK.seq ?_
                  refine WPK.region ?_
                  refine RW.seg hT 1 [] [] [.int .u32 0] [] (by kernel_rfl) (trivial) ?_
                  refine RW.nil ?_
                  refine WPK.seq ?_
                  refine WPK.region ?_
                  refine RW.seg hT 1 [] [] [.slice (some ⟨b54610, 0, none⟩) 1 1] [] (by kernel_rfl) (trivial) ?_
                  refine RW.op (by kernel_rfl) (OK.inl (args := [.int .u32 0, .slice (some ⟨b54610, 0, none⟩) 1 1]) en52 (by kernel_rfl) ?_)
                  intro R54712 hR54713
                  refine Ret.of Tryd.func52 rfl ?_
                  refine WPK.seq ?_
                  refine WPK.region ?_
                  refine RW.seg hT 1 [] [] [.int .u32 0] [] (by kernel_rfl) (trivial) ?_
                  refine RW.nil ?_
                  refine WPK.seq ?_
                  refine WPK.region ?_
                  refine RW.seg hT 1 [] [] [.int .u32 0] [] (by kernel_rfl) (trivial) ?_
                  obtain ⟨x54762, hx54763, hf⟩ := bindS hf
                  refine RW.op (by kernel_rfl) (OK.call' en59 (by kernel_rfl) (c59 (F := (.blk b54610 (.cells #[.slice (some ⟨b52972, o54599, none⟩) n54600 c54601] 23 (0, 0))) :: (.blk b52996 (.cells #[.int .i64 x52984.1.Kind, .int .i64 x52984.1.Page, .int .u64 x52984.1.Epoch, .slice A52991 x52984.1.Data.length c52992] 25 (0, 0))) :: (.sl (.slice (some ⟨b52972, 0, none⟩) 256 256) 49 1 256 cl52980) :: (.blk b52955 (.cells #[.int .i64 0, .int .i64 0, .int .u64 0, .slice none 0 0] 25 (0, 0))) :: (.blk b51015 (.cells #[.int .i64 0, .int .i64 0, .int .u64 0, .slice none 0 0] 25 (0, 0))) :: (.blk b46883 (.cells #[.int .i64 x46871, .int .i64 x46872, .int .u64 x46873, .slice A46875 x46874.length c46876] 25 (0, 0))) :: (.sl (.slice (some ⟨b52965, 0, none⟩) n44989 c44990) 5 1 n44989 cl44991) :: F) 0 s hx54763) ?_)
                  intro X54766 hX54767
                  refine fun _ _ hJ => hJ X54766 ?_
                  intro I54768 w54764 s k54765
                  refine hX54767 _ _ ?_
                  replace e44915 := e44915.st k54765
                  replace e44919 := e44919.st k54765
                  replace e52994 := e52994.st k54765
                  replace e46878 := e46878.st k54765
                  replace rp52982 := rp52982.st k54765
                  replace rp44993 := rp44993.st k54765
                  replace eg0 := eg0.st k54765
                  replace kk := kk.trans k54765
                  refine RW.seg hT 1 [] [] [.int .u32 x54762] [] (by kernel_rfl) (trivial) ?_
                  refine RW.nil ?_
                  refine WPK.seq ?_
                  refine WPK.seq ?_
                  refine WPK.region ?_
                  refine RW.seg hT 3 [] [] [.slice (some ⟨b54610, 0, none⟩) 1 1, .int .i64 1, .int .i64 0] [] (by kernel_rfl) (trivial) ?_
                  refine RW.nil ?_
                  refine WPK.block ?_
                  refine WPK.rounds 12 ?_
                  refine Rounds.go ?_
                  refine WPK.seq ?_
                  refine WPK.region ?_
                  refine RW.seg hT 1 [] [] [.bool true] [] (by kernel_rfl) (trivial) ?_
                  refine RW.nil ?_
                  refine WPK.seq ?_
                  refine WPK.condT (by kernel_rfl) ?_
                  refine WPK.skip ?_
                  refine WPK.seq ?_
                  refine WPK.block ?_
                  refine WPK.seq ?_
                  refine WPK.region ?_
                  refine RW.seg hT 3 [.slice (some ⟨b52972, o54599, none⟩) n54600 c54601] [] [.pointer (some ⟨b54610, 0, none⟩), .slice (some ⟨b52972, o54599, none⟩) n54600 c54601, .slice (some ⟨b52972, o54599, none⟩) n54600 c54601] [.idx 0 1, .cell ⟨b54610, 0, none⟩ (.slice (some ⟨b52972, o54599, none⟩) n54600 c54601)] (by kernel_rfl) (⟨⟨by decide, by decide⟩, s.cell (i := 0) (off := 0) rfl rfl⟩) ?_
                  refine RW.nil ?_
                  refine WPK.region ?_
                  refine RW.seg hT 2 [] [] [.int .u32 x54762, .slice (some ⟨b52972, o54599, none⟩) n54600 c54601] [] (by kernel_rfl) (trivial) ?_
                  obtain ⟨y54790, hy54791, hf⟩ := bindS hf
                  have sa54786 := s
                  obtain ⟨hm54792, hc54787, e54788⟩ := St.lendPt s (i := 2) rfl rfl rp52982 pt54607 (q54605) hy54791
                  have k54789 := Kp.shut (I := I54768) (w := w54764) (p := .sl (.slice (some ⟨b52972, 0, none⟩) 256 256) 49 1 256 cl52980)
                  replace s := s.shut 2 rfl
                  obtain ⟨x54793, hx54794, hf⟩ := bindS hf
                  have hc54797 := c60 (F := (.blk b54610 (.cells #[.slice (some ⟨b52972, o54599, none⟩) n54600 c54601] 23 (0, 0))) :: (.blk b52996 (.cells #[.int .i64 x52984.1.Kind, .int .i64 x52984.1.Page, .int .u64 x52984.1.Epoch, .slice A52991 x52984.1.Data.length c52992] 25 (0, 0))) :: (.blk b52955 (.cells #[.int .i64 0, .int .i64 0, .int .u64 0, .slice none 0 0] 25 (0, 0))) :: (.blk b51015 (.cells #[.int .i64 0, .int .i64 0, .int .u64 0, .slice none 0 0] 25 (0, 0))) :: (.blk b46883 (.cells #[.int .i64 x46871, .int .i64 x46872, .int .u64 x46873, .slice A46875 x46874.length c46876] 25 (0, 0))) :: (.sl (.slice (some ⟨b52965, 0, none⟩) n44989 c44990) 5 1 n44989 cl44991) :: F) x54762 y54790 (some ⟨b52972, o54599, none⟩) c54601 hc54787 e54788 (eg0.st k54789) s hx54794
                  rw [← hm54792] at hc54797
                  refine RW.op (by kernel_rfl) (OK.call' en60 (by kernel_rfl) (hc54797) ?_)
                  intro X54798 hX54799
                  refine fun _ _ hJ => hJ X54798 ?_
                  intro I54800 w54795 s k54796
                  refine hX54799 _ _ ?_
                  have s' := St.back sa54786 (i := 2) rfl s k54796
                  replace k54796 := Kp.back sa54786 (i := 2) rfl k54796
                  replace s := s'; clear s'
                  obtain ⟨I54802, s, k54796⟩ : ∃ I : Nat → Prop, St w0 M I ((.sl (.slice (some ⟨b52972, 0, none⟩) 256 256) 49 1 256 cl52980) :: (.blk b54610 (.cells #[.slice (some ⟨b52972, o54599, none⟩) n54600 c54601] 23 (0, 0))) :: (.blk b52996 (.cells #[.int .i64 x52984.1.Kind, .int .i64 x52984.1.Page, .int .u64 x52984.1.Epoch, .slice A52991 x52984.1.Data.length c52992] 25 (0, 0))) :: (.blk b52955 (.cells #[.int .i64 0, .int .i64 0, .int .u64 0, .slice none 0 0] 25 (0, 0))) :: (.blk b51015 (.cells #[.int .i64 0, .int .i64 0, .int .u64 0, .slice none 0 0] 25 (0, 0))) :: (.blk b46883 (.cells #[.int .i64 x46871, .int .i64 x46872, .int .u64 x46873, .slice A46875 x46874.length c46876] 25 (0, 0))) :: (.sl (.slice (some ⟨b52965, 0, none⟩) n44989 c44990) 5 1 n44989 cl44991) :: F) w54795 ∧ Kp _ _ I _ := ⟨_, s, k54796⟩
                  replace e44915 := e44915.st k54796
                  replace e44919 := e44919.st k54796
                  replace e52994 := e52994.st k54796
                  replace e46878 := e46878.st k54796
                  replace rp44993 := rp44993.st k54796
                  replace eg0 := eg0.st k54796
                  replace rp52982 := rp52982.st k54796
                  replace kk := kk.trans k54796
                  refine RW.seg hT 1 [] [] [.int .u32 x54793] [] (by kernel_rfl) (trivial) ?_
                  refine RW.nil ?_
                  refine WPK.region ?_
                  refine RW.seg hT 2 [] [] [.int .i64 1, .int .i64 1] [] (by kernel_rfl) (trivial) ?_
                  refine RW.nil ?_
                  refine Rounds.go ?_
                  refine WPK.seq ?_
                  refine WPK.region ?_
                  refine RW.seg hT 1 [] [] [.bool false] [] (by kernel_rfl) (trivial) ?_
                  refine RW.nil ?_
                  refine WPK.seq ?_
                  refine WPK.condF (by kernel_rfl) ?_
                  refine WPK.exit (blockQ.same ?_)
                  refine WPK.seq ?_
                  refine WPK.region ?_
                  refine RW.seg hT 1 [] [] [.int .u32 x54793] [] (by kernel_rfl) (trivial) ?_
                  obtain ⟨x54803, hx54804, hf⟩ := bindS hf
                  refine RW.op (by kernel_rfl) (OK.call' en61 (by kernel_rfl) (c61 (F := (.sl (.slice (some ⟨b52972, 0, none⟩) 256 256) 49 1 256 cl52980) :: (.blk b54610 (.cells #[.slice (some ⟨b52972, o54599, none⟩) n54600 c54601] 23 (0, 0))) :: (.blk b52996 (.cells #[.int .i64 x52984.1.Kind, .int .i64 x52984.1.Page, .int .u64 x52984.1.Epoch, .slice A52991 x52984.1.Data.length c52992] 25 (0, 0))) :: (.blk b52955 (.cells #[.int .i64 0, .int .i64 0, .int .u64 0, .slice none 0 0] 25 (0, 0))) :: (.blk b51015 (.cells #[.int .i64 0, .int .i64 0, .int .u64 0, .slice none 0 0] 25 (0, 0))) :: (.blk b46883 (.cells #[.int .i64 x46871, .int .i64 x46872, .int .u64 x46873, .slice A46875 x46874.length c46876] 25 (0, 0))) :: (.sl (.slice (some ⟨b52965, 0, none⟩) n44989 c44990) 5 1 n44989 cl44991) :: F) x54793 s hx54804) ?_)
                  intro X54807 hX54808
                  refine fun _ _ hJ => hJ X54807 ?_
                  intro I54809 w54805 s k54806
                  refine hX54808 _ _ ?_
                  replace e44915 := e44915.st k54806
                  replace e44919 := e44919.st k54806
                  replace e52994 := e52994.st k54806
                  replace e46878 := e46878.st k54806
                  replace rp52982 := rp52982.st k54806
                  replace rp44993 := rp44993.st k54806
                  replace eg0 := eg0.st k54806
                  replace kk := kk.trans k54806
                  refine RW.seg hT 1 [] [] [.int .u32 x54803] [] (by kernel_rfl) (trivial) ?_
                  refine RW.nil ?_
                  refine WPK.ret (?_)
                  refine Fin.of (rs := [.tmp 4]) hT [] (.int .u32 x54803) [] rfl (by kernel_rfl) (trivial) ?_
                  refine hR54713 _ _ ?_
                  refine RW.seg hT 1 [] [] [.int .u32 x54803] [] (by kernel_rfl) (trivial) ?_
                  refine RW.nil ?_
                  refine WPK.ret (?_)
                  refine Fin.of (rs := [.tmp 2]) hT [] (.int .u32 x54803) [] rfl (by kernel_rfl) (trivial) ?_
                  refine hR54613 _ _ ?_
                  refine RW.seg hT 1 [] [] [.int .u32 x54803] [] (by kernel_rfl) (trivial) ?_
                  refine RW.nil ?_
                  refine WPK.ret (?_)
                  refine Fin.of (rs := [.tmp 2]) hT [] (.int .u32 x54803) [] rfl (by kernel_rfl) (trivial) ?_
                  refine hR54387 _ _ ?_
                  refine RW.seg hT 3 [] [(28, .bool (decide (x52984.2 ≠ x54803)))] [.bool (decide (x52984.2 ≠ x54803)), .bool (decide (x52984.2 ≠ x54803)), .bool (decide (x52984.2 ≠ x54803))] [.veq (.bool (x52984.2 != x54803)) (.bool (decide (x52984.2 ≠ x54803)))] (by kernel_rfl) (ne_v) ?_
                  refine RW.nil ?_
                  replace s := s.pick [2, 0, 3, 4, 5, 6] 7 rfl
                  exact fun X h => kc (by kernel_rfl) rfl (h I54809 (decide (x52984.2 ≠ x54803)) [.slice (some ⟨b52965, 0, none⟩) n44989 c44990, undef, undef, .int .u32 x52984.2, .slice (some ⟨b52965, 0, none⟩) n44989 c44990, .int .i64 (x44981.length : Int), .bool (decide ((x44981.length : Int) ≠ 256)), undef, .slice (some ⟨b52965, 0, none⟩) n44989 c44990, .pointer (some ⟨b52965, 0, none⟩), .agg (List.map (Value.int .u8) (List.take 256 y52967)).toArray, .tuple #[.agg #[.int .i64 x52984.1.Kind, .int .i64 x52984.1.Page, .int .u64 x52984.1.Epoch, .slice A52991 x52984.1.Data.length c52992], .int .u32 x52984.2], .agg (List.map (Value.int .u8) (List.take 256 y52967)).toArray, .tuple #[.agg #[.int .i64 x52984.1.Kind, .int .i64 x52984.1.Page, .int .u64 x52984.1.Epoch, .slice A52991 x52984.1.Data.length c52992], .int .u32 x52984.2], .agg #[.int .i64 x52984.1.Kind, .int .i64 x52984.1.Page, .int .u64 x52984.1.Epoch, .slice A52991 x52984.1.Data.length c52992], .int .u32 x52984.2, .agg (List.map (Value.int .u8) (List.take 256 y52967)).toArray, .agg (List.map (Value.int .u8) (List.replicate 256 (0 : Int))).toArray, .bool (decide ((List.take 256 y52967) = (List.replicate 256 (0 : Int)))), .bool false, .int .u32 x52984.2, .int .u32 x54803, .bool (decide (x52984.2 ≠ x54803)), .bool (decide (x52984.2 ≠ x54803)), undef] _ hf s kk e52994 e46878 rp52982 rp44993 e44915 e44919 eg0)
      · refine Ret.of Tryd.func8 rfl ?_
        refine WPK.seq ?_
        refine WPK.region ?_
        refine RW.op (by kernel_rfl) (OK.new hT (f := fun b => .pointer (some ⟨b, 0, none⟩)) (cs := [.int .i64 0, .int .i64 0, .int .u64 0, .slice none 0 0]) (e := 25) (c := .tt) s (by kernel_rfl) trivial ?_)
        rintro w54810 b54811 s k54812 -
        replace e44915 := e44915.st k54812
        replace e44919 := e44919.st k54812
        replace rp44993 := rp44993.st k54812
        replace eg0 := eg0.st k54812
        replace kk := kk.trans k54812
        refine RW.seg hT 1 [] [] [.int .i64 0] [] (by kernel_rfl) (trivial) ?_
        refine RW.nil ?_
        refine WPK.seq ?_
        refine WPK.seq ?_
        refine WPK.region ?_
        refine RW.seg hT 3 [] [(10, .int .i64 (x44981.length : Int)), (11, .bool (decide ((x44981.length : Int) ≠ 256)))] [.slice A44988 n44989 c44990, .int .i64 (x44981.length : Int), .bool (decide ((x44981.length : Int) ≠ 256))] [.veq (.int .i64 (n44989 : Nat)) (.int .i64 (x44981.length : Int)), .veq (.bool ((x44981.length : Int) != 256)) (.bool (decide ((x44981.length : Int) ≠ 256)))] (by kernel_rfl) (⟨len_v hn44992, ne_v⟩) ?_
        refine RW.nil ?_
        by_cases h54816 : (x44981.length : Int) ≠ 256
        · have hf := iteT h54816 hf
          refine WPK.condT (Eq.trans (b := .bool (decide ((x44981.length : Int) ≠ 256))) (by kernel_rfl) (bo_t h54816)) ?_
          refine WPK.seq ?_
          refine WPK.region ?_
          refine RW.seg hT 1 [] [] [.agg #[.int .i64 0, .int .i64 0, .int .u64 0, .slice none 0 0]] [] (by kernel_rfl) (trivial) ?_
          refine RW.op (by kernel_rfl) (OK.store hT (i := 0) (b := b54811) (off := 0) (n := 4) (vs := [.int .i64 0, .int .i64 0, .int .u64 0, .slice none 0 0]) (cs := [.int .i64 0, .int .i64 0, .int .u64 0, .slice none 0 0]) (e := 25) s (by kernel_rfl) rfl rfl (flat_ok rfl) (Nat.le_of_ble_eq_true rfl) ?_)
          rintro w54817 s k54818 -
          replace e44915 := e44915.st k54818
          replace e44919 := e44919.st k54818
          replace rp44993 := rp44993.st k54818
          replace eg0 := eg0.st k54818
          replace kk := kk.trans k54818
          refine RW.seg hT 1 [] [] [.int .i64 1] [] (by kernel_rfl) (trivial) ?_
          refine RW.nil ?_
          refine WPK.ret (?_)
          refine Fin.of (rs := [.cell 4 25, .tmp 5]) hT [.agg #[.int .i64 0, .int .i64 0, .int .u64 0, .slice none 0 0]] (.tuple #[.agg #[.int .i64 0, .int .i64 0, .int .u64 0, .slice none 0 0], .int .i64 1]) [.cells ⟨b54811, 0, none⟩ [.int .i64 0, .int .i64 0, .int .u64 0, .slice none 0 0] 4] rfl (by kernel_rfl) (s.cells (i := 0) rfl rfl rfl) ?_
          replace s := s.pick [1] 2 rfl
          exact fun X h => vc rfl (h I44987 0 0 0 [] 1 none 0 _ hf s kk e44915 e44919 nil_hc Elems.nil rp44993 eg0)
        · have hf := iteF h54816 hf
          refine WPK.condF (Eq.trans (b := .bool (decide ((x44981.length : Int) ≠ 256))) (by kernel_rfl) (bo_f h54816)) ?_
          refine WPK.skip ?_
          refine WPK.seq ?_
          refine WPK.region ?_
          refine RW.seg hT 1 [] [] [.slice A44988 n44989 c44990] [] (by kernel_rfl) (trivial) ?_
          obtain ⟨h54820, hf⟩ := iteS hf
          obtain ⟨b54821, rfl⟩ := row_addr (s.at (i := 1) rfl) (by have hnn := hn44992; omega)
          have pt54822 := Pt.whole (size := 1) (row_hc (s.at (i := 1) rfl)).1
          obtain ⟨y54823, hy54824, hf⟩ := bindS hf
          rw [← hn44992] at hy54824
          obtain ⟨h54819, hf⟩ := iteS hf
          have h54825 : 256 ≤ n44989 := by have e1 := (cutS hy54824).2.2; have e2 := (pt54822).len; omega
          refine RW.op (by kernel_rfl) (OK.head hT (t := 49) (N := 256) (e := 5) (A := (some ⟨b54821, 0, none⟩)) (n := n44989) (c := c44990) (by kernel_rfl) rfl rfl h54825 ?_)
          have hl54826 : 256 = ((List.take 256 y54823)).length := by rw [List.length_take]; omega
          refine RW.seg hT 1 [.agg (List.map (Value.int .u8) (List.take 256 y54823)).toArray] [] [.agg (List.map (Value.int .u8) (List.take 256 y54823)).toArray] [.cells ⟨b54821, 0, none⟩ (List.map (Value.int .u8) (List.take 256 y54823)) 256] (by kernel_rfl) (St.arrPt s (i := 1) rfl rfl rp44993 pt54822 hy54824 h54819 (by decide)) ?_
          refine RW.op (by kernel_rfl) (OK.new hT (f := fun b => .pointer (some ⟨b, 0, none⟩)) (cs := (List.replicate 256 (Value.int .u8 0))) (e := 49) (c := .tt) s (by kernel_rfl) trivial ?_)
          rintro w54827 b54828 s k54829 -
          have hn54833 : 256 = ((List.replicate 256 (0 : Int))).length := by simp
          obtain ⟨cl54830, hcl54831⟩ : ∃ q, q = (List.replicate 256 (Value.int .u8 0)) := ⟨_, rfl⟩
          replace s := s.blkSl (i := 0) (n := 256) (c := 256) (size := 1) rfl (by simp) (Nat.le_refl _) (by decide)
          rw [List.take_of_length_le (by simp), ← hcl54831] at s
          replace e44915 := e44915.st k54829
          replace e44919 := e44919.st k54829
          replace rp44993 := rp44993.st k54829
          replace eg0 := eg0.st k54829
          replace kk := kk.trans k54829
          have rp54832 : RepL (Rp.int .u8) I44987 w54827 cl54830 (List.replicate 256 (0 : Int)) := by rw [hcl54831]; exact RepL.rep rfl _
          obtain ⟨cl54836, hcl54837⟩ : ∃ q, q = List.map (Value.int .u8) (List.take 256 y54823) := ⟨_, rfl⟩
          have rp54838 : RepL (Rp.int .u8) I44987 w54827 cl54836 (List.take 256 y54823) := by rw [hcl54837]; exact repl_map
          have hn54839 := hl54826
          refine RW.op (by kernel_rfl) (OK.storeAt hT (i := 0) (b := b54828) (off := 0) (m := 256) (vs := (List.map (Value.int .u8) (List.take 256 y54823))) (c := 256) (e := 49) (size := 1) (n := 256) (cl := cl54830) (cl' := cl54836) s (by kernel_rfl) rfl (by rw [List.length_map]; exact (hl54826).symm) (RepL.flat flat_int (repl_map (I := I44987) (w := w54827))) (by have h1 := RepL.length rp54832; have h2 := (hn54833).symm.trans hl54826; have h3 : (Rp.int .u8).n = 1 := rfl; rw [h3] at h1; simp only [List.length_map]; omega) (by rw [hcl54837]; have h1 := RepL.length rp54832; have h3 : (Rp.int .u8).n = 1 := rfl; rw [h3, Nat.mul_one, ← hn54833] at h1; exact setL_all (by rw [List.length_map, h1]; exact (hl54826).symm)) ?_)
          rintro w54834 s k54835
          replace e44915 := e44915.st k54835
          replace e44919 := e44919.st k54835
          replace rp54838 := rp54838.st k54835
          replace rp44993 := rp44993.st k54835
          replace eg0 := eg0.st k54835
          replace kk := kk.trans k54835
          refine RW.nil ?_
          refine WPK.seq ?_
          refine WPK.region ?_
          refine RW.seg hT 1 [.agg (List.map (Value.int .u8) (List.take 256 y54823)).toArray] [] [.agg (List.map (Value.int .u8) (List.take 256 y54823)).toArray] [.cells ⟨b54828, 0, none⟩ (List.map (Value.int .u8) (List.take 256 y54823)) 256] (by kernel_rfl) (St.arr s (i := 0) rfl rp54838 hn54839) ?_
          obtain ⟨x54840, hx54841, hf⟩ := bindS hf
          refine RW.op (by kernel_rfl) (OK.call' en25 (by kernel_rfl) (c25 (F := (.sl (.slice (some ⟨b54828, 0, none⟩) 256 256) 49 1 256 cl54836) :: (.blk b54811 (.cells #[.int .i64 0, .int .i64 0, .int .u64 0, .slice none 0 0] 25 (0, 0))) :: (.sl (.slice (some ⟨b54821, 0, none⟩) n44989 c44990) 5 1 n44989 cl44991) :: F) (List.take 256 y54823) hn54839 s hx54841) ?_)
          intro X54844 hX54845
          refine fun _ _ hJ => hJ X54844 ?_
          intro I54846 A54847 c54848 w54842 s k54843 hc54849 e54850
          refine hX54845 _ _ ?_
          replace e44915 := e44915.st k54843
          replace e44919 := e44919.st k54843
          replace rp54838 := rp54838.st k54843
          replace rp44993 := rp44993.st k54843
          replace eg0 := eg0.st k54843
          replace kk := kk.trans k54843
          refine RW.seg hT 3 [] [] [.tuple #[.agg #[.int .i64 x54840.1.Kind, .int .i64 x54840.1.Page, .int .u64 x54840.1.Epoch, .slice A54847 x54840.1.Data.length c54848], .int .u32 x54840.2], .agg #[.int .i64 x54840.1.Kind, .int .i64 x54840.1.Page, .int .u64 x54840.1.Epoch, .slice A54847 x54840.1.Data.length c54848], .int .u32 x54840.2] [] (by kernel_rfl) (trivial) ?_
          refine RW.op (by kernel_rfl) (OK.new hT (f := fun b => .pointer (some ⟨b, 0, none⟩)) (cs := [.int .i64 0, .int .i64 0, .int .u64 0, .slice none 0 0]) (e := 25) (c := .tt) s (by kernel_rfl) trivial ?_)
          rintro w54851 b54852 s k54853 -
          replace e54850 := e54850.st k54853
          replace e44915 := e44915.st k54853
          replace e44919 := e44919.st k54853
          replace rp54838 := rp54838.st k54853
          replace rp44993 := rp44993.st k54853
          replace eg0 := eg0.st k54853
          replace kk := kk.trans k54853
          refine RW.op (by kernel_rfl) (OK.store hT (i := 0) (b := b54852) (off := 0) (n := 4) (vs := [.int .i64 x54840.1.Kind, .int .i64 x54840.1.Page, .int .u64 x54840.1.Epoch, .slice A54847 x54840.1.Data.length c54848]) (cs := [.int .i64 0, .int .i64 0, .int .u64 0, .slice none 0 0]) (e := 25) s (by kernel_rfl) rfl rfl (flat_ok rfl) (Nat.le_of_ble_eq_true rfl) ?_)
          rintro w54854 s k54855 -
          replace e54850 := e54850.st k54855
          replace e44915 := e44915.st k54855
          replace e44919 := e44919.st k54855
          replace rp54838 := rp54838.st k54855
          replace rp44993 := rp44993.st k54855
          replace eg0 := eg0.st k54855
          replace kk := kk.trans k54855
          refine RW.seg hT 1 [] [] [.int .u32 x54840.2] [] (by kernel_rfl) (trivial) ?_
          refine RW.nil ?_
          refine WPK.seq ?_
          refine WPK.block ?_
          refine WPK.seq ?_
          refine WPK.cut' (Kn fun E ds wz => ∀ X : Kont, (∀ (I56187 : Nat → Prop) (x56185 : Bool) (D56184 : List Value) (w' : World), g5_j11 p0 p1 p2 p3 x44981 y54823 x54840 x56185 = some r → St w0 M I56187 ((.blk b54852 (.cells #[.int .i64 x54840.1.Kind, .int .i64 x54840.1.Page, .int .u64 x54840.1.Epoch, .slice A54847 x54840.1.Data.length c54848] 25 (0, 0))) :: (.sl (.slice (some ⟨b54828, 0, none⟩) 256 256) 49 1 256 cl54836) :: (.blk b54811 (.cells #[.int .i64 0, .int .i64 0, .int .u64 0, .slice none 0 0] 25 (0, 0))) :: (.sl (.slice (some ⟨b54821, 0, none⟩) n44989 c44990) 5 1 n44989 cl44991) :: F) w' → Kp I w I56187 w' → Elems (Rp.int .u8) I56187 w' A54847 x54840.1.Data → RepL (Rp.int .u8) I56187 w' cl54836 (List.take 256 y54823) → RepL (Rp.int .u8) I56187 w' cl44991 x44981 → Elems (Rp.int .u8) I56187 w' A44912 p0 → Elems (Rp.int .i64) I56187 w' A44916 p2 → Elems (Rp.int .u32) I56187 w' (some ⟨0, 0, none⟩) TAB0 → X [(D56184.getD 0 undef), .int .i64 p1, (D56184.getD 1 undef), (D56184.getD 2 undef), .pointer (some ⟨b54811, 0, none⟩), .int .i64 0, .pointer (some ⟨b54828, 0, none⟩), .pointer (some ⟨b54852, 0, none⟩), (D56184.getD 3 undef), (D56184.getD 4 undef), (D56184.getD 5 undef), (D56184.getD 6 undef), (D56184.getD 7 undef), (D56184.getD 8 undef), (D56184.getD 9 undef), (D56184.getD 10 undef), (D56184.getD 11 undef), (D56184.getD 12 undef), (D56184.getD 13 undef), (D56184.getD 14 undef), (D56184.getD 15 undef), .bool x56185, (D56184.getD 16 undef), (D56184.getD 17 undef), (D56184.getD 18 undef), (D56184.getD 19 undef), (D56184.getD 20 undef), (D56184.getD 21 undef), (D56184.getD 22 undef), (D56184.getD 23 undef), undef, undef, undef, (D56184.getD 24 undef), undef, undef, undef, undef, undef, undef, undef, undef, undef, undef, undef, undef, undef, undef, undef, undef, undef, undef, undef, undef] [] w') → X E ds wz) ?_ ?_
          · intro X56239 hX56240
            refine fun _ _ _ hJ => hJ X56239 ?_
            intro I56187 x56185 D56184 w56186 hf s kk e54850 rp54838 rp44993 e44915 e44919 eg0
            refine hX56240 _ _ _ ?_
            unfold g5_j11 at hf
            by_cases h56188 : x56185 = true
            · have hf := iteT h56188 hf
              refine WPK.condT (Eq.trans (b := .bool x56185) (by kernel_rfl) (b_t h56188)) ?_
              refine WPK.seq ?_
              refine WPK.region ?_
              refine RW.seg hT 1 [] [] [.agg #[.int .i64 0, .int .i64 0, .int .u64 0, .slice none 0 0]] [] (by kernel_rfl) (trivial) ?_
              refine RW.op (by kernel_rfl) (OK.store hT (i := 2) (b := b54811) (off := 0) (n := 4) (vs := [.int .i64 0, .int .i64 0, .int .u64 0, .slice none 0 0]) (cs := [.int .i64 0, .int .i64 0, .int .u64 0, .slice none 0 0]) (e := 25) s (by kernel_rfl) rfl rfl (flat_ok rfl) (Nat.le_of_ble_eq_true rfl) ?_)
              rintro w56189 s k56190 -
              replace e44915 := e44915.st k56190
              replace e44919 := e44919.st k56190
              replace e54850 := e54850.st k56190
              replace rp54838 := rp54838.st k56190
              replace rp44993 := rp44993.st k56190
              replace eg0 := eg0.st k56190
              replace kk := kk.trans k56190
              refine RW.seg hT 1 [] [] [.int .i64 40] [] (by kernel_rfl) (trivial) ?_
              refine RW.nil ?_
              refine WPK.ret (blockQ.ret (?_))
              refine Fin.of (rs := [.cell 4 25, .tmp 5]) hT [.agg #[.int .i64 0, .int .i64 0, .int .u64 0, .slice none 0 0]] (.tuple #[.agg #[.int .i64 0, .int .i64 0, .int .u64 0, .slice none 0 0], .int .i64 40]) [.cells ⟨b54811, 0, none⟩ [.int .i64 0, .int .i64 0, .int .u64 0, .slice none 0 0] 4] rfl (by kernel_rfl) (s.cells (i := 2) rfl rfl rfl) ?_
              replace s := s.pick [3] 4 rfl
              exact fun X h => vc rfl (h I56187 0 0 0 [] 40 none 0 _ hf s kk e44915 e44919 nil_hc Elems.nil rp44993 eg0)
            · have hf := iteF h56188 hf
              refine WPK.condF (Eq.trans (b := .bool x56185) (by kernel_rfl) (b_f h56188)) ?_
              refine WPK.seq ?_
              refine WPK.cut' (Kn fun E ds wz => ∀ X : Kont, (∀ (I56208 : Nat → Prop) (x56206 : Bool) (D56205 : List Value) (w' : World), g5_j12 p0 p1 p2 p3 x44981 x54840 x56206 = some r → St w0 M I56208 ((.blk b54852 (.cells #[.int .i64 x54840.1.Kind, .int .i64 x54840.1.Page, .int .u64 x54840.1.Epoch, .slice A54847 x54840.1.Data.length c54848] 25 (0, 0))) :: (.blk b54811 (.cells #[.int .i64 0, .int .i64 0, .int .u64 0, .slice none 0 0] 25 (0, 0))) :: (.sl (.slice (some ⟨b54821, 0, none⟩) n44989 c44990) 5 1 n44989 cl44991) :: F) w' → Kp I w I56208 w' → Elems (Rp.int .u8) I56208 w' A54847 x54840.1.Data → RepL (Rp.int .u8) I56208 w' cl44991 x44981 → Elems (Rp.int .u8) I56208 w' A44912 p0 → Elems (Rp.int .i64) I56208 w' A44916 p2 → Elems (Rp.int .u32) I56208 w' (some ⟨0, 0, none⟩) TAB0 → X [(D56205.getD 0 undef), .int .i64 p1, (D56205.getD 1 undef), (D56205.getD 2 undef), .pointer (some ⟨b54811, 0, none⟩), .int .i64 0, (D56205.getD 3 undef), .pointer (some ⟨b54852, 0, none⟩), (D56205.getD 4 undef), (D56205.getD 5 undef), (D56205.getD 6 undef), (D56205.getD 7 undef), (D56205.getD 8 undef), (D56205.getD 9 undef), (D56205.getD 10 undef), (D56205.getD 11 undef), (D56205.getD 12 undef), (D56205.getD 13 undef), (D56205.getD 14 undef), (D56205.getD 15 undef), (D56205.getD 16 undef), (D56205.getD 17 undef), (D56205.getD 18 undef), (D56205.getD 19 undef), (D56205.getD 20 undef), (D56205.getD 21 undef), (D56205.getD 22 undef), (D56205.getD 23 undef), (D56205.getD 24 undef), (D56205.getD 25 undef), (D56205.getD 26 undef), .bool x56206, (D56205.getD 27 undef), (D56205.getD 28 undef), (D56205.getD 29 undef), (D56205.getD 30 undef), (D56205.getD 31 undef), (D56205.getD 32 undef), (D56205.getD 33 undef), (D56205.getD 34 undef), (D56205.getD 35 undef), undef, undef, undef, undef, undef, undef, undef, undef, undef, undef, undef, undef, undef] [] w') → X E ds wz) ?_ ?_
              · intro X56223 hX56224
                refine fun _ _ _ hJ => hJ X56223 ?_
                intro I56208 x56206 D56205 w56207 hf s kk e54850 rp44993 e44915 e44919 eg0
                refine hX56224 _ _ _ ?_
                unfold g5_j12 at hf
                by_cases h56209 : x56206 = true
                · have hf := iteT h56209 hf
                  refine WPK.condT (Eq.trans (b := .bool x56206) (by kernel_rfl) (b_t h56209)) ?_
                  refine WPK.seq ?_
                  refine WPK.region ?_
                  refine RW.seg hT 1 [] [] [.agg #[.int .i64 0, .int .i64 0, .int .u64 0, .slice none 0 0]] [] (by kernel_rfl) (trivial) ?_
                  refine RW.op (by kernel_rfl) (OK.store hT (i := 1) (b := b54811) (off := 0) (n := 4) (vs := [.int .i64 0, .int .i64 0, .int .u64 0, .slice none 0 0]) (cs := [.int .i64 0, .int .i64 0, .int .u64 0, .slice none 0 0]) (e := 25) s (by kernel_rfl) rfl rfl (flat_ok rfl) (Nat.le_of_ble_eq_true rfl) ?_)
                  rintro w56210 s k56211 -
                  replace e44915 := e44915.st k56211
                  replace e44919 := e44919.st k56211
                  replace e54850 := e54850.st k56211
                  replace rp44993 := rp44993.st k56211
                  replace eg0 := eg0.st k56211
                  replace kk := kk.trans k56211
                  refine RW.seg hT 1 [] [] [.int .i64 42] [] (by kernel_rfl) (trivial) ?_
                  refine RW.nil ?_
                  refine WPK.ret (blockQ.ret (?_))
                  refine Fin.of (rs := [.cell 4 25, .tmp 5]) hT [.agg #[.int .i64 0, .int .i64 0, .int .u64 0, .slice none 0 0]] (.tuple #[.agg #[.int .i64 0, .int .i64 0, .int .u64 0, .slice none 0 0], .int .i64 42]) [.cells ⟨b54811, 0, none⟩ [.int .i64 0, .int .i64 0, .int .u64 0, .slice none 0 0] 4] rfl (by kernel_rfl) (s.cells (i := 1) rfl rfl rfl) ?_
                  replace s := s.pick [2] 3 rfl
                  exact fun X h => vc rfl (h I56208 0 0 0 [] 42 none 0 _ hf s kk e44915 e44919 nil_hc Elems.nil rp44993 eg0)
                · have hf := iteF h56209 hf
                  refine WPK.condF (Eq.trans (b := .bool x56206) (by kernel_rfl) (b_f h56209)) ?_
                  refine WPK.seq ?_
                  refine WPK.cut' (Kn fun E ds wz => ∀ X : Kont, (∀ (x56214 : Bool) (D56213 : List Value), g5_j13 p0 p1 p2 p3 x44981 x54840 x56214 = some r → X [(D56213.getD 0 undef), (D56213.getD 1 undef), (D56213.getD 2 undef), (D56213.getD 3 undef), .pointer (some ⟨b54811, 0, none⟩), .int .i64 0, (D56213.getD 4 undef), .pointer (some ⟨b54852, 0, none⟩), (D56213.getD 5 undef), (D56213.getD 6 undef), (D56213.getD 7 undef), (D56213.getD 8 undef), (D56213.getD 9 undef), (D56213.getD 10 undef), (D56213.getD 11 undef), (D56213.getD 12 undef), (D56213.getD 13 undef), (D56213.getD 14 undef), (D56213.getD 15 undef), (D56213.getD 16 undef), (D56213.getD 17 undef), (D56213.getD 18 undef), (D56213.getD 19 undef), (D56213.getD 20 undef), (D56213.getD 21 undef), (D56213.getD 22 undef), (D56213.getD 23 undef), (D56213.getD 24 undef), (D56213.getD 25 undef), (D56213.getD 26 undef), (D56213.getD 27 undef), (D56213.getD 28 undef), (D56213.getD 29 undef), (D56213.getD 30 undef), (D56213.getD 31 undef), (D56213.getD 32 undef), (D56213.getD 33 undef), (D56213.getD 34 undef), (D56213.getD 35 undef), (D56213.getD 36 undef), (D56213.getD 37 undef), (D56213.getD 38 undef), .bool x56214, (D56213.getD 39 undef), (D56213.getD 40 undef), (D56213.getD 41 undef), (D56213.getD 42 undef), (D56213.getD 43 undef), (D56213.getD 44 undef), (D56213.getD 45 undef), (D56213.getD 46 undef), (D56213.getD 47 undef), undef, undef] [] w56207) → X E ds wz) ?_ ?_
                  · intro X56220 hX56221
                    refine fun _ _ _ hJ => hJ X56220 ?_
                    intro x56214 D56213 hf
                    refine hX56221 _ _ _ ?_
                    unfold g5_j13 at hf
                    by_cases h56215 : x56214 = true
                    · have hf := iteT h56215 hf
                      refine WPK.condT (Eq.trans (b := .bool x56214) (by kernel_rfl) (b_t h56215)) ?_
                      refine WPK.seq ?_
                      refine WPK.region ?_
                      refine RW.seg hT 1 [] [] [.agg #[.int .i64 0, .int .i64 0, .int .u64 0, .slice none 0 0]] [] (by kernel_rfl) (trivial) ?_
                      refine RW.op (by kernel_rfl) (OK.store hT (i := 1) (b := b54811) (off := 0) (n := 4) (vs := [.int .i64 0, .int .i64 0, .int .u64 0, .slice none 0 0]) (cs := [.int .i64 0, .int .i64 0, .int .u64 0, .slice none 0 0]) (e := 25) s (by kernel_rfl) rfl rfl (flat_ok rfl) (Nat.le_of_ble_eq_true rfl) ?_)
                      rintro w56216 s k56217 -
                      replace e44915 := e44915.st k56217
                      replace e44919 := e44919.st k56217
                      replace e54850 := e54850.st k56217
                      replace rp44993 := rp44993.st k56217
                      replace eg0 := eg0.st k56217
                      replace kk := kk.trans k56217
                      refine RW.seg hT 1 [] [] [.int .i64 41] [] (by kernel_rfl) (trivial) ?_
                      refine RW.nil ?_
                      refine WPK.ret (blockQ.ret (?_))
                      refine Fin.of (rs := [.cell 4 25, .tmp 5]) hT [.agg #[.int .i64 0, .int .i64 0, .int .u64 0, .slice none 0 0]] (.tuple #[.agg #[.int .i64 0, .int .i64 0, .int .u64 0, .slice none 0 0], .int .i64 41]) [.cells ⟨b54811, 0, none⟩ [.int .i64 0, .int .i64 0, .int .u64 0, .slice none 0 0] 4] rfl (by kernel_rfl) (s.cells (i := 1) rfl rfl rfl) ?_
                      replace s := s.pick [2] 3 rfl
                      exact fun X h => vc rfl (h I56208 0 0 0 [] 41 none 0 _ hf s kk e44915 e44919 nil_hc Elems.nil rp44993 eg0)
                    · have hf := iteF h56215 hf
                      refine WPK.condF (Eq.trans (b := .bool x56214) (by kernel_rfl) (b_f h56215)) ?_
                      refine WPK.skip ?_
                      refine WPK.seq ?_
                      refine WPK.region ?_
                      refine RW.seg hT 1 [.agg #[.int .i64 x54840.1.Kind, .int .i64 x54840.1.Page, .int .u64 x54840.1.Epoch, .slice A54847 x54840.1.Data.length c54848]] [] [.agg #[.int .i64 x54840.1.Kind, .int .i64 x54840.1.Page, .int .u64 x54840.1.Epoch, .slice A54847 x54840.1.Data.length c54848]] [.cells ⟨b54852, 0, none⟩ [.int .i64 x54840.1.Kind, .int .i64 x54840.1.Page, .int .u64 x54840.1.Epoch, .slice A54847 x54840.1.Data.length c54848] 4] (by kernel_rfl) (s.cells (i := 0) rfl rfl rfl) ?_
                      refine RW.op (by kernel_rfl) (OK.store hT (i := 1) (b := b54811) (off := 0) (n := 4) (vs := [.int .i64 x54840.1.Kind, .int .i64 x54840.1.Page, .int .u64 x54840.1.Epoch, .slice A54847 x54840.1.Data.length c54848]) (cs := [.int .i64 0, .int .i64 0, .int .u64 0, .slice none 0 0]) (e := 25) s (by kernel_rfl) rfl rfl (flat_ok rfl) (Nat.le_of_ble_eq_true rfl) ?_)
                      rintro w56218 s k56219 -
                      replace e54850 := e54850.st k56219
                      replace e44915 := e44915.st k56219
                      replace e44919 := e44919.st k56219
                      replace rp44993 := rp44993.st k56219
                      replace eg0 := eg0.st k56219
                      replace kk := kk.trans k56219
                      refine RW.seg hT 1 [] [] [.int .i64 0] [] (by kernel_rfl) (trivial) ?_
                      refine RW.nil ?_
                      refine WPK.ret (?_)
                      refine Fin.of (rs := [.cell 4 25, .tmp 5]) hT [.agg #[.int .i64 x54840.1.Kind, .int .i64 x54840.1.Page, .int .u64 x54840.1.Epoch, .slice A54847 x54840.1.Data.length c54848]] (.tuple #[.agg #[.int .i64 x54840.1.Kind, .int .i64 x54840.1.Page, .int .u64 x54840.1.Epoch, .slice A54847 x54840.1.Data.length c54848], .int .i64 0]) [.cells ⟨b54811, 0, none⟩ [.int .i64 x54840.1.Kind, .int .i64 x54840.1.Page, .int .u64 x54840.1.Epoch, .slice A54847 x54840.1.Data.length c54848] 4] rfl (by kernel_rfl) (s.cells (i := 1) rfl rfl rfl) ?_
                      replace s := s.pick [2] 3 rfl
                      exact fun X h => vc rfl (h I56208 x54840.1.Kind x54840.1.Page x54840.1.Epoch x54840.1.Data 0 A54847 c54848 _ hf s kk e44915 e44919 hc54849 e54850 rp44993 eg0)
                  · refine WPK.region ?_
                    refine RW.seg hT 4 [.int .i64 x54840.1.Page] [(46, .bool (decide (x54840.1.Page ≠ p1)))] [.pointer (some ⟨b54852, 1, none⟩), .int .i64 x54840.1.Page, .int .i64 p1, .bool (decide (x54840.1.Page ≠ p1))] [.cell ⟨b54852, 1, none⟩ (.int .i64 x54840.1.Page), .veq (.bool (x54840.1.Page != p1)) (.bool (decide (x54840.1.Page ≠ p1)))] (by kernel_rfl) (⟨s.cell (i := 0) (off := 1) rfl rfl, ne_v⟩) ?_
                    by_cases h56222 : x54840.1.Page ≠ p1
                    · have hf := iteT h56222 hf
                      refine RW.seg hT 6 [] [(47, .bool true)] [.bool true, undef, undef, undef, .bool true, .bool true] [.veq (.bool (decide (x54840.1.Page ≠ p1))) (.bool true)] (by kernel_rfl) (bo_t h56222) ?_
                      refine RW.nil ?_
                      exact fun X h => kc (by kernel_rfl) rfl (h true [(D56205.getD 0 undef), .int .i64 p1, (D56205.getD 1 undef), (D56205.getD 2 undef), (D56205.getD 3 undef), (D56205.getD 4 undef), (D56205.getD 5 undef), (D56205.getD 6 undef), (D56205.getD 7 undef), (D56205.getD 8 undef), (D56205.getD 9 undef), (D56205.getD 10 undef), (D56205.getD 11 undef), (D56205.getD 12 undef), (D56205.getD 13 undef), (D56205.getD 14 undef), (D56205.getD 15 undef), (D56205.getD 16 undef), (D56205.getD 17 undef), (D56205.getD 18 undef), (D56205.getD 19 undef), (D56205.getD 20 undef), (D56205.getD 21 undef), (D56205.getD 22 undef), (D56205.getD 23 undef), (D56205.getD 24 undef), (D56205.getD 25 undef), (D56205.getD 26 undef), .bool x56206, (D56205.getD 27 undef), (D56205.getD 28 undef), (D56205.getD 29 undef), (D56205.getD 30 undef), (D56205.getD 31 undef), (D56205.getD 32 undef), (D56205.getD 33 undef), (D56205.getD 34 undef), (D56205.getD 35 undef), undef, .pointer (some ⟨b54852, 1, none⟩), .int .i64 x54840.1.Page, .int .i64 p1, .bool (decide (x54840.1.Page ≠ p1)), .bool true, undef, undef, undef, .bool true] hf)
                    · have hf := iteF h56222 hf
                      refine RW.seg hT 6 [.int .i64 x54840.1.Page] [(47, .bool false)] [.bool false, .pointer (some ⟨b54852, 1, none⟩), .int .i64 x54840.1.Page, .bool (decide (x54840.1.Page ≥ 2048)), .bool (decide (x54840.1.Page ≥ 2048)), .bool (decide (x54840.1.Page ≥ 2048))] [.veq (.bool (decide (x54840.1.Page ≠ p1))) (.bool false), .cell ⟨b54852, 1, none⟩ (.int .i64 x54840.1.Page)] (by kernel_rfl) (⟨bo_f h56222, s.cell (i := 0) (off := 1) rfl rfl⟩) ?_
                      refine RW.nil ?_
                      exact fun X h => kc (by kernel_rfl) rfl (h (decide (x54840.1.Page ≥ 2048)) [(D56205.getD 0 undef), .int .i64 p1, (D56205.getD 1 undef), (D56205.getD 2 undef), (D56205.getD 3 undef), (D56205.getD 4 undef), (D56205.getD 5 undef), (D56205.getD 6 undef), (D56205.getD 7 undef), (D56205.getD 8 undef), (D56205.getD 9 undef), (D56205.getD 10 undef), (D56205.getD 11 undef), (D56205.getD 12 undef), (D56205.getD 13 undef), (D56205.getD 14 undef), (D56205.getD 15 undef), (D56205.getD 16 undef), (D56205.getD 17 undef), (D56205.getD 18 undef), (D56205.getD 19 undef), (D56205.getD 20 undef), (D56205.getD 21 undef), (D56205.getD 22 undef), (D56205.getD 23 undef), (D56205.getD 24 undef), (D56205.getD 25 undef), (D56205.getD 26 undef), .bool x56206, (D56205.getD 27 undef), (D56205.getD 28 undef), (D56205.getD 29 undef), (D56205.getD 30 undef), (D56205.getD 31 undef), (D56205.getD 32 undef), (D56205.getD 33 undef), (D56205.getD 34 undef), (D56205.getD 35 undef), undef, .pointer (some ⟨b54852, 1, none⟩), .int .i64 x54840.1.Page, .int .i64 p1, .bool (decide (x54840.1.Page ≠ p1)), .bool false, .pointer (some ⟨b54852, 1, none⟩), .int .i64 x54840.1.Page, .bool (decide (x54840.1.Page ≥ 2048)), .bool (decide (x54840.1.Page ≥ 2048))] hf)
              · refine WPK.region ?_
                refine RW.seg hT 2 [.int .i64 x54840.1.Kind] [] [.pointer (some ⟨b54852, 0, none⟩), .int .i64 x54840.1.Kind] [.cell ⟨b54852, 0, none⟩ (.int .i64 x54840.1.Kind)] (by kernel_rfl) (s.cell (i := 0) (off := 0) rfl rfl) ?_
                obtain ⟨x56225, hx56226, hf⟩ := bindS hf
                refine RW.op (by kernel_rfl) (OK.call' en27 (by kernel_rfl) (c27 (F := (.blk b54852 (.cells #[.int .i64 x54840.1.Kind, .int .i64 x54840.1.Page, .int .u64 x54840.1.Epoch, .slice A54847 x54840.1.Data.length c54848] 25 (0, 0))) :: (.sl (.slice (some ⟨b54828, 0, none⟩) 256 256) 49 1 256 cl54836) :: (.blk b54811 (.cells #[.int .i64 0, .int .i64 0, .int .u64 0, .slice none 0 0] 25 (0, 0))) :: (.sl (.slice (some ⟨b54821, 0, none⟩) n44989 c44990) 5 1 n44989 cl44991) :: F) x54840.1.Kind s hx56226) ?_)
                intro X56229 hX56230
                refine fun _ _ hJ => hJ X56229 ?_
                intro I56231 w56227 s k56228
                refine hX56230 _ _ ?_
                replace e44915 := e44915.st k56228
                replace e44919 := e44919.st k56228
                replace e54850 := e54850.st k56228
                replace rp54838 := rp54838.st k56228
                replace rp44993 := rp44993.st k56228
                replace eg0 := eg0.st k56228
                replace kk := kk.trans k56228
                refine RW.seg hT 1 [] [(35, .bool (decide (¬ (x56225 = true))))] [.bool (decide (¬ (x56225 = true)))] [.veq (.bool (!x56225)) (.bool (decide (¬ (x56225 = true))))] (by kernel_rfl) (not_b) ?_
                by_cases h56232 : ¬ (x56225 = true)
                · have hf := iteT h56232 hf
                  refine RW.seg hT 6 [] [(36, .bool true)] [.bool true, undef, undef, undef, .bool true, .bool true] [.veq (.bool (decide (¬ (x56225 = true)))) (.bool true)] (by kernel_rfl) (bo_t h56232) ?_
                  refine RW.nil ?_
                  replace s := s.pick [0, 2, 3] 4 rfl
                  exact fun X h => kc (by kernel_rfl) rfl (h I56231 true [(D56184.getD 0 undef), (D56184.getD 1 undef), (D56184.getD 2 undef), .pointer (some ⟨b54828, 0, none⟩), (D56184.getD 3 undef), (D56184.getD 4 undef), (D56184.getD 5 undef), (D56184.getD 6 undef), (D56184.getD 7 undef), (D56184.getD 8 undef), (D56184.getD 9 undef), (D56184.getD 10 undef), (D56184.getD 11 undef), (D56184.getD 12 undef), (D56184.getD 13 undef), (D56184.getD 14 undef), (D56184.getD 15 undef), .bool x56185, (D56184.getD 16 undef), (D56184.getD 17 undef), (D56184.getD 18 undef), (D56184.getD 19 undef), (D56184.getD 20 undef), (D56184.getD 21 undef), (D56184.getD 22 undef), (D56184.getD 23 undef), undef, .pointer (some ⟨b54852, 0, none⟩), .int .i64 x54840.1.Kind, .bool x56225, .bool (decide (¬ (x56225 = true))), .bool true, undef, undef, undef, .bool true] _ hf s kk e54850 rp44993 e44915 e44919 eg0)
                · have hf := iteF h56232 hf
                  obtain ⟨x56233, hx56234, hf⟩ := bindS hf
                  obtain ⟨h56235, hx56234⟩ := getS hx56234
                  rw [← hn54839] at h56235
                  obtain ⟨-, cs56236, hr56237, ha56238⟩ := St.elem s (i := 1) rfl hn54839 rp54838 hx56234
                  replace ha56238 := ha56238 _ rfl
                  obtain rfl : cs56236 = [.int .u8 x56233] := hr56237
                  refine RW.seg hT 6 [.int .u8 x56233] [(36, .bool false), (39, .bool (decide (x56233 ≠ 0)))] [.bool false, .pointer (some ⟨b54828, 0 + (5 : Int).toNat * 1, none⟩), .int .u8 x56233, .bool (decide (x56233 ≠ 0)), .bool (decide (x56233 ≠ 0)), .bool (decide (x56233 ≠ 0))] [.veq (.bool (decide (¬ (x56225 = true)))) (.bool false), .idx 5 256, .cell ⟨b54828, 0 + (5 : Int).toNat * 1, none⟩ (.int .u8 x56233), .veq (.bool (x56233 != 0)) (.bool (decide (x56233 ≠ 0)))] (by kernel_rfl) (⟨bo_f h56232, h56235, ha56238 0 _ rfl, ne_v⟩) ?_
                  refine RW.nil ?_
                  replace s := s.pick [0, 2, 3] 4 rfl
                  exact fun X h => kc (by kernel_rfl) rfl (h I56231 (decide (x56233 ≠ 0)) [(D56184.getD 0 undef), (D56184.getD 1 undef), (D56184.getD 2 undef), .pointer (some ⟨b54828, 0, none⟩), (D56184.getD 3 undef), (D56184.getD 4 undef), (D56184.getD 5 undef), (D56184.getD 6 undef), (D56184.getD 7 undef), (D56184.getD 8 undef), (D56184.getD 9 undef), (D56184.getD 10 undef), (D56184.getD 11 undef), (D56184.getD 12 undef), (D56184.getD 13 undef), (D56184.getD 14 undef), (D56184.getD 15 undef), .bool x56185, (D56184.getD 16 undef), (D56184.getD 17 undef), (D56184.getD 18 undef), (D56184.getD 19 undef), (D56184.getD 20 undef), (D56184.getD 21 undef), (D56184.getD 22 undef), (D56184.getD 23 undef), undef, .pointer (some ⟨b54852, 0, none⟩), .int .i64 x54840.1.Kind, .bool x56225, .bool (decide (¬ (x56225 = true))), .bool false, .pointer (some ⟨b54828, 0 + (5 : Int).toNat * 1, none⟩), .int .u8 x56233, .bool (decide (x56233 ≠ 0)), .bool (decide (x56233 ≠ 0))] _ hf s kk e54850 rp44993 e44915 e44919 eg0)
          · refine WPK.region ?_
            refine RW.seg hT 2 [.agg (List.map (Value.int .u8) (List.take 256 y54823)).toArray] [] [.agg (List.map (Value.int .u8) (List.take 256 y54823)).toArray, .agg (List.map (Value.int .u8) (List.replicate 256 (0 : Int))).toArray] [.cells ⟨b54828, 0, none⟩ (List.map (Value.int .u8) (List.take 256 y54823)) 256] (by kernel_rfl) (St.arr s (i := 1) rfl rp54838 hn54839) ?_
            refine RW.op (by kernel_rfl) (OK.arrEq hT (t := 49) (N := 256) (e := 5) (k := .u8) (b := true) (xs := (List.take 256 y54823)) (ys := (List.replicate 256 (0 : Int))) (by kernel_rfl) (by kernel_rfl) rfl rfl rfl rfl rfl hn54839 (by simp) ?_)
            by_cases h56241 : (List.take 256 y54823) = (List.replicate 256 (0 : Int))
            · have hf := iteT h56241 hf
              refine RW.seg hT 6 [] [(25, .bool true)] [.bool true, undef, undef, undef, .bool true, .bool true] [.veq (.bool (decide ((List.take 256 y54823) = (List.replicate 256 (0 : Int))))) (.bool true)] (by kernel_rfl) (bo_t h56241) ?_
              refine RW.nil ?_
              exact fun X h => kc (by kernel_rfl) rfl (h I54846 true [.slice (some ⟨b54821, 0, none⟩) n44989 c44990, undef, undef, .int .u32 x54840.2, .slice (some ⟨b54821, 0, none⟩) n44989 c44990, .int .i64 (x44981.length : Int), .bool (decide ((x44981.length : Int) ≠ 256)), undef, .slice (some ⟨b54821, 0, none⟩) n44989 c44990, .pointer (some ⟨b54821, 0, none⟩), .agg (List.map (Value.int .u8) (List.take 256 y54823)).toArray, .tuple #[.agg #[.int .i64 x54840.1.Kind, .int .i64 x54840.1.Page, .int .u64 x54840.1.Epoch, .slice A54847 x54840.1.Data.length c54848], .int .u32 x54840.2], .agg (List.map (Value.int .u8) (List.take 256 y54823)).toArray, .tuple #[.agg #[.int .i64 x54840.1.Kind, .int .i64 x54840.1.Page, .int .u64 x54840.1.Epoch, .slice A54847 x54840.1.Data.length c54848], .int .u32 x54840.2], .agg #[.int .i64 x54840.1.Kind, .int .i64 x54840.1.Page, .int .u64 x54840.1.Epoch, .slice A54847 x54840.1.Data.length c54848], .int .u32 x54840.2, .agg (List.map (Value.int .u8) (List.take 256 y54823)).toArray, .agg (List.map (Value.int .u8) (List.replicate 256 (0 : Int))).toArray, .bool (decide ((List.take 256 y54823) = (List.replicate 256 (0 : Int)))), .bool true, undef, undef, undef, .bool true, undef] _ hf s kk e54850 rp54838 rp44993 e44915 e44919 eg0)
            · have hf := iteF h56241 hf
              refine RW.seg hT 2 [] [(25, .bool false)] [.bool false, .int .u32 x54840.2] [.veq (.bool (decide ((List.take 256 y54823) = (List.replicate 256 (0 : Int))))) (.bool false)] (by kernel_rfl) (bo_f h56241) ?_
              refine RW.op (by kernel_rfl) (OK.inl (args := [.pointer (some ⟨b54828, 0, none⟩)]) en26 (by kernel_rfl) ?_)
              intro R56242 hR56243
              refine Ret.of Tryd.func26 rfl ?_
              refine WPK.seq ?_
              refine WPK.region ?_
              refine RW.seg hT 1 [] [] [.int .u32 0] [] (by kernel_rfl) (trivial) ?_
              refine RW.nil ?_
              refine WPK.seq ?_
              refine WPK.region ?_
              obtain ⟨h56464, hf⟩ := iteS hf
              replace h56464 : (0 : Int) ≤ 4 ∧ 4 ≤ ((List.take 256 y54823).length : Int) ∧ ((List.take 256 y54823).length : Int) ≤ ((256 : Nat) : Int) - 0 := by have hnn := hn54839; omega
              obtain ⟨o56455, n56456, c56457, q56458, q56459, q56460, q56461, q56462, pt56463⟩ := partS (b := b54828) (c := 256) (Pt.whole (size := 1) (row_hc (s.at (i := 1) rfl)).1) (Nat.le_refl _) h56464
              rw [Int.zero_add, Int.zero_add] at pt56463
              replace q56459 : 256 - (4 : Int).toNat = n56456 := by rw [← q56459]; have hnn := hn54839; omega
              refine RW.seg hT 3 [] [(5, .slice (some ⟨b54828, o56455, none⟩) n56456 c56457)] [.pointer (some ⟨b54828, 0, none⟩), .pointer (some ⟨b54828, 0, none⟩), .slice (some ⟨b54828, o56455, none⟩) n56456 c56457] [.both (.cut 4 (256 : Nat) 256 256) (.veq (.slice (cutA (some ⟨b54828, 0, none⟩) (4 : Int).toNat 256 1) (256 - (4 : Int).toNat) (256 - (4 : Int).toNat)) (.slice (some ⟨b54828, o56455, none⟩) n56456 c56457))] (by kernel_rfl) (⟨⟨(q56462).1, by have h1 := (q56462).2.1; have h2 := (q56462).2.2.1; omega, by have := (q56462).2.2.2; omega, by omega⟩, sl_eq q56458 q56459 q56460⟩) ?_
              refine RW.op (by kernel_rfl) (OK.new hT (f := fun b => .slice (some ⟨b, 0, none⟩) 1 1) (cs := [.slice (some ⟨b54828, o56455, none⟩) n56456 c56457]) (e := 23) (c := .tt) s (by kernel_rfl) trivial ?_)
              rintro w56465 b56466 s k56467 -
              replace e44915 := e44915.st k56467
              replace e44919 := e44919.st k56467
              replace e54850 := e54850.st k56467
              replace rp54838 := rp54838.st k56467
              replace rp44993 := rp44993.st k56467
              replace eg0 := eg0.st k56467
              replace kk := kk.trans k56467
              refine RW.op (by kernel_rfl) (OK.inl (args := [.slice (some ⟨b56466, 0, none⟩) 1 1]) en40 (by kernel_rfl) ?_)
              intro R56468 hR56469
              refine Ret.of Tryd.func40 rfl ?_
              refine WPK.seq ?_
              refine WPK.region ?_
              refine RW.seg hT 1 [] [] [.int .u32 0] [] (by kernel_rfl) (trivial) ?_
              refine RW.nil ?_
              refine WPK.seq ?_
              refine WPK.region ?_
              refine RW.seg hT 1 [] [] [.slice (some ⟨b56466, 0, none⟩) 1 1] [] (by kernel_rfl) (trivial) ?_
              refine RW.op (by kernel_rfl) (OK.inl (args := [.int .u32 0, .slice (some ⟨b56466, 0, none⟩) 1 1]) en52 (by kernel_rfl) ?_)
              intro R56568 hR56569
              refine Ret.of Tryd.func52 rfl ?_
              refine WPK.seq ?_
              refine WPK.region ?_
              refine RW.seg hT 1 [] [] [.int .u32 0] [] (by kernel_rfl) (trivial) ?_
              refine RW.nil ?_
              refine WPK.seq ?_
              refine WPK.region ?_
              refine RW.seg hT 1 [] [] [.int .u32 0] [] (by kernel_rfl) (trivial) ?_
              obtain ⟨x56618, hx56619, hf⟩ := bindS hf
              refine RW.op (by kernel_rfl) (OK.call' en59 (by kernel_rfl) (c59 (F := (.blk b56466 (.cells #[.slice (some ⟨b54828, o56455, none⟩) n56456 c56457] 23 (0, 0))) :: (.blk b54852 (.cells #[.int .i64 x54840.1.Kind, .int .i64 x54840.1.Page, .int .u64 x54840.1.Epoch, .slice A54847 x54840.1.Data.length c54848] 25 (0, 0))) :: (.sl (.slice (some ⟨b54828, 0, none⟩) 256 256) 49 1 256 cl54836) :: (.blk b54811 (.cells #[.int .i64 0, .int .i64 0, .int .u64 0, .slice none 0 0] 25 (0, 0))) :: (.sl (.slice (some ⟨b54821, 0, none⟩) n44989 c44990) 5 1 n44989 cl44991) :: F) 0 s hx56619) ?_)
              intro X56622 hX56623
              refine fun _ _ hJ => hJ X56622 ?_
              intro I56624 w56620 s k56621
              refine hX56623 _ _ ?_
              replace e44915 := e44915.st k56621
              replace e44919 := e44919.st k56621
              replace e54850 := e54850.st k56621
              replace rp54838 := rp54838.st k56621
              replace rp44993 := rp44993.st k56621
              replace eg0 := eg0.st k56621
              replace kk := kk.trans k56621
              refine RW.seg hT 1 [] [] [.int .u32 x56618] [] (by kernel_rfl) (trivial) ?_
              refine RW.nil ?_
              refine WPK.seq ?_
              refine WPK.seq ?_
              refine WPK.region ?_
              refine RW.seg hT 3 [] [] [.slice (some ⟨b56466, 0, none⟩) 1 1, .int .i64 1, .int .i64 0] [] (by kernel_rfl) (trivial) ?_
              refine RW.nil ?_
              refine WPK.block ?_
              refine WPK.rounds 12 ?_
              refine Rounds.go ?_
              refine WPK.seq ?_
              refine WPK.region ?_
              refine RW.seg hT 1 [] [] [.bool true] [] (by kernel_rfl) (trivial) ?_
              refine RW.nil ?_
              refine WPK.seq ?_
              refine WPK.condT (by kernel_rfl) ?_
              refine WPK.skip ?_
              refine WPK.seq ?_
              refine WPK.block ?_
              refine WPK.seq ?_
              refine WPK.region ?_
              refine RW.seg hT 3 [.slice (some ⟨b54828, o56455, none⟩) n56456 c56457] [] [.pointer (some ⟨b56466, 0, none⟩), .slice (some ⟨b54828, o56455, none⟩) n56456 c56457, .slice (some ⟨b54828, o56455, none⟩) n56456 c56457] [.idx 0 1, .cell ⟨b56466, 0, none⟩ (.slice (some ⟨b54828, o56455, none⟩) n56456 c56457)] (by kernel_rfl) (⟨⟨by decide, by decide⟩, s.cell (i := 0) (off := 0) rfl rfl⟩) ?_
              refine RW.nil ?_
              refine WPK.region ?_
              refine RW.seg hT 2 [] [] [.int .u32 x56618, .slice (some ⟨b54828, o56455, none⟩) n56456 c56457] [] (by kernel_rfl) (trivial) ?_
              obtain ⟨y56646, hy56647, hf⟩ := bindS hf
              have sa56642 := s
              obtain ⟨hm56648, hc56643, e56644⟩ := St.lendPt s (i := 2) rfl rfl rp54838 pt56463 (q56461) hy56647
              have k56645 := Kp.shut (I := I56624) (w := w56620) (p := .sl (.slice (some ⟨b54828, 0, none⟩) 256 256) 49 1 256 cl54836)
              replace s := s.shut 2 rfl
              obtain ⟨x56649, hx56650, hf⟩ := bindS hf
              have hc56653 := c60 (F := (.blk b56466 (.cells #[.slice (some ⟨b54828, o56455, none⟩) n56456 c56457] 23 (0, 0))) :: (.blk b54852 (.cells #[.int .i64 x54840.1.Kind, .int .i64 x54840.1.Page, .int .u64 x54840.1.Epoch, .slice A54847 x54840.1.Data.length c54848] 25 (0, 0))) :: (.blk b54811 (.cells #[.int .i64 0, .int .i64 0, .int .u64 0, .slice none 0 0] 25 (0, 0))) :: (.sl (.slice (some ⟨b54821, 0, none⟩) n44989 c44990) 5 1 n44989 cl44991) :: F) x56618 y56646 (some ⟨b54828, o56455, none⟩) c56457 hc56643 e56644 (eg0.st k56645) s hx56650
              rw [← hm56648] at hc56653
              refine RW.op (by kernel_rfl) (OK.call' en60 (by kernel_rfl) (hc56653) ?_)
              intro X56654 hX56655
              refine fun _ _ hJ => hJ X56654 ?_
              intro I56656 w56651 s k56652
              refine hX56655 _ _ ?_
              have s' := St.back sa56642 (i := 2) rfl s k56652
              replace k56652 := Kp.back sa56642 (i := 2) rfl k56652
              replace s := s'; clear s'
              obtain ⟨I56658, s, k56652⟩ : ∃ I : Nat → Prop, St w0 M I ((.sl (.slice (some ⟨b54828, 0, none⟩) 256 256) 49 1 256 cl54836) :: (.blk b56466 (.cells #[.slice (some ⟨b54828, o56455, none⟩) n56456 c56457] 23 (0, 0))) :: (.blk b54852 (.cells #[.int .i64 x54840.1.Kind, .int .i64 x54840.1.Page, .int .u64 x54840.1.Epoch, .slice A54847 x54840.1.Data.length c54848] 25 (0, 0))) :: (.blk b54811 (.cells #[.int .i64 0, .int .i64 0, .int .u64 0, .slice none 0 0] 25 (0, 0))) :: (.sl (.slice (some ⟨b54821, 0, none⟩) n44989 c44990) 5 1 n44989 cl44991) :: F) w56651 ∧ Kp _ _ I _ := ⟨_, s, k56652⟩
              replace e44915 := e44915.st k56652
              replace e44919 := e44919.st k56652
              replace e54850 := e54850.st k56652
              replace rp44993 := rp44993.st k56652
              replace eg0 := eg0.st k56652
              replace rp54838 := rp54838.st k56652
              replace kk := kk.trans k56652
              refine RW.seg hT 1 [] [] [.int .u32 x56649] [] (by kernel_rfl) (trivial) ?_
              refine RW.nil ?_
              refine WPK.region ?_
              refine RW.seg hT 2 [] [] [.int .i64 1, .int .i64 1] [] (by kernel_rfl) (trivial) ?_
              refine RW.nil ?_
              refine Rounds.go ?_
              refine WPK.seq ?_
              refine WPK.region ?_
              refine RW.seg hT 1 [] [] [.bool false] [] (by kernel_rfl) (trivial) ?_
              refine RW.nil ?_
              refine WPK.seq ?_
              refine WPK.condF (by kernel_rfl) ?_
              refine WPK.exit (blockQ.same ?_)
              refine WPK.seq ?_
              refine WPK.region ?_
              refine RW.seg hT 1 [] [] [.int .u32 x56649] [] (by kernel_rfl) (trivial) ?_
              obtain ⟨x56659, hx56660, hf⟩ := bindS hf
              refine RW.op (by kernel_rfl) (OK.call' en61 (by kernel_rfl) (c61 (F := (.sl (.slice (some ⟨b54828, 0, none⟩) 256 256) 49 1 256 cl54836) :: (.blk b56466 (.cells #[.slice (some ⟨b54828, o56455, none⟩) n56456 c56457] 23 (0, 0))) :: (.blk b54852 (.cells #[.int .i64 x54840.1.Kind, .int .i64 x54840.1.Page, .int .u64 x54840.1.Epoch, .slice A54847 x54840.1.Data.length c54848] 25 (0, 0))) :: (.blk b54811 (.cells #[.int .i64 0, .int .i64 0, .int .u64 0, .slice none 0 0] 25 (0, 0))) :: (.sl (.slice (some ⟨b54821, 0, none⟩) n44989 c44990) 5 1 n44989 cl44991) :: F) x56649 s hx56660) ?_)
              intro X56663 hX56664
              refine fun _ _ hJ => hJ X56663 ?_
              intro I56665 w56661 s k56662
              refine hX56664 _ _ ?_
              replace e44915 := e44915.st k56662
              replace e44919 := e44919.st k56662
              replace e54850 := e54850.st k56662
              replace rp54838 := rp54838.st k56662
              replace rp44993 := rp44993.st k56662
              replace eg0 := eg0.st k56662
              replace kk := kk.trans k56662
              refine RW.seg hT 1 [] [] [.int .u32 x56659] [] (by kernel_rfl) (trivial) ?_
              refine RW.nil ?_
              refine WPK.ret (?_)
              refine Fin.of (rs := [.tmp 4]) hT [] (.int .u32 x56659) [] rfl (by kernel_rfl) (trivial) ?_
              refine hR56569 _ _ ?_
              refine RW.seg hT 1 [] [] [.int .u32 x56659] [] (by kernel_rfl) (trivial) ?_
              refine RW.nil ?_
              refine WPK.ret (?_)
              refine Fin.of (rs := [.tmp 2]) hT [] (.int .u32 x56659) [] rfl (by kernel_rfl) (trivial) ?_
              refine hR56469 _ _ ?_
              refine RW.seg hT 1 [] [] [.int .u32 x56659] [] (by kernel_rfl) (trivial) ?_
              refine RW.nil ?_
              refine WPK.ret (?_)
              refine Fin.of (rs := [.tmp 2]) hT [] (.int .u32 x56659) [] rfl (by kernel_rfl) (trivial) ?_
              refine hR56243 _ _ ?_
              refine RW.seg hT 3 [] [(28, .bool (decide (x54840.2 ≠ x56659)))] [.bool (decide (x54840.2 ≠ x56659)), .bool (decide (x54840.2 ≠ x56659)), .bool (decide (x54840.2 ≠ x56659))] [.veq (.bool (x54840.2 != x56659)) (.bool (decide (x54840.2 ≠ x56659)))] (by kernel_rfl) (ne_v) ?_
              refine RW.nil ?_
              replace s := s.pick [2, 0, 3, 4] 5 rfl
              exact fun X h => kc (by kernel_rfl) rfl (h I56665 (decide (x54840.2 ≠ x56659)) [.slice (some ⟨b54821, 0, none⟩) n44989 c44990, undef, undef, .int .u32 x54840.2, .slice (some ⟨b54821, 0, none⟩) n44989 c44990, .int .i64 (x44981.length : Int), .bool (decide ((x44981.length : Int) ≠ 256)), undef, .slice (some ⟨b54821, 0, none⟩) n44989 c44990, .pointer (some ⟨b54821, 0, none⟩), .agg (List.map (Value.int .u8) (List.take 256 y54823)).toArray, .tuple #[.agg #[.int .i64 x54840.1.Kind, .int .i64 x54840.1.Page, .int .u64 x54840.1.Epoch, .slice A54847 x54840.1.Data.length c54848], .int .u32 x54840.2], .agg (List.map (Value.int .u8) (List.take 256 y54823)).toArray, .tuple #[.agg #[.int .i64 x54840.1.Kind, .int .i64 x54840.1.Page, .int .u64 x54840.1.Epoch, .slice A54847 x54840.1.Data.length c54848], .int .u32 x54840.2], .agg #[.int .i64 x54840.1.Kind, .int .i64 x54840.1.Page, .int .u64 x54840.1.Epoch, .slice A54847 x54840.1.Data.length c54848], .int .u32 x54840.2, .agg (List.map (Value.int .u8) (List.take 256 y54823)).toArray, .agg (List.map (Value.int .u8) (List.replicate 256 (0 : Int))).toArray, .bool (decide ((List.take 256 y54823) = (List.replicate 256 (0 : Int)))), .bool false, .int .u32 x54840.2, .int .u32 x56659, .bool (decide (x54840.2 ≠ x56659)), .bool (decide (x54840.2 ≠ x56659)), undef] _ hf s kk e54850 rp54838 rp44993 e44915 e44919 eg0)
  · refine WPK.region ?_
    obtain ⟨x56668, hx56669, hf⟩ := bindS hf
    refine RW.op (by kernel_rfl) (OK.call' en9 (by kernel_rfl) (c9 (F := F) eg0 s hx56669) ?_)
    intro X56672 hX56673
    refine fun _ _ hJ => hJ X56672 ?_
    intro I56674 w56670 s k56671
    refine hX56673 _ _ ?_
    replace e44915 := e44915.st k56671
    replace e44919 := e44919.st k56671
    replace eg0 := eg0.st k56671
    replace kk := kk.trans k56671
    refine RW.seg hT 1 [] [(20, .bool (decide (¬ (x56668 = true))))] [.bool (decide (¬ (x56668 = true)))] [.veq (.bool (!x56668)) (.bool (decide (¬ (x56668 = true))))] (by kernel_rfl) (not_b) ?_
    by_cases h56675 : ¬ (x56668 = true)
    · have hf := iteT h56675 hf
      refine RW.seg hT 10 [] [(21, .bool true)] [.bool true, undef, undef, undef, .bool true, .bool true, undef, undef, undef, .bool true] [.veq (.bool (decide (¬ (x56668 = true)))) (.bool true)] (by kernel_rfl) (bo_t h56675) ?_
      refine RW.nil ?_
      exact fun X h => kc (by kernel_rfl) rfl (h I56674 true [undef, undef, undef, undef, .bool x56668, .bool (decide (¬ (x56668 = true))), .bool true, undef, undef, undef, .bool true, .bool true, undef, undef, undef, undef, undef, undef, undef, undef, undef, undef, undef, undef, undef, undef, undef, undef, undef, undef, undef, undef, undef] _ hf s kk e44915 e44919 eg0)
    · have hf := iteF h56675 hf
      refine RW.seg hT 5 [] [(21, .bool false)] [.bool false, .slice A44912 p0.length c44913, .int .i64 (p0.length : Int), .bool (decide ((p0.length : Int) > 3000)), .bool (decide ((p0.length : Int) > 3000))] [.veq (.bool (decide (¬ (x56668 = true)))) (.bool false)] (by kernel_rfl) (bo_f h56675) ?_
      by_cases h56676 : (p0.length : Int) > 3000
      · have hf := iteT h56676 hf
        refine RW.seg hT 5 [] [(26, .bool true)] [.bool true, undef, undef, undef, .bool true] [.veq (.bool (decide ((p0.length : Int) > 3000))) (.bool true)] (by kernel_rfl) (bo_t h56676) ?_
        refine RW.nil ?_
        exact fun X h => kc (by kernel_rfl) rfl (h I56674 true [undef, undef, undef, undef, .bool x56668, .bool (decide (¬ (x56668 = true))), .bool false, .slice A44912 p0.length c44913, .int .i64 (p0.length : Int), .bool (decide ((p0.length : Int) > 3000)), .bool (decide ((p0.length : Int) > 3000)), .bool true, undef, undef, undef, undef, undef, undef, undef, undef, undef, undef, undef, undef, undef, undef, undef, undef, undef, undef, undef, undef, undef] _ hf s kk e44915 e44919 eg0)
      · have hf := iteF h56676 hf
        refine RW.seg hT 5 [] [(26, .bool false)] [.bool false, .slice A44916 p2.length c44917, .int .i64 (p2.length : Int), .bool (decide ((p2.length : Int) > 100)), .bool (decide ((p2.length : Int) > 100))] [.veq (.bool (decide ((p0.length : Int) > 3000))) (.bool false)] (by kernel_rfl) (bo_f h56676) ?_
        refine RW.nil ?_
        exact fun X h => kc (by kernel_rfl) rfl (h I56674 (decide ((p2.length : Int) > 100)) [undef, undef, undef, undef, .bool x56668, .bool (decide (¬ (x56668 = true))), .bool false, .slice A44912 p0.length c44913, .int .i64 (p0.length : Int), .bool (decide ((p0.length : Int) > 3000)), .bool (decide ((p0.length : Int) > 3000)), .bool false, .slice A44916 p2.length c44917, .int .i64 (p2.length : Int), .bool (decide ((p2.length : Int) > 100)), undef, undef, undef, undef, undef, undef, undef, undef, undef, undef, undef, undef, undef, undef, undef, undef, undef, undef] _ hf s kk e44915 e44919 eg0)
end Go.Proofs.YtjkghheeeiacmaaDoor
