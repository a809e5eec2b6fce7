/- PRINTED BY sy.py: each call computes what the plain function of its number tells. -/
import Derived.Test.YtclnddebhjjpfaaDoorTab
import Derived.Test.YtclnddebhjjpfaaDoorSXaa
import Derived.Test.YtclnddebhjjpfaaDoorG
namespace Go.Proofs.YtclnddebhjjpfaaDoor
open Go Go.SX Go.RowKit
set_option maxRecDepth 100000
set_option linter.unusedVariables false
def rp_T_api_Head : Rp T_api_Head := Rp.iso (fun x => (x.Epoch, x.Pages, x.Maps, x.User)) (Rp.pair (Rp.int .u64) (Rp.pair (Rp.int .i64) (Rp.pair (Rp.slice (Rp.int .i64)) (Rp.slice (Rp.int .u8)))))
def rp_T_api_Frame : Rp T_api_Frame := Rp.iso (fun x => (x.Kind, x.Page, x.Epoch, x.Data)) (Rp.pair (Rp.int .i64) (Rp.pair (Rp.int .i64) (Rp.pair (Rp.int .u64) (Rp.slice (Rp.int .u8)))))
def rp_T_pack_Reader : Rp T_pack_Reader := Rp.iso (fun x => (x.b, x.err, x.made)) (Rp.pair (Rp.slice (Rp.int .u8)) (Rp.pair (Rp.int .i64) Rp.bool))
attribute [local irreducible] WPK RW RD Ret SX.Fin SX.Any opK RoundBeg RoundEnd RangeEnd Rounds
theorem en29 : Proofs.Enters Tryd.prog 29 := Proofs.enters_of Tryd.func29 (by kernel_rfl) rfl
theorem en64 : Proofs.Enters Tryd.prog 64 := Proofs.enters_of Tryd.func64 (by kernel_rfl) rfl
theorem en77 : Proofs.Enters Tryd.prog 77 := Proofs.enters_of Tryd.func77 (by kernel_rfl) rfl
theorem en65 : Proofs.Enters Tryd.prog 65 := Proofs.enters_of Tryd.func65 (by kernel_rfl) rfl
theorem en42 : Proofs.Enters Tryd.prog 42 := Proofs.enters_of Tryd.func42 (by kernel_rfl) rfl
theorem en21 : Proofs.Enters Tryd.prog 21 := Proofs.enters_of Tryd.func21 (by kernel_rfl) rfl
theorem en54 : Proofs.Enters Tryd.prog 54 := Proofs.enters_of Tryd.func54 (by kernel_rfl) rfl
theorem en59 : Proofs.Enters Tryd.prog 59 := Proofs.enters_of Tryd.func59 (by kernel_rfl) rfl
theorem en37 : Proofs.Enters Tryd.prog 37 := Proofs.enters_of Tryd.func37 (by kernel_rfl) rfl
theorem en38 : Proofs.Enters Tryd.prog 38 := Proofs.enters_of Tryd.func38 (by kernel_rfl) rfl
theorem en17 : Proofs.Enters Tryd.prog 17 := Proofs.enters_of Tryd.func17 (by kernel_rfl) rfl
theorem en25 : Proofs.Enters Tryd.prog 25 := Proofs.enters_of Tryd.func25 (by kernel_rfl) rfl
theorem en72 : Proofs.Enters Tryd.prog 72 := Proofs.enters_of Tryd.func72 (by kernel_rfl) rfl
theorem en60 : Proofs.Enters Tryd.prog 60 := Proofs.enters_of Tryd.func60 (by kernel_rfl) rfl
theorem en73 : Proofs.Enters Tryd.prog 73 := Proofs.enters_of Tryd.func73 (by kernel_rfl) rfl
theorem en75 : Proofs.Enters Tryd.prog 75 := Proofs.enters_of Tryd.func75 (by kernel_rfl) rfl
theorem en81 : Proofs.Enters Tryd.prog 81 := Proofs.enters_of Tryd.func81 (by kernel_rfl) rfl
theorem en86 : Proofs.Enters Tryd.prog 86 := Proofs.enters_of Tryd.func86 (by kernel_rfl) rfl
theorem en88 : Proofs.Enters Tryd.prog 88 := Proofs.enters_of Tryd.func88 (by kernel_rfl) rfl
theorem en91 : Proofs.Enters Tryd.prog 91 := Proofs.enters_of Tryd.func91 (by kernel_rfl) rfl
theorem en89 : Proofs.Enters Tryd.prog 89 := Proofs.enters_of Tryd.func89 (by kernel_rfl) rfl
theorem en90 : Proofs.Enters Tryd.prog 90 := Proofs.enters_of Tryd.func90 (by kernel_rfl) rfl
theorem en74 : Proofs.Enters Tryd.prog 74 := Proofs.enters_of Tryd.func74 (by kernel_rfl) rfl
theorem en61 : Proofs.Enters Tryd.prog 61 := Proofs.enters_of Tryd.func61 (by kernel_rfl) rfl
theorem en40 : Proofs.Enters Tryd.prog 40 := Proofs.enters_of Tryd.func40 (by kernel_rfl) rfl
theorem en19 : Proofs.Enters Tryd.prog 19 := Proofs.enters_of Tryd.func19 (by kernel_rfl) rfl
theorem en27 : Proofs.Enters Tryd.prog 27 := Proofs.enters_of Tryd.func27 (by kernel_rfl) rfl
theorem en32 : Proofs.Enters Tryd.prog 32 := Proofs.enters_of Tryd.func32 (by kernel_rfl) rfl
theorem en56 : Proofs.Enters Tryd.prog 56 := Proofs.enters_of Tryd.func56 (by kernel_rfl) rfl
theorem en57 : Proofs.Enters Tryd.prog 57 := Proofs.enters_of Tryd.func57 (by kernel_rfl) rfl
theorem en58 : Proofs.Enters Tryd.prog 58 := Proofs.enters_of Tryd.func58 (by kernel_rfl) rfl
theorem en55 : Proofs.Enters Tryd.prog 55 := Proofs.enters_of Tryd.func55 (by kernel_rfl) rfl
theorem en83 : Proofs.Enters Tryd.prog 83 := Proofs.enters_of Tryd.func83 (by kernel_rfl) rfl
theorem en34 : Proofs.Enters Tryd.prog 34 := Proofs.enters_of Tryd.func34 (by kernel_rfl) rfl
theorem en33 : Proofs.Enters Tryd.prog 33 := Proofs.enters_of Tryd.func33 (by kernel_rfl) rfl
theorem en84 : Proofs.Enters Tryd.prog 84 := Proofs.enters_of Tryd.func84 (by kernel_rfl) rfl
theorem en85 : Proofs.Enters Tryd.prog 85 := Proofs.enters_of Tryd.func85 (by kernel_rfl) rfl
theorem en80 : Proofs.Enters Tryd.prog 80 := Proofs.enters_of Tryd.func80 (by kernel_rfl) rfl
theorem en70 : Proofs.Enters Tryd.prog 70 := Proofs.enters_of Tryd.func70 (by kernel_rfl) rfl
theorem en52 : Proofs.Enters Tryd.prog 52 := Proofs.enters_of Tryd.func52 (by kernel_rfl) rfl
theorem en35 : Proofs.Enters Tryd.prog 35 := Proofs.enters_of Tryd.func35 (by kernel_rfl) rfl
theorem en36 : Proofs.Enters Tryd.prog 36 := Proofs.enters_of Tryd.func36 (by kernel_rfl) rfl
theorem en24 : Proofs.Enters Tryd.prog 24 := Proofs.enters_of Tryd.func24 (by kernel_rfl) rfl
theorem en14 : Proofs.Enters Tryd.prog 14 := Proofs.enters_of Tryd.func14 (by kernel_rfl) rfl
theorem en30 : Proofs.Enters Tryd.prog 30 := Proofs.enters_of Tryd.func30 (by kernel_rfl) rfl
theorem en10 : Proofs.Enters Tryd.prog 10 := Proofs.enters_of Tryd.func10 (by kernel_rfl) rfl
theorem en12 : Proofs.Enters Tryd.prog 12 := Proofs.enters_of Tryd.func12 (by kernel_rfl) rfl
theorem en9 : Proofs.Enters Tryd.prog 9 := Proofs.enters_of Tryd.func9 (by kernel_rfl) rfl
theorem en16 : Proofs.Enters Tryd.prog 16 := Proofs.enters_of Tryd.func16 (by kernel_rfl) rfl
theorem en46 : Proofs.Enters Tryd.prog 46 := Proofs.enters_of Tryd.func46 (by kernel_rfl) rfl
theorem en45 : Proofs.Enters Tryd.prog 45 := Proofs.enters_of Tryd.func45 (by kernel_rfl) rfl
theorem en47 : Proofs.Enters Tryd.prog 47 := Proofs.enters_of Tryd.func47 (by kernel_rfl) rfl
theorem en28 : Proofs.Enters Tryd.prog 28 := Proofs.enters_of Tryd.func28 (by kernel_rfl) rfl
theorem en13 : Proofs.Enters Tryd.prog 13 := Proofs.enters_of Tryd.func13 (by kernel_rfl) rfl
theorem en8 : Proofs.Enters Tryd.prog 8 := Proofs.enters_of Tryd.func8 (by kernel_rfl) rfl
theorem c29 {w1 w : World} {M I : Nat → Prop} {F : List It}  (s : St w1 M I (F) w) {r : T_api_Head} (hf : g29 = some r) :
    Ret Tryd.prog 29 [] w fun v wz => ∀ X : Value → World → Prop, (∀ (I' : Nat → Prop) (A1 : Option Addr) (n1 : Nat) (c55 : Nat) (cl1 : List Value) (A2 : Option Addr) (n2 : Nat) (c62 : Nat) (cl2 : List Value) (w' : World), St w1 M I' ((.sl (.slice A1 n1 c55) 3 1 n1 cl1) :: (.sl (.slice A2 n2 c62) 5 1 n2 cl2) :: F) w' → Kp I w I' w' → n1 = r.Maps.length → RepL (Rp.int .i64) I' w' cl1 r.Maps → n2 = r.User.length → RepL (Rp.int .u8) I' w' cl2 r.User → X (.agg #[.int .u64 r.Epoch, .int .i64 r.Pages, .slice A1 n1 c55, .slice A2 n2 c62]) w') → X v wz := by
  have kk : Kp I w I w := Kp.refl
  unfold g29 at hf
  refine Ret.of Tryd.func29 rfl ?_
  refine WPK.seq ?_
  refine WPK.region ?_
  refine RW.op (by kernel_rfl) (OK.new hT (f := fun b => .pointer (some ⟨b, 0, none⟩)) (cs := [.int .u64 0, .int .i64 0, .slice none 0 0, .slice none 0 0]) (e := 28) (c := .tt) s (by kernel_rfl) trivial ?_)
  clear s
  rintro w2 b1 s k1 -
  replace kk := kk.trans k1
  refine RW.nil ?_
  refine WPK.seq ?_
  refine WPK.region ?_
  refine RW.op (by kernel_rfl) (OK.new hT (f := fun b => .slice (some ⟨b, 0, none⟩) 1 1) (cs := [.int .i64 2]) (e := 3) (c := .tt) s (by kernel_rfl) trivial ?_)
  clear s
  rintro w3 b2 s k2 -
  replace kk := kk.trans k2
  have rp1 : RepL (Rp.int .i64) I w3 [.int .i64 2] ([2] : List Int) := RepL.cons (c := [.int .i64 2]) (d := []) (rfl) (RepL.nil)
  replace s : St w1 M I ((.sl (.slice (some ⟨b2, 0, none⟩) 1 1) 3 1 1 [.int .i64 2]) :: (.blk b1 (.cells #[.int .u64 0, .int .i64 0, .slice none 0 0, .slice none 0 0] 28 (0, 0))) :: F) w3 := s.blkSl (i := 0) (n := 1) (c := 1) (size := 1) rfl rfl (Nat.le_refl _) (by decide)
  refine RW.op (by kernel_rfl) (OK.new hT (f := fun b => .slice (some ⟨b, 0, none⟩) 1 1) (cs := [.int .u8 7]) (e := 5) (c := .tt) s (by kernel_rfl) trivial ?_)
  clear s
  rintro w4 b3 s k3 -
  replace rp1 := rp1.st k3
  replace kk := kk.trans k3
  have rp2 : RepL (Rp.int .u8) I w4 [.int .u8 7] ([7] : List Int) := RepL.cons (c := [.int .u8 7]) (d := []) (rfl) (RepL.nil)
  replace s : St w1 M I ((.sl (.slice (some ⟨b3, 0, none⟩) 1 1) 5 1 1 [.int .u8 7]) :: (.sl (.slice (some ⟨b2, 0, none⟩) 1 1) 3 1 1 [.int .i64 2]) :: (.blk b1 (.cells #[.int .u64 0, .int .i64 0, .slice none 0 0, .slice none 0 0] 28 (0, 0))) :: F) w4 := s.blkSl (i := 0) (n := 1) (c := 1) (size := 1) rfl rfl (Nat.le_refl _) (by decide)
  refine RW.seg hT 1 [] [] [.agg #[.int .u64 9, .int .i64 64, .slice (some ⟨b2, 0, none⟩) 1 1, .slice (some ⟨b3, 0, none⟩) 1 1]] [] (by kernel_rfl) (trivial) ?_
  refine RW.op (by kernel_rfl) (OK.store hT (i := 2) (b := b1) (off := 0) (n := 4) (vs := [.int .u64 9, .int .i64 64, .slice (some ⟨b2, 0, none⟩) 1 1, .slice (some ⟨b3, 0, none⟩) 1 1]) (cs := [.int .u64 0, .int .i64 0, .slice none 0 0, .slice none 0 0]) (e := 28) s (by kernel_rfl) rfl rfl (flat_ok rfl) (Nat.le_of_ble_eq_true rfl) ?_)
  clear s
  rintro w5 s k4 -
  replace rp2 := rp2.st k4
  replace rp1 := rp1.st k4
  replace kk := kk.trans k4
  refine RW.nil ?_
  refine WPK.ret (?_)
  obtain rfl := someS hf
  refine Fin.of (rs := [.cell 0 28]) hT [.agg #[.int .u64 9, .int .i64 64, .slice (some ⟨b2, 0, none⟩) 1 1, .slice (some ⟨b3, 0, none⟩) 1 1]] (.agg #[.int .u64 9, .int .i64 64, .slice (some ⟨b2, 0, none⟩) 1 1, .slice (some ⟨b3, 0, none⟩) 1 1]) [.cells ⟨b1, 0, none⟩ [.int .u64 9, .int .i64 64, .slice (some ⟨b2, 0, none⟩) 1 1, .slice (some ⟨b3, 0, none⟩) 1 1] 4] rfl (by kernel_rfl) (s.cells (i := 2) rfl rfl rfl) ?_
  replace s := s.pick [1, 0] 3 rfl
  exact fun X h => vc rfl (h I (some ⟨b2, 0, none⟩) 1 1 [.int .i64 2] (some ⟨b3, 0, none⟩) 1 1 [.int .u8 7] _ s kk rfl rp1 rfl rp2)
theorem c64 {w1 w : World} {M I : Nat → Prop} {F : List It} (p0 : Int) (s : St w1 M I (F) w) {r : Int} (hf : g64 p0 = some r) :
    Ret Tryd.prog 64 [.int .i64 p0] w fun v wz => ∀ X : Value → World → Prop, (∀ (I' : Nat → Prop) (w' : World), St w1 M I' (F) w' → Kp I w I' w' → X (.int .i64 r) w') → X v wz := by
  have kk : Kp I w I w := Kp.refl
  unfold g64 at hf
  refine Ret.of Tryd.func64 rfl ?_
  refine WPK.seq ?_
  refine WPK.region ?_
  refine RW.seg hT 1 [] [] [.int .i64 0] [] (by kernel_rfl) (trivial) ?_
  refine RW.nil ?_
  refine WPK.seq ?_
  refine WPK.seq ?_
  refine WPK.region ?_
  refine RW.seg hT 2 [] [] [.int .i64 p0, .bool (decide (p0 ≤ 1024))] [] (by kernel_rfl) (trivial) ?_
  refine RW.nil ?_
  by_cases h1 : p0 ≤ 1024
  have hf := iteT h1 hf
  refine WPK.condT (Eq.trans (b := .bool (decide (p0 ≤ 1024))) (by kernel_rfl) (bo_t h1)) ?_
  refine WPK.seq ?_
  refine WPK.region ?_
  refine RW.seg hT 1 [] [] [.int .i64 1] [] (by kernel_rfl) (trivial) ?_
  refine RW.nil ?_
  refine WPK.ret (?_)
  obtain rfl := someS hf
  refine Fin.of (rs := [.tmp 2]) hT [] (.int .i64 1) [] rfl (by kernel_rfl) (trivial) ?_
  exact fun X h => vc rfl (h I _ s kk)
  have hf := iteF h1 hf
  refine WPK.condF (Eq.trans (b := .bool (decide (p0 ≤ 1024))) (by kernel_rfl) (bo_f h1)) ?_
  refine WPK.skip ?_
  refine WPK.seq ?_
  refine WPK.region ?_
  refine RW.seg hT 1 [] [] [.int .i64 2] [] (by kernel_rfl) (trivial) ?_
  refine RW.nil ?_
  refine WPK.ret (?_)
  obtain rfl := someS hf
  refine Fin.of (rs := [.tmp 2]) hT [] (.int .i64 2) [] rfl (by kernel_rfl) (trivial) ?_
  exact fun X h => vc rfl (h I _ s kk)
theorem c77 {w1 w : World} {M I : Nat → Prop} {F : List It} (p0 : (List Int)) (p1 : Int) (A1 : Option Addr) (c382 : Nat) (hc1 : (p0.length ≤ c382 ∧ c382 ≤ 9223372036854775807)) (e1 : Elems (Rp.int .i64) I w A1 p0) (s : St w1 M I (F) w) {r : Int} (hf : g77 p0 p1 = some r) :
    Ret Tryd.prog 77 [.slice A1 p0.length c382, .int .i64 p1] w fun v wz => ∀ X : Value → World → Prop, (∀ (I' : Nat → Prop) (w' : World), St w1 M I' (F) w' → Kp I w I' w' → X (.int .i64 r) w') → X v wz := by
  have kk : Kp I w I w := Kp.refl
  unfold g77 at hf
  refine Ret.of Tryd.func77 rfl ?_
  refine WPK.seq ?_
  refine WPK.region ?_
  refine RW.seg hT 1 [] [] [.int .i64 0] [] (by kernel_rfl) (trivial) ?_
  refine RW.nil ?_
  refine WPK.seq ?_
  refine WPK.seq ?_
  refine WPK.region ?_
  refine RW.seg hT 3 [] [] [.slice A1 p0.length c382, .int .i64 (p0.length : Int), .int .i64 0] [] (by kernel_rfl) (trivial) ?_
  refine RW.nil ?_
  refine WPK.block ?_
  refine WPK.loop' (J := fun n1 D1 ds wz => ∀ X : Kont, (∀ (x1 : Int), g77_l1 p0 p1 n1 x1 = some r → X [.slice A1 p0.length c382, .int .i64 p1, (D1.getD 2 undef), (D1.getD 3 undef), .int .i64 0, (D1.getD 5 undef), (D1.getD 6 undef), .int .i64 (p0.length : Int), .int .i64 x1, (D1.getD 9 undef), (D1.getD 10 undef), (D1.getD 11 undef), (D1.getD 12 undef), (D1.getD 13 undef), (D1.getD 14 undef), (D1.getD 15 undef), (D1.getD 16 undef), undef, (D1.getD 18 undef)] [] w) → X D1 ds wz) FUEL (fun X h => kc (by kernel_rfl) rfl (h 0 hf)) (fun _ _ _ hJ => hJ (fun _ _ _ => False) (by intro x1 hf; exact noneS hf)) ?_
  intro X1 hX1
  refine fun n1 D1 _ _ hJ => hJ (X1 n1) ?_
  intro x1 hf
  refine hX1 _ _ _ _ ?_
  replace hf : g77_l1B p0 p1 (g77_l1 p0 p1 n1) x1 = some r := hf
  generalize hrec1 : g77_l1 p0 p1 n1 = rec1 at hf
  unfold g77_l1B at hf
  refine WPK.seq ?_
  refine WPK.region ?_
  refine RW.seg hT 1 [] [] [.bool (decide (x1 < (p0.length : Int)))] [] (by kernel_rfl) (trivial) ?_
  refine RW.nil ?_
  refine WPK.seq ?_
  by_cases h1 : x1 < (p0.length : Int)
  have hf := iteT h1 hf
  refine WPK.condT (Eq.trans (b := .bool (decide (x1 < (p0.length : Int)))) (by kernel_rfl) (bo_t h1)) ?_
  refine WPK.skip ?_
  refine WPK.seq ?_
  refine WPK.block ?_
  refine WPK.seq ?_
  refine WPK.region ?_
  refine RW.seg hT 2 [] [] [.int .i64 x1, .int .i64 x1] [] (by kernel_rfl) (trivial) ?_
  refine RW.nil ?_
  refine WPK.seq ?_
  refine WPK.region ?_
  obtain ⟨x2, hx1, hf⟩ := bindS hf
  obtain ⟨h2, hx1⟩ := getS hx1
  obtain ⟨b1, o1, rfl⟩ := Elems.opn e1 hx1
  obtain ⟨cs1, hr1, ha1⟩ := Elems.get e1 hx1
  obtain rfl : cs1 = [.int .i64 x2] := hr1
  refine RW.seg hT 6 [.int .i64 x2] [(16, .bool (decide (p1 = x2)))] [.int .i64 p1, .slice (some ⟨b1, o1, none⟩) p0.length c382, .int .i64 x1, .pointer (some ⟨b1, o1 + x1.toNat * 1, none⟩), .int .i64 x2, .bool (decide (p1 = x2))] [.idx x1 p0.length, .cell ⟨b1, o1 + x1.toNat * 1, none⟩ (.int .i64 x2), .veq (.bool (p1 == x2)) (.bool (decide (p1 = x2)))] (by kernel_rfl) (⟨h2, ha1 0 _ rfl, eq_v⟩) ?_
  refine RW.nil ?_
  by_cases h3 : p1 = x2
  have hf := iteT h3 hf
  refine WPK.condT (Eq.trans (b := .bool (decide (p1 = x2))) (by kernel_rfl) (bo_t h3)) ?_
  refine WPK.seq ?_
  refine WPK.region ?_
  refine RW.seg hT 2 [] [] [.int .i64 x1, .int .i64 x1] [] (by kernel_rfl) (trivial) ?_
  refine RW.nil ?_
  refine WPK.ret (blockQ.ret (blockQ.ret (?_)))
  obtain rfl := someS hf
  refine Fin.of (rs := [.tmp 4]) hT [] (.int .i64 x1) [] rfl (by kernel_rfl) (trivial) ?_
  exact fun X h => vc rfl (h I _ s kk)
  have hf := iteF h3 hf
  refine WPK.condF (Eq.trans (b := .bool (decide (p1 = x2))) (by kernel_rfl) (bo_f h3)) ?_
  refine WPK.skip ?_
  refine WPK.region ?_
  refine RW.seg hT 2 [] [] [.int .i64 (IntKind.i64.wrap (x1 + 1)), .int .i64 (IntKind.i64.wrap (x1 + 1))] [] (by kernel_rfl) (trivial) ?_
  refine RW.nil ?_
  subst hrec1
  exact ⟨n1, Nat.le_refl _, fun X h => kc (by kernel_rfl) rfl (h (IntKind.i64.wrap (x1 + 1)) hf)⟩
  have hf := iteF h1 hf
  refine WPK.condF (Eq.trans (b := .bool (decide (x1 < (p0.length : Int)))) (by kernel_rfl) (bo_f h1)) ?_
  refine WPK.exit (blockQ.same ?_)
  refine WPK.seq ?_
  refine WPK.region ?_
  refine RW.seg hT 1 [] [] [.int .i64 (-1)] [] (by kernel_rfl) (trivial) ?_
  refine RW.nil ?_
  refine WPK.ret (?_)
  obtain rfl := someS hf
  refine Fin.of (rs := [.tmp 4]) hT [] (.int .i64 (-1)) [] rfl (by kernel_rfl) (trivial) ?_
  exact fun X h => vc rfl (h I _ s kk)
theorem c65 {w1 w : World} {M I : Nat → Prop} {F : List It} (p0 : (List Int)) (p1 : Int) (A1 : Option Addr) (c529 : Nat) (hc1 : (p0.length ≤ c529 ∧ c529 ≤ 9223372036854775807)) (e1 : Elems (Rp.int .i64) I w A1 p0) (s : St w1 M I (F) w) {r : Bool} (hf : g65 p0 p1 = some r) :
    Ret Tryd.prog 65 [.slice A1 p0.length c529, .int .i64 p1] w fun v wz => ∀ X : Value → World → Prop, (∀ (I' : Nat → Prop) (w' : World), St w1 M I' (F) w' → Kp I w I' w' → X (.bool r) w') → X v wz := by
  have kk : Kp I w I w := Kp.refl
  unfold g65 at hf
  refine Ret.of Tryd.func65 rfl ?_
  refine WPK.seq ?_
  refine WPK.region ?_
  refine RW.seg hT 1 [] [] [.bool false] [] (by kernel_rfl) (trivial) ?_
  refine RW.nil ?_
  refine WPK.seq ?_
  refine WPK.region ?_
  refine RW.seg hT 2 [] [] [.slice A1 p0.length c529, .int .i64 p1] [] (by kernel_rfl) (trivial) ?_
  obtain ⟨x1, hx1, hf⟩ := bindS hf
  refine RW.op (by kernel_rfl) (OK.call' en77 (by kernel_rfl) (c77 (F := F) p0 p1 A1 c529 hc1 e1 s hx1) ?_)
  intro X1 hX1
  refine fun _ _ hJ => hJ X1 ?_
  clear s
  intro I1 w2 s k1
  refine hX1 _ _ ?_
  replace e1 := e1.st k1
  replace kk := kk.trans k1
  refine RW.seg hT 2 [] [] [.bool (decide (x1 ≥ 0)), .bool (decide (x1 ≥ 0))] [] (by kernel_rfl) (trivial) ?_
  refine RW.nil ?_
  refine WPK.ret (?_)
  obtain rfl := someS hf
  refine Fin.of (rs := [.tmp 4]) hT [] (.bool (decide (x1 ≥ 0))) [] rfl (by kernel_rfl) (trivial) ?_
  exact fun X h => vc rfl (h I1 _ s kk)
theorem c42 {w1 w : World} {M I : Nat → Prop} {F : List It} (p0 : T_api_Head) (p1 : Int) (A1 : Option Addr) (u1 : Nat) (A2 : Option Addr) (u2 : Nat) (hc1 : (p0.Maps.length ≤ u1 ∧ u1 ≤ 9223372036854775807)) (e1 : Elems (Rp.int .i64) I w A1 p0.Maps) (hc2 : (p0.User.length ≤ u2 ∧ u2 ≤ 9223372036854775807)) (e2 : Elems (Rp.int .u8) I w A2 p0.User) (s : St w1 M I (F) w) {r : Bool} (hf : g42 p0 p1 = some r) :
    Ret Tryd.prog 42 [.agg #[.int .u64 p0.Epoch, .int .i64 p0.Pages, .slice A1 p0.Maps.length u1, .slice A2 p0.User.length u2], .int .i64 p1] w fun v wz => ∀ X : Value → World → Prop, (∀ (I' : Nat → Prop) (w' : World), St w1 M I' (F) w' → Kp I w I' w' → X (.bool r) w') → X v wz := by
  have kk : Kp I w I w := Kp.refl
  unfold g42 at hf
  refine Ret.of Tryd.func42 rfl ?_
  refine WPK.seq ?_
  refine WPK.region ?_
  refine RW.op (by kernel_rfl) (OK.new hT (f := fun b => .pointer (some ⟨b, 0, none⟩)) (cs := [.int .u64 p0.Epoch, .int .i64 p0.Pages, .slice A1 p0.Maps.length u1, .slice A2 p0.User.length u2]) (e := 28) (c := .tt) s (by kernel_rfl) trivial ?_)
  clear s
  rintro w2 b1 s k1 -
  replace e1 := e1.st k1
  replace e2 := e2.st k1
  replace kk := kk.trans k1
  refine RW.seg hT 1 [] [] [.bool false] [] (by kernel_rfl) (trivial) ?_
  refine RW.nil ?_
  refine WPK.seq ?_
  refine WPK.region ?_
  refine RW.seg hT 1 [] [] [.bool true] [] (by kernel_rfl) (trivial) ?_
  refine RW.nil ?_
  refine WPK.seq ?_
  refine WPK.seq ?_
  refine WPK.region ?_
  refine RW.seg hT 1 [] [] [.int .i64 p1] [] (by kernel_rfl) (trivial) ?_
  refine RW.nil ?_
  refine WPK.block ?_
  refine WPK.seq ?_
  refine WPK.cut' (Kn fun D1 ds wz => ∀ X : Kont, (∀ (I1 : Nat → Prop) (x1 : Bool) (w' : World), g42_j1 p0 x1 = some r → St w1 M I1 ((.blk b1 (.cells #[.int .u64 p0.Epoch, .int .i64 p0.Pages, .slice A1 p0.Maps.length u1, .slice A2 p0.User.length u2] 28 (0, 0))) :: F) w' → Kp I w I1 w' → Elems (Rp.int .i64) I1 w' A1 p0.Maps → Elems (Rp.int .u8) I1 w' A2 p0.User → X [(D1.getD 0 undef), (D1.getD 1 undef), .pointer (some ⟨b1, 0, none⟩), (D1.getD 3 undef), .bool false, .bool x1, (D1.getD 6 undef), (D1.getD 7 undef), (D1.getD 8 undef), (D1.getD 9 undef), (D1.getD 10 undef), (D1.getD 11 undef), (D1.getD 12 undef), (D1.getD 13 undef), (D1.getD 14 undef), (D1.getD 15 undef), (D1.getD 16 undef), (D1.getD 17 undef), (D1.getD 18 undef), (D1.getD 19 undef), (D1.getD 20 undef), (D1.getD 21 undef), (D1.getD 22 undef), (D1.getD 23 undef), (D1.getD 24 undef), (D1.getD 25 undef), (D1.getD 26 undef), (D1.getD 27 undef), (D1.getD 28 undef), (D1.getD 29 undef), (D1.getD 30 undef), (D1.getD 31 undef), (D1.getD 32 undef), (D1.getD 33 undef), (D1.getD 34 undef), (D1.getD 35 undef), (D1.getD 36 undef), (D1.getD 37 undef), (D1.getD 38 undef), (D1.getD 39 undef), (D1.getD 40 undef), (D1.getD 41 undef), (D1.getD 42 undef), (D1.getD 43 undef), (D1.getD 44 undef), (D1.getD 45 undef), (D1.getD 46 undef), (D1.getD 47 undef), (D1.getD 48 undef), (D1.getD 49 undef), (D1.getD 50 undef), (D1.getD 51 undef), (D1.getD 52 undef), (D1.getD 53 undef), (D1.getD 54 undef), (D1.getD 55 undef), (D1.getD 56 undef), (D1.getD 57 undef), (D1.getD 58 undef), (D1.getD 59 undef), (D1.getD 60 undef), (D1.getD 61 undef), (D1.getD 62 undef), (D1.getD 63 undef), undef, undef, undef, undef, undef, undef, undef, undef] [] w') → X D1 ds wz) ?_ ?_
  intro X1 hX1
  refine fun D1 _ _ hJ => hJ X1 ?_
  clear s
  intro I1 x1 w3 hf s kk e1 e2
  refine hX1 _ _ _ ?_
  unfold g42_j1 at hf
  refine WPK.seq ?_
  refine WPK.region ?_
  refine RW.seg hT 1 [] [] [.bool x1] [] (by kernel_rfl) (trivial) ?_
  by_cases h1 : x1 = true
  have hf := iteT h1 hf
  refine RW.seg hT 7 [.slice A2 p0.User.length u2] [(65, .bool true)] [.bool true, .pointer (some ⟨b1, 3, none⟩), .slice A2 p0.User.length u2, .int .i64 (p0.User.length : Int), .bool (decide ((p0.User.length : Int) ≤ 32)), .bool (decide ((p0.User.length : Int) ≤ 32)), .bool (decide ((p0.User.length : Int) ≤ 32))] [.veq (.bool (x1)) (.bool true), .cell ⟨b1, 3, none⟩ (.slice A2 p0.User.length u2)] (by kernel_rfl) (⟨b_t h1, s.cell (i := 0) (off := 3) rfl rfl⟩) ?_
  refine RW.nil ?_
  refine WPK.exit (blockQ.same ?_)
  refine WPK.seq ?_
  refine WPK.region ?_
  refine RW.seg hT 2 [] [] [.bool (decide ((p0.User.length : Int) ≤ 32)), .bool (decide ((p0.User.length : Int) ≤ 32))] [] (by kernel_rfl) (trivial) ?_
  refine RW.nil ?_
  refine WPK.ret (?_)
  obtain rfl := someS hf
  refine Fin.of (rs := [.tmp 4]) hT [] (.bool (decide ((p0.User.length : Int) ≤ 32))) [] rfl (by kernel_rfl) (trivial) ?_
  replace s := s.pick [] 1 rfl
  exact fun X h => vc rfl (h I1 _ s kk)
  have hf := iteF h1 hf
  refine RW.seg hT 7 [] [(65, .bool false)] [.bool false, undef, undef, undef, undef, .bool false, .bool false] [.veq (.bool (x1)) (.bool false)] (by kernel_rfl) (b_f h1) ?_
  refine RW.nil ?_
  refine WPK.exit (blockQ.same ?_)
  refine WPK.seq ?_
  refine WPK.region ?_
  refine RW.seg hT 2 [] [] [.bool false, .bool false] [] (by kernel_rfl) (trivial) ?_
  refine RW.nil ?_
  refine WPK.ret (?_)
  obtain rfl := someS hf
  refine Fin.of (rs := [.tmp 4]) hT [] (.bool false) [] rfl (by kernel_rfl) (trivial) ?_
  replace s := s.pick [] 1 rfl
  exact fun X h => vc rfl (h I1 _ s kk)
  refine WPK.block ?_
  refine WPK.seq ?_
  refine WPK.cut' (Kn fun D2 ds wz => ∀ X : Kont, (∀ (I2 : Nat → Prop) (x2 : Bool) (w' : World), g42_j2 p0 x2 = some r → St w1 M I2 ((.blk b1 (.cells #[.int .u64 p0.Epoch, .int .i64 p0.Pages, .slice A1 p0.Maps.length u1, .slice A2 p0.User.length u2] 28 (0, 0))) :: F) w' → Kp I w I2 w' → Elems (Rp.int .i64) I2 w' A1 p0.Maps → Elems (Rp.int .u8) I2 w' A2 p0.User → X [(D2.getD 0 undef), (D2.getD 1 undef), .pointer (some ⟨b1, 0, none⟩), (D2.getD 3 undef), .bool false, .bool x2, undef, undef, (D2.getD 8 undef), (D2.getD 9 undef), (D2.getD 10 undef), (D2.getD 11 undef), (D2.getD 12 undef), (D2.getD 13 undef), (D2.getD 14 undef), (D2.getD 15 undef), (D2.getD 16 undef), (D2.getD 17 undef), (D2.getD 18 undef), (D2.getD 19 undef), (D2.getD 20 undef), (D2.getD 21 undef), (D2.getD 22 undef), (D2.getD 23 undef), (D2.getD 24 undef), (D2.getD 25 undef), (D2.getD 26 undef), (D2.getD 27 undef), (D2.getD 28 undef), (D2.getD 29 undef), (D2.getD 30 undef), (D2.getD 31 undef), (D2.getD 32 undef), (D2.getD 33 undef), (D2.getD 34 undef), undef, undef, undef, undef, undef, undef, undef, undef, undef, undef, undef, undef, undef, undef, undef, undef, undef, undef, undef, undef, undef, undef, undef, undef, undef, undef, undef, undef, undef, undef, undef, undef, undef, undef, undef, undef, undef] [] w') → X D2 ds wz) ?_ ?_
  intro X2 hX2
  refine fun D2 _ _ hJ => hJ X2 ?_
  clear s
  intro I2 x2 w4 hf s kk e1 e2
  refine hX2 _ _ _ ?_
  unfold g42_j2 at hf
  refine WPK.seq ?_
  refine WPK.region ?_
  refine RW.seg hT 4 [.slice A1 p0.Maps.length u1] [] [.pointer (some ⟨b1, 2, none⟩), .slice A1 p0.Maps.length u1, .int .i64 (p0.Maps.length : Int), .int .i64 0] [.cell ⟨b1, 2, none⟩ (.slice A1 p0.Maps.length u1)] (by kernel_rfl) (s.cell (i := 0) (off := 2) rfl rfl) ?_
  refine RW.nil ?_
  refine WPK.block ?_
  refine WPK.loop' (J := fun n1 D3 ds wz => ∀ X : Kont, (∀ (I3 : Nat → Prop) (x3 : Bool) (x4 : Int) (w' : World), g42_l3 p0 n1 x3 x4 = some r → St w1 M I3 ((.blk b1 (.cells #[.int .u64 p0.Epoch, .int .i64 p0.Pages, .slice A1 p0.Maps.length u1, .slice A2 p0.User.length u2] 28 (0, 0))) :: F) w' → Kp I w I3 w' → Elems (Rp.int .i64) I3 w' A1 p0.Maps → Elems (Rp.int .u8) I3 w' A2 p0.User → X [(D3.getD 0 undef), (D3.getD 1 undef), .pointer (some ⟨b1, 0, none⟩), (D3.getD 3 undef), .bool false, .bool x3, (D3.getD 6 undef), (D3.getD 7 undef), (D3.getD 8 undef), (D3.getD 9 undef), (D3.getD 10 undef), (D3.getD 11 undef), (D3.getD 12 undef), (D3.getD 13 undef), (D3.getD 14 undef), (D3.getD 15 undef), (D3.getD 16 undef), (D3.getD 17 undef), (D3.getD 18 undef), (D3.getD 19 undef), (D3.getD 20 undef), (D3.getD 21 undef), (D3.getD 22 undef), (D3.getD 23 undef), (D3.getD 24 undef), (D3.getD 25 undef), (D3.getD 26 undef), (D3.getD 27 undef), (D3.getD 28 undef), (D3.getD 29 undef), (D3.getD 30 undef), (D3.getD 31 undef), (D3.getD 32 undef), (D3.getD 33 undef), (D3.getD 34 undef), (D3.getD 35 undef), .slice A1 p0.Maps.length u1, .int .i64 (p0.Maps.length : Int), .int .i64 x4, (D3.getD 39 undef), (D3.getD 40 undef), (D3.getD 41 undef), (D3.getD 42 undef), (D3.getD 43 undef), (D3.getD 44 undef), (D3.getD 45 undef), (D3.getD 46 undef), (D3.getD 47 undef), (D3.getD 48 undef), (D3.getD 49 undef), (D3.getD 50 undef), (D3.getD 51 undef), (D3.getD 52 undef), (D3.getD 53 undef), (D3.getD 54 undef), (D3.getD 55 undef), (D3.getD 56 undef), (D3.getD 57 undef), (D3.getD 58 undef), (D3.getD 59 undef), (D3.getD 60 undef), (D3.getD 61 undef), (D3.getD 62 undef), (D3.getD 63 undef), undef, undef, undef, undef, undef, undef, undef, undef] [] w') → X D3 ds wz) FUEL (fun X h => kc (by kernel_rfl) rfl (h I2 x2 0 _ hf s kk e1 e2)) (fun _ _ _ hJ => hJ (fun _ _ _ => False) (by intro I3 x3 x4 w5 hf s kk e1 e2; exact noneS hf)) ?_
  intro X3 hX3
  refine fun n1 D3 _ _ hJ => hJ (X3 n1) ?_
  clear s
  intro I3 x3 x4 w5 hf s kk e1 e2
  refine hX3 _ _ _ _ ?_
  replace hf : g42_l3B p0 (g42_l3 p0 n1) x3 x4 = some r := hf
  generalize hrec1 : g42_l3 p0 n1 = rec1 at hf
  unfold g42_l3B at hf
  refine WPK.seq ?_
  refine WPK.region ?_
  refine RW.seg hT 1 [] [] [.bool (decide (x4 < (p0.Maps.length : Int)))] [] (by kernel_rfl) (trivial) ?_
  refine RW.nil ?_
  refine WPK.seq ?_
  by_cases h2 : x4 < (p0.Maps.length : Int)
  have hf := iteT h2 hf
  refine WPK.condT (Eq.trans (b := .bool (decide (x4 < (p0.Maps.length : Int)))) (by kernel_rfl) (bo_t h2)) ?_
  refine WPK.skip ?_
  refine WPK.seq ?_
  refine WPK.cut' (Kn fun D4 ds wz => ∀ X : Kont, (∀ (I4 : Nat → Prop) (x5 : Bool) (x6 : Int) (x7 : Int) (x8 : Bool) (x9 : Bool) (x10 : Bool) (x11 : Bool) (x12 : Bool) (x13 : Bool) (w' : World), g42_j4 x4 rec1 x5 x6 x7 x8 x9 x10 x11 x12 x13 = some r → St w1 M I4 ((.blk b1 (.cells #[.int .u64 p0.Epoch, .int .i64 p0.Pages, .slice A1 p0.Maps.length u1, .slice A2 p0.User.length u2] 28 (0, 0))) :: F) w' → Kp I w I4 w' → Elems (Rp.int .i64) I4 w' A1 p0.Maps → Elems (Rp.int .u8) I4 w' A2 p0.User → X [(D4.getD 0 undef), (D4.getD 1 undef), .pointer (some ⟨b1, 0, none⟩), (D4.getD 3 undef), .bool false, .bool x5, .int .i64 x4, .int .i64 x6, (D4.getD 8 undef), (D4.getD 9 undef), (D4.getD 10 undef), (D4.getD 11 undef), (D4.getD 12 undef), (D4.getD 13 undef), (D4.getD 14 undef), (D4.getD 15 undef), (D4.getD 16 undef), (D4.getD 17 undef), (D4.getD 18 undef), (D4.getD 19 undef), (D4.getD 20 undef), (D4.getD 21 undef), (D4.getD 22 undef), (D4.getD 23 undef), (D4.getD 24 undef), (D4.getD 25 undef), (D4.getD 26 undef), (D4.getD 27 undef), (D4.getD 28 undef), (D4.getD 29 undef), (D4.getD 30 undef), (D4.getD 31 undef), (D4.getD 32 undef), (D4.getD 33 undef), (D4.getD 34 undef), (D4.getD 35 undef), .slice A1 p0.Maps.length u1, .int .i64 (p0.Maps.length : Int), .int .i64 x4, .bool (decide (x4 < (p0.Maps.length : Int))), .int .i64 x4, (D4.getD 41 undef), .int .i64 x7, .bool x3, .bool x8, (D4.getD 45 undef), (D4.getD 46 undef), .bool x9, .bool x10, (D4.getD 49 undef), (D4.getD 50 undef), (D4.getD 51 undef), (D4.getD 52 undef), .bool x11, .bool x12, (D4.getD 55 undef), (D4.getD 56 undef), (D4.getD 57 undef), (D4.getD 58 undef), (D4.getD 59 undef), (D4.getD 60 undef), (D4.getD 61 undef), .bool x13, (D3.getD 63 undef), undef, undef, undef, undef, undef, undef, undef, undef] [] w') → X D4 ds wz) ?_ ?_
  intro X4 hX4
  refine fun D4 _ _ hJ => hJ X4 ?_
  clear s
  intro I4 x5 x6 x7 x8 x9 x10 x11 x12 x13 w6 hf s kk e1 e2
  refine hX4 _ _ _ ?_
  unfold g42_j4 at hf
  refine WPK.region ?_
  refine RW.seg hT 2 [] [] [.int .i64 (IntKind.i64.wrap (x4 + 1)), .int .i64 (IntKind.i64.wrap (x4 + 1))] [] (by kernel_rfl) (trivial) ?_
  refine RW.nil ?_
  subst hrec1
  exact ⟨n1, Nat.le_refl _, fun X h => kc (by kernel_rfl) rfl (h I4 x5 (IntKind.i64.wrap (x4 + 1)) _ hf s kk e1 e2)⟩
  refine WPK.block ?_
  refine WPK.seq ?_
  refine WPK.region ?_
  obtain ⟨x14, hx1, hf⟩ := bindS hf
  obtain ⟨h3, hx1⟩ := getS hx1
  obtain ⟨b2, o1, rfl⟩ := Elems.opn e1 hx1
  obtain ⟨cs1, hr1, ha1⟩ := Elems.get e1 hx1
  obtain rfl : cs1 = [.int .i64 x14] := hr1
  refine RW.seg hT 5 [.int .i64 x14] [] [.int .i64 x4, .pointer (some ⟨b2, o1 + x4.toNat * 1, none⟩), .int .i64 x14, .int .i64 x4, .int .i64 x14] [.idx x4 p0.Maps.length, .cell ⟨b2, o1 + x4.toNat * 1, none⟩ (.int .i64 x14)] (by kernel_rfl) (⟨h3, ha1 0 _ rfl⟩) ?_
  refine RW.nil ?_
  refine WPK.region ?_
  refine RW.seg hT 1 [] [] [.bool x3] [] (by kernel_rfl) (trivial) ?_
  by_cases h4 : x3 = true
  have hf := iteT h4 hf
  refine RW.seg hT 4 [] [(44, .bool true)] [.bool true, .int .i64 x14, .bool (decide (x14 ≥ 2)), .bool (decide (x14 ≥ 2))] [.veq (.bool (x3)) (.bool true)] (by kernel_rfl) (b_t h4) ?_
  by_cases h5 : x14 ≥ 2
  have hf := iteT h5 hf
  refine RW.seg hT 6 [.int .i64 p0.Pages] [(48, .bool true)] [.bool true, .int .i64 x14, .pointer (some ⟨b1, 1, none⟩), .int .i64 p0.Pages, .bool (decide (x14 < p0.Pages)), .bool (decide (x14 < p0.Pages))] [.veq (.bool (decide (x14 ≥ 2))) (.bool true), .cell ⟨b1, 1, none⟩ (.int .i64 p0.Pages)] (by kernel_rfl) (⟨bo_t h5, s.cell (i := 0) (off := 1) rfl rfl⟩) ?_
  by_cases h6 : x14 < p0.Pages
  have hf := iteT h6 hf
  obtain ⟨y1, hy1, hf⟩ := bindS hf
  obtain ⟨h7, hc3, e3, q1⟩ := slS0 hc1 e1 hy1
  refine RW.seg hT 6 [.slice (some ⟨b2, o1, none⟩) p0.Maps.length u1] [(54, .bool true), (58, .slice (some ⟨b2, o1, none⟩) y1.length u1)] [.bool true, .pointer (some ⟨b1, 2, none⟩), .slice (some ⟨b2, o1, none⟩) p0.Maps.length u1, .int .i64 x4, .slice (some ⟨b2, o1, none⟩) y1.length u1, .int .i64 x14] [.veq (.bool (decide (x14 < p0.Pages))) (.bool true), .cell ⟨b1, 2, none⟩ (.slice (some ⟨b2, o1, none⟩) p0.Maps.length u1), .both (.cut 0 x4 u1 u1) (.veq (.slice (some ⟨b2, o1, none⟩) x4.toNat u1) (.slice (some ⟨b2, o1, none⟩) y1.length u1))] (by kernel_rfl) (⟨bo_t h6, s.cell (i := 0) (off := 2) rfl rfl, ⟨⟨by omega, by omega, by omega, by omega⟩, sl_eq rfl q1 rfl⟩⟩) ?_
  obtain ⟨x15, hx2, hf⟩ := bindS hf
  refine RW.op (by kernel_rfl) (OK.call' en65 (by kernel_rfl) (c65 (F := (.blk b1 (.cells #[.int .u64 p0.Epoch, .int .i64 p0.Pages, .slice (some ⟨b2, o1, none⟩) p0.Maps.length u1, .slice A2 p0.User.length u2] 28 (0, 0))) :: F) y1 x14 (some ⟨b2, o1, none⟩) u1 hc3 e3 s hx2) ?_)
  intro X5 hX5
  refine fun _ _ hJ => hJ X5 ?_
  clear s
  intro I5 w7 s k2
  refine hX5 _ _ ?_
  replace e1 := e1.st k2
  replace e3 := e3.st k2
  replace e2 := e2.st k2
  replace kk := kk.trans k2
  refine RW.seg hT 3 [] [(61, .bool (decide (¬ (x15 = true))))] [.bool (decide (¬ (x15 = true))), .bool (decide (¬ (x15 = true))), .bool (decide (¬ (x15 = true)))] [.veq (.bool (!x15)) (.bool (decide (¬ (x15 = true))))] (by kernel_rfl) (not_b) ?_
  refine RW.nil ?_
  exact fun X h => kc (by kernel_rfl) rfl (h I5 (decide (¬ (x15 = true))) x14 x14 true (decide (x14 ≥ 2)) true (decide (x14 < p0.Pages)) true (decide (¬ (x15 = true))) _ hf s kk e1 e2)
  have hf := iteF h6 hf
  refine RW.seg hT 10 [] [(54, .bool false)] [.bool false, undef, undef, undef, undef, undef, undef, undef, .bool false, .bool false] [.veq (.bool (decide (x14 < p0.Pages))) (.bool false)] (by kernel_rfl) (bo_f h6) ?_
  refine RW.nil ?_
  exact fun X h => kc (by kernel_rfl) rfl (h I3 false x14 x14 true (decide (x14 ≥ 2)) true (decide (x14 < p0.Pages)) false false _ hf s kk e1 e2)
  have hf := iteF h5 hf
  refine RW.seg hT 16 [] [(48, .bool false)] [.bool false, undef, undef, undef, undef, .bool false, .bool false, undef, undef, undef, undef, undef, undef, undef, .bool false, .bool false] [.veq (.bool (decide (x14 ≥ 2))) (.bool false)] (by kernel_rfl) (bo_f h5) ?_
  refine RW.nil ?_
  exact fun X h => kc (by kernel_rfl) rfl (h I3 false x14 x14 true (decide (x14 ≥ 2)) false false false false _ hf s kk e1 e2)
  have hf := iteF h4 hf
  refine RW.seg hT 20 [] [(44, .bool false)] [.bool false, undef, undef, .bool false, .bool false, undef, undef, undef, undef, .bool false, .bool false, undef, undef, undef, undef, undef, undef, undef, .bool false, .bool false] [.veq (.bool (x3)) (.bool false)] (by kernel_rfl) (b_f h4) ?_
  refine RW.nil ?_
  exact fun X h => kc (by kernel_rfl) rfl (h I3 false x14 x14 false false false false false false _ hf s kk e1 e2)
  have hf := iteF h2 hf
  refine WPK.condF (Eq.trans (b := .bool (decide (x4 < (p0.Maps.length : Int)))) (by kernel_rfl) (bo_f h2)) ?_
  refine WPK.exit (blockQ.same ?_)
  exact fun X h => kc (by kernel_rfl) rfl (h I3 x3 _ hf s kk e1 e2)
  refine WPK.block ?_
  refine WPK.seq ?_
  refine WPK.cut' (Kn fun D5 ds wz => ∀ X : Kont, (∀ (x16 : Bool), g42_j5 p0 x16 = some r → X [(D5.getD 0 undef), (D5.getD 1 undef), .pointer (some ⟨b1, 0, none⟩), (D5.getD 3 undef), .bool false, .bool x16, undef, undef, (D5.getD 8 undef), (D5.getD 9 undef), (D5.getD 10 undef), (D5.getD 11 undef), (D5.getD 12 undef), (D5.getD 13 undef), (D5.getD 14 undef), (D5.getD 15 undef), (D5.getD 16 undef), (D5.getD 17 undef), (D5.getD 18 undef), (D5.getD 19 undef), (D5.getD 20 undef), (D5.getD 21 undef), (D5.getD 22 undef), (D5.getD 23 undef), (D5.getD 24 undef), undef, undef, undef, undef, undef, undef, undef, undef, undef, undef, undef, undef, undef, undef, undef, undef, undef, undef, undef, undef, undef, undef, undef, undef, undef, undef, undef, undef, undef, undef, undef, undef, undef, undef, undef, undef, undef, undef, undef, undef, undef, undef, undef, undef, undef, undef, undef] [] w2) → X D5 ds wz) ?_ ?_
  intro X6 hX6
  refine fun D5 _ _ hJ => hJ X6 ?_
  intro x16 hf
  refine hX6 _ _ _ ?_
  unfold g42_j5 at hf
  have e1S1 := e1
  have e2S1 := e2
  have kS1 : Kp I w2 I w2 := Kp.refl
  refine WPK.drawM (fun w' => ∃ I' : Nat → Prop, St w1 M I' ((.blk b1 (.cells #[.int .u64 p0.Epoch, .int .i64 p0.Pages, .slice A1 p0.Maps.length u1, .slice A2 p0.User.length u2] 28 (0, 0))) :: F) w' ∧ Kp I w2 I' w') 11 [0, 1, 3, 7, 15, 3, 35, 99, 255, 511, 1023] (by kernel_rfl) (by kernel_rfl) ?_
  intro ht1 w8 hd1
  have k3 := Kp.dr s hd1
  replace s := s.dr hd1
  replace e1 := e1.st k3
  replace e2 := e2.st k3
  replace kk := kk.trans k3
  replace kS1 := kS1.trans k3
  refine RD.segM hT ht1 (by kernel_rfl) [0] [] [] [.bool x16] [] (by kernel_rfl) (fun _ _ => trivial) ⟨_, s.pick [0] 1 rfl, kS1⟩ ?_
  by_cases h8 : x16 = true
  have hf := iteT h8 hf
  refine RD.segM hT ht1 (by kernel_rfl) [1, 2, 3, 4, 5, 6] [.slice A1 p0.Maps.length u1, .int .i64 p0.Pages] [(26, .bool true)] [.bool true, .pointer (some ⟨b1, 2, none⟩), .slice A1 p0.Maps.length u1, .int .i64 (p0.Maps.length : Int), .pointer (some ⟨b1, 1, none⟩), .int .i64 p0.Pages] [.veq (.bool (x16)) (.bool true), .cell ⟨b1, 2, none⟩ (.slice A1 p0.Maps.length u1), .cell ⟨b1, 1, none⟩ (.int .i64 p0.Pages)] (by kernel_rfl) (by rintro w' ⟨I', s, k⟩; have e1 := e1S1.st k; have e2 := e2S1.st k; exact ⟨b_t h8, s.cell (i := 0) (off := 2) rfl rfl, s.cell (i := 0) (off := 1) rfl rfl⟩) ⟨_, s.pick [0] 1 rfl, kS1⟩ ?_
  obtain ⟨x17, hx3, hf⟩ := bindS hf
  refine RD.op (i := 7) rfl (by kernel_rfl) (by kernel_rfl) (OK.call' en64 (by kernel_rfl) (c64 (F := (.blk b1 (.cells #[.int .u64 p0.Epoch, .int .i64 p0.Pages, .slice A1 p0.Maps.length u1, .slice A2 p0.User.length u2] 28 (0, 0))) :: F) p0.Pages s hx3) ?_)
  intro X7 hX7
  refine fun _ _ hJ => hJ X7 ?_
  clear s
  intro I6 w9 s k4
  refine hX7 _ _ ?_
  replace e1 := e1.st k4
  replace e2 := e2.st k4
  replace kk := kk.trans k4
  replace kS1 := kS1.trans k4
  refine ⟨fun _ => ⟨_, s.pick [0] 1 rfl, kS1⟩, RD.fold ?_⟩
  refine RD.segM hT ht1 (by kernel_rfl) [8, 9, 10] [] [(33, .bool (decide ((p0.Maps.length : Int) = x17)))] [.bool (decide ((p0.Maps.length : Int) = x17)), .bool (decide ((p0.Maps.length : Int) = x17)), .bool (decide ((p0.Maps.length : Int) = x17))] [.veq (.bool ((p0.Maps.length : Int) == x17)) (.bool (decide ((p0.Maps.length : Int) = x17)))] (by kernel_rfl) (by rintro w' ⟨I', s, k⟩; have e1 := e1S1.st k; have e2 := e2S1.st k; exact eq_v) ⟨_, s.pick [0] 1 rfl, kS1⟩ ?_
  refine RD.done (by kernel_rfl) ?_
  exact fun X h => kc (by kernel_rfl) rfl (h I6 (decide ((p0.Maps.length : Int) = x17)) _ hf s kk e1 e2)
  have hf := iteF h8 hf
  refine RD.segM hT ht1 (by kernel_rfl) [1, 2, 3, 4, 5, 6] [] [(26, .bool false)] [.bool false, undef, undef, undef, undef, undef] [.veq (.bool (x16)) (.bool false)] (by kernel_rfl) (by rintro w' ⟨I', s, k⟩; have e1 := e1S1.st k; have e2 := e2S1.st k; exact b_f h8) ⟨_, s.pick [0] 1 rfl, kS1⟩ ?_
  refine RD.skip (i := 7) rfl (by kernel_rfl) (by kernel_rfl) ?_
  refine ⟨fun _ => ⟨_, s.pick [0] 1 rfl, kS1⟩, ?_⟩
  refine RD.segM hT ht1 (by kernel_rfl) [8, 9, 10] [] [] [undef, .bool false, .bool false] [] (by kernel_rfl) (fun _ _ => trivial) ⟨_, s.pick [0] 1 rfl, kS1⟩ ?_
  refine RD.done (by kernel_rfl) ?_
  exact fun X h => kc (by kernel_rfl) rfl (h I false _ hf s kk e1 e2)
  refine WPK.block ?_
  refine WPK.seq ?_
  refine WPK.block ?_
  refine WPK.seq ?_
  refine WPK.seq ?_
  refine WPK.seq ?_
  refine WPK.region ?_
  refine RW.seg hT 2 [] [(10, .bool (decide (p1 = 0)))] [.bool (decide (p1 = 0)), .bool (decide (p1 = 0))] [.veq (.bool (p1 == 0)) (.bool (decide (p1 = 0)))] (by kernel_rfl) (eq_v) ?_
  refine RW.nil ?_
  by_cases h9 : p1 = 0
  have hf := iteT h9 hf
  refine WPK.condT (Eq.trans (b := .bool (decide (p1 = 0))) (by kernel_rfl) (bo_t h9)) ?_
  refine WPK.exit (blockQ.same ?_)
  refine WPK.region ?_
  refine RW.seg hT 3 [.int .i64 p0.Pages] [] [.pointer (some ⟨b1, 1, none⟩), .int .i64 p0.Pages, .bool (decide (p0.Pages ≥ 8))] [.cell ⟨b1, 1, none⟩ (.int .i64 p0.Pages)] (by kernel_rfl) (s.cell (i := 0) (off := 1) rfl rfl) ?_
  by_cases h10 : p0.Pages ≥ 8
  have hf := iteT h10 hf
  refine RW.seg hT 6 [.int .i64 p0.Pages] [(20, .bool true)] [.bool true, .pointer (some ⟨b1, 1, none⟩), .int .i64 p0.Pages, .bool (decide (p0.Pages ≤ 2048)), .bool (decide (p0.Pages ≤ 2048)), .bool (decide (p0.Pages ≤ 2048))] [.veq (.bool (decide (p0.Pages ≥ 8))) (.bool true), .cell ⟨b1, 1, none⟩ (.int .i64 p0.Pages)] (by kernel_rfl) (⟨bo_t h10, s.cell (i := 0) (off := 1) rfl rfl⟩) ?_
  refine RW.nil ?_
  exact fun X h => kc (by kernel_rfl) rfl (h (decide (p0.Pages ≤ 2048)) hf)
  have hf := iteF h10 hf
  refine RW.seg hT 6 [] [(20, .bool false)] [.bool false, undef, undef, undef, .bool false, .bool false] [.veq (.bool (decide (p0.Pages ≥ 8))) (.bool false)] (by kernel_rfl) (bo_f h10) ?_
  refine RW.nil ?_
  exact fun X h => kc (by kernel_rfl) rfl (h false hf)
  have hf := iteF h9 hf
  refine WPK.condF (Eq.trans (b := .bool (decide (p1 = 0))) (by kernel_rfl) (bo_f h9)) ?_
  refine WPK.skip ?_
  refine WPK.seq ?_
  refine WPK.seq ?_
  refine WPK.region ?_
  refine RW.seg hT 2 [] [(12, .bool (decide (p1 = 1)))] [.bool (decide (p1 = 1)), .bool (decide (p1 = 1))] [.veq (.bool (p1 == 1)) (.bool (decide (p1 = 1)))] (by kernel_rfl) (eq_v) ?_
  refine RW.nil ?_
  by_cases h11 : p1 = 1
  have hf := iteT h11 hf
  refine WPK.condT (Eq.trans (b := .bool (decide (p1 = 1))) (by kernel_rfl) (bo_t h11)) ?_
  refine WPK.exit (blockQ.other rfl (blockQ.same ?_))
  exact fun X h => kc (by kernel_rfl) rfl (h true hf)
  have hf := iteF h11 hf
  refine WPK.condF (Eq.trans (b := .bool (decide (p1 = 1))) (by kernel_rfl) (bo_f h11)) ?_
  refine WPK.skip ?_
  refine WPK.seq ?_
  refine WPK.seq ?_
  refine WPK.region ?_
  refine RW.seg hT 2 [] [(14, .bool (decide (p1 = 2)))] [.bool (decide (p1 = 2)), .bool (decide (p1 = 2))] [.veq (.bool (p1 == 2)) (.bool (decide (p1 = 2)))] (by kernel_rfl) (eq_v) ?_
  refine RW.nil ?_
  by_cases h12 : p1 = 2
  have hf := iteT h12 hf
  refine WPK.condT (Eq.trans (b := .bool (decide (p1 = 2))) (by kernel_rfl) (bo_t h12)) ?_
  refine WPK.exit (blockQ.other rfl (blockQ.other rfl (blockQ.same ?_)))
  exact fun X h => kc (by kernel_rfl) rfl (h I true _ hf s kk e1 e2)
  have hf := iteF h12 hf
  refine WPK.condF (Eq.trans (b := .bool (decide (p1 = 2))) (by kernel_rfl) (bo_f h12)) ?_
  refine WPK.skip ?_
  refine WPK.seq ?_
  refine WPK.region ?_
  refine RW.seg hT 2 [] [(16, .bool (decide (p1 = 3)))] [.bool (decide (p1 = 3)), .bool (decide (p1 = 3))] [.veq (.bool (p1 == 3)) (.bool (decide (p1 = 3)))] (by kernel_rfl) (eq_v) ?_
  refine RW.nil ?_
  by_cases h13 : p1 = 3
  have hf := iteT h13 hf
  refine WPK.condT (Eq.trans (b := .bool (decide (p1 = 3))) (by kernel_rfl) (bo_t h13)) ?_
  refine WPK.exit (blockQ.other rfl (blockQ.other rfl (blockQ.other rfl (blockQ.same ?_))))
  exact fun X h => kc (by kernel_rfl) rfl (h I true _ hf s kk e1 e2)
  have hf := iteF h13 hf
  refine WPK.condF (Eq.trans (b := .bool (decide (p1 = 3))) (by kernel_rfl) (bo_f h13)) ?_
  refine WPK.skip ?_
  refine WPK.exit (blockQ.other rfl (blockQ.other rfl (blockQ.other rfl (blockQ.other rfl (blockQ.same ?_)))))
  refine WPK.seq ?_
  refine WPK.region ?_
  refine RW.seg hT 2 [] [] [.bool true, .bool true] [] (by kernel_rfl) (trivial) ?_
  refine RW.nil ?_
  refine WPK.ret (?_)
  obtain rfl := someS hf
  refine Fin.of (rs := [.tmp 4]) hT [] (.bool true) [] rfl (by kernel_rfl) (trivial) ?_
  replace s := s.pick [] 1 rfl
  exact fun X h => vc rfl (h I _ s kk)
theorem c21 {w1 w : World} {M I : Nat → Prop} {F : List It} (p0 : T_api_Head) (A1 : Option Addr) (u1 : Nat) (A2 : Option Addr) (u2 : Nat) (hc1 : (p0.Maps.length ≤ u1 ∧ u1 ≤ 9223372036854775807)) (e1 : Elems (Rp.int .i64) I w A1 p0.Maps) (hc2 : (p0.User.length ≤ u2 ∧ u2 ≤ 9223372036854775807)) (e2 : Elems (Rp.int .u8) I w A2 p0.User) (s : St w1 M I (F) w) {r : Int} (hf : g21 p0 = some r) :
    Ret Tryd.prog 21 [.agg #[.int .u64 p0.Epoch, .int .i64 p0.Pages, .slice A1 p0.Maps.length u1, .slice A2 p0.User.length u2]] w fun v wz => ∀ X : Value → World → Prop, (∀ (I' : Nat → Prop) (w' : World), St w1 M I' (F) w' → Kp I w I' w' → X (.int .i64 r) w') → X v wz := by
  have kk : Kp I w I w := Kp.refl
  unfold g21 at hf
  refine Ret.of Tryd.func21 rfl ?_
  refine WPK.seq ?_
  refine WPK.region ?_
  refine RW.op (by kernel_rfl) (OK.new hT (f := fun b => .pointer (some ⟨b, 0, none⟩)) (cs := [.int .u64 p0.Epoch, .int .i64 p0.Pages, .slice A1 p0.Maps.length u1, .slice A2 p0.User.length u2]) (e := 28) (c := .tt) s (by kernel_rfl) trivial ?_)
  clear s
  rintro w2 b1 s k1 -
  replace e1 := e1.st k1
  replace e2 := e2.st k1
  replace kk := kk.trans k1
  refine RW.seg hT 1 [] [] [.int .i64 0] [] (by kernel_rfl) (trivial) ?_
  refine RW.nil ?_
  refine WPK.seq ?_
  refine WPK.seq ?_
  refine WPK.region ?_
  refine RW.seg hT 1 [.agg #[.int .u64 p0.Epoch, .int .i64 p0.Pages, .slice A1 p0.Maps.length u1, .slice A2 p0.User.length u2]] [] [.agg #[.int .u64 p0.Epoch, .int .i64 p0.Pages, .slice A1 p0.Maps.length u1, .slice A2 p0.User.length u2]] [.cells ⟨b1, 0, none⟩ [.int .u64 p0.Epoch, .int .i64 p0.Pages, .slice A1 p0.Maps.length u1, .slice A2 p0.User.length u2] 4] (by kernel_rfl) (s.cells (i := 0) rfl rfl rfl) ?_
  obtain ⟨x1, hx1, hf⟩ := bindS hf
  refine RW.op (by kernel_rfl) (OK.call' en42 (by kernel_rfl) (c42 (F := (.blk b1 (.cells #[.int .u64 p0.Epoch, .int .i64 p0.Pages, .slice A1 p0.Maps.length u1, .slice A2 p0.User.length u2] 28 (0, 0))) :: F) p0 0 A1 u1 A2 u2 hc1 e1 hc2 e2 s hx1) ?_)
  intro X1 hX1
  refine fun _ _ hJ => hJ X1 ?_
  clear s
  intro I1 w3 s k2
  refine hX1 _ _ ?_
  replace e1 := e1.st k2
  replace e2 := e2.st k2
  replace kk := kk.trans k2
  refine RW.seg hT 1 [] [(5, .bool (decide (¬ (x1 = true))))] [.bool (decide (¬ (x1 = true)))] [.veq (.bool (!x1)) (.bool (decide (¬ (x1 = true))))] (by kernel_rfl) (not_b) ?_
  refine RW.nil ?_
  by_cases h1 : ¬ (x1 = true)
  have hf := iteT h1 hf
  refine WPK.condT (Eq.trans (b := .bool (decide (¬ (x1 = true)))) (by kernel_rfl) (bo_t h1)) ?_
  refine WPK.seq ?_
  refine WPK.region ?_
  refine RW.seg hT 1 [] [] [.int .i64 60] [] (by kernel_rfl) (trivial) ?_
  refine RW.nil ?_
  refine WPK.ret (?_)
  obtain rfl := someS hf
  refine Fin.of (rs := [.tmp 2]) hT [] (.int .i64 60) [] rfl (by kernel_rfl) (trivial) ?_
  replace s := s.pick [] 1 rfl
  exact fun X h => vc rfl (h I1 _ s kk)
  have hf := iteF h1 hf
  refine WPK.condF (Eq.trans (b := .bool (decide (¬ (x1 = true)))) (by kernel_rfl) (bo_f h1)) ?_
  refine WPK.skip ?_
  refine WPK.seq ?_
  refine WPK.region ?_
  refine RW.seg hT 1 [] [] [.int .i64 0] [] (by kernel_rfl) (trivial) ?_
  refine RW.nil ?_
  refine WPK.ret (?_)
  obtain rfl := someS hf
  refine Fin.of (rs := [.tmp 2]) hT [] (.int .i64 0) [] rfl (by kernel_rfl) (trivial) ?_
  replace s := s.pick [] 1 rfl
  exact fun X h => vc rfl (h I1 _ s kk)
theorem c59 {w1 w : World} {M I : Nat → Prop} {F : List It} (p0 : (List Int)) (p1 : Int) (p2 : Int) (A1 : Option Addr) (u1 : Nat) (hc1 : (p0.length ≤ u1 ∧ u1 ≤ 9223372036854775807)) (e1 : Elems (Rp.int .u8) I w A1 p0) (s : St w1 M I (F) w) {r : (List Int)} (hf : g59 p0 p1 p2 = some r) :
    Ret Tryd.prog 59 [.slice A1 p0.length u1, .int .u64 p1, .int .i64 p2] w fun v wz => ∀ X : Value → World → Prop, (∀ (I' : Nat → Prop) (A2 : Option Addr) (n1 : Nat) (u2 : Nat) (cl1 : List Value) (w' : World), St w1 M I' ((.sl (.slice A2 n1 u2) 5 1 n1 cl1) :: F) w' → Kp I w I' w' → n1 = r.length → RepL (Rp.int .u8) I' w' cl1 r → X (.slice A2 n1 u2) w') → X v wz := by
  have kk : Kp I w I w := Kp.refl
  unfold g59 at hf
  refine Ret.of Tryd.func59 rfl ?_
  refine WPK.seq ?_
  refine WPK.region ?_
  refine RW.seg hT 1 [] [] [.slice none 0 0] [] (by kernel_rfl) (trivial) ?_
  refine RW.nil ?_
  refine WPK.seq ?_
  refine WPK.region ?_
  refine RW.seg hT 2 [] [] [.slice A1 p0.length u1, .int .i64 p2] [] (by kernel_rfl) (trivial) ?_
  refine RW.op (by kernel_rfl) (OK.inl (args := [.slice A1 p0.length u1, .int .i64 p2]) en54 (by kernel_rfl) ?_)
  intro R1 hR1
  refine Ret.of Tryd.func54 rfl ?_
  refine WPK.seq ?_
  refine WPK.region ?_
  refine RW.seg hT 2 [] [] [.slice none 0 0, .slice none 0 0] [] (by kernel_rfl) (trivial) ?_
  refine RW.nil ?_
  refine WPK.seq ?_
  refine WPK.region ?_
  refine RW.seg hT 4 [] [] [.slice A1 p0.length u1, .int .i64 (p0.length : Int), .int .i64 p2, .int .i64 (IntKind.i64.wrap ((p0.length : Int) + p2))] [] (by kernel_rfl) (trivial) ?_
  obtain ⟨x1, hx1, hf⟩ := bindS hf
  refine RW.op (by kernel_rfl) (OK.make hT (r := (Rp.int .u8)) (n := IntKind.i64.wrap ((p0.length : Int) + p2)) (z := .int .u8 0) (x := 0) (e := 5) (bytes := 1) s (by kernel_rfl) hx1 (fun _ _ => rfl) ?_)
  clear s
  rintro w2 b1 cl2 s k1 rp1
  replace e1 := e1.st k1
  replace kk := kk.trans k1
  refine RW.seg hT 1 [] [] [.slice (some ⟨b1, 0, none⟩) x1.length x1.length] [] (by kernel_rfl) (trivial) ?_
  refine RW.nil ?_
  refine WPK.seq ?_
  refine WPK.region ?_
  refine RW.seg hT 2 [] [] [.slice (some ⟨b1, 0, none⟩) x1.length x1.length, .slice A1 p0.length u1] [] (by kernel_rfl) (trivial) ?_
  have pt1 : Pt 0 x1.length x1.length 1 0 (x1.length : Int) x1.length := by have h1 := Pt.whole (size := 1) (row_hc (s.at (i := 0) rfl)).1; exact h1
  obtain ⟨nw1, hs1, rq1⟩ := Elems.src e1
  obtain ⟨x2, hx2, hf⟩ := bindS hf
  replace hx2 := someS hx2
  refine RW.op (by kernel_rfl) (OK.copy hT (r := (Rp.int .u8)) (xs := x1) (ys := p0) (i := 0) (c := x1.length) (e := 5) (size := 1) (t := 24) (t' := 24) (et := 5) (l := 0) (h := (x1.length : Int)) s (by kernel_rfl) rfl rfl rfl rfl rfl flat_int rfl rfl rfl rp1 pt1 rfl hs1 rq1 ?_)
  clear s
  rintro w3 cl3 s k2 rp2 hn1
  replace e1 := e1.st k2
  replace rp1 := rp1.st k2
  replace kk := kk.trans k2
  rw [hx2] at rp2 hn1
  refine RW.nil ?_
  refine WPK.seq ?_
  have e1S1 := e1
  have rp2S1 := rp2
  have kS1 : Kp I w3 I w3 := Kp.refl
  refine WPK.drawM (fun w' => ∃ I' : Nat → Prop, St w1 M I' ((.sl (.slice (some ⟨b1, 0, none⟩) x1.length x1.length) 5 1 x1.length cl3) :: F) w' ∧ Kp I w3 I' w') 7 [0, 0, 0, 4, 14, 1, 63] (by kernel_rfl) (by kernel_rfl) ?_
  intro ht1 w4 hd1
  have k3 := Kp.dr s hd1
  replace s := s.dr hd1
  replace e1 := e1.st k3
  replace rp2 := rp2.st k3
  replace kk := kk.trans k3
  replace kS1 := kS1.trans k3
  obtain ⟨h2, hf⟩ := iteS hf
  replace h2 : (0 : Int) ≤ (p0.length : Int) ∧ (p0.length : Int) ≤ (x2.length : Int) ∧ (x2.length : Int) ≤ ((x1.length : Nat) : Int) - 0 := by have hnn := hn1; omega
  obtain ⟨o1, n2, u3, q1, q2, q3, q4, q5, pt2⟩ := partS (b := b1) (c := x1.length) (Pt.whole (size := 1) (row_hc (s.at (i := 0) rfl)).1) (Nat.le_refl _) h2
  rw [Int.zero_add, Int.zero_add] at pt2
  replace q2 : x1.length - (p0.length : Int).toNat = n2 := by rw [← q2]; have hnn := hn1; omega
  refine RD.segM hT ht1 (by kernel_rfl) [0, 1, 2, 3, 4, 5, 6] [] [(19, .slice (some ⟨b1, o1, none⟩) n2 u3)] [.slice (some ⟨b1, 0, none⟩) x1.length x1.length, .slice (some ⟨b1, 0, none⟩) x1.length x1.length, .slice A1 p0.length u1, .int .i64 (p0.length : Int), .slice (some ⟨b1, o1, none⟩) n2 u3, .slice (some ⟨b1, 0, none⟩) x1.length x1.length, .slice (some ⟨b1, o1, none⟩) n2 u3] [.both (.cut (p0.length : Int) (x1.length : Nat) x1.length x1.length) (.veq (.slice (cutA (some ⟨b1, 0, none⟩) (p0.length : Int).toNat x1.length 1) (x1.length - (p0.length : Int).toNat) (x1.length - (p0.length : Int).toNat)) (.slice (some ⟨b1, o1, none⟩) n2 u3))] (by kernel_rfl) (by rintro w' ⟨I', s, k⟩; have e1 := e1S1.st k; have rp2 := rp2S1.st k; exact ⟨⟨(q5).1, by have h3 := (q5).2.1; have h4 := (q5).2.2.1; omega, by have := (q5).2.2.2; omega, by omega⟩, sl_eq q1 q2 q3⟩) ⟨_, s.pick [0] 1 rfl, kS1⟩ ?_
  refine RD.done (by kernel_rfl) ?_
  refine WPK.ret (?_)
  refine Fin.of (rs := [.tmp 4, .tmp 5]) hT [] (.tuple #[.slice (some ⟨b1, 0, none⟩) x1.length x1.length, .slice (some ⟨b1, o1, none⟩) n2 u3]) [] rfl (by kernel_rfl) (trivial) ?_
  refine hR1 _ _ ?_
  refine RW.seg hT 5 [] [] [.tuple #[.slice (some ⟨b1, 0, none⟩) x1.length x1.length, .slice (some ⟨b1, o1, none⟩) n2 u3], .slice (some ⟨b1, 0, none⟩) x1.length x1.length, .slice (some ⟨b1, o1, none⟩) n2 u3, .slice (some ⟨b1, 0, none⟩) x1.length x1.length, .slice (some ⟨b1, o1, none⟩) n2 u3] [] (by kernel_rfl) (trivial) ?_
  refine RW.nil ?_
  refine WPK.seq ?_
  refine WPK.seq ?_
  refine WPK.region ?_
  refine RW.seg hT 2 [] [] [.int .i64 p2, .int .i64 0] [] (by kernel_rfl) (trivial) ?_
  refine RW.nil ?_
  refine WPK.block ?_
  refine WPK.loop' (J := fun n3 D1 ds wz => ∀ X : Kont, (∀ (I1 : Nat → Prop) (x3 : Int) (x4 : (List Int)) (cl4 : List Value) (w' : World), g59_l1 p0 p1 p2 x2 n3 x3 x4 = some r → St w1 M I1 ((.sl (.slice (some ⟨b1, 0, none⟩) x1.length x1.length) 5 1 x1.length cl4) :: F) w' → Kp I w I1 w' → x1.length = x4.length → RepL (Rp.int .u8) I1 w' cl4 x4 → X [(D1.getD 0 undef), .int .u64 p1, .int .i64 p2, (D1.getD 3 undef), (D1.getD 4 undef), (D1.getD 5 undef), .slice none 0 0, .slice (some ⟨b1, 0, none⟩) x1.length x1.length, .slice (some ⟨b1, o1, none⟩) n2 u3, (D1.getD 9 undef), (D1.getD 10 undef), (D1.getD 11 undef), (D1.getD 12 undef), (D1.getD 13 undef), (D1.getD 14 undef), (D1.getD 15 undef), .int .i64 p2, .int .i64 x3, (D1.getD 18 undef), (D1.getD 19 undef), (D1.getD 20 undef), (D1.getD 21 undef), (D1.getD 22 undef), (D1.getD 23 undef), (D1.getD 24 undef), (D1.getD 25 undef), (D1.getD 26 undef), (D1.getD 27 undef), (D1.getD 28 undef), (D1.getD 29 undef), (D1.getD 30 undef), (D1.getD 31 undef), (D1.getD 32 undef), undef] [] w') → X D1 ds wz) FUEL (fun X h => kc (by kernel_rfl) rfl (h I 0 x2 cl3 _ hf s kk hn1 rp2)) (fun _ _ _ hJ => hJ (fun _ _ _ => False) (by intro I1 x3 x4 cl4 w5 hf s kk hn2 rp3; exact noneS hf)) ?_
  intro X1 hX1
  refine fun n3 D1 _ _ hJ => hJ (X1 n3) ?_
  clear s
  intro I1 x3 x4 cl4 w5 hf s kk hn2 rp3
  refine hX1 _ _ _ _ ?_
  replace hf : g59_l1B p0 p1 p2 x2 (g59_l1 p0 p1 p2 x2 n3) x3 x4 = some r := hf
  generalize hrec1 : g59_l1 p0 p1 p2 x2 n3 = rec1 at hf
  unfold g59_l1B at hf
  refine WPK.seq ?_
  refine WPK.region ?_
  refine RW.seg hT 1 [] [] [.bool (decide (x3 < p2))] [] (by kernel_rfl) (trivial) ?_
  refine RW.nil ?_
  refine WPK.seq ?_
  by_cases h5 : x3 < p2
  have hf := iteT h5 hf
  refine WPK.condT (Eq.trans (b := .bool (decide (x3 < p2))) (by kernel_rfl) (bo_t h5)) ?_
  refine WPK.skip ?_
  refine WPK.seq ?_
  refine WPK.block ?_
  refine WPK.seq ?_
  refine WPK.region ?_
  refine RW.seg hT 2 [] [] [.int .i64 x3, .int .i64 x3] [] (by kernel_rfl) (trivial) ?_
  refine RW.nil ?_
  refine WPK.region ?_
  obtain ⟨h6, hf⟩ := iteS hf
  obtain ⟨x5, hx3, hf⟩ := bindS hf
  obtain ⟨h7, hf⟩ := iteS hf
  obtain ⟨x6, hx4, hf⟩ := bindS hf
  obtain ⟨-, hx4⟩ := getS hx4
  refine RW.seg hT 12 [undef, undef] [(29, .int .u64 x5), (31, .pointer (some ⟨b1, 0 + ((p0.length : Int) + (IntKind.i64.wrap ((IntKind.i64.wrap (p2 - 1)) - x3))).toNat * 1, none⟩))] [.slice (some ⟨b1, o1, none⟩) n2 u3, .int .i64 p2, .int .i64 (IntKind.i64.wrap (p2 - 1)), .int .i64 x3, .int .i64 (IntKind.i64.wrap ((IntKind.i64.wrap (p2 - 1)) - x3)), .int .u64 p1, .int .i64 x3, .int .i64 (IntKind.i64.wrap (8 * x3)), .int .u64 (IntKind.u64.wrap (IntKind.i64.wrap (8 * x3))), .int .u64 x5, .int .u8 (IntKind.u8.wrap x5), .pointer (some ⟨b1, 0 + ((p0.length : Int) + (IntKind.i64.wrap ((IntKind.i64.wrap (p2 - 1)) - x3))).toNat * 1, none⟩)] [.both (.nn (IntKind.u64.wrap (IntKind.i64.wrap (8 * x3)))) (.veq (.int .u64 (shrI .u64 p1 (IntKind.u64.wrap (IntKind.i64.wrap (8 * x3))))) (.int .u64 x5)), .both (.idx (IntKind.i64.wrap ((IntKind.i64.wrap (p2 - 1)) - x3)) n2) (.veq (.pointer (some ⟨b1, o1 + (IntKind.i64.wrap ((IntKind.i64.wrap (p2 - 1)) - x3)).toNat * 1, none⟩)) (.pointer (some ⟨b1, 0 + ((p0.length : Int) + (IntKind.i64.wrap ((IntKind.i64.wrap (p2 - 1)) - x3))).toNat * 1, none⟩)))] (by kernel_rfl) (⟨⟨h6, int_v (someS hx3)⟩, ⟨(Pt.idx (b := b1) pt2 h7).1, (Pt.idx (b := b1) pt2 h7).2⟩⟩) ?_
  obtain ⟨y1, hy1, hf⟩ := bindS hf
  obtain ⟨h8, hq1⟩ := setS hy1
  obtain ⟨cl5, hcl1⟩ : ∃ q, setL cl4 (0 + ((p0.length : Int) + (IntKind.i64.wrap ((IntKind.i64.wrap (p2 - 1)) - x3))).toNat * 1) [.int .u8 (IntKind.u8.wrap x5)] = q := ⟨_, rfl⟩
  have rp4 : RepL (Rp.int .u8) I1 w5 cl5 y1 := by rw [hq1, ← hcl1, Nat.zero_add]; exact RepL.set rp3 (by omega) (rfl)
  have hn3 : x1.length = y1.length := by rw [hq1, List.length_set]; exact hn2
  refine RW.op (by kernel_rfl) (OK.storeSl hT (i := 0) (b := b1) (off := 0 + ((p0.length : Int) + (IntKind.i64.wrap ((IntKind.i64.wrap (p2 - 1)) - x3))).toNat * 1) (m := 1) (vs := [.int .u8 (IntKind.u8.wrap x5)]) (c := x1.length) (e := 5) (size := 1) (n := x1.length) (cl := cl4) (cl' := cl5) s (by kernel_rfl) rfl rfl (flat_ok rfl) (by have h3 := RepL.length rp3; simp only [List.length_cons, List.length_nil, h3]; exact row_bd (n := 1) h8 rfl) hcl1 ?_)
  clear s
  rintro w6 s k4
  replace rp4 := rp4.st k4
  replace kk := kk.trans k4
  refine RW.nil ?_
  refine WPK.region ?_
  refine RW.seg hT 2 [] [] [.int .i64 (IntKind.i64.wrap (x3 + 1)), .int .i64 (IntKind.i64.wrap (x3 + 1))] [] (by kernel_rfl) (trivial) ?_
  refine RW.nil ?_
  subst hrec1
  exact ⟨n3, Nat.le_refl _, fun X h => kc (by kernel_rfl) rfl (h I1 (IntKind.i64.wrap (x3 + 1)) y1 cl5 _ hf s kk hn3 rp4)⟩
  have hf := iteF h5 hf
  refine WPK.condF (Eq.trans (b := .bool (decide (x3 < p2))) (by kernel_rfl) (bo_f h5)) ?_
  refine WPK.exit (blockQ.same ?_)
  refine WPK.seq ?_
  refine WPK.region ?_
  refine RW.seg hT 2 [] [] [.slice (some ⟨b1, 0, none⟩) x1.length x1.length, .slice (some ⟨b1, 0, none⟩) x1.length x1.length] [] (by kernel_rfl) (trivial) ?_
  refine RW.nil ?_
  refine WPK.ret (?_)
  obtain rfl := someS hf
  refine Fin.of (rs := [.tmp 6]) hT [] (.slice (some ⟨b1, 0, none⟩) x1.length x1.length) [] rfl (by kernel_rfl) (trivial) ?_
  exact fun X h => vc rfl (h I1 (some ⟨b1, 0, none⟩) x1.length x1.length cl4 _ s kk hn2 rp3)
theorem c37 {w1 w : World} {M I : Nat → Prop} {F : List It} (p0 : (List Int)) (p1 : Int) (A1 : Option Addr) (u1 : Nat) (hc1 : (p0.length ≤ u1 ∧ u1 ≤ 9223372036854775807)) (e1 : Elems (Rp.int .u8) I w A1 p0) (s : St w1 M I (F) w) {r : (List Int)} (hf : g37 p0 p1 = some r) :
    Ret Tryd.prog 37 [.slice A1 p0.length u1, .int .u16 p1] w fun v wz => ∀ X : Value → World → Prop, (∀ (I' : Nat → Prop) (A2 : Option Addr) (n1 : Nat) (u2 : Nat) (cl1 : List Value) (w' : World), St w1 M I' ((.sl (.slice A2 n1 u2) 5 1 n1 cl1) :: F) w' → Kp I w I' w' → n1 = r.length → RepL (Rp.int .u8) I' w' cl1 r → X (.slice A2 n1 u2) w') → X v wz := by
  have kk : Kp I w I w := Kp.refl
  unfold g37 at hf
  refine Ret.of Tryd.func37 rfl ?_
  refine WPK.seq ?_
  refine WPK.region ?_
  refine RW.seg hT 1 [] [] [.slice none 0 0] [] (by kernel_rfl) (trivial) ?_
  refine RW.nil ?_
  refine WPK.seq ?_
  refine WPK.region ?_
  refine RW.seg hT 3 [undef] [] [.slice A1 p0.length u1, .int .u16 p1, .int .u64 (IntKind.u64.wrap p1)] [] (by kernel_rfl) (trivial) ?_
  obtain ⟨x1, hx1, hf⟩ := bindS hf
  refine RW.op (by kernel_rfl) (OK.call' en59 (by kernel_rfl) (c59 (F := F) p0 (IntKind.u64.wrap p1) 2 A1 u1 hc1 e1 s hx1) ?_)
  intro X1 hX1
  refine fun _ _ hJ => hJ X1 ?_
  clear s
  intro I1 A3 n2 u3 cl2 w2 s k1 hn1 rp1
  refine hX1 _ _ ?_
  replace e1 := e1.st k1
  replace kk := kk.trans k1
  refine RW.seg hT 1 [] [] [.slice A3 n2 u3] [] (by kernel_rfl) (trivial) ?_
  refine RW.nil ?_
  refine WPK.ret (?_)
  obtain rfl := someS hf
  refine Fin.of (rs := [.tmp 4]) hT [] (.slice A3 n2 u3) [] rfl (by kernel_rfl) (trivial) ?_
  exact fun X h => vc rfl (h I1 A3 n2 u3 cl2 _ s kk hn1 rp1)
theorem c38 {w1 w : World} {M I : Nat → Prop} {F : List It} (p0 : (List Int)) (p1 : (List Int)) (A1 : Option Addr) (u1 : Nat) (A2 : Option Addr) (u2 : Nat) (hc1 : (p0.length ≤ u1 ∧ u1 ≤ 9223372036854775807)) (e1 : Elems (Rp.int .u8) I w A1 p0) (hc2 : (p1.length ≤ u2 ∧ u2 ≤ 9223372036854775807)) (e2 : Elems (Rp.int .u8) I w A2 p1) (s : St w1 M I (F) w) {r : ((List Int) × Int)} (hf : g38 p0 p1 = some r) :
    Ret Tryd.prog 38 [.slice A1 p0.length u1, .slice A2 p1.length u2] w fun v wz => ∀ X : Value → World → Prop, (∀ (I' : Nat → Prop) (A3 : Option Addr) (n1 : Nat) (u3 : Nat) (cl1 : List Value) (w' : World), St w1 M I' ((.sl (.slice A3 n1 u3) 5 1 n1 cl1) :: F) w' → Kp I w I' w' → n1 = r.1.length → RepL (Rp.int .u8) I' w' cl1 r.1 → X (.tuple #[.slice A3 n1 u3, .int .i64 r.2]) w') → X v wz := by
  have kk : Kp I w I w := Kp.refl
  unfold g38 at hf
  refine Ret.of Tryd.func38 rfl ?_
  refine WPK.seq ?_
  refine WPK.region ?_
  refine RW.seg hT 2 [] [] [.slice none 0 0, .int .i64 0] [] (by kernel_rfl) (trivial) ?_
  refine RW.nil ?_
  refine WPK.seq ?_
  refine WPK.seq ?_
  refine WPK.region ?_
  refine RW.seg hT 3 [] [] [.slice A2 p1.length u2, .int .i64 (p1.length : Int), .bool (decide ((p1.length : Int) > 255))] [] (by kernel_rfl) (trivial) ?_
  refine RW.nil ?_
  by_cases h1 : (p1.length : Int) > 255
  have hf := iteT h1 hf
  refine WPK.condT (Eq.trans (b := .bool (decide ((p1.length : Int) > 255))) (by kernel_rfl) (bo_t h1)) ?_
  refine WPK.seq ?_
  refine WPK.region ?_
  refine RW.seg hT 2 [] [] [.slice none 0 0, .int .i64 3] [] (by kernel_rfl) (trivial) ?_
  refine RW.nil ?_
  refine WPK.ret (?_)
  obtain rfl := someS hf
  refine Fin.of (rs := [.tmp 4, .tmp 5]) hT [] (.tuple #[.slice none 0 0, .int .i64 3]) [] rfl (by kernel_rfl) (trivial) ?_
  replace s := s.pushNil 5 1
  exact fun X h => vc rfl (h I none 0 0 [] _ s kk rfl (RepL.nil (r := (Rp.int .u8))))
  have hf := iteF h1 hf
  refine WPK.condF (Eq.trans (b := .bool (decide ((p1.length : Int) > 255))) (by kernel_rfl) (bo_f h1)) ?_
  refine WPK.skip ?_
  refine WPK.seq ?_
  refine WPK.region ?_
  refine RW.seg hT 4 [] [] [.slice A1 p0.length u1, .slice A2 p1.length u2, .int .i64 (p1.length : Int), .int .i64 (IntKind.i64.wrap (1 + (p1.length : Int)))] [] (by kernel_rfl) (trivial) ?_
  refine RW.op (by kernel_rfl) (OK.inl (args := [.slice A1 p0.length u1, .int .i64 (IntKind.i64.wrap (1 + (p1.length : Int)))]) en54 (by kernel_rfl) ?_)
  intro R1 hR1
  refine Ret.of Tryd.func54 rfl ?_
  refine WPK.seq ?_
  refine WPK.region ?_
  refine RW.seg hT 2 [] [] [.slice none 0 0, .slice none 0 0] [] (by kernel_rfl) (trivial) ?_
  refine RW.nil ?_
  refine WPK.seq ?_
  refine WPK.region ?_
  obtain ⟨x1, hx1, hf⟩ := bindS hf
  refine RW.seg hT 4 [] [(10, .int .i64 x1)] [.slice A1 p0.length u1, .int .i64 (p0.length : Int), .int .i64 (IntKind.i64.wrap (1 + (p1.length : Int))), .int .i64 x1] [.veq (.int .i64 (IntKind.i64.wrap ((p0.length : Int) + (IntKind.i64.wrap (1 + (p1.length : Int)))))) (.int .i64 x1)] (by kernel_rfl) (int_v (someS hx1)) ?_
  obtain ⟨x2, hx2, hf⟩ := bindS hf
  refine RW.op (by kernel_rfl) (OK.make hT (r := (Rp.int .u8)) (n := x1) (z := .int .u8 0) (x := 0) (e := 5) (bytes := 1) s (by kernel_rfl) hx2 (fun _ _ => rfl) ?_)
  clear s
  rintro w2 b1 cl2 s k1 rp1
  replace e1 := e1.st k1
  replace e2 := e2.st k1
  replace kk := kk.trans k1
  refine RW.seg hT 1 [] [] [.slice (some ⟨b1, 0, none⟩) x2.length x2.length] [] (by kernel_rfl) (trivial) ?_
  refine RW.nil ?_
  refine WPK.seq ?_
  refine WPK.region ?_
  refine RW.seg hT 2 [] [] [.slice (some ⟨b1, 0, none⟩) x2.length x2.length, .slice A1 p0.length u1] [] (by kernel_rfl) (trivial) ?_
  have pt1 : Pt 0 x2.length x2.length 1 0 (x2.length : Int) x2.length := by have h2 := Pt.whole (size := 1) (row_hc (s.at (i := 0) rfl)).1; exact h2
  obtain ⟨nw1, hs1, rq1⟩ := Elems.src e1
  obtain ⟨x3, hx3, hf⟩ := bindS hf
  replace hx3 := someS hx3
  refine RW.op (by kernel_rfl) (OK.copy hT (r := (Rp.int .u8)) (xs := x2) (ys := p0) (i := 0) (c := x2.length) (e := 5) (size := 1) (t := 24) (t' := 24) (et := 5) (l := 0) (h := (x2.length : Int)) s (by kernel_rfl) rfl rfl rfl rfl rfl flat_int rfl rfl rfl rp1 pt1 rfl hs1 rq1 ?_)
  clear s
  rintro w3 cl3 s k2 rp2 hn1
  replace e1 := e1.st k2
  replace e2 := e2.st k2
  replace rp1 := rp1.st k2
  replace kk := kk.trans k2
  rw [hx3] at rp2 hn1
  refine RW.nil ?_
  refine WPK.seq ?_
  have e1S1 := e1
  have e2S1 := e2
  have rp2S1 := rp2
  have kS1 : Kp I w3 I w3 := Kp.refl
  refine WPK.drawM (fun w' => ∃ I' : Nat → Prop, St w1 M I' ((.sl (.slice (some ⟨b1, 0, none⟩) x2.length x2.length) 5 1 x2.length cl3) :: F) w' ∧ Kp I w3 I' w') 7 [0, 0, 0, 4, 14, 1, 63] (by kernel_rfl) (by kernel_rfl) ?_
  intro ht1 w4 hd1
  have k3 := Kp.dr s hd1
  replace s := s.dr hd1
  replace e1 := e1.st k3
  replace e2 := e2.st k3
  replace rp2 := rp2.st k3
  replace kk := kk.trans k3
  replace kS1 := kS1.trans k3
  obtain ⟨h3, hf⟩ := iteS hf
  replace h3 : (0 : Int) ≤ (p0.length : Int) ∧ (p0.length : Int) ≤ (x3.length : Int) ∧ (x3.length : Int) ≤ ((x2.length : Nat) : Int) - 0 := by have hnn := hn1; omega
  obtain ⟨o1, n2, u4, q1, q2, q3, q4, q5, pt2⟩ := partS (b := b1) (c := x2.length) (Pt.whole (size := 1) (row_hc (s.at (i := 0) rfl)).1) (Nat.le_refl _) h3
  rw [Int.zero_add, Int.zero_add] at pt2
  replace q2 : x2.length - (p0.length : Int).toNat = n2 := by rw [← q2]; have hnn := hn1; omega
  refine RD.segM hT ht1 (by kernel_rfl) [0, 1, 2, 3, 4, 5, 6] [] [(19, .slice (some ⟨b1, o1, none⟩) n2 u4)] [.slice (some ⟨b1, 0, none⟩) x2.length x2.length, .slice (some ⟨b1, 0, none⟩) x2.length x2.length, .slice A1 p0.length u1, .int .i64 (p0.length : Int), .slice (some ⟨b1, o1, none⟩) n2 u4, .slice (some ⟨b1, 0, none⟩) x2.length x2.length, .slice (some ⟨b1, o1, none⟩) n2 u4] [.both (.cut (p0.length : Int) (x2.length : Nat) x2.length x2.length) (.veq (.slice (cutA (some ⟨b1, 0, none⟩) (p0.length : Int).toNat x2.length 1) (x2.length - (p0.length : Int).toNat) (x2.length - (p0.length : Int).toNat)) (.slice (some ⟨b1, o1, none⟩) n2 u4))] (by kernel_rfl) (by rintro w' ⟨I', s, k⟩; have e1 := e1S1.st k; have e2 := e2S1.st k; have rp2 := rp2S1.st k; exact ⟨⟨(q5).1, by have h4 := (q5).2.1; have h5 := (q5).2.2.1; omega, by have := (q5).2.2.2; omega, by omega⟩, sl_eq q1 q2 q3⟩) ⟨_, s.pick [0] 1 rfl, kS1⟩ ?_
  refine RD.done (by kernel_rfl) ?_
  refine WPK.ret (?_)
  refine Fin.of (rs := [.tmp 4, .tmp 5]) hT [] (.tuple #[.slice (some ⟨b1, 0, none⟩) x2.length x2.length, .slice (some ⟨b1, o1, none⟩) n2 u4]) [] rfl (by kernel_rfl) (trivial) ?_
  refine hR1 _ _ ?_
  refine RW.seg hT 5 [] [] [.tuple #[.slice (some ⟨b1, 0, none⟩) x2.length x2.length, .slice (some ⟨b1, o1, none⟩) n2 u4], .slice (some ⟨b1, 0, none⟩) x2.length x2.length, .slice (some ⟨b1, o1, none⟩) n2 u4, .slice (some ⟨b1, 0, none⟩) x2.length x2.length, .slice (some ⟨b1, o1, none⟩) n2 u4] [] (by kernel_rfl) (trivial) ?_
  refine RW.nil ?_
  refine WPK.seq ?_
  refine WPK.region ?_
  obtain ⟨h6, hf⟩ := iteS hf
  obtain ⟨x4, hx4, hf⟩ := bindS hf
  obtain ⟨-, hx4⟩ := getS hx4
  refine RW.seg hT 5 [undef] [(23, .pointer (some ⟨b1, 0 + ((p0.length : Int) + 0).toNat * 1, none⟩))] [.slice (some ⟨b1, o1, none⟩) n2 u4, .slice A2 p1.length u2, .int .i64 (p1.length : Int), .int .u8 (IntKind.u8.wrap (p1.length : Int)), .pointer (some ⟨b1, 0 + ((p0.length : Int) + 0).toNat * 1, none⟩)] [.both (.idx 0 n2) (.veq (.pointer (some ⟨b1, o1 + (0 : Int).toNat * 1, none⟩)) (.pointer (some ⟨b1, 0 + ((p0.length : Int) + 0).toNat * 1, none⟩)))] (by kernel_rfl) (⟨(Pt.idx (b := b1) pt2 h6).1, (Pt.idx (b := b1) pt2 h6).2⟩) ?_
  obtain ⟨y1, hy1, hf⟩ := bindS hf
  obtain ⟨h7, hq1⟩ := setS hy1
  obtain ⟨cl4, hcl1⟩ : ∃ q, setL cl3 (0 + ((p0.length : Int) + 0).toNat * 1) [.int .u8 (IntKind.u8.wrap (p1.length : Int))] = q := ⟨_, rfl⟩
  have rp3 : RepL (Rp.int .u8) I w4 cl4 y1 := by rw [hq1, ← hcl1, Nat.zero_add]; exact RepL.set rp2 (by omega) (rfl)
  have hn2 : x2.length = y1.length := by rw [hq1, List.length_set]; exact hn1
  refine RW.op (by kernel_rfl) (OK.storeSl hT (i := 0) (b := b1) (off := 0 + ((p0.length : Int) + 0).toNat * 1) (m := 1) (vs := [.int .u8 (IntKind.u8.wrap (p1.length : Int))]) (c := x2.length) (e := 5) (size := 1) (n := x2.length) (cl := cl3) (cl' := cl4) s (by kernel_rfl) rfl rfl (flat_ok rfl) (by have h4 := RepL.length rp2; simp only [List.length_cons, List.length_nil, h4]; exact row_bd (n := 1) h7 rfl) hcl1 ?_)
  clear s
  rintro w5 s k4
  replace e2 := e2.st k4
  replace rp3 := rp3.st k4
  replace kk := kk.trans k4
  refine RW.nil ?_
  refine WPK.seq ?_
  refine WPK.region ?_
  obtain ⟨h8, hf⟩ := iteS hf
  obtain ⟨o2, n3, u5, q6, q7, q8, q9, q10, pt3⟩ := partS (b := b1) (c := x2.length) pt2 q4 h8
  replace q7 : n2 - (1 : Int).toNat = n3 := by rw [← q7]; have := (pt2).len; omega
  refine RW.seg hT 3 [] [(25, .slice (some ⟨b1, o2, none⟩) n3 u5)] [.slice (some ⟨b1, o1, none⟩) n2 u4, .slice (some ⟨b1, o2, none⟩) n3 u5, .slice A2 p1.length u2] [.both (.cut 1 (n2 : Nat) u4 u4) (.veq (.slice (cutA (some ⟨b1, o1, none⟩) (1 : Int).toNat u4 1) (n2 - (1 : Int).toNat) (u4 - (1 : Int).toNat)) (.slice (some ⟨b1, o2, none⟩) n3 u5))] (by kernel_rfl) (⟨⟨(q10).1, by have h4 := (q10).2.1; have h5 := (q10).2.2.1; omega, by have := (q10).2.2.2; omega, by omega⟩, sl_eq q6 q7 q8⟩) ?_
  obtain ⟨nw2, hs2, rq2⟩ := Elems.src e2
  obtain ⟨x5, hx5, hf⟩ := bindS hf
  replace hx5 := someS hx5
  refine RW.op (by kernel_rfl) (OK.copy hT (r := (Rp.int .u8)) (xs := y1) (ys := p1) (i := 0) (c := x2.length) (e := 5) (size := 1) (t := 24) (t' := 24) (et := 5) (l := ((p0.length : Int) + 1)) (h := ((p0.length : Int) + ((x3.length : Int) - (p0.length : Int)))) s (by kernel_rfl) rfl rfl rfl rfl rfl flat_int rfl rfl hn2 rp3 pt3 rfl hs2 rq2 ?_)
  clear s
  rintro w6 cl5 s k5 rp4 hn3
  replace e2 := e2.st k5
  replace rp3 := rp3.st k5
  replace kk := kk.trans k5
  rw [hx5] at rp4 hn3
  refine RW.nil ?_
  refine WPK.seq ?_
  refine WPK.region ?_
  refine RW.seg hT 3 [] [] [.slice (some ⟨b1, 0, none⟩) x2.length x2.length, .slice (some ⟨b1, 0, none⟩) x2.length x2.length, .int .i64 0] [] (by kernel_rfl) (trivial) ?_
  refine RW.nil ?_
  refine WPK.ret (?_)
  obtain rfl := someS hf
  refine Fin.of (rs := [.tmp 4, .tmp 5]) hT [] (.tuple #[.slice (some ⟨b1, 0, none⟩) x2.length x2.length, .int .i64 0]) [] rfl (by kernel_rfl) (trivial) ?_
  exact fun X h => vc rfl (h I (some ⟨b1, 0, none⟩) x2.length x2.length cl5 _ s kk hn3 rp4)
theorem c17 {w1 w : World} {M I : Nat → Prop} {F : List It} (p0 : T_api_Head) (A1 : Option Addr) (u1 : Nat) (A2 : Option Addr) (u2 : Nat) (hc1 : (p0.Maps.length ≤ u1 ∧ u1 ≤ 9223372036854775807)) (e1 : Elems (Rp.int .i64) I w A1 p0.Maps) (hc2 : (p0.User.length ≤ u2 ∧ u2 ≤ 9223372036854775807)) (e2 : Elems (Rp.int .u8) I w A2 p0.User) (s : St w1 M I (F) w) {r : ((List Int) × Int)} (hf : g17 p0 = some r) :
    Ret Tryd.prog 17 [.agg #[.int .u64 p0.Epoch, .int .i64 p0.Pages, .slice A1 p0.Maps.length u1, .slice A2 p0.User.length u2]] w fun v wz => ∀ X : Value → World → Prop, (∀ (I' : Nat → Prop) (A3 : Option Addr) (n1 : Nat) (u3 : Nat) (cl1 : List Value) (w' : World), St w1 M I' ((.sl (.slice A3 n1 u3) 5 1 n1 cl1) :: F) w' → Kp I w I' w' → n1 = r.1.length → RepL (Rp.int .u8) I' w' cl1 r.1 → X (.tuple #[.slice A3 n1 u3, .int .i64 r.2]) w') → X v wz := by
  have kk : Kp I w I w := Kp.refl
  unfold g17 at hf
  refine Ret.of Tryd.func17 rfl ?_
  refine WPK.seq ?_
  refine WPK.region ?_
  refine RW.op (by kernel_rfl) (OK.new hT (f := fun b => .pointer (some ⟨b, 0, none⟩)) (cs := [.int .u64 p0.Epoch, .int .i64 p0.Pages, .slice A1 p0.Maps.length u1, .slice A2 p0.User.length u2]) (e := 28) (c := .tt) s (by kernel_rfl) trivial ?_)
  clear s
  rintro w2 b1 s k1 -
  replace e1 := e1.st k1
  replace e2 := e2.st k1
  replace kk := kk.trans k1
  refine RW.seg hT 2 [] [] [.slice none 0 0, .int .i64 0] [] (by kernel_rfl) (trivial) ?_
  refine RW.nil ?_
  refine WPK.seq ?_
  refine WPK.seq ?_
  refine WPK.region ?_
  refine RW.seg hT 1 [.agg #[.int .u64 p0.Epoch, .int .i64 p0.Pages, .slice A1 p0.Maps.length u1, .slice A2 p0.User.length u2]] [] [.agg #[.int .u64 p0.Epoch, .int .i64 p0.Pages, .slice A1 p0.Maps.length u1, .slice A2 p0.User.length u2]] [.cells ⟨b1, 0, none⟩ [.int .u64 p0.Epoch, .int .i64 p0.Pages, .slice A1 p0.Maps.length u1, .slice A2 p0.User.length u2] 4] (by kernel_rfl) (s.cells (i := 0) rfl rfl rfl) ?_
  obtain ⟨x1, hx1, hf⟩ := bindS hf
  refine RW.op (by kernel_rfl) (OK.call' en21 (by kernel_rfl) (c21 (F := (.blk b1 (.cells #[.int .u64 p0.Epoch, .int .i64 p0.Pages, .slice A1 p0.Maps.length u1, .slice A2 p0.User.length u2] 28 (0, 0))) :: F) p0 A1 u1 A2 u2 hc1 e1 hc2 e2 s hx1) ?_)
  intro X1 hX1
  refine fun _ _ hJ => hJ X1 ?_
  clear s
  intro I1 w3 s k2
  refine hX1 _ _ ?_
  replace e1 := e1.st k2
  replace e2 := e2.st k2
  replace kk := kk.trans k2
  refine RW.seg hT 1 [] [] [.int .i64 x1] [] (by kernel_rfl) (trivial) ?_
  refine RW.nil ?_
  refine WPK.seq ?_
  refine WPK.region ?_
  refine RW.seg hT 2 [] [(12, .bool (decide (x1 ≠ 0)))] [.int .i64 x1, .bool (decide (x1 ≠ 0))] [.veq (.bool (x1 != 0)) (.bool (decide (x1 ≠ 0)))] (by kernel_rfl) (ne_v) ?_
  refine RW.nil ?_
  by_cases h1 : x1 ≠ 0
  have hf := iteT h1 hf
  refine WPK.condT (Eq.trans (b := .bool (decide (x1 ≠ 0))) (by kernel_rfl) (bo_t h1)) ?_
  refine WPK.seq ?_
  refine WPK.region ?_
  refine RW.seg hT 3 [] [] [.int .i64 x1, .slice none 0 0, .int .i64 x1] [] (by kernel_rfl) (trivial) ?_
  refine RW.nil ?_
  refine WPK.ret (?_)
  obtain rfl := someS hf
  refine Fin.of (rs := [.tmp 2, .tmp 3]) hT [] (.tuple #[.slice none 0 0, .int .i64 x1]) [] rfl (by kernel_rfl) (trivial) ?_
  replace s := s.pushNil 5 1
  replace s := s.pick [0] 2 rfl
  exact fun X h => vc rfl (h I1 none 0 0 [] _ s kk rfl (RepL.nil (r := (Rp.int .u8))))
  have hf := iteF h1 hf
  refine WPK.condF (Eq.trans (b := .bool (decide (x1 ≠ 0))) (by kernel_rfl) (bo_f h1)) ?_
  refine WPK.skip ?_
  refine WPK.seq ?_
  refine WPK.region ?_
  refine RW.seg hT 3 [.int .i64 p0.Pages, undef] [] [.pointer (some ⟨b1, 1, none⟩), .int .i64 p0.Pages, .int .u16 (IntKind.u16.wrap p0.Pages)] [.cell ⟨b1, 1, none⟩ (.int .i64 p0.Pages)] (by kernel_rfl) (s.cell (i := 0) (off := 1) rfl rfl) ?_
  obtain ⟨x2, hx2, hf⟩ := bindS hf
  refine RW.op (by kernel_rfl) (OK.call' en37 (by kernel_rfl) (c37 (F := (.blk b1 (.cells #[.int .u64 p0.Epoch, .int .i64 p0.Pages, .slice A1 p0.Maps.length u1, .slice A2 p0.User.length u2] 28 (0, 0))) :: F) [] (IntKind.u16.wrap p0.Pages) none 0 nil_hc Elems.nil s hx2) ?_)
  intro X2 hX2
  refine fun _ _ hJ => hJ X2 ?_
  clear s
  intro I2 A4 n2 u4 cl2 w4 s k3 hn1 rp1
  refine hX2 _ _ ?_
  replace e1 := e1.st k3
  replace e2 := e2.st k3
  replace kk := kk.trans k3
  refine RW.seg hT 1 [] [] [.slice A4 n2 u4] [] (by kernel_rfl) (trivial) ?_
  refine RW.nil ?_
  refine WPK.seq ?_
  refine WPK.region ?_
  refine RW.seg hT 5 [.slice A1 p0.Maps.length u1, undef] [] [.slice A4 n2 u4, .pointer (some ⟨b1, 2, none⟩), .slice A1 p0.Maps.length u1, .int .i64 (p0.Maps.length : Int), .int .u8 (IntKind.u8.wrap (p0.Maps.length : Int))] [.cell ⟨b1, 2, none⟩ (.slice A1 p0.Maps.length u1)] (by kernel_rfl) (s.cell (i := 1) (off := 2) rfl rfl) ?_
  refine RW.op (by kernel_rfl) (OK.new hT (f := fun b => .slice (some ⟨b, 0, none⟩) 1 1) (cs := [.int .u8 (IntKind.u8.wrap (p0.Maps.length : Int))]) (e := 5) (c := .tt) s (by kernel_rfl) trivial ?_)
  clear s
  rintro w5 b2 s k4 -
  replace e1 := e1.st k4
  replace e2 := e2.st k4
  replace rp1 := rp1.st k4
  replace kk := kk.trans k4
  have rp2 : RepL (Rp.int .u8) I2 w5 [.int .u8 (IntKind.u8.wrap (p0.Maps.length : Int))] ([IntKind.u8.wrap (p0.Maps.length : Int)] : List Int) := RepL.cons (c := [.int .u8 (IntKind.u8.wrap (p0.Maps.length : Int))]) (d := []) (rfl) (RepL.nil)
  replace s : St w1 M I2 ((.sl (.slice (some ⟨b2, 0, none⟩) 1 1) 5 1 1 [.int .u8 (IntKind.u8.wrap (p0.Maps.length : Int))]) :: (.sl (.slice A4 n2 u4) 5 1 n2 cl2) :: (.blk b1 (.cells #[.int .u64 p0.Epoch, .int .i64 p0.Pages, .slice A1 p0.Maps.length u1, .slice A2 p0.User.length u2] 28 (0, 0))) :: F) w5 := s.blkSl (i := 0) (n := 1) (c := 1) (size := 1) rfl rfl (Nat.le_refl _) (by decide)
  have hs1 := St.src s (i := 0) rfl rfl rp2
  have rq1 := rp2
  obtain ⟨x3, hx3, hf⟩ := bindS hf
  refine RW.op (by kernel_rfl) (OK.app hT (r := (Rp.int .u8)) (i := 1) (t := 24) (e := 5) (size := 1) (bytes := 1) (c := u4) (n := n2) (m := 1) s (by kernel_rfl) rfl rfl rfl rfl rfl (by decide) rfl rfl hn1 rfl rp1 hs1 rq1 flat_int rfl hx3 ?_)
  clear s
  rintro A5 u5 cl3 w6 s k5 rp3
  replace e1 := e1.st k5
  replace e2 := e2.st k5
  replace rp2 := rp2.st k5
  replace rp1 := rp1.st k5
  replace kk := kk.trans k5
  refine RW.seg hT 1 [] [] [.slice A5 x3.length u5] [] (by kernel_rfl) (trivial) ?_
  refine RW.nil ?_
  refine WPK.seq ?_
  refine WPK.seq ?_
  refine WPK.region ?_
  refine RW.seg hT 4 [.slice A1 p0.Maps.length u1] [] [.pointer (some ⟨b1, 2, none⟩), .slice A1 p0.Maps.length u1, .int .i64 (p0.Maps.length : Int), .int .i64 0] [.cell ⟨b1, 2, none⟩ (.slice A1 p0.Maps.length u1)] (by kernel_rfl) (s.cell (i := 2) (off := 2) rfl rfl) ?_
  refine RW.nil ?_
  refine WPK.block ?_
  replace s := s.pick [1, 2] 3 rfl
  refine WPK.loop' (J := fun n3 D1 ds wz => ∀ X : Kont, (∀ (I3 : Nat → Prop) (x4 : (List Int)) (x5 : Int) (A6 : Option Addr) (n4 : Nat) (u6 : Nat) (cl4 : List Value) (w' : World), g17_l1 p0 n3 x4 x5 = some r → St w1 M I3 ((.sl (.slice A6 n4 u6) 5 1 n4 cl4) :: (.blk b1 (.cells #[.int .u64 p0.Epoch, .int .i64 p0.Pages, .slice A1 p0.Maps.length u1, .slice A2 p0.User.length u2] 28 (0, 0))) :: F) w' → Kp I w I3 w' → n4 = x4.length → RepL (Rp.int .u8) I3 w' cl4 x4 → Elems (Rp.int .i64) I3 w' A1 p0.Maps → Elems (Rp.int .u8) I3 w' A2 p0.User → X [(D1.getD 0 undef), .pointer (some ⟨b1, 0, none⟩), .slice none 0 0, .int .i64 0, (D1.getD 4 undef), .slice A6 n4 u6, (D1.getD 6 undef), (D1.getD 7 undef), undef, (D1.getD 9 undef), (D1.getD 10 undef), (D1.getD 11 undef), (D1.getD 12 undef), (D1.getD 13 undef), (D1.getD 14 undef), (D1.getD 15 undef), (D1.getD 16 undef), (D1.getD 17 undef), (D1.getD 18 undef), (D1.getD 19 undef), (D1.getD 20 undef), (D1.getD 21 undef), (D1.getD 22 undef), (D1.getD 23 undef), (D1.getD 24 undef), (D1.getD 25 undef), .slice A1 p0.Maps.length u1, .int .i64 (p0.Maps.length : Int), .int .i64 x5, (D1.getD 29 undef), (D1.getD 30 undef), (D1.getD 31 undef), (D1.getD 32 undef), (D1.getD 33 undef), (D1.getD 34 undef), (D1.getD 35 undef), (D1.getD 36 undef), undef, undef, undef, undef, undef, undef, undef, undef, undef, undef, undef, undef, undef, undef, undef] [] w') → X D1 ds wz) FUEL (fun X h => kc (by kernel_rfl) rfl (h I2 x3 0 A5 x3.length u5 cl3 _ hf s kk rfl rp3 e1 e2)) (fun _ _ _ hJ => hJ (fun _ _ _ => False) (by intro I3 x4 x5 A6 n4 u6 cl4 w7 hf s kk hn2 rp4 e1 e2; exact noneS hf)) ?_
  intro X3 hX3
  refine fun n3 D1 _ _ hJ => hJ (X3 n3) ?_
  clear s
  intro I3 x4 x5 A6 n4 u6 cl4 w7 hf s kk hn2 rp4 e1 e2
  refine hX3 _ _ _ _ ?_
  replace hf : g17_l1B p0 (g17_l1 p0 n3) x4 x5 = some r := hf
  generalize hrec1 : g17_l1 p0 n3 = rec1 at hf
  unfold g17_l1B at hf
  refine WPK.seq ?_
  refine WPK.region ?_
  refine RW.seg hT 1 [] [] [.bool (decide (x5 < (p0.Maps.length : Int)))] [] (by kernel_rfl) (trivial) ?_
  refine RW.nil ?_
  refine WPK.seq ?_
  by_cases h2 : x5 < (p0.Maps.length : Int)
  have hf := iteT h2 hf
  refine WPK.condT (Eq.trans (b := .bool (decide (x5 < (p0.Maps.length : Int)))) (by kernel_rfl) (bo_t h2)) ?_
  refine WPK.skip ?_
  refine WPK.seq ?_
  refine WPK.block ?_
  refine WPK.seq ?_
  refine WPK.region ?_
  obtain ⟨x6, hx4, hf⟩ := bindS hf
  obtain ⟨h3, hx4⟩ := getS hx4
  obtain ⟨b3, o1, rfl⟩ := Elems.opn e1 hx4
  obtain ⟨cs1, hr1, ha1⟩ := Elems.get e1 hx4
  obtain rfl : cs1 = [.int .i64 x6] := hr1
  refine RW.seg hT 3 [.int .i64 x6] [] [.pointer (some ⟨b3, o1 + x5.toNat * 1, none⟩), .int .i64 x6, .int .i64 x6] [.idx x5 p0.Maps.length, .cell ⟨b3, o1 + x5.toNat * 1, none⟩ (.int .i64 x6)] (by kernel_rfl) (⟨h3, ha1 0 _ rfl⟩) ?_
  refine RW.nil ?_
  refine WPK.region ?_
  refine RW.seg hT 3 [undef] [] [.slice A6 n4 u6, .int .i64 x6, .int .u16 (IntKind.u16.wrap x6)] [] (by kernel_rfl) (trivial) ?_
  have sa1 := s
  obtain ⟨hc3, e3⟩ := St.lend s (i := 0) rfl hn2 rp4
  have k6 := Kp.shut (I := I3) (w := w7) (p := .sl (.slice A6 n4 u6) 5 1 n4 cl4)
  replace s := s.shut 0 rfl
  obtain ⟨x7, hx5, hf⟩ := bindS hf
  have hc4 := c37 (F := (.blk b1 (.cells #[.int .u64 p0.Epoch, .int .i64 p0.Pages, .slice (some ⟨b3, o1, none⟩) p0.Maps.length u1, .slice A2 p0.User.length u2] 28 (0, 0))) :: F) x4 (IntKind.u16.wrap x6) A6 u6 hc3 e3 s hx5
  rw [← hn2] at hc4
  refine RW.op (by kernel_rfl) (OK.call' en37 (by kernel_rfl) (hc4) ?_)
  intro X4 hX4
  refine fun _ _ hJ => hJ X4 ?_
  clear s
  intro I4 A7 n5 u7 cl5 w8 s k7 hn3 rp5
  refine hX4 _ _ ?_
  have s' := St.back sa1 (i := 0) rfl s k7
  replace k7 := Kp.back sa1 (i := 0) rfl k7
  replace s := s'; clear s'
  obtain ⟨I5, s, k7⟩ : ∃ I : Nat → Prop, St w1 M I ((.sl (.slice A6 n4 u6) 5 1 n4 cl4) :: (.sl (.slice A7 n5 u7) 5 1 n5 cl5) :: (.blk b1 (.cells #[.int .u64 p0.Epoch, .int .i64 p0.Pages, .slice (some ⟨b3, o1, none⟩) p0.Maps.length u1, .slice A2 p0.User.length u2] 28 (0, 0))) :: F) w8 ∧ Kp _ _ I _ := ⟨_, s, k7⟩
  replace rp5 := RepL.free (I' := I5) (w' := w8) free_int rp5
  replace e1 := e1.st k7
  replace e2 := e2.st k7
  replace rp4 := rp4.st k7
  replace kk := kk.trans k7
  refine RW.seg hT 1 [] [] [.slice A7 n5 u7] [] (by kernel_rfl) (trivial) ?_
  refine RW.nil ?_
  refine WPK.region ?_
  refine RW.seg hT 2 [] [] [.int .i64 (IntKind.i64.wrap (x5 + 1)), .int .i64 (IntKind.i64.wrap (x5 + 1))] [] (by kernel_rfl) (trivial) ?_
  refine RW.nil ?_
  subst hrec1
  replace s := s.pick [1, 2] 3 rfl
  exact ⟨n3, Nat.le_refl _, fun X h => kc (by kernel_rfl) rfl (h I5 x7 (IntKind.i64.wrap (x5 + 1)) A7 n5 u7 cl5 _ hf s kk hn3 rp5 e1 e2)⟩
  have hf := iteF h2 hf
  refine WPK.condF (Eq.trans (b := .bool (decide (x5 < (p0.Maps.length : Int)))) (by kernel_rfl) (bo_f h2)) ?_
  refine WPK.exit (blockQ.same ?_)
  refine WPK.seq ?_
  refine WPK.region ?_
  refine RW.seg hT 3 [.slice A2 p0.User.length u2] [] [.slice A6 n4 u6, .pointer (some ⟨b1, 3, none⟩), .slice A2 p0.User.length u2] [.cell ⟨b1, 3, none⟩ (.slice A2 p0.User.length u2)] (by kernel_rfl) (s.cell (i := 1) (off := 3) rfl rfl) ?_
  have sa2 := s
  obtain ⟨hc5, e4⟩ := St.lend s (i := 0) rfl hn2 rp4
  have k8 := Kp.shut (I := I3) (w := w7) (p := .sl (.slice A6 n4 u6) 5 1 n4 cl4)
  replace s := s.shut 0 rfl
  obtain ⟨x8, hx6, hf⟩ := bindS hf
  have hc6 := c38 (F := (.blk b1 (.cells #[.int .u64 p0.Epoch, .int .i64 p0.Pages, .slice A1 p0.Maps.length u1, .slice A2 p0.User.length u2] 28 (0, 0))) :: F) x4 p0.User A6 u6 A2 u2 hc5 e4 hc2 (e2.st k8) s hx6
  rw [← hn2] at hc6
  refine RW.op (by kernel_rfl) (OK.call' en38 (by kernel_rfl) (hc6) ?_)
  intro X5 hX5
  refine fun _ _ hJ => hJ X5 ?_
  clear s
  intro I6 A8 n6 u8 cl6 w9 s k9 hn4 rp6
  refine hX5 _ _ ?_
  have s' := St.back sa2 (i := 0) rfl s k9
  replace k9 := Kp.back sa2 (i := 0) rfl k9
  replace s := s'; clear s'
  obtain ⟨I7, s, k9⟩ : ∃ I : Nat → Prop, St w1 M I ((.sl (.slice A6 n4 u6) 5 1 n4 cl4) :: (.sl (.slice A8 n6 u8) 5 1 n6 cl6) :: (.blk b1 (.cells #[.int .u64 p0.Epoch, .int .i64 p0.Pages, .slice A1 p0.Maps.length u1, .slice A2 p0.User.length u2] 28 (0, 0))) :: F) w9 ∧ Kp _ _ I _ := ⟨_, s, k9⟩
  replace rp6 := RepL.free (I' := I7) (w' := w9) free_int rp6
  replace e1 := e1.st k9
  replace e2 := e2.st k9
  replace rp4 := rp4.st k9
  replace kk := kk.trans k9
  refine RW.seg hT 5 [] [] [.tuple #[.slice A8 n6 u8, .int .i64 x8.2], .slice A8 n6 u8, .int .i64 x8.2, .slice A8 n6 u8, .int .i64 x8.2] [] (by kernel_rfl) (trivial) ?_
  refine RW.nil ?_
  refine WPK.seq ?_
  refine WPK.seq ?_
  refine WPK.region ?_
  refine RW.seg hT 2 [] [(45, .bool (decide (x8.2 ≠ 0)))] [.int .i64 x8.2, .bool (decide (x8.2 ≠ 0))] [.veq (.bool (x8.2 != 0)) (.bool (decide (x8.2 ≠ 0)))] (by kernel_rfl) (ne_v) ?_
  refine RW.nil ?_
  by_cases h4 : x8.2 ≠ 0
  have hf := iteT h4 hf
  refine WPK.condT (Eq.trans (b := .bool (decide (x8.2 ≠ 0))) (by kernel_rfl) (bo_t h4)) ?_
  refine WPK.seq ?_
  refine WPK.region ?_
  refine RW.seg hT 3 [] [] [.int .i64 x8.2, .slice none 0 0, .int .i64 x8.2] [] (by kernel_rfl) (trivial) ?_
  refine RW.nil ?_
  refine WPK.ret (?_)
  obtain rfl := someS hf
  refine Fin.of (rs := [.tmp 2, .tmp 3]) hT [] (.tuple #[.slice none 0 0, .int .i64 x8.2]) [] rfl (by kernel_rfl) (trivial) ?_
  replace s := s.pushNil 5 1
  replace s := s.pick [0] 4 rfl
  exact fun X h => vc rfl (h I7 none 0 0 [] _ s kk rfl (RepL.nil (r := (Rp.int .u8))))
  have hf := iteF h4 hf
  refine WPK.condF (Eq.trans (b := .bool (decide (x8.2 ≠ 0))) (by kernel_rfl) (bo_f h4)) ?_
  refine WPK.skip ?_
  refine WPK.seq ?_
  refine WPK.region ?_
  refine RW.seg hT 4 [] [(49, .int .i64 (x8.1.length : Int))] [.slice A8 n6 u8, .slice A8 n6 u8, .int .i64 (x8.1.length : Int), .int .i64 (IntKind.i64.wrap (240 - (x8.1.length : Int)))] [.veq (.int .i64 (n6 : Nat)) (.int .i64 (x8.1.length : Int))] (by kernel_rfl) (len_v hn4) ?_
  obtain ⟨x9, hx7, hf⟩ := bindS hf
  refine RW.op (by kernel_rfl) (OK.appZ hT (r := (Rp.int .u8)) (i := 1) (t := 24) (tn := 3) (e := 5) (bytes := 1) (c := u8) (n := n6) (x := 0) (kn := .i64) s (by kernel_rfl) rfl rfl rfl rfl rfl rfl rfl rfl rfl rfl hn4 rp6 flat_int (fun _ _ => rfl) hx7 ?_)
  clear s
  rintro A9 u9 cl7 w10 s k10 rp7
  replace e1 := e1.st k10
  replace e2 := e2.st k10
  replace rp4 := rp4.st k10
  replace rp6 := rp6.st k10
  replace kk := kk.trans k10
  refine RW.seg hT 2 [] [] [.slice A9 x9.length u9, .int .i64 0] [] (by kernel_rfl) (trivial) ?_
  refine RW.nil ?_
  refine WPK.ret (?_)
  obtain rfl := someS hf
  refine Fin.of (rs := [.tmp 2, .tmp 3]) hT [] (.tuple #[.slice A9 x9.length u9, .int .i64 0]) [] rfl (by kernel_rfl) (trivial) ?_
  replace s := s.pick [1] 3 rfl
  exact fun X h => vc rfl (h I7 A9 x9.length u9 cl7 _ s kk rfl rp7)
theorem c25 {w1 w : World} {M I : Nat → Prop} {F : List It} (p0 : Int) (s : St w1 M I (F) w) {r : Int} (hf : g25 p0 = some r) :
    Ret Tryd.prog 25 [.int .u64 p0] w fun v wz => ∀ X : Value → World → Prop, (∀ (I' : Nat → Prop) (w' : World), St w1 M I' (F) w' → Kp I w I' w' → X (.int .i64 r) w') → X v wz := by
  have kk : Kp I w I w := Kp.refl
  unfold g25 at hf
  refine Ret.of Tryd.func25 rfl ?_
  refine WPK.seq ?_
  refine WPK.region ?_
  refine RW.seg hT 1 [] [] [.int .i64 0] [] (by kernel_rfl) (trivial) ?_
  refine RW.nil ?_
  refine WPK.seq ?_
  refine WPK.region ?_
  refine RW.seg hT 4 [undef] [] [.int .u64 p0, .int .u64 (andI .u64 p0 1), .int .i64 (IntKind.i64.wrap (andI .u64 p0 1)), .int .i64 (IntKind.i64.wrap (andI .u64 p0 1))] [] (by kernel_rfl) (trivial) ?_
  refine RW.nil ?_
  refine WPK.ret (?_)
  obtain rfl := someS hf
  refine Fin.of (rs := [.tmp 2]) hT [] (.int .i64 (IntKind.i64.wrap (andI .u64 p0 1))) [] rfl (by kernel_rfl) (trivial) ?_
  exact fun X h => vc rfl (h I _ s kk)
theorem c72 {w1 w : World} {M I : Nat → Prop} {F : List It} (p0 : Int) (s : St w1 M I (F) w) {r : Bool} (hf : g72 p0 = some r) :
    Ret Tryd.prog 72 [.int .i64 p0] w fun v wz => ∀ X : Value → World → Prop, (∀ (I' : Nat → Prop) (w' : World), St w1 M I' (F) w' → Kp I w I' w' → X (.bool r) w') → X v wz := by
  have kk : Kp I w I w := Kp.refl
  unfold g72 at hf
  refine Ret.of Tryd.func72 rfl ?_
  refine WPK.seq ?_
  refine WPK.region ?_
  refine RW.seg hT 1 [] [] [.bool false] [] (by kernel_rfl) (trivial) ?_
  refine RW.nil ?_
  refine WPK.seq ?_
  refine WPK.region ?_
  refine RW.seg hT 2 [] [] [.int .i64 p0, .bool (decide (p0 ≥ 1))] [] (by kernel_rfl) (trivial) ?_
  by_cases h1 : p0 ≥ 1
  have hf := iteT h1 hf
  refine RW.seg hT 5 [] [(5, .bool true)] [.bool true, .int .i64 p0, .bool (decide (p0 ≤ 4)), .bool (decide (p0 ≤ 4)), .bool (decide (p0 ≤ 4))] [.veq (.bool (decide (p0 ≥ 1))) (.bool true)] (by kernel_rfl) (bo_t h1) ?_
  refine RW.nil ?_
  refine WPK.ret (?_)
  obtain rfl := someS hf
  refine Fin.of (rs := [.tmp 2]) hT [] (.bool (decide (p0 ≤ 4))) [] rfl (by kernel_rfl) (trivial) ?_
  exact fun X h => vc rfl (h I _ s kk)
  have hf := iteF h1 hf
  refine RW.seg hT 5 [] [(5, .bool false)] [.bool false, undef, undef, .bool false, .bool false] [.veq (.bool (decide (p0 ≥ 1))) (.bool false)] (by kernel_rfl) (bo_f h1) ?_
  refine RW.nil ?_
  refine WPK.ret (?_)
  obtain rfl := someS hf
  refine Fin.of (rs := [.tmp 2]) hT [] (.bool false) [] rfl (by kernel_rfl) (trivial) ?_
  exact fun X h => vc rfl (h I _ s kk)
theorem c60 {w1 w : World} {M I : Nat → Prop} {F : List It} (p0 : T_api_Frame) (A1 : Option Addr) (u1 : Nat) (hc1 : (p0.Data.length ≤ u1 ∧ u1 ≤ 9223372036854775807)) (e1 : Elems (Rp.int .u8) I w A1 p0.Data) (s : St w1 M I (F) w) {r : Int} (hf : g60 p0 = some r) :
    Ret Tryd.prog 60 [.agg #[.int .i64 p0.Kind, .int .i64 p0.Page, .int .u64 p0.Epoch, .slice A1 p0.Data.length u1]] w fun v wz => ∀ X : Value → World → Prop, (∀ (I' : Nat → Prop) (w' : World), St w1 M I' (F) w' → Kp I w I' w' → X (.int .i64 r) w') → X v wz := by
  have kk : Kp I w I w := Kp.refl
  unfold g60 at hf
  refine Ret.of Tryd.func60 rfl ?_
  refine WPK.seq ?_
  refine WPK.region ?_
  refine RW.op (by kernel_rfl) (OK.new hT (f := fun b => .pointer (some ⟨b, 0, none⟩)) (cs := [.int .i64 p0.Kind, .int .i64 p0.Page, .int .u64 p0.Epoch, .slice A1 p0.Data.length u1]) (e := 55) (c := .tt) s (by kernel_rfl) trivial ?_)
  clear s
  rintro w2 b1 s k1 -
  replace e1 := e1.st k1
  replace kk := kk.trans k1
  refine RW.seg hT 1 [] [] [.int .i64 0] [] (by kernel_rfl) (trivial) ?_
  refine RW.nil ?_
  refine WPK.seq ?_
  refine WPK.block ?_
  refine WPK.seq ?_
  refine WPK.region ?_
  refine RW.seg hT 2 [.int .i64 p0.Kind] [] [.pointer (some ⟨b1, 0, none⟩), .int .i64 p0.Kind] [.cell ⟨b1, 0, none⟩ (.int .i64 p0.Kind)] (by kernel_rfl) (s.cell (i := 0) (off := 0) rfl rfl) ?_
  obtain ⟨x1, hx1, hf⟩ := bindS hf
  refine RW.op (by kernel_rfl) (OK.call' en72 (by kernel_rfl) (c72 (F := (.blk b1 (.cells #[.int .i64 p0.Kind, .int .i64 p0.Page, .int .u64 p0.Epoch, .slice A1 p0.Data.length u1] 55 (0, 0))) :: F) p0.Kind s hx1) ?_)
  intro X1 hX1
  refine fun _ _ hJ => hJ X1 ?_
  clear s
  intro I1 w3 s k2
  refine hX1 _ _ ?_
  replace e1 := e1.st k2
  replace kk := kk.trans k2
  refine RW.seg hT 2 [] [(7, .bool (decide (¬ (x1 = true))))] [.bool (decide (¬ (x1 = true))), .bool (decide (¬ (x1 = true)))] [.veq (.bool (!x1)) (.bool (decide (¬ (x1 = true))))] (by kernel_rfl) (not_b) ?_
  refine RW.nil ?_
  by_cases h1 : ¬ (x1 = true)
  have hf := iteT h1 hf
  refine WPK.condT (Eq.trans (b := .bool (decide (¬ (x1 = true)))) (by kernel_rfl) (bo_t h1)) ?_
  refine WPK.seq ?_
  refine WPK.region ?_
  refine RW.seg hT 1 [] [] [.int .i64 42] [] (by kernel_rfl) (trivial) ?_
  refine RW.nil ?_
  refine WPK.ret (blockQ.ret (?_))
  obtain rfl := someS hf
  refine Fin.of (rs := [.tmp 2]) hT [] (.int .i64 42) [] rfl (by kernel_rfl) (trivial) ?_
  replace s := s.pick [] 1 rfl
  exact fun X h => vc rfl (h I1 _ s kk)
  have hf := iteF h1 hf
  refine WPK.condF (Eq.trans (b := .bool (decide (¬ (x1 = true)))) (by kernel_rfl) (bo_f h1)) ?_
  refine WPK.seq ?_
  refine WPK.cut' (Kn fun D1 ds wz => ∀ X : Kont, (∀ (x2 : Bool), g60_j1 p0 x2 = some r → X [(D1.getD 0 undef), .pointer (some ⟨b1, 0, none⟩), .int .i64 0, (D1.getD 3 undef), (D1.getD 4 undef), (D1.getD 5 undef), (D1.getD 6 undef), (D1.getD 7 undef), .bool x2, (D1.getD 9 undef), (D1.getD 10 undef), (D1.getD 11 undef), (D1.getD 12 undef), (D1.getD 13 undef), (D1.getD 14 undef), (D1.getD 15 undef), (D1.getD 16 undef), undef, undef, undef, undef, undef] [] w3) → X D1 ds wz) ?_ ?_
  intro X2 hX2
  refine fun D1 _ _ hJ => hJ X2 ?_
  intro x2 hf
  refine hX2 _ _ _ ?_
  unfold g60_j1 at hf
  by_cases h2 : x2 = true
  have hf := iteT h2 hf
  refine WPK.condT (Eq.trans (b := .bool x2) (by kernel_rfl) (b_t h2)) ?_
  refine WPK.seq ?_
  refine WPK.region ?_
  refine RW.seg hT 1 [] [] [.int .i64 41] [] (by kernel_rfl) (trivial) ?_
  refine RW.nil ?_
  refine WPK.ret (blockQ.ret (?_))
  obtain rfl := someS hf
  refine Fin.of (rs := [.tmp 2]) hT [] (.int .i64 41) [] rfl (by kernel_rfl) (trivial) ?_
  replace s := s.pick [] 1 rfl
  exact fun X h => vc rfl (h I1 _ s kk)
  have hf := iteF h2 hf
  refine WPK.condF (Eq.trans (b := .bool x2) (by kernel_rfl) (b_f h2)) ?_
  refine WPK.seq ?_
  refine WPK.region ?_
  refine RW.seg hT 5 [.slice A1 p0.Data.length u1] [] [.pointer (some ⟨b1, 3, none⟩), .slice A1 p0.Data.length u1, .int .i64 (p0.Data.length : Int), .bool (decide ((p0.Data.length : Int) > 240)), .bool (decide ((p0.Data.length : Int) > 240))] [.cell ⟨b1, 3, none⟩ (.slice A1 p0.Data.length u1)] (by kernel_rfl) (s.cell (i := 0) (off := 3) rfl rfl) ?_
  refine RW.nil ?_
  by_cases h3 : (p0.Data.length : Int) > 240
  have hf := iteT h3 hf
  refine WPK.condT (Eq.trans (b := .bool (decide ((p0.Data.length : Int) > 240))) (by kernel_rfl) (bo_t h3)) ?_
  refine WPK.seq ?_
  refine WPK.region ?_
  refine RW.seg hT 1 [] [] [.int .i64 3] [] (by kernel_rfl) (trivial) ?_
  refine RW.nil ?_
  refine WPK.ret (blockQ.ret (?_))
  obtain rfl := someS hf
  refine Fin.of (rs := [.tmp 2]) hT [] (.int .i64 3) [] rfl (by kernel_rfl) (trivial) ?_
  replace s := s.pick [] 1 rfl
  exact fun X h => vc rfl (h I1 _ s kk)
  have hf := iteF h3 hf
  refine WPK.condF (Eq.trans (b := .bool (decide ((p0.Data.length : Int) > 240))) (by kernel_rfl) (bo_f h3)) ?_
  refine WPK.skip ?_
  refine WPK.seq ?_
  refine WPK.region ?_
  refine RW.seg hT 1 [] [] [.int .i64 0] [] (by kernel_rfl) (trivial) ?_
  refine RW.nil ?_
  refine WPK.ret (?_)
  obtain rfl := someS hf
  refine Fin.of (rs := [.tmp 2]) hT [] (.int .i64 0) [] rfl (by kernel_rfl) (trivial) ?_
  replace s := s.pick [] 1 rfl
  exact fun X h => vc rfl (h I1 _ s kk)
  refine WPK.region ?_
  refine RW.seg hT 3 [.int .i64 p0.Page] [] [.pointer (some ⟨b1, 1, none⟩), .int .i64 p0.Page, .bool (decide (p0.Page < 0))] [.cell ⟨b1, 1, none⟩ (.int .i64 p0.Page)] (by kernel_rfl) (s.cell (i := 0) (off := 1) rfl rfl) ?_
  by_cases h4 : p0.Page < 0
  have hf := iteT h4 hf
  refine RW.seg hT 6 [] [(12, .bool true)] [.bool true, undef, undef, undef, .bool true, .bool true] [.veq (.bool (decide (p0.Page < 0))) (.bool true)] (by kernel_rfl) (bo_t h4) ?_
  refine RW.nil ?_
  exact fun X h => kc (by kernel_rfl) rfl (h true hf)
  have hf := iteF h4 hf
  refine RW.seg hT 6 [.int .i64 p0.Page] [(12, .bool false)] [.bool false, .pointer (some ⟨b1, 1, none⟩), .int .i64 p0.Page, .bool (decide (p0.Page ≥ 2048)), .bool (decide (p0.Page ≥ 2048)), .bool (decide (p0.Page ≥ 2048))] [.veq (.bool (decide (p0.Page < 0))) (.bool false), .cell ⟨b1, 1, none⟩ (.int .i64 p0.Page)] (by kernel_rfl) (⟨bo_f h4, s.cell (i := 0) (off := 1) rfl rfl⟩) ?_
  refine RW.nil ?_
  exact fun X h => kc (by kernel_rfl) rfl (h (decide (p0.Page ≥ 2048)) hf)
theorem c73 {w1 w : World} {M I : Nat → Prop} {F : List It} (p0 : (List Int)) (p1 : Int) (A1 : Option Addr) (u1 : Nat) (hc1 : (p0.length ≤ u1 ∧ u1 ≤ 9223372036854775807)) (e1 : Elems (Rp.int .u8) I w A1 p0) (s : St w1 M I (F) w) {r : (List Int)} (hf : g73 p0 p1 = some r) :
    Ret Tryd.prog 73 [.slice A1 p0.length u1, .int .u64 p1] w fun v wz => ∀ X : Value → World → Prop, (∀ (I' : Nat → Prop) (A2 : Option Addr) (n1 : Nat) (u2 : Nat) (cl1 : List Value) (w' : World), St w1 M I' ((.sl (.slice A2 n1 u2) 5 1 n1 cl1) :: F) w' → Kp I w I' w' → n1 = r.length → RepL (Rp.int .u8) I' w' cl1 r → X (.slice A2 n1 u2) w') → X v wz := by
  have kk : Kp I w I w := Kp.refl
  unfold g73 at hf
  refine Ret.of Tryd.func73 rfl ?_
  refine WPK.seq ?_
  refine WPK.region ?_
  refine RW.seg hT 1 [] [] [.slice none 0 0] [] (by kernel_rfl) (trivial) ?_
  refine RW.nil ?_
  refine WPK.seq ?_
  refine WPK.region ?_
  refine RW.seg hT 2 [] [] [.slice A1 p0.length u1, .int .u64 p1] [] (by kernel_rfl) (trivial) ?_
  obtain ⟨x1, hx1, hf⟩ := bindS hf
  refine RW.op (by kernel_rfl) (OK.call' en59 (by kernel_rfl) (c59 (F := F) p0 p1 8 A1 u1 hc1 e1 s hx1) ?_)
  intro X1 hX1
  refine fun _ _ hJ => hJ X1 ?_
  clear s
  intro I1 A3 n2 u3 cl2 w2 s k1 hn1 rp1
  refine hX1 _ _ ?_
  replace e1 := e1.st k1
  replace kk := kk.trans k1
  refine RW.seg hT 1 [] [] [.slice A3 n2 u3] [] (by kernel_rfl) (trivial) ?_
  refine RW.nil ?_
  refine WPK.ret (?_)
  obtain rfl := someS hf
  refine Fin.of (rs := [.tmp 4]) hT [] (.slice A3 n2 u3) [] rfl (by kernel_rfl) (trivial) ?_
  exact fun X h => vc rfl (h I1 A3 n2 u3 cl2 _ s kk hn1 rp1)
theorem c88 {w1 w : World} {M I : Nat → Prop} {F : List It} (p0 : Int) (s : St w1 M I (F) w) {r : Int} (hf : g88 p0 = some r) :
    Ret Tryd.prog 88 [.int .u32 p0] w fun v wz => ∀ X : Value → World → Prop, (∀ (I' : Nat → Prop) (w' : World), St w1 M I' (F) w' → Kp I w I' w' → X (.int .u32 r) w') → X v wz := by
  have kk : Kp I w I w := Kp.refl
  unfold g88 at hf
  refine Ret.of Tryd.func88 rfl ?_
  refine WPK.seq ?_
  refine WPK.region ?_
  refine RW.seg hT 1 [] [] [.int .u32 0] [] (by kernel_rfl) (trivial) ?_
  refine RW.nil ?_
  refine WPK.seq ?_
  refine WPK.region ?_
  refine RW.seg hT 3 [] [] [.int .u32 p0, .int .u32 (xorI .u32 p0 4294967295), .int .u32 (xorI .u32 p0 4294967295)] [] (by kernel_rfl) (trivial) ?_
  refine RW.nil ?_
  refine WPK.ret (?_)
  obtain rfl := someS hf
  refine Fin.of (rs := [.tmp 2]) hT [] (.int .u32 (xorI .u32 p0 4294967295)) [] rfl (by kernel_rfl) (trivial) ?_
  exact fun X h => vc rfl (h I _ s kk)
theorem c91 {w1 w : World} {M I : Nat → Prop} {F : List It} (p0 : Int) (eg2 : Elems (Rp.int .u32) I w (some ⟨2, 0, none⟩) TAB2) (s : St w1 M I (F) w) {r : Int} (hf : g91 p0 = some r) :
    Ret Tryd.prog 91 [.int .u32 p0] w fun v wz => ∀ X : Value → World → Prop, (∀ (I' : Nat → Prop) (w' : World), St w1 M I' (F) w' → Kp I w I' w' → X (.int .u32 r) w') → X v wz := by
  have kk : Kp I w I w := Kp.refl
  unfold g91 at hf
  refine Ret.of Tryd.func91 rfl ?_
  refine WPK.seq ?_
  refine WPK.region ?_
  refine RW.seg hT 1 [] [] [.int .u32 0] [] (by kernel_rfl) (trivial) ?_
  refine RW.nil ?_
  refine WPK.seq ?_
  refine WPK.region ?_
  obtain ⟨x1, hx1, hf⟩ := bindS hf
  obtain ⟨h1, hx1⟩ := getS hx1
  obtain ⟨cs1, hr1, ha1⟩ := Elems.get eg2 hx1
  obtain rfl : cs1 = [.int .u32 x1] := hr1
  refine RW.seg hT 8 [.int .u32 x1] [] [.int .u32 p0, .int .u32 (shrI .u32 p0 4), .int .u32 p0, .int .u32 (andI .u32 p0 15), .pointer (some ⟨2, 0 + (andI .u32 p0 15).toNat * 1, none⟩), .int .u32 x1, .int .u32 (xorI .u32 (shrI .u32 p0 4) x1), .int .u32 (xorI .u32 (shrI .u32 p0 4) x1)] [.nn 4, .idx (andI .u32 p0 15) 16, .cell ⟨2, 0 + (andI .u32 p0 15).toNat * 1, none⟩ (.int .u32 x1)] (by kernel_rfl) (⟨(show (0 : Int) ≤ 4 by decide), h1, ha1 0 _ rfl⟩) ?_
  refine RW.nil ?_
  refine WPK.ret (?_)
  obtain rfl := someS hf
  refine Fin.of (rs := [.tmp 2]) hT [] (.int .u32 (xorI .u32 (shrI .u32 p0 4) x1)) [] rfl (by kernel_rfl) (trivial) ?_
  exact fun X h => vc rfl (h I _ s kk)
theorem c89 {w1 w : World} {M I : Nat → Prop} {F : List It} (p0 : Int) (p1 : (List Int)) (A1 : Option Addr) (u1 : Nat) (hc1 : (p1.length ≤ u1 ∧ u1 ≤ 9223372036854775807)) (e1 : Elems (Rp.int .u8) I w A1 p1) (eg2 : Elems (Rp.int .u32) I w (some ⟨2, 0, none⟩) TAB2) (s : St w1 M I (F) w) {r : Int} (hf : g89 p0 p1 = some r) :
    Ret Tryd.prog 89 [.int .u32 p0, .slice A1 p1.length u1] w fun v wz => ∀ X : Value → World → Prop, (∀ (I' : Nat → Prop) (w' : World), St w1 M I' (F) w' → Kp I w I' w' → X (.int .u32 r) w') → X v wz := by
  have kk : Kp I w I w := Kp.refl
  unfold g89 at hf
  refine Ret.of Tryd.func89 rfl ?_
  refine WPK.seq ?_
  refine WPK.region ?_
  refine RW.seg hT 1 [] [] [.int .u32 0] [] (by kernel_rfl) (trivial) ?_
  refine RW.nil ?_
  refine WPK.seq ?_
  refine WPK.seq ?_
  refine WPK.region ?_
  refine RW.seg hT 3 [] [] [.slice A1 p1.length u1, .int .i64 (p1.length : Int), .int .i64 0] [] (by kernel_rfl) (trivial) ?_
  refine RW.nil ?_
  refine WPK.block ?_
  refine WPK.loop' (J := fun n1 D1 ds wz => ∀ X : Kont, (∀ (I1 : Nat → Prop) (x1 : Int) (x2 : Int) (w' : World), g89_l1 p1 n1 x1 x2 = some r → St w1 M I1 (F) w' → Kp I w I1 w' → Elems (Rp.int .u8) I1 w' A1 p1 → Elems (Rp.int .u32) I1 w' (some ⟨2, 0, none⟩) TAB2 → X [.int .u32 x1, (D1.getD 1 undef), (D1.getD 2 undef), (D1.getD 3 undef), .int .u32 0, (D1.getD 5 undef), (D1.getD 6 undef), .slice A1 p1.length u1, .int .i64 (p1.length : Int), .int .i64 x2, (D1.getD 10 undef), (D1.getD 11 undef), (D1.getD 12 undef), (D1.getD 13 undef), (D1.getD 14 undef), (D1.getD 15 undef), (D1.getD 16 undef), (D1.getD 17 undef), (D1.getD 18 undef), (D1.getD 19 undef), (D1.getD 20 undef), undef] [] w') → X D1 ds wz) FUEL (fun X h => kc (by kernel_rfl) rfl (h I p0 0 _ hf s kk e1 eg2)) (fun _ _ _ hJ => hJ (fun _ _ _ => False) (by intro I1 x1 x2 w2 hf s kk e1 eg2; exact noneS hf)) ?_
  intro X1 hX1
  refine fun n1 D1 _ _ hJ => hJ (X1 n1) ?_
  clear s
  intro I1 x1 x2 w2 hf s kk e1 eg2
  refine hX1 _ _ _ _ ?_
  replace hf : g89_l1B p1 (g89_l1 p1 n1) x1 x2 = some r := hf
  generalize hrec1 : g89_l1 p1 n1 = rec1 at hf
  unfold g89_l1B at hf
  refine WPK.seq ?_
  refine WPK.region ?_
  refine RW.seg hT 1 [] [] [.bool (decide (x2 < (p1.length : Int)))] [] (by kernel_rfl) (trivial) ?_
  refine RW.nil ?_
  refine WPK.seq ?_
  by_cases h1 : x2 < (p1.length : Int)
  have hf := iteT h1 hf
  refine WPK.condT (Eq.trans (b := .bool (decide (x2 < (p1.length : Int)))) (by kernel_rfl) (bo_t h1)) ?_
  refine WPK.skip ?_
  refine WPK.seq ?_
  refine WPK.block ?_
  refine WPK.seq ?_
  refine WPK.region ?_
  obtain ⟨x3, hx1, hf⟩ := bindS hf
  obtain ⟨h2, hx1⟩ := getS hx1
  obtain ⟨b1, o1, rfl⟩ := Elems.opn e1 hx1
  obtain ⟨cs1, hr1, ha1⟩ := Elems.get e1 hx1
  obtain rfl : cs1 = [.int .u8 x3] := hr1
  refine RW.seg hT 3 [.int .u8 x3] [] [.pointer (some ⟨b1, o1 + x2.toNat * 1, none⟩), .int .u8 x3, .int .u8 x3] [.idx x2 p1.length, .cell ⟨b1, o1 + x2.toNat * 1, none⟩ (.int .u8 x3)] (by kernel_rfl) (⟨h2, ha1 0 _ rfl⟩) ?_
  refine RW.nil ?_
  refine WPK.seq ?_
  refine WPK.region ?_
  refine RW.seg hT 5 [undef] [] [.int .u32 x1, .int .u8 x3, .int .u32 (IntKind.u32.wrap x3), .int .u32 (xorI .u32 x1 (IntKind.u32.wrap x3)), .int .u32 (xorI .u32 x1 (IntKind.u32.wrap x3))] [] (by kernel_rfl) (trivial) ?_
  refine RW.nil ?_
  refine WPK.region ?_
  refine RW.seg hT 1 [] [] [.int .u32 (xorI .u32 x1 (IntKind.u32.wrap x3))] [] (by kernel_rfl) (trivial) ?_
  obtain ⟨x4, hx2, hf⟩ := bindS hf
  refine RW.op (by kernel_rfl) (OK.call' en91 (by kernel_rfl) (c91 (F := F) (xorI .u32 x1 (IntKind.u32.wrap x3)) eg2 s hx2) ?_)
  intro X2 hX2
  refine fun _ _ hJ => hJ X2 ?_
  clear s
  intro I2 w3 s k1
  refine hX2 _ _ ?_
  replace e1 := e1.st k1
  replace eg2 := eg2.st k1
  replace kk := kk.trans k1
  obtain ⟨x5, hx3, hf⟩ := bindS hf
  refine RW.op (by kernel_rfl) (OK.call' en91 (by kernel_rfl) (c91 (F := F) x4 eg2 s hx3) ?_)
  intro X3 hX3
  refine fun _ _ hJ => hJ X3 ?_
  clear s
  intro I3 w4 s k2
  refine hX3 _ _ ?_
  replace e1 := e1.st k2
  replace eg2 := eg2.st k2
  replace kk := kk.trans k2
  refine RW.seg hT 1 [] [] [.int .u32 x5] [] (by kernel_rfl) (trivial) ?_
  refine RW.nil ?_
  refine WPK.region ?_
  refine RW.seg hT 2 [] [] [.int .i64 (IntKind.i64.wrap (x2 + 1)), .int .i64 (IntKind.i64.wrap (x2 + 1))] [] (by kernel_rfl) (trivial) ?_
  refine RW.nil ?_
  subst hrec1
  exact ⟨n1, Nat.le_refl _, fun X h => kc (by kernel_rfl) rfl (h I3 x5 (IntKind.i64.wrap (x2 + 1)) _ hf s kk e1 eg2)⟩
  have hf := iteF h1 hf
  refine WPK.condF (Eq.trans (b := .bool (decide (x2 < (p1.length : Int)))) (by kernel_rfl) (bo_f h1)) ?_
  refine WPK.exit (blockQ.same ?_)
  refine WPK.seq ?_
  refine WPK.region ?_
  refine RW.seg hT 2 [] [] [.int .u32 x1, .int .u32 x1] [] (by kernel_rfl) (trivial) ?_
  refine RW.nil ?_
  refine WPK.ret (?_)
  obtain rfl := someS hf
  refine Fin.of (rs := [.tmp 4]) hT [] (.int .u32 x1) [] rfl (by kernel_rfl) (trivial) ?_
  exact fun X h => vc rfl (h I1 _ s kk)
theorem c90 {w1 w : World} {M I : Nat → Prop} {F : List It} (p0 : Int) (s : St w1 M I (F) w) {r : Int} (hf : g90 p0 = some r) :
    Ret Tryd.prog 90 [.int .u32 p0] w fun v wz => ∀ X : Value → World → Prop, (∀ (I' : Nat → Prop) (w' : World), St w1 M I' (F) w' → Kp I w I' w' → X (.int .u32 r) w') → X v wz := by
  have kk : Kp I w I w := Kp.refl
  unfold g90 at hf
  refine Ret.of Tryd.func90 rfl ?_
  refine WPK.seq ?_
  refine WPK.region ?_
  refine RW.seg hT 1 [] [] [.int .u32 0] [] (by kernel_rfl) (trivial) ?_
  refine RW.nil ?_
  refine WPK.seq ?_
  refine WPK.region ?_
  refine RW.seg hT 3 [] [] [.int .u32 p0, .int .u32 (xorI .u32 p0 4294967295), .int .u32 (xorI .u32 p0 4294967295)] [] (by kernel_rfl) (trivial) ?_
  refine RW.nil ?_
  refine WPK.ret (?_)
  obtain rfl := someS hf
  refine Fin.of (rs := [.tmp 2]) hT [] (.int .u32 (xorI .u32 p0 4294967295)) [] rfl (by kernel_rfl) (trivial) ?_
  exact fun X h => vc rfl (h I _ s kk)
theorem c74 {w1 w : World} {M I : Nat → Prop} {F : List It} (p0 : (List Int)) (p1 : Int) (A1 : Option Addr) (u1 : Nat) (hc1 : (p0.length ≤ u1 ∧ u1 ≤ 9223372036854775807)) (e1 : Elems (Rp.int .u8) I w A1 p0) (s : St w1 M I (F) w) {r : (List Int)} (hf : g74 p0 p1 = some r) :
    Ret Tryd.prog 74 [.slice A1 p0.length u1, .int .u32 p1] w fun v wz => ∀ X : Value → World → Prop, (∀ (I' : Nat → Prop) (A2 : Option Addr) (n1 : Nat) (u2 : Nat) (cl1 : List Value) (w' : World), St w1 M I' ((.sl (.slice A2 n1 u2) 5 1 n1 cl1) :: F) w' → Kp I w I' w' → n1 = r.length → RepL (Rp.int .u8) I' w' cl1 r → X (.slice A2 n1 u2) w') → X v wz := by
  have kk : Kp I w I w := Kp.refl
  unfold g74 at hf
  refine Ret.of Tryd.func74 rfl ?_
  refine WPK.seq ?_
  refine WPK.region ?_
  refine RW.seg hT 1 [] [] [.slice none 0 0] [] (by kernel_rfl) (trivial) ?_
  refine RW.nil ?_
  refine WPK.seq ?_
  refine WPK.region ?_
  refine RW.seg hT 3 [undef] [] [.slice A1 p0.length u1, .int .u32 p1, .int .u64 (IntKind.u64.wrap p1)] [] (by kernel_rfl) (trivial) ?_
  obtain ⟨x1, hx1, hf⟩ := bindS hf
  refine RW.op (by kernel_rfl) (OK.call' en59 (by kernel_rfl) (c59 (F := F) p0 (IntKind.u64.wrap p1) 4 A1 u1 hc1 e1 s hx1) ?_)
  intro X1 hX1
  refine fun _ _ hJ => hJ X1 ?_
  clear s
  intro I1 A3 n2 u3 cl2 w2 s k1 hn1 rp1
  refine hX1 _ _ ?_
  replace e1 := e1.st k1
  replace kk := kk.trans k1
  refine RW.seg hT 1 [] [] [.slice A3 n2 u3] [] (by kernel_rfl) (trivial) ?_
  refine RW.nil ?_
  refine WPK.ret (?_)
  obtain rfl := someS hf
  refine Fin.of (rs := [.tmp 4]) hT [] (.slice A3 n2 u3) [] rfl (by kernel_rfl) (trivial) ?_
  exact fun X h => vc rfl (h I1 A3 n2 u3 cl2 _ s kk hn1 rp1)
theorem c61 {w1 w : World} {M I : Nat → Prop} {F : List It} (p0 : T_api_Frame) (A1 : Option Addr) (u1 : Nat) (hc1 : (p0.Data.length ≤ u1 ∧ u1 ≤ 9223372036854775807)) (e1 : Elems (Rp.int .u8) I w A1 p0.Data) (eg2 : Elems (Rp.int .u32) I w (some ⟨2, 0, none⟩) TAB2) (s : St w1 M I (F) w) {r : (List Int)} (hf : g61 p0 = some r) :
    Ret Tryd.prog 61 [.agg #[.int .i64 p0.Kind, .int .i64 p0.Page, .int .u64 p0.Epoch, .slice A1 p0.Data.length u1]] w fun v wz => ∀ X : Value → World → Prop, (∀ (I' : Nat → Prop) (w' : World), St w1 M I' (F) w' → Kp I w I' w' → 256 = r.length → X (.agg (List.map (Value.int .u8) r).toArray) w') → X v wz := by
  have kk : Kp I w I w := Kp.refl
  unfold g61 at hf
  refine Ret.of Tryd.func61 rfl ?_
  refine WPK.seq ?_
  refine WPK.region ?_
  refine RW.op (by kernel_rfl) (OK.new hT (f := fun b => .pointer (some ⟨b, 0, none⟩)) (cs := [.int .i64 p0.Kind, .int .i64 p0.Page, .int .u64 p0.Epoch, .slice A1 p0.Data.length u1]) (e := 55) (c := .tt) s (by kernel_rfl) trivial ?_)
  clear s
  rintro w2 b1 s k1 -
  replace e1 := e1.st k1
  replace eg2 := eg2.st k1
  replace kk := kk.trans k1
  refine RW.op (by kernel_rfl) (OK.new hT (f := fun b => .pointer (some ⟨b, 0, none⟩)) (cs := (List.replicate 256 (Value.int .u8 0))) (e := 91) (c := .tt) s (by kernel_rfl) trivial ?_)
  clear s
  rintro w3 b2 s k2 -
  have hn1 : 256 = ((List.replicate 256 (0 : Int))).length := by simp
  obtain ⟨cl1, hcl1⟩ : ∃ q, q = (List.replicate 256 (Value.int .u8 0)) := ⟨_, rfl⟩
  replace s := s.blkSl (i := 0) (n := 256) (c := 256) (size := 1) rfl (by simp) (Nat.le_refl _) (by decide)
  rw [List.take_of_length_le (by simp), ← hcl1] at s
  replace e1 := e1.st k2
  replace eg2 := eg2.st k2
  replace kk := kk.trans k2
  have rp1 : RepL (Rp.int .u8) I w3 cl1 (List.replicate 256 (0 : Int)) := by rw [hcl1]; exact RepL.rep rfl _
  refine RW.nil ?_
  refine WPK.seq ?_
  refine WPK.region ?_
  refine RW.op (by kernel_rfl) (OK.new hT (f := fun b => .pointer (some ⟨b, 0, none⟩)) (cs := (List.replicate 256 (Value.int .u8 0))) (e := 91) (c := .tt) s (by kernel_rfl) trivial ?_)
  clear s
  rintro w4 b3 s k3 -
  have hn2 : 256 = ((List.replicate 256 (0 : Int))).length := by simp
  obtain ⟨cl2, hcl2⟩ : ∃ q, q = (List.replicate 256 (Value.int .u8 0)) := ⟨_, rfl⟩
  replace s := s.blkSl (i := 0) (n := 256) (c := 256) (size := 1) rfl (by simp) (Nat.le_refl _) (by decide)
  rw [List.take_of_length_le (by simp), ← hcl2] at s
  replace e1 := e1.st k3
  replace rp1 := rp1.st k3
  replace eg2 := eg2.st k3
  replace kk := kk.trans k3
  have rp2 : RepL (Rp.int .u8) I w4 cl2 (List.replicate 256 (0 : Int)) := by rw [hcl2]; exact RepL.rep rfl _
  refine RW.nil ?_
  refine WPK.seq ?_
  refine WPK.region ?_
  obtain ⟨x1, hx1, hf⟩ := bindS hf
  obtain ⟨h1, hx1⟩ := getS hx1
  rw [← hn2] at h1
  refine RW.seg hT 4 [.int .i64 p0.Kind, undef] [] [.pointer (some ⟨b1, 0, none⟩), .int .i64 p0.Kind, .int .u8 (IntKind.u8.wrap p0.Kind), .pointer (some ⟨b3, 0 + (4 : Int).toNat * 1, none⟩)] [.cell ⟨b1, 0, none⟩ (.int .i64 p0.Kind), .idx 4 256] (by kernel_rfl) (⟨s.cell (i := 2) (off := 0) rfl rfl, h1⟩) ?_
  obtain ⟨y1, hy1, hf⟩ := bindS hf
  obtain ⟨h2, hq1⟩ := setS hy1
  obtain ⟨cl3, hcl3⟩ : ∃ q, setL cl2 (0 + (4 : Int).toNat * 1) [.int .u8 (IntKind.u8.wrap p0.Kind)] = q := ⟨_, rfl⟩
  have rp3 : RepL (Rp.int .u8) I w4 cl3 y1 := by rw [hq1, ← hcl3, Nat.zero_add]; exact RepL.set rp2 (by omega) (rfl)
  have hn3 : 256 = y1.length := by rw [hq1, List.length_set]; exact hn2
  refine RW.op (by kernel_rfl) (OK.storeSl hT (i := 0) (b := b3) (off := 0 + (4 : Int).toNat * 1) (m := 1) (vs := [.int .u8 (IntKind.u8.wrap p0.Kind)]) (c := 256) (e := 91) (size := 1) (n := 256) (cl := cl2) (cl' := cl3) s (by kernel_rfl) rfl rfl (flat_ok rfl) (by have h3 := RepL.length rp2; simp only [List.length_cons, List.length_nil, h3]; exact row_bd (n := 1) h2 rfl) hcl3 ?_)
  clear s
  rintro w5 s k4
  replace e1 := e1.st k4
  replace rp3 := rp3.st k4
  replace rp1 := rp1.st k4
  replace eg2 := eg2.st k4
  replace kk := kk.trans k4
  refine RW.nil ?_
  refine WPK.seq ?_
  have e1S1 := e1
  have rp3S1 := rp3
  have rp1S1 := rp1
  have eg2S6519 := eg2
  have kS1 : Kp I w5 I w5 := Kp.refl
  refine WPK.drawM (fun w' => ∃ I' : Nat → Prop, St w1 M I' ((.sl (.slice (some ⟨b3, 0, none⟩) 256 256) 91 1 256 cl3) :: (.sl (.slice (some ⟨b2, 0, none⟩) 256 256) 91 1 256 cl1) :: (.blk b1 (.cells #[.int .i64 p0.Kind, .int .i64 p0.Page, .int .u64 p0.Epoch, .slice A1 p0.Data.length u1] 55 (0, 0))) :: F) w' ∧ Kp I w5 I' w') 8 [0, 1, 3, 7, 0, 16, 63, 127] (by kernel_rfl) (by kernel_rfl) ?_
  intro ht1 w6 hd1
  have k5 := Kp.dr s hd1
  replace s := s.dr hd1
  replace e1 := e1.st k5
  replace rp3 := rp3.st k5
  replace rp1 := rp1.st k5
  replace eg2 := eg2.st k5
  replace kk := kk.trans k5
  replace kS1 := kS1.trans k5
  refine RD.segM hT ht1 (by kernel_rfl) [0, 1, 2, 4, 5] [.int .i64 p0.Page, undef, .int .u64 p0.Epoch] [] [.pointer (some ⟨b1, 1, none⟩), .int .i64 p0.Page, .int .u16 (IntKind.u16.wrap p0.Page), .pointer (some ⟨b1, 2, none⟩), .int .u64 p0.Epoch] [.cell ⟨b1, 1, none⟩ (.int .i64 p0.Page), .cell ⟨b1, 2, none⟩ (.int .u64 p0.Epoch)] (by kernel_rfl) (by rintro w' ⟨I', s, k⟩; have e1 := e1S1.st k; have rp3 := rp3S1.st k; have rp1 := rp1S1.st k; have eg2 := eg2S6519.st k; exact ⟨s.cell (i := 2) (off := 1) rfl rfl, s.cell (i := 2) (off := 2) rfl rfl⟩) ⟨_, s.pick [0, 1, 2] 3 rfl, kS1⟩ ?_
  obtain ⟨x2, hx2, hf⟩ := bindS hf
  refine RD.op (i := 3) rfl (by kernel_rfl) (by kernel_rfl) (OK.call' en37 (by kernel_rfl) (c37 (F := (.sl (.slice (some ⟨b3, 0, none⟩) 256 256) 91 1 256 cl3) :: (.sl (.slice (some ⟨b2, 0, none⟩) 256 256) 91 1 256 cl1) :: (.blk b1 (.cells #[.int .i64 p0.Kind, .int .i64 p0.Page, .int .u64 p0.Epoch, .slice A1 p0.Data.length u1] 55 (0, 0))) :: F) [] (IntKind.u16.wrap p0.Page) none 0 nil_hc Elems.nil s hx2) ?_)
  intro X1 hX1
  refine fun _ _ hJ => hJ X1 ?_
  clear s
  intro I1 A2 n1 u2 cl4 w7 s k6 hn4 rp4
  refine hX1 _ _ ?_
  replace e1 := e1.st k6
  replace rp3 := rp3.st k6
  replace rp1 := rp1.st k6
  replace eg2 := eg2.st k6
  replace kk := kk.trans k6
  replace kS1 := kS1.trans k6
  refine ⟨fun _ => ⟨_, s.pick [1, 2, 3] 4 rfl, kS1⟩, RD.fold ?_⟩
  have sa1 := s
  obtain ⟨hc2, e2⟩ := St.lend s (i := 0) rfl hn4 rp4
  have k7 := Kp.shut (I := I1) (w := w7) (p := .sl (.slice A2 n1 u2) 5 1 n1 cl4)
  replace s := s.shut 0 rfl
  obtain ⟨x3, hx3, hf⟩ := bindS hf
  have hc3 := c73 (F := (.sl (.slice (some ⟨b3, 0, none⟩) 256 256) 91 1 256 cl3) :: (.sl (.slice (some ⟨b2, 0, none⟩) 256 256) 91 1 256 cl1) :: (.blk b1 (.cells #[.int .i64 p0.Kind, .int .i64 p0.Page, .int .u64 p0.Epoch, .slice A1 p0.Data.length u1] 55 (0, 0))) :: F) x2 p0.Epoch A2 u2 hc2 e2 s hx3
  rw [← hn4] at hc3
  refine RD.op (i := 6) rfl (by kernel_rfl) (by kernel_rfl) (OK.call' en73 (by kernel_rfl) (hc3) ?_)
  intro X2 hX2
  refine fun _ _ hJ => hJ X2 ?_
  clear s
  intro I2 A3 n2 u3 cl5 w8 s k8 hn5 rp5
  refine hX2 _ _ ?_
  have s' := St.back sa1 (i := 0) rfl s k8
  replace k8 := Kp.back sa1 (i := 0) rfl k8
  replace s := s'; clear s'
  obtain ⟨I3, s, k8⟩ : ∃ I : Nat → Prop, St w1 M I ((.sl (.slice A2 n1 u2) 5 1 n1 cl4) :: (.sl (.slice A3 n2 u3) 5 1 n2 cl5) :: (.sl (.slice (some ⟨b3, 0, none⟩) 256 256) 91 1 256 cl3) :: (.sl (.slice (some ⟨b2, 0, none⟩) 256 256) 91 1 256 cl1) :: (.blk b1 (.cells #[.int .i64 p0.Kind, .int .i64 p0.Page, .int .u64 p0.Epoch, .slice A1 p0.Data.length u1] 55 (0, 0))) :: F) w8 ∧ Kp _ _ I _ := ⟨_, s, k8⟩
  replace rp5 := RepL.free (I' := I3) (w' := w8) free_int rp5
  replace e1 := e1.st k8
  replace rp3 := rp3.st k8
  replace rp1 := rp1.st k8
  replace eg2 := eg2.st k8
  replace rp4 := rp4.st k8
  replace kk := kk.trans k8
  replace kS1 := kS1.trans k8
  refine ⟨fun _ => ⟨_, s.pick [2, 3, 4] 5 rfl, kS1⟩, RD.fold ?_⟩
  refine RD.segM hT ht1 (by kernel_rfl) [7] [] [] [.slice A3 n2 u3] [] (by kernel_rfl) (fun _ _ => trivial) ⟨_, s.pick [2, 3, 4] 5 rfl, kS1⟩ ?_
  refine RD.done (by kernel_rfl) ?_
  refine WPK.seq ?_
  refine WPK.region ?_
  have h4 : 0 ≤ (6 : Int) ∧ (6 : Int) ≤ 16 ∧ (16 : Int) ≤ ((256 : Nat) : Int) - 0 := by decide
  obtain ⟨o1, n3, u4, q1, q2, q3, q4, q5, pt1⟩ := partS (b := b3) (c := 256) (Pt.whole (size := 1) (row_hc (s.at (i := 2) rfl)).1) (Nat.le_refl _) h4
  rw [Int.zero_add, Int.zero_add] at pt1
  refine RW.seg hT 2 [] [(16, .slice (some ⟨b3, o1, none⟩) n3 u4)] [.slice (some ⟨b3, o1, none⟩) n3 u4, .slice A3 n2 u3] [.both (.cut 6 16 256 256) (.veq (.slice (cutA (some ⟨b3, 0, none⟩) (6 : Int).toNat 256 1) ((16 : Int).toNat - (6 : Int).toNat) (256 - (6 : Int).toNat)) (.slice (some ⟨b3, o1, none⟩) n3 u4))] (by kernel_rfl) (⟨⟨(q5).1, (q5).2.1, by have := (q5).2.2.1; omega, by omega⟩, sl_eq q1 q2 q3⟩) ?_
  have hs1 := St.src s (i := 1) rfl hn5 rp5
  have rq1 := rp5
  obtain ⟨x4, hx4, hf⟩ := bindS hf
  replace hx4 := someS hx4
  refine RW.op (by kernel_rfl) (OK.copy hT (r := (Rp.int .u8)) (xs := y1) (ys := x3) (i := 2) (c := 256) (e := 91) (size := 1) (t := 24) (t' := 24) (et := 5) (l := 6) (h := 16) s (by kernel_rfl) rfl rfl rfl rfl rfl flat_int rfl rfl hn3 rp3 pt1 hn5 hs1 rq1 ?_)
  clear s
  rintro w9 cl6 s k9 rp6 hn6
  replace e1 := e1.st k9
  replace rp4 := rp4.st k9
  replace rp5 := rp5.st k9
  replace rp3 := rp3.st k9
  replace rp1 := rp1.st k9
  replace eg2 := eg2.st k9
  replace kk := kk.trans k9
  rw [hx4] at rp6 hn6
  refine RW.nil ?_
  refine WPK.seq ?_
  have e1S2 := e1
  have rp4S2 := rp4
  have rp5S2 := rp5
  have rp6S2 := rp6
  have rp1S2 := rp1
  have eg2S6580 := eg2
  have kS2 : Kp I3 w9 I3 w9 := Kp.refl
  refine WPK.drawM (fun w' => ∃ I' : Nat → Prop, St w1 M I' ((.sl (.slice A2 n1 u2) 5 1 n1 cl4) :: (.sl (.slice A3 n2 u3) 5 1 n2 cl5) :: (.sl (.slice (some ⟨b3, 0, none⟩) 256 256) 91 1 256 cl6) :: (.sl (.slice (some ⟨b2, 0, none⟩) 256 256) 91 1 256 cl1) :: (.blk b1 (.cells #[.int .i64 p0.Kind, .int .i64 p0.Page, .int .u64 p0.Epoch, .slice A1 p0.Data.length u1] 55 (0, 0))) :: F) w' ∧ Kp I3 w9 I' w') 3 [0, 0, 2, 7] (by kernel_rfl) (by kernel_rfl) ?_
  intro ht2 w10 hd2
  have k10 := Kp.dr s hd2
  replace s := s.dr hd2
  replace e1 := e1.st k10
  replace rp4 := rp4.st k10
  replace rp5 := rp5.st k10
  replace rp6 := rp6.st k10
  replace rp1 := rp1.st k10
  replace eg2 := eg2.st k10
  replace kk := kk.trans k10
  replace kS2 := kS2.trans k10
  obtain ⟨h5, hf⟩ := iteS hf
  replace h5 : (0 : Int) ≤ 16 ∧ 16 ≤ (x4.length : Int) ∧ (x4.length : Int) ≤ ((256 : Nat) : Int) - 0 := by have hnn := hn6; omega
  obtain ⟨o2, n4, u5, q6, q7, q8, q9, q10, pt2⟩ := partS (b := b3) (c := 256) (Pt.whole (size := 1) (row_hc (s.at (i := 2) rfl)).1) (Nat.le_refl _) h5
  rw [Int.zero_add, Int.zero_add] at pt2
  replace q7 : 256 - (16 : Int).toNat = n4 := by rw [← q7]; have hnn := hn6; omega
  refine RD.segM hT ht2 (by kernel_rfl) [0, 1, 2] [.slice A1 p0.Data.length u1] [(19, .slice (some ⟨b3, o2, none⟩) n4 u5)] [.slice (some ⟨b3, o2, none⟩) n4 u5, .pointer (some ⟨b1, 3, none⟩), .slice A1 p0.Data.length u1] [.both (.cut 16 (256 : Nat) 256 256) (.veq (.slice (cutA (some ⟨b3, 0, none⟩) (16 : Int).toNat 256 1) (256 - (16 : Int).toNat) (256 - (16 : Int).toNat)) (.slice (some ⟨b3, o2, none⟩) n4 u5)), .cell ⟨b1, 3, none⟩ (.slice A1 p0.Data.length u1)] (by kernel_rfl) (by rintro w' ⟨I', s, k⟩; have e1 := e1S2.st k; have rp4 := rp4S2.st k; have rp5 := rp5S2.st k; have rp6 := rp6S2.st k; have rp1 := rp1S2.st k; have eg2 := eg2S6580.st k; exact ⟨⟨⟨(q10).1, by have h3 := (q10).2.1; have h6 := (q10).2.2.1; omega, by have := (q10).2.2.2; omega, by omega⟩, sl_eq q6 q7 q8⟩, s.cell (i := 4) (off := 3) rfl rfl⟩) ⟨_, s.pick [0, 1, 2, 3, 4] 5 rfl, kS2⟩ ?_
  obtain ⟨nw1, hs2, rq2⟩ := Elems.src e1
  obtain ⟨x5, hx5, hf⟩ := bindS hf
  replace hx5 := someS hx5
  refine RD.op (i := 3) rfl (by kernel_rfl) (by kernel_rfl) (OK.copy hT (r := (Rp.int .u8)) (xs := x4) (ys := p0.Data) (i := 2) (c := 256) (e := 91) (size := 1) (t := 24) (t' := 24) (et := 5) (l := 16) (h := (x4.length : Int)) s (by kernel_rfl) rfl rfl rfl rfl rfl flat_int rfl rfl hn6 rp6 pt2 rfl hs2 rq2 ?_)
  clear s
  rintro w11 cl7 s k11 rp7 hn7
  replace e1 := e1.st k11
  replace rp4 := rp4.st k11
  replace rp5 := rp5.st k11
  replace rp6 := rp6.st k11
  replace rp1 := rp1.st k11
  replace eg2 := eg2.st k11
  replace kk := kk.trans k11
  replace kS2 := kS2.trans k11
  rw [hx5] at rp7 hn7
  refine ⟨fun h => absurd h (by decide), RD.fold ?_⟩
  refine RD.done (by kernel_rfl) ?_
  refine WPK.seq ?_
  have e1S3 := e1
  have rp4S3 := rp4
  have rp5S3 := rp5
  have rp7S3 := rp7
  have rp1S3 := rp1
  have eg2S6606 := eg2
  have kS3 : Kp I3 w11 I3 w11 := Kp.refl
  refine WPK.drawM (fun w' => ∃ I' : Nat → Prop, St w1 M I' ((.sl (.slice A2 n1 u2) 5 1 n1 cl4) :: (.sl (.slice A3 n2 u3) 5 1 n2 cl5) :: (.sl (.slice (some ⟨b3, 0, none⟩) 256 256) 91 1 256 cl7) :: (.sl (.slice (some ⟨b2, 0, none⟩) 256 256) 91 1 256 cl1) :: (.blk b1 (.cells #[.int .i64 p0.Kind, .int .i64 p0.Page, .int .u64 p0.Epoch, .slice A1 p0.Data.length u1] 55 (0, 0))) :: F) w' ∧ Kp I3 w11 I' w') 3 [0, 0, 2, 7] (by kernel_rfl) (by kernel_rfl) ?_
  intro ht3 w12 hd3
  have k12 := Kp.dr s hd3
  replace s := s.dr hd3
  replace e1 := e1.st k12
  replace rp4 := rp4.st k12
  replace rp5 := rp5.st k12
  replace rp7 := rp7.st k12
  replace rp1 := rp1.st k12
  replace eg2 := eg2.st k12
  replace kk := kk.trans k12
  replace kS3 := kS3.trans k12
  have h7 : 0 ≤ (0 : Int) ∧ (0 : Int) ≤ 4 ∧ (4 : Int) ≤ ((256 : Nat) : Int) - 0 := by decide
  obtain ⟨o3, n5, u6, q11, q12, q13, q14, q15, pt3⟩ := partS (b := b3) (c := 256) (Pt.whole (size := 1) (row_hc (s.at (i := 2) rfl)).1) (Nat.le_refl _) h7
  rw [Int.zero_add, Int.zero_add] at pt3
  refine RD.segM hT ht3 (by kernel_rfl) [0] [] [(23, .slice (some ⟨b3, o3, none⟩) n5 u6)] [.slice (some ⟨b3, o3, none⟩) n5 u6] [.both (.cut 0 4 256 256) (.veq (.slice (cutA (some ⟨b3, 0, none⟩) (0 : Int).toNat 256 1) ((4 : Int).toNat - (0 : Int).toNat) (256 - (0 : Int).toNat)) (.slice (some ⟨b3, o3, none⟩) n5 u6))] (by kernel_rfl) (by rintro w' ⟨I', s, k⟩; have e1 := e1S3.st k; have rp4 := rp4S3.st k; have rp5 := rp5S3.st k; have rp7 := rp7S3.st k; have rp1 := rp1S3.st k; have eg2 := eg2S6606.st k; exact ⟨⟨(q15).1, (q15).2.1, by have := (q15).2.2.1; omega, by omega⟩, sl_eq q11 q12 q13⟩) ⟨_, s.pick [0, 1, 2, 3, 4] 5 rfl, kS3⟩ ?_
  refine RD.op (i := 1) rfl (by kernel_rfl) (by kernel_rfl) (OK.inl (args := [.pointer (some ⟨b3, 0, none⟩)]) en75 (by kernel_rfl) ?_)
  intro R1 hR1
  refine Ret.of Tryd.func75 rfl ?_
  refine WPK.seq ?_
  refine WPK.region ?_
  refine RW.seg hT 1 [] [] [.int .u32 0] [] (by kernel_rfl) (trivial) ?_
  refine RW.nil ?_
  refine WPK.seq ?_
  refine WPK.region ?_
  obtain ⟨h8, hf⟩ := iteS hf
  replace h8 : (0 : Int) ≤ 4 ∧ 4 ≤ (x5.length : Int) ∧ (x5.length : Int) ≤ ((256 : Nat) : Int) - 0 := by have hnn := hn7; omega
  obtain ⟨o4, n6, u7, q16, q17, q18, q19, q20, pt4⟩ := partS (b := b3) (c := 256) (Pt.whole (size := 1) (row_hc (s.at (i := 2) rfl)).1) (Nat.le_refl _) h8
  rw [Int.zero_add, Int.zero_add] at pt4
  replace q17 : 256 - (4 : Int).toNat = n6 := by rw [← q17]; have hnn := hn7; omega
  refine RW.seg hT 3 [] [(5, .slice (some ⟨b3, o4, none⟩) n6 u7)] [.pointer (some ⟨b3, 0, none⟩), .pointer (some ⟨b3, 0, none⟩), .slice (some ⟨b3, o4, none⟩) n6 u7] [.both (.cut 4 (256 : Nat) 256 256) (.veq (.slice (cutA (some ⟨b3, 0, none⟩) (4 : Int).toNat 256 1) (256 - (4 : Int).toNat) (256 - (4 : Int).toNat)) (.slice (some ⟨b3, o4, none⟩) n6 u7))] (by kernel_rfl) (⟨⟨(q20).1, by have h3 := (q20).2.1; have h6 := (q20).2.2.1; omega, by have := (q20).2.2.2; omega, by omega⟩, sl_eq q16 q17 q18⟩) ?_
  refine RW.op (by kernel_rfl) (OK.new hT (f := fun b => .slice (some ⟨b, 0, none⟩) 1 1) (cs := [.slice (some ⟨b3, o4, none⟩) n6 u7]) (e := 24) (c := .tt) s (by kernel_rfl) trivial ?_)
  clear s
  rintro w13 b4 s k13 -
  replace e1 := e1.st k13
  replace rp4 := rp4.st k13
  replace rp5 := rp5.st k13
  replace rp7 := rp7.st k13
  replace rp1 := rp1.st k13
  replace eg2 := eg2.st k13
  replace kk := kk.trans k13
  replace kS3 := kS3.trans k13
  refine RW.op (by kernel_rfl) (OK.inl (args := [.slice (some ⟨b4, 0, none⟩) 1 1]) en81 (by kernel_rfl) ?_)
  intro R2 hR2
  refine Ret.of Tryd.func81 rfl ?_
  refine WPK.seq ?_
  refine WPK.region ?_
  refine RW.seg hT 1 [] [] [.int .u32 0] [] (by kernel_rfl) (trivial) ?_
  refine RW.nil ?_
  refine WPK.seq ?_
  refine WPK.region ?_
  refine RW.seg hT 1 [] [] [.slice (some ⟨b4, 0, none⟩) 1 1] [] (by kernel_rfl) (trivial) ?_
  refine RW.op (by kernel_rfl) (OK.inl (args := [.int .u32 0, .slice (some ⟨b4, 0, none⟩) 1 1]) en86 (by kernel_rfl) ?_)
  intro R3 hR3
  refine Ret.of Tryd.func86 rfl ?_
  refine WPK.seq ?_
  refine WPK.region ?_
  refine RW.seg hT 1 [] [] [.int .u32 0] [] (by kernel_rfl) (trivial) ?_
  refine RW.nil ?_
  refine WPK.seq ?_
  refine WPK.region ?_
  refine RW.seg hT 1 [] [] [.int .u32 0] [] (by kernel_rfl) (trivial) ?_
  obtain ⟨x6, hx6, hf⟩ := bindS hf
  refine RW.op (by kernel_rfl) (OK.call' en88 (by kernel_rfl) (c88 (F := (.blk b4 (.cells #[.slice (some ⟨b3, o4, none⟩) n6 u7] 24 (0, 0))) :: (.sl (.slice A2 n1 u2) 5 1 n1 cl4) :: (.sl (.slice A3 n2 u3) 5 1 n2 cl5) :: (.sl (.slice (some ⟨b3, 0, none⟩) 256 256) 91 1 256 cl7) :: (.sl (.slice (some ⟨b2, 0, none⟩) 256 256) 91 1 256 cl1) :: (.blk b1 (.cells #[.int .i64 p0.Kind, .int .i64 p0.Page, .int .u64 p0.Epoch, .slice A1 p0.Data.length u1] 55 (0, 0))) :: F) 0 s hx6) ?_)
  intro X3 hX3
  refine fun _ _ hJ => hJ X3 ?_
  clear s
  intro I4 w14 s k14
  refine hX3 _ _ ?_
  replace e1 := e1.st k14
  replace rp4 := rp4.st k14
  replace rp5 := rp5.st k14
  replace rp7 := rp7.st k14
  replace rp1 := rp1.st k14
  replace eg2 := eg2.st k14
  replace kk := kk.trans k14
  replace kS3 := kS3.trans k14
  refine RW.seg hT 1 [] [] [.int .u32 x6] [] (by kernel_rfl) (trivial) ?_
  refine RW.nil ?_
  refine WPK.seq ?_
  refine WPK.seq ?_
  refine WPK.region ?_
  refine RW.seg hT 3 [] [] [.slice (some ⟨b4, 0, none⟩) 1 1, .int .i64 1, .int .i64 0] [] (by kernel_rfl) (trivial) ?_
  refine RW.nil ?_
  refine WPK.block ?_
  refine WPK.rounds 12 ?_
  refine Rounds.go ?_
  refine WPK.seq ?_
  refine WPK.region ?_
  refine RW.seg hT 1 [] [] [.bool true] [] (by kernel_rfl) (trivial) ?_
  refine RW.nil ?_
  refine WPK.seq ?_
  refine WPK.condT (by kernel_rfl) ?_
  refine WPK.skip ?_
  refine WPK.seq ?_
  refine WPK.block ?_
  refine WPK.seq ?_
  refine WPK.region ?_
  refine RW.seg hT 3 [.slice (some ⟨b3, o4, none⟩) n6 u7] [] [.pointer (some ⟨b4, 0, none⟩), .slice (some ⟨b3, o4, none⟩) n6 u7, .slice (some ⟨b3, o4, none⟩) n6 u7] [.idx 0 1, .cell ⟨b4, 0, none⟩ (.slice (some ⟨b3, o4, none⟩) n6 u7)] (by kernel_rfl) (⟨⟨by decide, by decide⟩, s.cell (i := 0) (off := 0) rfl rfl⟩) ?_
  refine RW.nil ?_
  refine WPK.region ?_
  refine RW.seg hT 2 [] [] [.int .u32 x6, .slice (some ⟨b3, o4, none⟩) n6 u7] [] (by kernel_rfl) (trivial) ?_
  obtain ⟨y2, hy2, hf⟩ := bindS hf
  have sa2 := s
  obtain ⟨hm1, hc4, e3⟩ := St.lendPt s (i := 3) rfl rfl rp7 pt4 (q19) hy2
  have k15 := Kp.shut (I := I4) (w := w14) (p := .sl (.slice (some ⟨b3, 0, none⟩) 256 256) 91 1 256 cl7)
  replace s := s.shut 3 rfl
  obtain ⟨x7, hx7, hf⟩ := bindS hf
  have hc5 := c89 (F := (.blk b4 (.cells #[.slice (some ⟨b3, o4, none⟩) n6 u7] 24 (0, 0))) :: (.sl (.slice A2 n1 u2) 5 1 n1 cl4) :: (.sl (.slice A3 n2 u3) 5 1 n2 cl5) :: (.sl (.slice (some ⟨b2, 0, none⟩) 256 256) 91 1 256 cl1) :: (.blk b1 (.cells #[.int .i64 p0.Kind, .int .i64 p0.Page, .int .u64 p0.Epoch, .slice A1 p0.Data.length u1] 55 (0, 0))) :: F) x6 y2 (some ⟨b3, o4, none⟩) u7 hc4 e3 (eg2.st k15) s hx7
  rw [← hm1] at hc5
  refine RW.op (by kernel_rfl) (OK.call' en89 (by kernel_rfl) (hc5) ?_)
  intro X4 hX4
  refine fun _ _ hJ => hJ X4 ?_
  clear s
  intro I5 w15 s k16
  refine hX4 _ _ ?_
  have s' := St.back sa2 (i := 3) rfl s k16
  replace k16 := Kp.back sa2 (i := 3) rfl k16
  replace s := s'; clear s'
  obtain ⟨I6, s, k16⟩ : ∃ I : Nat → Prop, St w1 M I ((.sl (.slice (some ⟨b3, 0, none⟩) 256 256) 91 1 256 cl7) :: (.blk b4 (.cells #[.slice (some ⟨b3, o4, none⟩) n6 u7] 24 (0, 0))) :: (.sl (.slice A2 n1 u2) 5 1 n1 cl4) :: (.sl (.slice A3 n2 u3) 5 1 n2 cl5) :: (.sl (.slice (some ⟨b2, 0, none⟩) 256 256) 91 1 256 cl1) :: (.blk b1 (.cells #[.int .i64 p0.Kind, .int .i64 p0.Page, .int .u64 p0.Epoch, .slice A1 p0.Data.length u1] 55 (0, 0))) :: F) w15 ∧ Kp _ _ I _ := ⟨_, s, k16⟩
  replace e1 := e1.st k16
  replace rp4 := rp4.st k16
  replace rp5 := rp5.st k16
  replace rp1 := rp1.st k16
  replace eg2 := eg2.st k16
  replace rp7 := rp7.st k16
  replace kk := kk.trans k16
  replace kS3 := kS3.trans k16
  refine RW.seg hT 1 [] [] [.int .u32 x7] [] (by kernel_rfl) (trivial) ?_
  refine RW.nil ?_
  refine WPK.region ?_
  refine RW.seg hT 2 [] [] [.int .i64 1, .int .i64 1] [] (by kernel_rfl) (trivial) ?_
  refine RW.nil ?_
  refine Rounds.go ?_
  refine WPK.seq ?_
  refine WPK.region ?_
  refine RW.seg hT 1 [] [] [.bool false] [] (by kernel_rfl) (trivial) ?_
  refine RW.nil ?_
  refine WPK.seq ?_
  refine WPK.condF (by kernel_rfl) ?_
  refine WPK.exit (blockQ.same ?_)
  refine WPK.seq ?_
  refine WPK.region ?_
  refine RW.seg hT 1 [] [] [.int .u32 x7] [] (by kernel_rfl) (trivial) ?_
  obtain ⟨x8, hx8, hf⟩ := bindS hf
  refine RW.op (by kernel_rfl) (OK.call' en90 (by kernel_rfl) (c90 (F := (.sl (.slice (some ⟨b3, 0, none⟩) 256 256) 91 1 256 cl7) :: (.blk b4 (.cells #[.slice (some ⟨b3, o4, none⟩) n6 u7] 24 (0, 0))) :: (.sl (.slice A2 n1 u2) 5 1 n1 cl4) :: (.sl (.slice A3 n2 u3) 5 1 n2 cl5) :: (.sl (.slice (some ⟨b2, 0, none⟩) 256 256) 91 1 256 cl1) :: (.blk b1 (.cells #[.int .i64 p0.Kind, .int .i64 p0.Page, .int .u64 p0.Epoch, .slice A1 p0.Data.length u1] 55 (0, 0))) :: F) x7 s hx8) ?_)
  intro X5 hX5
  refine fun _ _ hJ => hJ X5 ?_
  clear s
  intro I7 w16 s k17
  refine hX5 _ _ ?_
  replace e1 := e1.st k17
  replace rp7 := rp7.st k17
  replace rp4 := rp4.st k17
  replace rp5 := rp5.st k17
  replace rp1 := rp1.st k17
  replace eg2 := eg2.st k17
  replace kk := kk.trans k17
  replace kS3 := kS3.trans k17
  refine RW.seg hT 1 [] [] [.int .u32 x8] [] (by kernel_rfl) (trivial) ?_
  refine RW.nil ?_
  refine WPK.ret (?_)
  refine Fin.of (rs := [.tmp 4]) hT [] (.int .u32 x8) [] rfl (by kernel_rfl) (trivial) ?_
  refine hR3 _ _ ?_
  refine RW.seg hT 1 [] [] [.int .u32 x8] [] (by kernel_rfl) (trivial) ?_
  refine RW.nil ?_
  refine WPK.ret (?_)
  refine Fin.of (rs := [.tmp 2]) hT [] (.int .u32 x8) [] rfl (by kernel_rfl) (trivial) ?_
  refine hR2 _ _ ?_
  refine RW.seg hT 1 [] [] [.int .u32 x8] [] (by kernel_rfl) (trivial) ?_
  refine RW.nil ?_
  refine WPK.ret (?_)
  refine Fin.of (rs := [.tmp 2]) hT [] (.int .u32 x8) [] rfl (by kernel_rfl) (trivial) ?_
  refine hR1 _ _ ?_
  refine ⟨fun _ => ⟨_, s.pick [2, 3, 0, 4, 5] 6 rfl, kS3⟩, RD.fold ?_⟩
  obtain ⟨x9, hx9, hf⟩ := bindS hf
  refine RD.op (i := 2) rfl (by kernel_rfl) (by kernel_rfl) (OK.call' en74 (by kernel_rfl) (c74 (F := (.sl (.slice (some ⟨b3, 0, none⟩) 256 256) 91 1 256 cl7) :: (.blk b4 (.cells #[.slice (some ⟨b3, o4, none⟩) n6 u7] 24 (0, 0))) :: (.sl (.slice A2 n1 u2) 5 1 n1 cl4) :: (.sl (.slice A3 n2 u3) 5 1 n2 cl5) :: (.sl (.slice (some ⟨b2, 0, none⟩) 256 256) 91 1 256 cl1) :: (.blk b1 (.cells #[.int .i64 p0.Kind, .int .i64 p0.Page, .int .u64 p0.Epoch, .slice A1 p0.Data.length u1] 55 (0, 0))) :: F) [] x8 none 0 nil_hc Elems.nil s hx9) ?_)
  intro X6 hX6
  refine fun _ _ hJ => hJ X6 ?_
  clear s
  intro I8 A4 n7 u8 cl8 w17 s k18 hn8 rp8
  refine hX6 _ _ ?_
  replace e1 := e1.st k18
  replace rp7 := rp7.st k18
  replace rp4 := rp4.st k18
  replace rp5 := rp5.st k18
  replace rp1 := rp1.st k18
  replace eg2 := eg2.st k18
  replace kk := kk.trans k18
  replace kS3 := kS3.trans k18
  refine ⟨fun _ => ⟨_, s.pick [3, 4, 1, 5, 6] 7 rfl, kS3⟩, RD.fold ?_⟩
  have hs3 := St.src s (i := 0) rfl hn8 rp8
  have rq3 := rp8
  obtain ⟨x10, hx10, hf⟩ := bindS hf
  replace hx10 := someS hx10
  refine RD.op (i := 3) rfl (by kernel_rfl) (by kernel_rfl) (OK.copy hT (r := (Rp.int .u8)) (xs := x5) (ys := x9) (i := 1) (c := 256) (e := 91) (size := 1) (t := 24) (t' := 24) (et := 5) (l := 0) (h := 4) s (by kernel_rfl) rfl rfl rfl rfl rfl flat_int rfl rfl hn7 rp7 pt3 hn8 hs3 rq3 ?_)
  clear s
  rintro w18 cl9 s k19 rp9 hn9
  replace e1 := e1.st k19
  replace rp8 := rp8.st k19
  replace rp7 := rp7.st k19
  replace rp4 := rp4.st k19
  replace rp5 := rp5.st k19
  replace rp1 := rp1.st k19
  replace eg2 := eg2.st k19
  replace kk := kk.trans k19
  replace kS3 := kS3.trans k19
  rw [hx10] at rp9 hn9
  refine ⟨fun h => absurd h (by decide), RD.fold ?_⟩
  refine RD.done (by kernel_rfl) ?_
  refine WPK.seq ?_
  refine WPK.region ?_
  refine RW.seg hT 1 [.agg (List.map (Value.int .u8) x10).toArray] [] [.agg (List.map (Value.int .u8) x10).toArray] [.cells ⟨b3, 0, none⟩ (List.map (Value.int .u8) x10) 256] (by kernel_rfl) (St.arr s (i := 1) rfl rp9 hn9) ?_
  obtain ⟨cl10, hcl4⟩ : ∃ q, q = List.map (Value.int .u8) x10 := ⟨_, rfl⟩
  have rp10 : RepL (Rp.int .u8) I8 w18 cl10 x10 := by rw [hcl4]; exact repl_map
  have hn10 := hn9
  refine RW.op (by kernel_rfl) (OK.storeAt hT (i := 5) (b := b2) (off := 0) (m := 256) (vs := (List.map (Value.int .u8) x10)) (c := 256) (e := 91) (size := 1) (n := 256) (cl := cl1) (cl' := cl10) s (by kernel_rfl) rfl (by rw [List.length_map]; exact (hn9).symm) (RepL.flat flat_int (repl_map (I := I8) (w := w18))) (by have h3 := RepL.length rp1; have h6 := (hn1).symm.trans hn9; have h9 : (Rp.int .u8).n = 1 := rfl; rw [h9] at h3; simp only [List.length_map]; omega) (by rw [hcl4]; have h3 := RepL.length rp1; have h9 : (Rp.int .u8).n = 1 := rfl; rw [h9, Nat.mul_one, ← hn1] at h3; exact setL_all (by rw [List.length_map, h3]; exact (hn9).symm)) ?_)
  clear s
  rintro w19 s k20
  replace e1 := e1.st k20
  replace rp8 := rp8.st k20
  replace rp9 := rp9.st k20
  replace rp4 := rp4.st k20
  replace rp5 := rp5.st k20
  replace rp10 := rp10.st k20
  replace eg2 := eg2.st k20
  replace kk := kk.trans k20
  refine RW.nil ?_
  refine WPK.ret (?_)
  obtain rfl := someS hf
  refine Fin.of (rs := [.cell 2 91]) hT [.agg (List.map (Value.int .u8) x10).toArray] (.agg (List.map (Value.int .u8) x10).toArray) [.cells ⟨b2, 0, none⟩ (List.map (Value.int .u8) x10) 256] rfl (by kernel_rfl) (St.arr s (i := 5) rfl rp10 hn10) ?_
  replace s := s.pick [] 7 rfl
  exact fun X h => vc rfl (h I8 _ s kk hn10)
theorem c40 {w1 w : World} {M I : Nat → Prop} {F : List It} (p0 : T_api_Frame) (A1 : Option Addr) (u1 : Nat) (hc1 : (p0.Data.length ≤ u1 ∧ u1 ≤ 9223372036854775807)) (e1 : Elems (Rp.int .u8) I w A1 p0.Data) (eg2 : Elems (Rp.int .u32) I w (some ⟨2, 0, none⟩) TAB2) (s : St w1 M I (F) w) {r : ((List Int) × Int)} (hf : g40 p0 = some r) :
    Ret Tryd.prog 40 [.agg #[.int .i64 p0.Kind, .int .i64 p0.Page, .int .u64 p0.Epoch, .slice A1 p0.Data.length u1]] w fun v wz => ∀ X : Value → World → Prop, (∀ (I' : Nat → Prop) (A2 : Option Addr) (n1 : Nat) (u2 : Nat) (cl1 : List Value) (w' : World), St w1 M I' ((.sl (.slice A2 n1 u2) 91 1 n1 cl1) :: F) w' → Kp I w I' w' → n1 = r.1.length → RepL (Rp.int .u8) I' w' cl1 r.1 → X (.tuple #[.slice A2 n1 u2, .int .i64 r.2]) w') → X v wz := by
  have kk : Kp I w I w := Kp.refl
  unfold g40 at hf
  refine Ret.of Tryd.func40 rfl ?_
  refine WPK.seq ?_
  refine WPK.region ?_
  refine RW.op (by kernel_rfl) (OK.new hT (f := fun b => .pointer (some ⟨b, 0, none⟩)) (cs := [.int .i64 p0.Kind, .int .i64 p0.Page, .int .u64 p0.Epoch, .slice A1 p0.Data.length u1]) (e := 55) (c := .tt) s (by kernel_rfl) trivial ?_)
  clear s
  rintro w2 b1 s k1 -
  replace e1 := e1.st k1
  replace eg2 := eg2.st k1
  replace kk := kk.trans k1
  refine RW.seg hT 2 [] [] [.slice none 0 0, .int .i64 0] [] (by kernel_rfl) (trivial) ?_
  refine RW.nil ?_
  refine WPK.seq ?_
  refine WPK.seq ?_
  refine WPK.region ?_
  refine RW.seg hT 1 [.agg #[.int .i64 p0.Kind, .int .i64 p0.Page, .int .u64 p0.Epoch, .slice A1 p0.Data.length u1]] [] [.agg #[.int .i64 p0.Kind, .int .i64 p0.Page, .int .u64 p0.Epoch, .slice A1 p0.Data.length u1]] [.cells ⟨b1, 0, none⟩ [.int .i64 p0.Kind, .int .i64 p0.Page, .int .u64 p0.Epoch, .slice A1 p0.Data.length u1] 4] (by kernel_rfl) (s.cells (i := 0) rfl rfl rfl) ?_
  obtain ⟨x1, hx1, hf⟩ := bindS hf
  refine RW.op (by kernel_rfl) (OK.call' en60 (by kernel_rfl) (c60 (F := (.blk b1 (.cells #[.int .i64 p0.Kind, .int .i64 p0.Page, .int .u64 p0.Epoch, .slice A1 p0.Data.length u1] 55 (0, 0))) :: F) p0 A1 u1 hc1 e1 s hx1) ?_)
  intro X1 hX1
  refine fun _ _ hJ => hJ X1 ?_
  clear s
  intro I1 w3 s k2
  refine hX1 _ _ ?_
  replace e1 := e1.st k2
  replace eg2 := eg2.st k2
  replace kk := kk.trans k2
  refine RW.seg hT 1 [] [] [.int .i64 x1] [] (by kernel_rfl) (trivial) ?_
  refine RW.nil ?_
  refine WPK.seq ?_
  refine WPK.region ?_
  refine RW.seg hT 2 [] [(9, .bool (decide (x1 ≠ 0)))] [.int .i64 x1, .bool (decide (x1 ≠ 0))] [.veq (.bool (x1 != 0)) (.bool (decide (x1 ≠ 0)))] (by kernel_rfl) (ne_v) ?_
  refine RW.nil ?_
  by_cases h1 : x1 ≠ 0
  have hf := iteT h1 hf
  refine WPK.condT (Eq.trans (b := .bool (decide (x1 ≠ 0))) (by kernel_rfl) (bo_t h1)) ?_
  refine WPK.seq ?_
  refine WPK.region ?_
  refine RW.seg hT 3 [] [] [.int .i64 x1, .slice none 0 0, .int .i64 x1] [] (by kernel_rfl) (trivial) ?_
  refine RW.nil ?_
  refine WPK.ret (?_)
  obtain rfl := someS hf
  refine Fin.of (rs := [.tmp 2, .tmp 3]) hT [] (.tuple #[.slice none 0 0, .int .i64 x1]) [] rfl (by kernel_rfl) (trivial) ?_
  replace s := s.pushNil 91 1
  replace s := s.pick [0] 2 rfl
  exact fun X h => vc rfl (h I1 none 0 0 [] _ s kk rfl (RepL.nil (r := (Rp.int .u8))))
  have hf := iteF h1 hf
  refine WPK.condF (Eq.trans (b := .bool (decide (x1 ≠ 0))) (by kernel_rfl) (bo_f h1)) ?_
  refine WPK.skip ?_
  refine WPK.seq ?_
  refine WPK.region ?_
  refine RW.seg hT 1 [.agg #[.int .i64 p0.Kind, .int .i64 p0.Page, .int .u64 p0.Epoch, .slice A1 p0.Data.length u1]] [] [.agg #[.int .i64 p0.Kind, .int .i64 p0.Page, .int .u64 p0.Epoch, .slice A1 p0.Data.length u1]] [.cells ⟨b1, 0, none⟩ [.int .i64 p0.Kind, .int .i64 p0.Page, .int .u64 p0.Epoch, .slice A1 p0.Data.length u1] 4] (by kernel_rfl) (s.cells (i := 0) rfl rfl rfl) ?_
  obtain ⟨x2, hx2, hf⟩ := bindS hf
  refine RW.op (by kernel_rfl) (OK.call' en61 (by kernel_rfl) (c61 (F := (.blk b1 (.cells #[.int .i64 p0.Kind, .int .i64 p0.Page, .int .u64 p0.Epoch, .slice A1 p0.Data.length u1] 55 (0, 0))) :: F) p0 A1 u1 hc1 e1 eg2 s hx2) ?_)
  intro X2 hX2
  refine fun _ _ hJ => hJ X2 ?_
  clear s
  intro I2 w4 s k3 hl1
  refine hX2 _ _ ?_
  replace e1 := e1.st k3
  replace eg2 := eg2.st k3
  replace kk := kk.trans k3
  refine RW.op (by kernel_rfl) (OK.new hT (f := fun b => .pointer (some ⟨b, 0, none⟩)) (cs := (List.replicate 256 (Value.int .u8 0))) (e := 91) (c := .tt) s (by kernel_rfl) trivial ?_)
  clear s
  rintro w5 b2 s k4 -
  have hn1 : 256 = ((List.replicate 256 (0 : Int))).length := by simp
  obtain ⟨cl2, hcl1⟩ : ∃ q, q = (List.replicate 256 (Value.int .u8 0)) := ⟨_, rfl⟩
  replace s := s.blkSl (i := 0) (n := 256) (c := 256) (size := 1) rfl (by simp) (Nat.le_refl _) (by decide)
  rw [List.take_of_length_le (by simp), ← hcl1] at s
  replace e1 := e1.st k4
  replace eg2 := eg2.st k4
  replace kk := kk.trans k4
  have rp1 : RepL (Rp.int .u8) I2 w5 cl2 (List.replicate 256 (0 : Int)) := by rw [hcl1]; exact RepL.rep rfl _
  obtain ⟨cl3, hcl2⟩ : ∃ q, q = List.map (Value.int .u8) x2 := ⟨_, rfl⟩
  have rp2 : RepL (Rp.int .u8) I2 w5 cl3 x2 := by rw [hcl2]; exact repl_map
  have hn2 := hl1
  refine RW.op (by kernel_rfl) (OK.storeAt hT (i := 0) (b := b2) (off := 0) (m := 256) (vs := (List.map (Value.int .u8) x2)) (c := 256) (e := 91) (size := 1) (n := 256) (cl := cl2) (cl' := cl3) s (by kernel_rfl) rfl (by rw [List.length_map]; exact (hl1).symm) (RepL.flat flat_int (repl_map (I := I2) (w := w5))) (by have h2 := RepL.length rp1; have h3 := (hn1).symm.trans hl1; have h4 : (Rp.int .u8).n = 1 := rfl; rw [h4] at h2; simp only [List.length_map]; omega) (by rw [hcl2]; have h2 := RepL.length rp1; have h4 : (Rp.int .u8).n = 1 := rfl; rw [h4, Nat.mul_one, ← hn1] at h2; exact setL_all (by rw [List.length_map, h2]; exact (hl1).symm)) ?_)
  clear s
  rintro w6 s k5
  replace e1 := e1.st k5
  replace rp2 := rp2.st k5
  replace eg2 := eg2.st k5
  replace kk := kk.trans k5
  refine RW.nil ?_
  refine WPK.seq ?_
  refine WPK.region ?_
  refine RW.seg hT 3 [] [] [.slice (some ⟨b2, 0, none⟩) 256 256, .slice (some ⟨b2, 0, none⟩) 256 256, .int .i64 0] [] (by kernel_rfl) (trivial) ?_
  refine RW.nil ?_
  refine WPK.ret (?_)
  obtain rfl := someS hf
  refine Fin.of (rs := [.tmp 2, .tmp 3]) hT [] (.tuple #[.slice (some ⟨b2, 0, none⟩) 256 256, .int .i64 0]) [] rfl (by kernel_rfl) (trivial) ?_
  replace s := s.pick [0] 2 rfl
  exact fun X h => vc rfl (h I2 (some ⟨b2, 0, none⟩) 256 256 cl3 _ s kk hn2 rp2)
theorem c19 {w1 w : World} {M I : Nat → Prop} {F : List It} (p0 : T_api_Head) (A1 : Option Addr) (u1 : Nat) (A2 : Option Addr) (u2 : Nat) (hc1 : (p0.Maps.length ≤ u1 ∧ u1 ≤ 9223372036854775807)) (e1 : Elems (Rp.int .i64) I w A1 p0.Maps) (hc2 : (p0.User.length ≤ u2 ∧ u2 ≤ 9223372036854775807)) (e2 : Elems (Rp.int .u8) I w A2 p0.User) (eg2 : Elems (Rp.int .u32) I w (some ⟨2, 0, none⟩) TAB2) (s : St w1 M I (F) w) {r : ((List Int) × Int)} (hf : g19 p0 = some r) :
    Ret Tryd.prog 19 [.agg #[.int .u64 p0.Epoch, .int .i64 p0.Pages, .slice A1 p0.Maps.length u1, .slice A2 p0.User.length u2]] w fun v wz => ∀ X : Value → World → Prop, (∀ (I' : Nat → Prop) (A3 : Option Addr) (n1 : Nat) (u3 : Nat) (cl1 : List Value) (w' : World), St w1 M I' ((.sl (.slice A3 n1 u3) 91 1 n1 cl1) :: F) w' → Kp I w I' w' → n1 = r.1.length → RepL (Rp.int .u8) I' w' cl1 r.1 → X (.tuple #[.slice A3 n1 u3, .int .i64 r.2]) w') → X v wz := by
  have kk : Kp I w I w := Kp.refl
  unfold g19 at hf
  refine Ret.of Tryd.func19 rfl ?_
  refine WPK.seq ?_
  refine WPK.region ?_
  refine RW.op (by kernel_rfl) (OK.new hT (f := fun b => .pointer (some ⟨b, 0, none⟩)) (cs := [.int .u64 p0.Epoch, .int .i64 p0.Pages, .slice A1 p0.Maps.length u1, .slice A2 p0.User.length u2]) (e := 28) (c := .tt) s (by kernel_rfl) trivial ?_)
  clear s
  rintro w2 b1 s k1 -
  replace e1 := e1.st k1
  replace e2 := e2.st k1
  replace eg2 := eg2.st k1
  replace kk := kk.trans k1
  refine RW.seg hT 2 [] [] [.slice none 0 0, .int .i64 0] [] (by kernel_rfl) (trivial) ?_
  refine RW.nil ?_
  refine WPK.seq ?_
  refine WPK.region ?_
  refine RW.seg hT 1 [.agg #[.int .u64 p0.Epoch, .int .i64 p0.Pages, .slice A1 p0.Maps.length u1, .slice A2 p0.User.length u2]] [] [.agg #[.int .u64 p0.Epoch, .int .i64 p0.Pages, .slice A1 p0.Maps.length u1, .slice A2 p0.User.length u2]] [.cells ⟨b1, 0, none⟩ [.int .u64 p0.Epoch, .int .i64 p0.Pages, .slice A1 p0.Maps.length u1, .slice A2 p0.User.length u2] 4] (by kernel_rfl) (s.cells (i := 0) rfl rfl rfl) ?_
  obtain ⟨x1, hx1, hf⟩ := bindS hf
  refine RW.op (by kernel_rfl) (OK.call' en17 (by kernel_rfl) (c17 (F := (.blk b1 (.cells #[.int .u64 p0.Epoch, .int .i64 p0.Pages, .slice A1 p0.Maps.length u1, .slice A2 p0.User.length u2] 28 (0, 0))) :: F) p0 A1 u1 A2 u2 hc1 e1 hc2 e2 s hx1) ?_)
  intro X1 hX1
  refine fun _ _ hJ => hJ X1 ?_
  clear s
  intro I1 A4 n2 u4 cl2 w3 s k2 hn1 rp1
  refine hX1 _ _ ?_
  replace e1 := e1.st k2
  replace e2 := e2.st k2
  replace eg2 := eg2.st k2
  replace kk := kk.trans k2
  refine RW.seg hT 5 [] [] [.tuple #[.slice A4 n2 u4, .int .i64 x1.2], .slice A4 n2 u4, .int .i64 x1.2, .slice A4 n2 u4, .int .i64 x1.2] [] (by kernel_rfl) (trivial) ?_
  refine RW.nil ?_
  refine WPK.seq ?_
  refine WPK.seq ?_
  refine WPK.region ?_
  refine RW.seg hT 2 [] [(12, .bool (decide (x1.2 ≠ 0)))] [.int .i64 x1.2, .bool (decide (x1.2 ≠ 0))] [.veq (.bool (x1.2 != 0)) (.bool (decide (x1.2 ≠ 0)))] (by kernel_rfl) (ne_v) ?_
  refine RW.nil ?_
  by_cases h1 : x1.2 ≠ 0
  have hf := iteT h1 hf
  refine WPK.condT (Eq.trans (b := .bool (decide (x1.2 ≠ 0))) (by kernel_rfl) (bo_t h1)) ?_
  refine WPK.seq ?_
  refine WPK.region ?_
  refine RW.seg hT 3 [] [] [.int .i64 x1.2, .slice none 0 0, .int .i64 x1.2] [] (by kernel_rfl) (trivial) ?_
  refine RW.nil ?_
  refine WPK.ret (?_)
  obtain rfl := someS hf
  refine Fin.of (rs := [.tmp 2, .tmp 3]) hT [] (.tuple #[.slice none 0 0, .int .i64 x1.2]) [] rfl (by kernel_rfl) (trivial) ?_
  replace s := s.pushNil 91 1
  replace s := s.pick [0] 3 rfl
  exact fun X h => vc rfl (h I1 none 0 0 [] _ s kk rfl (RepL.nil (r := (Rp.int .u8))))
  have hf := iteF h1 hf
  refine WPK.condF (Eq.trans (b := .bool (decide (x1.2 ≠ 0))) (by kernel_rfl) (bo_f h1)) ?_
  refine WPK.skip ?_
  refine WPK.seq ?_
  have e1S1 := e1
  have e2S1 := e2
  have rp1S1 := rp1
  have eg2S7201 := eg2
  have kS1 : Kp I1 w3 I1 w3 := Kp.refl
  refine WPK.drawM (fun w' => ∃ I' : Nat → Prop, St w1 M I' ((.sl (.slice A4 n2 u4) 5 1 n2 cl2) :: (.blk b1 (.cells #[.int .u64 p0.Epoch, .int .i64 p0.Pages, .slice A1 p0.Maps.length u1, .slice A2 p0.User.length u2] 28 (0, 0))) :: F) w' ∧ Kp I1 w3 I' w') 12 [0, 1, 3, 0, 8, 0, 63, 127, 255, 255, 1023, 2047] (by kernel_rfl) (by kernel_rfl) ?_
  intro ht1 w4 hd1
  have k3 := Kp.dr s hd1
  replace s := s.dr hd1
  replace e1 := e1.st k3
  replace e2 := e2.st k3
  replace rp1 := rp1.st k3
  replace eg2 := eg2.st k3
  replace kk := kk.trans k3
  replace kS1 := kS1.trans k3
  refine RD.segM hT ht1 (by kernel_rfl) [0, 1, 3, 4, 5] [.int .u64 p0.Epoch, .int .u64 p0.Epoch] [] [.pointer (some ⟨b1, 0, none⟩), .int .u64 p0.Epoch, .pointer (some ⟨b1, 0, none⟩), .int .u64 p0.Epoch, .slice A4 n2 u4] [.cell ⟨b1, 0, none⟩ (.int .u64 p0.Epoch), .cell ⟨b1, 0, none⟩ (.int .u64 p0.Epoch)] (by kernel_rfl) (by rintro w' ⟨I', s, k⟩; have e1 := e1S1.st k; have e2 := e2S1.st k; have rp1 := rp1S1.st k; have eg2 := eg2S7201.st k; exact ⟨s.cell (i := 1) (off := 0) rfl rfl, s.cell (i := 1) (off := 0) rfl rfl⟩) ⟨_, s.pick [0, 1] 2 rfl, kS1⟩ ?_
  obtain ⟨x2, hx2, hf⟩ := bindS hf
  refine RD.op (i := 2) rfl (by kernel_rfl) (by kernel_rfl) (OK.call' en25 (by kernel_rfl) (c25 (F := (.sl (.slice A4 n2 u4) 5 1 n2 cl2) :: (.blk b1 (.cells #[.int .u64 p0.Epoch, .int .i64 p0.Pages, .slice A1 p0.Maps.length u1, .slice A2 p0.User.length u2] 28 (0, 0))) :: F) p0.Epoch s hx2) ?_)
  intro X2 hX2
  refine fun _ _ hJ => hJ X2 ?_
  clear s
  intro I2 w5 s k4
  refine hX2 _ _ ?_
  replace e1 := e1.st k4
  replace e2 := e2.st k4
  replace rp1 := rp1.st k4
  replace eg2 := eg2.st k4
  replace kk := kk.trans k4
  replace kS1 := kS1.trans k4
  refine ⟨fun _ => ⟨_, s.pick [0, 1] 2 rfl, kS1⟩, RD.fold ?_⟩
  refine RD.segM hT ht1 (by kernel_rfl) [6] [] [] [.agg #[.int .i64 1, .int .i64 x2, .int .u64 p0.Epoch, .slice A4 n2 u4]] [] (by kernel_rfl) (fun _ _ => trivial) ⟨_, s.pick [0, 1] 2 rfl, kS1⟩ ?_
  have sa1 := s
  obtain ⟨hc3, e3⟩ := St.lend s (i := 0) rfl hn1 rp1
  have k5 := Kp.shut (I := I2) (w := w5) (p := .sl (.slice A4 n2 u4) 5 1 n2 cl2)
  replace s := s.shut 0 rfl
  obtain ⟨x3, hx3, hf⟩ := bindS hf
  have hc4 := c40 (F := (.blk b1 (.cells #[.int .u64 p0.Epoch, .int .i64 p0.Pages, .slice A1 p0.Maps.length u1, .slice A2 p0.User.length u2] 28 (0, 0))) :: F) (T_api_Frame.mk 1 x2 p0.Epoch x1.1) A4 u4 hc3 e3 (eg2.st k5) s hx3
  rw [← hn1] at hc4
  refine RD.op (i := 7) rfl (by kernel_rfl) (by kernel_rfl) (OK.call' en40 (by kernel_rfl) (hc4) ?_)
  intro X3 hX3
  refine fun _ _ hJ => hJ X3 ?_
  clear s
  intro I3 A5 n3 u5 cl3 w6 s k6 hn2 rp2
  refine hX3 _ _ ?_
  have s' := St.back sa1 (i := 0) rfl s k6
  replace k6 := Kp.back sa1 (i := 0) rfl k6
  replace s := s'; clear s'
  obtain ⟨I4, s, k6⟩ : ∃ I : Nat → Prop, St w1 M I ((.sl (.slice A4 n2 u4) 5 1 n2 cl2) :: (.sl (.slice A5 n3 u5) 91 1 n3 cl3) :: (.blk b1 (.cells #[.int .u64 p0.Epoch, .int .i64 p0.Pages, .slice A1 p0.Maps.length u1, .slice A2 p0.User.length u2] 28 (0, 0))) :: F) w6 ∧ Kp _ _ I _ := ⟨_, s, k6⟩
  replace rp2 := RepL.free (I' := I4) (w' := w6) free_int rp2
  replace e1 := e1.st k6
  replace e2 := e2.st k6
  replace eg2 := eg2.st k6
  replace rp1 := rp1.st k6
  replace kk := kk.trans k6
  replace kS1 := kS1.trans k6
  refine ⟨fun _ => ⟨_, s.pick [0, 2] 3 rfl, kS1⟩, RD.fold ?_⟩
  refine RD.segM hT ht1 (by kernel_rfl) [8, 9, 10, 11] [] [] [.slice A5 n3 u5, .int .i64 x3.2, .slice A5 n3 u5, .int .i64 x3.2] [] (by kernel_rfl) (fun _ _ => trivial) ⟨_, s.pick [0, 2] 3 rfl, kS1⟩ ?_
  refine RD.done (by kernel_rfl) ?_
  refine WPK.ret (?_)
  obtain rfl := someS hf
  refine Fin.of (rs := [.tmp 2, .tmp 3]) hT [] (.tuple #[.slice A5 n3 u5, .int .i64 x3.2]) [] rfl (by kernel_rfl) (trivial) ?_
  replace s := s.pick [1] 3 rfl
  exact fun X h => vc rfl (h I4 A5 n3 u5 cl3 _ s kk hn2 rp2)
theorem c27 {w1 w : World} {M I : Nat → Prop} {F : List It} (p0 : T_api_Head) (A1 : Option Addr) (u1 : Nat) (A2 : Option Addr) (u2 : Nat) (hc1 : (p0.Maps.length ≤ u1 ∧ u1 ≤ 9223372036854775807)) (e1 : Elems (Rp.int .i64) I w A1 p0.Maps) (hc2 : (p0.User.length ≤ u2 ∧ u2 ≤ 9223372036854775807)) (e2 : Elems (Rp.int .u8) I w A2 p0.User) (eg2 : Elems (Rp.int .u32) I w (some ⟨2, 0, none⟩) TAB2) (s : St w1 M I (F) w) {r : (List Int)} (hf : g27 p0 = some r) :
    Ret Tryd.prog 27 [.agg #[.int .u64 p0.Epoch, .int .i64 p0.Pages, .slice A1 p0.Maps.length u1, .slice A2 p0.User.length u2]] w fun v wz => ∀ X : Value → World → Prop, (∀ (I' : Nat → Prop) (A3 : Option Addr) (u3 : Nat) (w' : World), St w1 M I' (F) w' → Kp I w I' w' → (r.length ≤ u3 ∧ u3 ≤ 9223372036854775807) → Elems (Rp.int .u8) I' w' A3 r → X (.slice A3 r.length u3) w') → X v wz := by
  have kk : Kp I w I w := Kp.refl
  unfold g27 at hf
  refine Ret.of Tryd.func27 rfl ?_
  refine WPK.seq ?_
  refine WPK.region ?_
  refine RW.op (by kernel_rfl) (OK.new hT (f := fun b => .pointer (some ⟨b, 0, none⟩)) (cs := [.int .u64 p0.Epoch, .int .i64 p0.Pages, .slice A1 p0.Maps.length u1, .slice A2 p0.User.length u2]) (e := 28) (c := .tt) s (by kernel_rfl) trivial ?_)
  clear s
  rintro w2 b1 s k1 -
  replace e1 := e1.st k1
  replace e2 := e2.st k1
  replace eg2 := eg2.st k1
  replace kk := kk.trans k1
  refine RW.seg hT 1 [] [] [.slice none 0 0] [] (by kernel_rfl) (trivial) ?_
  refine RW.nil ?_
  refine WPK.seq ?_
  refine WPK.region ?_
  refine RW.seg hT 1 [.agg #[.int .u64 p0.Epoch, .int .i64 p0.Pages, .slice A1 p0.Maps.length u1, .slice A2 p0.User.length u2]] [] [.agg #[.int .u64 p0.Epoch, .int .i64 p0.Pages, .slice A1 p0.Maps.length u1, .slice A2 p0.User.length u2]] [.cells ⟨b1, 0, none⟩ [.int .u64 p0.Epoch, .int .i64 p0.Pages, .slice A1 p0.Maps.length u1, .slice A2 p0.User.length u2] 4] (by kernel_rfl) (s.cells (i := 0) rfl rfl rfl) ?_
  obtain ⟨x1, hx1, hf⟩ := bindS hf
  refine RW.op (by kernel_rfl) (OK.call' en19 (by kernel_rfl) (c19 (F := (.blk b1 (.cells #[.int .u64 p0.Epoch, .int .i64 p0.Pages, .slice A1 p0.Maps.length u1, .slice A2 p0.User.length u2] 28 (0, 0))) :: F) p0 A1 u1 A2 u2 hc1 e1 hc2 e2 eg2 s hx1) ?_)
  intro X1 hX1
  refine fun _ _ hJ => hJ X1 ?_
  clear s
  intro I1 A4 n1 u4 cl1 w3 s k2 hn1 rp1
  refine hX1 _ _ ?_
  replace e1 := e1.st k2
  replace e2 := e2.st k2
  replace eg2 := eg2.st k2
  replace kk := kk.trans k2
  rw [hn1] at s
  try rw [hn1]
  obtain ⟨I2, s', k3, hc3, e3⟩ := St.give s (i := 0) rfl rfl rp1
  replace s := s'; clear s'
  replace e1 := e1.st k3
  replace e2 := e2.st k3
  replace eg2 := eg2.st k3
  replace kk := kk.trans k3
  refine RW.seg hT 5 [] [] [.tuple #[.slice A4 x1.1.length u4, .int .i64 x1.2], .slice A4 x1.1.length u4, .int .i64 x1.2, .slice A4 x1.1.length u4, .int .i64 x1.2] [] (by kernel_rfl) (trivial) ?_
  refine RW.nil ?_
  refine WPK.seq ?_
  refine WPK.region ?_
  refine RW.seg hT 2 [] [] [.slice A4 x1.1.length u4, .slice A4 x1.1.length u4] [] (by kernel_rfl) (trivial) ?_
  refine RW.nil ?_
  refine WPK.ret (?_)
  obtain rfl := someS hf
  refine Fin.of (rs := [.tmp 2]) hT [] (.slice A4 x1.1.length u4) [] rfl (by kernel_rfl) (trivial) ?_
  replace s := s.pick [] 1 rfl
  exact fun X h => vc rfl (h I2 A4 u4 _ s kk hc3 e3)
end Go.Proofs.YtclnddebhjjpfaaDoor
