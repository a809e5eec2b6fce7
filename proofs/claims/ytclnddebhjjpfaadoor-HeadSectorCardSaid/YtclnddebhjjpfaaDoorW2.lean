/- PRINTED BY sy.py: each call computes what the plain function of its number tells. -/
import Derived.Test.YtclnddebhjjpfaaDoorW1
namespace Go.Proofs.YtclnddebhjjpfaaDoor
open Go Go.SX Go.RowKit
set_option maxRecDepth 100000
set_option linter.unusedVariables false
attribute [local irreducible] WPK RW RD Ret SX.Fin SX.Any opK RoundBeg RoundEnd RangeEnd Rounds
theorem c32 {w1 w : World} {M I : Nat → Prop} {F : List It} (p0 : (List Int)) (A1 : Option Addr) (u1 : Nat) (hc1 : (p0.length ≤ u1 ∧ u1 ≤ 9223372036854775807)) (e1 : Elems (Rp.int .u8) I w A1 p0) (s : St w1 M I (F) w) {r : T_pack_Reader} (hf : g32 p0 = some r) :
    Ret Tryd.prog 32 [.slice A1 p0.length u1] w fun v wz => ∀ X : Value → World → Prop, (∀ (I' : Nat → Prop) (b1 : Nat) (A2 : Option Addr) (n1 : Nat) (u2 : Nat) (cl1 : List Value) (w' : World), St w1 M I' ((.blk b1 (.cells #[.slice A2 n1 u2, .int .i64 r.err, .bool r.made] 85 (0, 0))) :: (.sl (.slice A2 n1 u2) 5 1 n1 cl1) :: F) w' → Kp I w I' w' → n1 = r.b.length → RepL (Rp.int .u8) I' w' cl1 r.b → X (.pointer (some ⟨b1, 0, none⟩)) w') → X v wz := by
  have kk : Kp I w I w := Kp.refl
  unfold g32 at hf
  refine Ret.of Tryd.func32 rfl ?_
  refine WPK.seq ?_
  refine WPK.region ?_
  refine RW.seg hT 1 [] [] [.pointer none] [] (by kernel_rfl) (trivial) ?_
  refine RW.nil ?_
  refine WPK.seq ?_
  refine WPK.region ?_
  refine RW.seg hT 1 [] [] [.slice A1 p0.length u1] [] (by kernel_rfl) (trivial) ?_
  refine RW.op (by kernel_rfl) (OK.inl (args := [.slice A1 p0.length u1, .int .i64 0]) en54 (by kernel_rfl) ?_)
  intro R1 hR1
  refine Ret.of Tryd.func54 rfl ?_
  refine WPK.seq ?_
  refine WPK.region ?_
  refine RW.seg hT 2 [] [] [.slice none 0 0, .slice none 0 0] [] (by kernel_rfl) (trivial) ?_
  refine RW.nil ?_
  refine WPK.seq ?_
  refine WPK.region ?_
  refine RW.seg hT 4 [] [] [.slice A1 p0.length u1, .int .i64 (p0.length : Int), .int .i64 0, .int .i64 (IntKind.i64.wrap ((p0.length : Int) + 0))] [] (by kernel_rfl) (trivial) ?_
  obtain ⟨x1, hx1, hf⟩ := bindS hf
  refine RW.op (by kernel_rfl) (OK.make hT (r := (Rp.int .u8)) (n := IntKind.i64.wrap ((p0.length : Int) + 0)) (z := .int .u8 0) (x := 0) (e := 5) (bytes := 1) s (by kernel_rfl) hx1 (fun _ _ => rfl) ?_)
  clear s
  rintro w2 b2 cl2 s k1 rp1
  replace e1 := e1.st k1
  replace kk := kk.trans k1
  refine RW.seg hT 1 [] [] [.slice (some ⟨b2, 0, none⟩) x1.length x1.length] [] (by kernel_rfl) (trivial) ?_
  refine RW.nil ?_
  refine WPK.seq ?_
  refine WPK.region ?_
  refine RW.seg hT 2 [] [] [.slice (some ⟨b2, 0, none⟩) x1.length x1.length, .slice A1 p0.length u1] [] (by kernel_rfl) (trivial) ?_
  have pt1 : Pt 0 x1.length x1.length 1 0 (x1.length : Int) x1.length := by have h1 := Pt.whole (size := 1) (row_hc (s.at (i := 0) rfl)).1; exact h1
  obtain ⟨nw1, hs1, rq1⟩ := Elems.src e1
  obtain ⟨x2, hx2, hf⟩ := bindS hf
  replace hx2 := someS hx2
  refine RW.op (by kernel_rfl) (OK.copy hT (r := (Rp.int .u8)) (xs := x1) (ys := p0) (i := 0) (c := x1.length) (e := 5) (size := 1) (t := 24) (t' := 24) (et := 5) (l := 0) (h := (x1.length : Int)) s (by kernel_rfl) rfl rfl rfl rfl rfl flat_int rfl rfl rfl rp1 pt1 rfl hs1 rq1 ?_)
  clear s
  rintro w3 cl3 s k2 rp2 hn1
  replace e1 := e1.st k2
  replace rp1 := rp1.st k2
  replace kk := kk.trans k2
  rw [hx2] at rp2 hn1
  refine RW.nil ?_
  refine WPK.seq ?_
  have e1S1 := e1
  have rp2S1 := rp2
  have kS1 : Kp I w3 I w3 := Kp.refl
  refine WPK.drawM (fun w' => ∃ I' : Nat → Prop, St w1 M I' ((.sl (.slice (some ⟨b2, 0, none⟩) x1.length x1.length) 5 1 x1.length cl3) :: F) w' ∧ Kp I w3 I' w') 7 [0, 0, 0, 4, 14, 1, 63] (by kernel_rfl) (by kernel_rfl) ?_
  intro ht1 w4 hd1
  have k3 := Kp.dr s hd1
  replace s := s.dr hd1
  replace e1 := e1.st k3
  replace rp2 := rp2.st k3
  replace kk := kk.trans k3
  replace kS1 := kS1.trans k3
  obtain ⟨h2, hf⟩ := iteS hf
  replace h2 : (0 : Int) ≤ (p0.length : Int) ∧ (p0.length : Int) ≤ (x2.length : Int) ∧ (x2.length : Int) ≤ ((x1.length : Nat) : Int) - 0 := by have hnn := hn1; omega
  obtain ⟨o1, n2, u3, q1, q2, q3, q4, q5, pt2⟩ := partS (b := b2) (c := x1.length) (Pt.whole (size := 1) (row_hc (s.at (i := 0) rfl)).1) (Nat.le_refl _) h2
  rw [Int.zero_add, Int.zero_add] at pt2
  replace q2 : x1.length - (p0.length : Int).toNat = n2 := by rw [← q2]; have hnn := hn1; omega
  refine RD.segM hT ht1 (by kernel_rfl) [0, 1, 2, 3, 4, 5, 6] [] [(19, .slice (some ⟨b2, o1, none⟩) n2 u3)] [.slice (some ⟨b2, 0, none⟩) x1.length x1.length, .slice (some ⟨b2, 0, none⟩) x1.length x1.length, .slice A1 p0.length u1, .int .i64 (p0.length : Int), .slice (some ⟨b2, o1, none⟩) n2 u3, .slice (some ⟨b2, 0, none⟩) x1.length x1.length, .slice (some ⟨b2, o1, none⟩) n2 u3] [.both (.cut (p0.length : Int) (x1.length : Nat) x1.length x1.length) (.veq (.slice (cutA (some ⟨b2, 0, none⟩) (p0.length : Int).toNat x1.length 1) (x1.length - (p0.length : Int).toNat) (x1.length - (p0.length : Int).toNat)) (.slice (some ⟨b2, o1, none⟩) n2 u3))] (by kernel_rfl) (by rintro w' ⟨I', s, k⟩; have e1 := e1S1.st k; have rp2 := rp2S1.st k; exact ⟨⟨(q5).1, by have h3 := (q5).2.1; have h4 := (q5).2.2.1; omega, by have := (q5).2.2.2; omega, by omega⟩, sl_eq q1 q2 q3⟩) ⟨_, s.pick [0] 1 rfl, kS1⟩ ?_
  refine RD.done (by kernel_rfl) ?_
  refine WPK.ret (?_)
  refine Fin.of (rs := [.tmp 4, .tmp 5]) hT [] (.tuple #[.slice (some ⟨b2, 0, none⟩) x1.length x1.length, .slice (some ⟨b2, o1, none⟩) n2 u3]) [] rfl (by kernel_rfl) (trivial) ?_
  refine hR1 _ _ ?_
  refine RW.seg hT 5 [] [] [.tuple #[.slice (some ⟨b2, 0, none⟩) x1.length x1.length, .slice (some ⟨b2, o1, none⟩) n2 u3], .slice (some ⟨b2, 0, none⟩) x1.length x1.length, .slice (some ⟨b2, o1, none⟩) n2 u3, .slice (some ⟨b2, 0, none⟩) x1.length x1.length, .slice (some ⟨b2, o1, none⟩) n2 u3] [] (by kernel_rfl) (trivial) ?_
  refine RW.nil ?_
  refine WPK.seq ?_
  refine WPK.region ?_
  refine RW.seg hT 2 [] [] [.slice (some ⟨b2, 0, none⟩) x1.length x1.length, .agg #[.slice (some ⟨b2, 0, none⟩) x1.length x1.length, .int .i64 0, .bool true]] [] (by kernel_rfl) (trivial) ?_
  refine RW.op (by kernel_rfl) (OK.new hT (f := fun b => .pointer (some ⟨b, 0, none⟩)) (cs := [.slice (some ⟨b2, 0, none⟩) x1.length x1.length, .int .i64 0, .bool true]) (e := 85) (c := .tt) s (by kernel_rfl) trivial ?_)
  clear s
  rintro w5 b3 s k4 -
  replace rp2 := rp2.st k4
  replace kk := kk.trans k4
  refine RW.seg hT 1 [] [] [.pointer (some ⟨b3, 0, none⟩)] [] (by kernel_rfl) (trivial) ?_
  refine RW.nil ?_
  refine WPK.ret (?_)
  obtain rfl := someS hf
  refine Fin.of (rs := [.tmp 2]) hT [] (.pointer (some ⟨b3, 0, none⟩)) [] rfl (by kernel_rfl) (trivial) ?_
  exact fun X h => vc rfl (h I b3 (some ⟨b2, 0, none⟩) x1.length x1.length cl3 _ s kk hn1 rp2)
theorem c56 {w1 w : World} {M I : Nat → Prop} {F : List It} (p0 : T_pack_Reader) (b1 : Nat) (A1 : Option Addr) (n1 : Nat) (u1 : Nat) (cl1 : List Value) (hn1 : n1 = p0.b.length) (rp1 : RepL (Rp.int .u8) I w cl1 p0.b) (s : St w1 M I ((.blk b1 (.cells #[.slice A1 n1 u1, .int .i64 p0.err, .bool p0.made] 85 (0, 0))) :: (.sl (.slice A1 n1 u1) 5 1 n1 cl1) :: F) w) {r : Bool} (hf : g56 p0 = some r) :
    Ret Tryd.prog 56 [.pointer (some ⟨b1, 0, none⟩)] w fun v wz => ∀ X : Value → World → Prop, (∀ (I' : Nat → Prop) (w' : World), St w1 M I' ((.blk b1 (.cells #[.slice A1 n1 u1, .int .i64 p0.err, .bool p0.made] 85 (0, 0))) :: (.sl (.slice A1 n1 u1) 5 1 n1 cl1) :: F) w' → Kp I w I' w' → X (.bool r) w') → X v wz := by
  have kk : Kp I w I w := Kp.refl
  unfold g56 at hf
  refine Ret.of Tryd.func56 rfl ?_
  refine WPK.seq ?_
  refine WPK.region ?_
  refine RW.seg hT 1 [] [] [.bool false] [] (by kernel_rfl) (trivial) ?_
  refine RW.nil ?_
  refine WPK.seq ?_
  refine WPK.region ?_
  refine RW.seg hT 9 [.bool p0.made] [(10, .bool (decide (¬ (p0.made = true))))] [.pointer (some ⟨b1, 0, none⟩), .bool false, .bool false, .pointer (some ⟨b1, 0, none⟩), .pointer (some ⟨b1, 0, none⟩), .pointer (some ⟨b1, 2, none⟩), .bool p0.made, .bool (decide (¬ (p0.made = true))), .bool (decide (¬ (p0.made = true)))] [.cell ⟨b1, 2, none⟩ (.bool p0.made), .veq (.bool (!p0.made)) (.bool (decide (¬ (p0.made = true))))] (by kernel_rfl) (⟨s.cell (i := 0) (off := 2) rfl rfl, not_b⟩) ?_
  by_cases h1 : ¬ (p0.made = true)
  have hf := iteT h1 hf
  refine RW.seg hT 8 [] [(12, .bool true)] [.bool true, undef, undef, undef, undef, undef, .bool true, .bool true] [.veq (.bool (decide (¬ (p0.made = true)))) (.bool true)] (by kernel_rfl) (bo_t h1) ?_
  refine RW.nil ?_
  refine WPK.ret (?_)
  obtain rfl := someS hf
  refine Fin.of (rs := [.tmp 2]) hT [] (.bool true) [] rfl (by kernel_rfl) (trivial) ?_
  exact fun X h => vc rfl (h I _ s kk)
  have hf := iteF h1 hf
  refine RW.seg hT 8 [.int .i64 p0.err] [(12, .bool false), (17, .bool (decide (p0.err ≠ 0)))] [.bool false, .pointer (some ⟨b1, 0, none⟩), .pointer (some ⟨b1, 0, none⟩), .pointer (some ⟨b1, 1, none⟩), .int .i64 p0.err, .bool (decide (p0.err ≠ 0)), .bool (decide (p0.err ≠ 0)), .bool (decide (p0.err ≠ 0))] [.veq (.bool (decide (¬ (p0.made = true)))) (.bool false), .cell ⟨b1, 1, none⟩ (.int .i64 p0.err), .veq (.bool (p0.err != 0)) (.bool (decide (p0.err ≠ 0)))] (by kernel_rfl) (⟨bo_f h1, s.cell (i := 0) (off := 1) rfl rfl, ne_v⟩) ?_
  refine RW.nil ?_
  refine WPK.ret (?_)
  obtain rfl := someS hf
  refine Fin.of (rs := [.tmp 2]) hT [] (.bool (decide (p0.err ≠ 0))) [] rfl (by kernel_rfl) (trivial) ?_
  exact fun X h => vc rfl (h I _ s kk)
theorem c57 {w1 w : World} {M I : Nat → Prop} {F : List It} (p0 : T_pack_Reader) (p1 : Int) (b1 : Nat) (A1 : Option Addr) (n1 : Nat) (u1 : Nat) (cl1 : List Value) (hn1 : n1 = p0.b.length) (rp1 : RepL (Rp.int .u8) I w cl1 p0.b) (s : St w1 M I ((.blk b1 (.cells #[.slice A1 n1 u1, .int .i64 p0.err, .bool p0.made] 85 (0, 0))) :: (.sl (.slice A1 n1 u1) 5 1 n1 cl1) :: F) w) {r : T_pack_Reader} (hf : g57 p0 p1 = some r) :
    Ret Tryd.prog 57 [.pointer (some ⟨b1, 0, none⟩), .int .i64 p1] w fun v wz => ∀ X : Value → World → Prop, (∀ (I' : Nat → Prop) (A2 : Option Addr) (n2 : Nat) (u2 : Nat) (cl2 : List Value) (w' : World), St w1 M I' ((.blk b1 (.cells #[.slice A2 n2 u2, .int .i64 r.err, .bool r.made] 85 (0, 0))) :: (.sl (.slice A2 n2 u2) 5 1 n2 cl2) :: F) w' → Kp I w I' w' → n2 = r.b.length → RepL (Rp.int .u8) I' w' cl2 r.b → X (.tuple #[]) w') → X v wz := by
  have kk : Kp I w I w := Kp.refl
  unfold g57 at hf
  refine Ret.of Tryd.func57 rfl ?_
  refine WPK.region ?_
  refine RW.seg hT 4 [] [] [.pointer (some ⟨b1, 0, none⟩), .int .i64 p1, .pointer (some ⟨b1, 0, none⟩), .pointer (some ⟨b1, 1, none⟩)] [] (by kernel_rfl) (trivial) ?_
  refine RW.op (by kernel_rfl) (OK.store hT (i := 0) (b := b1) (off := 1) (n := 1) (vs := [.int .i64 p1]) (cs := [.slice A1 n1 u1, .int .i64 p0.err, .bool p0.made]) (e := 85) s (by kernel_rfl) rfl rfl (flat_ok rfl) (Nat.le_of_ble_eq_true rfl) ?_)
  clear s
  rintro w2 s k1 -
  replace rp1 := rp1.st k1
  replace kk := kk.trans k1
  refine RW.nil ?_
  obtain rfl := someS hf
  refine Fin.of (rs := []) hT [] (.tuple #[]) [] rfl (by kernel_rfl) (trivial) ?_
  exact fun X h => vc rfl (h I A1 n1 u1 cl1 _ s kk hn1 rp1)
theorem c58 {w1 w : World} {M I : Nat → Prop} {F : List It} (p0 : T_pack_Reader) (p1 : Int) (b1 : Nat) (A1 : Option Addr) (n1 : Nat) (u1 : Nat) (cl1 : List Value) (hn1 : n1 = p0.b.length) (rp1 : RepL (Rp.int .u8) I w cl1 p0.b) (s : St w1 M I ((.blk b1 (.cells #[.slice A1 n1 u1, .int .i64 p0.err, .bool p0.made] 85 (0, 0))) :: (.sl (.slice A1 n1 u1) 5 1 n1 cl1) :: F) w) {r : ((List Int) × T_pack_Reader)} (hf : g58 p0 p1 = some r) :
    Ret Tryd.prog 58 [.pointer (some ⟨b1, 0, none⟩), .int .i64 p1] w fun v wz => ∀ X : Value → World → Prop, (∀ (I' : Nat → Prop) (A2 : Option Addr) (u2 : Nat) (A3 : Option Addr) (u3 : Nat) (w' : World), St w1 M I' ((.blk b1 (.cells #[.slice A3 r.2.b.length u3, .int .i64 r.2.err, .bool r.2.made] 85 (0, 0))) :: F) w' → Kp I w I' w' → (r.1.length ≤ u2 ∧ u2 ≤ 9223372036854775807) → Elems (Rp.int .u8) I' w' A2 r.1 → (r.2.b.length ≤ u3 ∧ u3 ≤ 9223372036854775807) → Elems (Rp.int .u8) I' w' A3 r.2.b → X (.slice A2 r.1.length u2) w') → X v wz := by
  have kk : Kp I w I w := Kp.refl
  unfold g58 at hf
  refine Ret.of Tryd.func58 rfl ?_
  refine WPK.seq ?_
  refine WPK.region ?_
  refine RW.seg hT 1 [] [] [.slice none 0 0] [] (by kernel_rfl) (trivial) ?_
  refine RW.nil ?_
  refine WPK.seq ?_
  refine WPK.seq ?_
  refine WPK.region ?_
  refine RW.seg hT 1 [] [] [.pointer (some ⟨b1, 0, none⟩)] [] (by kernel_rfl) (trivial) ?_
  obtain ⟨x1, hx1, hf⟩ := bindS hf
  refine RW.op (by kernel_rfl) (OK.call' en56 (by kernel_rfl) (c56 (F := F) p0 b1 A1 n1 u1 cl1 hn1 rp1 s hx1) ?_)
  intro X1 hX1
  refine fun _ _ hJ => hJ X1 ?_
  clear s
  intro I1 w2 s k1
  refine hX1 _ _ ?_
  replace rp1 := rp1.st k1
  replace kk := kk.trans k1
  refine RW.nil ?_
  by_cases h1 : x1 = true
  have hf := iteT h1 hf
  refine WPK.condT (Eq.trans (b := .bool x1) (by kernel_rfl) (b_t h1)) ?_
  refine WPK.seq ?_
  refine WPK.region ?_
  refine RW.seg hT 1 [] [] [.slice none 0 0] [] (by kernel_rfl) (trivial) ?_
  refine RW.nil ?_
  refine WPK.ret (?_)
  obtain rfl := someS hf
  refine Fin.of (rs := [.tmp 4]) hT [] (.slice none 0 0) [] rfl (by kernel_rfl) (trivial) ?_
  rw [hn1] at s
  try rw [hn1]
  obtain ⟨I2, s', k2, hc1, e1⟩ := St.give s (i := 1) rfl rfl rp1
  replace s := s'; clear s'
  replace kk := kk.trans k2
  exact fun X h => vc rfl (h I2 none 0 A1 u1 _ s kk nil_hc Elems.nil hc1 e1)
  have hf := iteF h1 hf
  refine WPK.condF (Eq.trans (b := .bool x1) (by kernel_rfl) (b_f h1)) ?_
  refine WPK.skip ?_
  refine WPK.seq ?_
  refine WPK.seq ?_
  refine WPK.region ?_
  refine RW.seg hT 7 [.slice A1 n1 u1] [(13, .int .i64 (p0.b.length : Int))] [.int .i64 p1, .pointer (some ⟨b1, 0, none⟩), .pointer (some ⟨b1, 0, none⟩), .pointer (some ⟨b1, 0, none⟩), .slice A1 n1 u1, .int .i64 (p0.b.length : Int), .bool (decide (p1 > (p0.b.length : Int)))] [.cell ⟨b1, 0, none⟩ (.slice A1 n1 u1), .veq (.int .i64 (n1 : Nat)) (.int .i64 (p0.b.length : Int))] (by kernel_rfl) (⟨s.cell (i := 0) (off := 0) rfl rfl, len_v hn1⟩) ?_
  refine RW.nil ?_
  by_cases h2 : p1 > (p0.b.length : Int)
  have hf := iteT h2 hf
  refine WPK.condT (Eq.trans (b := .bool (decide (p1 > (p0.b.length : Int)))) (by kernel_rfl) (bo_t h2)) ?_
  refine WPK.seq ?_
  refine WPK.region ?_
  refine RW.seg hT 1 [] [] [.pointer (some ⟨b1, 0, none⟩)] [] (by kernel_rfl) (trivial) ?_
  obtain ⟨x2, hx2, hf⟩ := bindS hf
  refine RW.op (by kernel_rfl) (OK.call' en57 (by kernel_rfl) (c57 (F := F) p0 10 b1 A1 n1 u1 cl1 hn1 rp1 s hx2) ?_)
  intro X2 hX2
  refine fun _ _ hJ => hJ X2 ?_
  clear s
  intro I3 A4 n2 u4 cl2 w3 s k3 hn2 rp2
  refine hX2 _ _ ?_
  replace rp1 := rp1.st k3
  replace kk := kk.trans k3
  refine RW.nil ?_
  refine WPK.seq ?_
  refine WPK.region ?_
  refine RW.seg hT 1 [] [] [.slice none 0 0] [] (by kernel_rfl) (trivial) ?_
  refine RW.nil ?_
  refine WPK.ret (?_)
  obtain rfl := someS hf
  refine Fin.of (rs := [.tmp 4]) hT [] (.slice none 0 0) [] rfl (by kernel_rfl) (trivial) ?_
  rw [hn2] at s
  try rw [hn2]
  obtain ⟨I4, s', k4, hc2, e2⟩ := St.give s (i := 1) rfl rfl rp2
  replace s := s'; clear s'
  replace kk := kk.trans k4
  exact fun X h => vc rfl (h I4 none 0 A4 u4 _ s kk nil_hc Elems.nil hc2 e2)
  have hf := iteF h2 hf
  refine WPK.condF (Eq.trans (b := .bool (decide (p1 > (p0.b.length : Int)))) (by kernel_rfl) (bo_f h2)) ?_
  refine WPK.skip ?_
  refine WPK.seq ?_
  refine WPK.region ?_
  refine RW.seg hT 6 [.slice A1 n1 u1] [] [.pointer (some ⟨b1, 0, none⟩), .pointer (some ⟨b1, 0, none⟩), .pointer (some ⟨b1, 0, none⟩), .slice A1 n1 u1, .int .i64 p1, .int .i64 p1] [.cell ⟨b1, 0, none⟩ (.slice A1 n1 u1)] (by kernel_rfl) (s.cell (i := 0) (off := 0) rfl rfl) ?_
  rw [hn1] at s
  try rw [hn1]
  obtain ⟨I5, s', k5, hc3, e3⟩ := St.give s (i := 1) rfl rfl rp1
  replace s := s'; clear s'
  replace kk := kk.trans k5
  obtain ⟨h3, hf⟩ := iteS hf
  obtain ⟨y1, hy1, hf⟩ := bindS hf
  obtain ⟨u5, h4, hc4, e4, q1, q2⟩ := slS0m hc3 e3 hy1 h3
  refine RW.seg hT 2 [] [(23, .slice A1 y1.length u5)] [.slice A1 y1.length u5, .slice A1 y1.length u5] [.both (.cut 0 p1 p1 u1) (.veq (.slice A1 p1.toNat p1.toNat) (.slice A1 y1.length u5))] (by kernel_rfl) (⟨⟨Int.le_refl _, h4⟩, sl_eq rfl q1 q2⟩) ?_
  refine RW.nil ?_
  refine WPK.seq ?_
  refine WPK.region ?_
  obtain ⟨y2, hy2, hf⟩ := bindS hf
  obtain ⟨A5, u6, h5, hc5, e5, q3, q4, q5⟩ := slS (size := 1) rfl hc3 e3 hy2
  refine RW.seg hT 9 [.slice A1 p0.b.length u1] [(30, .slice A5 y2.length u6)] [.pointer (some ⟨b1, 0, none⟩), .pointer (some ⟨b1, 0, none⟩), .pointer (some ⟨b1, 0, none⟩), .pointer (some ⟨b1, 0, none⟩), .slice A1 p0.b.length u1, .int .i64 p1, .slice A5 y2.length u6, .pointer (some ⟨b1, 0, none⟩), .pointer (some ⟨b1, 0, none⟩)] [.cell ⟨b1, 0, none⟩ (.slice A1 p0.b.length u1), .both (.cut p1 (p0.b.length : Int) u1 u1) (.veq (.slice (cutA A1 p1.toNat u1 1) (p0.b.length - p1.toNat) (u1 - p1.toNat)) (.slice A5 y2.length u6))] (by kernel_rfl) (⟨s.cell (i := 0) (off := 0) rfl rfl, ⟨⟨by omega, by omega, by omega, by omega⟩, sl_eq q3 q4 q5⟩⟩) ?_
  refine RW.op (by kernel_rfl) (OK.store hT (i := 0) (b := b1) (off := 0) (n := 1) (vs := [.slice A5 y2.length u6]) (cs := [.slice A1 p0.b.length u1, .int .i64 p0.err, .bool p0.made]) (e := 85) s (by kernel_rfl) rfl rfl (flat_ok rfl) (Nat.le_of_ble_eq_true rfl) ?_)
  clear s
  rintro w4 s k6 -
  replace e4 := e4.st k6
  replace e3 := e3.st k6
  replace e5 := e5.st k6
  replace kk := kk.trans k6
  refine RW.nil ?_
  refine WPK.seq ?_
  refine WPK.region ?_
  refine RW.seg hT 2 [] [] [.slice A1 y1.length u5, .slice A1 y1.length u5] [] (by kernel_rfl) (trivial) ?_
  refine RW.nil ?_
  refine WPK.ret (?_)
  obtain rfl := someS hf
  refine Fin.of (rs := [.tmp 4]) hT [] (.slice A1 y1.length u5) [] rfl (by kernel_rfl) (trivial) ?_
  exact fun X h => vc rfl (h I5 A1 u5 A5 u6 _ s kk hc4 e4 hc5 e5)
theorem c55 {w1 w : World} {M I : Nat → Prop} {F : List It} (p0 : T_pack_Reader) (p1 : Int) (b1 : Nat) (A1 : Option Addr) (n1 : Nat) (u1 : Nat) (cl1 : List Value) (hn1 : n1 = p0.b.length) (rp1 : RepL (Rp.int .u8) I w cl1 p0.b) (s : St w1 M I ((.blk b1 (.cells #[.slice A1 n1 u1, .int .i64 p0.err, .bool p0.made] 85 (0, 0))) :: (.sl (.slice A1 n1 u1) 5 1 n1 cl1) :: F) w) {r : (Int × T_pack_Reader)} (hf : g55 p0 p1 = some r) :
    Ret Tryd.prog 55 [.pointer (some ⟨b1, 0, none⟩), .int .i64 p1] w fun v wz => ∀ X : Value → World → Prop, (∀ (I' : Nat → Prop) (A2 : Option Addr) (u2 : Nat) (w' : World), St w1 M I' ((.blk b1 (.cells #[.slice A2 r.2.b.length u2, .int .i64 r.2.err, .bool r.2.made] 85 (0, 0))) :: F) w' → Kp I w I' w' → (r.2.b.length ≤ u2 ∧ u2 ≤ 9223372036854775807) → Elems (Rp.int .u8) I' w' A2 r.2.b → X (.int .u64 r.1) w') → X v wz := by
  have kk : Kp I w I w := Kp.refl
  unfold g55 at hf
  refine Ret.of Tryd.func55 rfl ?_
  refine WPK.seq ?_
  refine WPK.region ?_
  refine RW.seg hT 1 [] [] [.int .u64 0] [] (by kernel_rfl) (trivial) ?_
  refine RW.nil ?_
  refine WPK.seq ?_
  refine WPK.region ?_
  refine RW.seg hT 1 [] [] [.int .u64 0] [] (by kernel_rfl) (trivial) ?_
  refine RW.nil ?_
  refine WPK.seq ?_
  refine WPK.seq ?_
  refine WPK.region ?_
  refine RW.seg hT 2 [] [] [.pointer (some ⟨b1, 0, none⟩), .int .i64 p1] [] (by kernel_rfl) (trivial) ?_
  obtain ⟨x1, hx1, hf⟩ := bindS hf
  refine RW.op (by kernel_rfl) (OK.call' en58 (by kernel_rfl) (c58 (F := F) p0 p1 b1 A1 n1 u1 cl1 hn1 rp1 s hx1) ?_)
  intro X1 hX1
  refine fun _ _ hJ => hJ X1 ?_
  clear s
  intro I1 A3 u3 A4 u4 w2 s k1 hc1 e1 hc2 e2
  refine hX1 _ _ ?_
  replace rp1 := rp1.st k1
  replace kk := kk.trans k1
  refine RW.seg hT 2 [] [] [.int .i64 (x1.1.length : Int), .int .i64 0] [] (by kernel_rfl) (trivial) ?_
  refine RW.nil ?_
  refine WPK.block ?_
  refine WPK.loop' (J := fun n2 D1 ds wz => ∀ X : Kont, (∀ (x2 : Int) (x3 : Int), g55_l1 x1 n2 x2 x3 = some r → X [(D1.getD 0 undef), (D1.getD 1 undef), (D1.getD 2 undef), (D1.getD 3 undef), .int .u64 0, .int .u64 x2, (D1.getD 6 undef), (D1.getD 7 undef), (D1.getD 8 undef), (D1.getD 9 undef), .slice A3 x1.1.length u3, .int .i64 (x1.1.length : Int), .int .i64 x3, (D1.getD 13 undef), (D1.getD 14 undef), (D1.getD 15 undef), (D1.getD 16 undef), (D1.getD 17 undef), (D1.getD 18 undef), (D1.getD 19 undef), (D1.getD 20 undef), (D1.getD 21 undef), undef] [] w2) → X D1 ds wz) FUEL (fun X h => kc (by kernel_rfl) rfl (h 0 0 hf)) (fun _ _ _ hJ => hJ (fun _ _ _ => False) (by intro x2 x3 hf; exact noneS hf)) ?_
  intro X2 hX2
  refine fun n2 D1 _ _ hJ => hJ (X2 n2) ?_
  intro x2 x3 hf
  refine hX2 _ _ _ _ ?_
  replace hf : g55_l1B x1 (g55_l1 x1 n2) x2 x3 = some r := hf
  generalize hrec1 : g55_l1 x1 n2 = rec1 at hf
  unfold g55_l1B at hf
  refine WPK.seq ?_
  refine WPK.region ?_
  refine RW.seg hT 1 [] [] [.bool (decide (x3 < (x1.1.length : Int)))] [] (by kernel_rfl) (trivial) ?_
  refine RW.nil ?_
  refine WPK.seq ?_
  by_cases h1 : x3 < (x1.1.length : Int)
  have hf := iteT h1 hf
  refine WPK.condT (Eq.trans (b := .bool (decide (x3 < (x1.1.length : Int)))) (by kernel_rfl) (bo_t h1)) ?_
  refine WPK.skip ?_
  refine WPK.seq ?_
  refine WPK.block ?_
  refine WPK.seq ?_
  refine WPK.region ?_
  obtain ⟨x4, hx2, hf⟩ := bindS hf
  obtain ⟨h2, hx2⟩ := getS hx2
  obtain ⟨b2, o1, rfl⟩ := Elems.opn e1 hx2
  obtain ⟨cs1, hr1, ha1⟩ := Elems.get e1 hx2
  obtain rfl : cs1 = [.int .u8 x4] := hr1
  refine RW.seg hT 3 [.int .u8 x4] [] [.pointer (some ⟨b2, o1 + x3.toNat * 1, none⟩), .int .u8 x4, .int .u8 x4] [.idx x3 x1.1.length, .cell ⟨b2, o1 + x3.toNat * 1, none⟩ (.int .u8 x4)] (by kernel_rfl) (⟨h2, ha1 0 _ rfl⟩) ?_
  refine RW.nil ?_
  refine WPK.region ?_
  refine RW.seg hT 6 [undef] [] [.int .u64 x2, .int .u64 (shlI .u64 x2 8), .int .u8 x4, .int .u64 (IntKind.u64.wrap x4), .int .u64 (orI .u64 (shlI .u64 x2 8) (IntKind.u64.wrap x4)), .int .u64 (orI .u64 (shlI .u64 x2 8) (IntKind.u64.wrap x4))] [.nn 8] (by kernel_rfl) ((show (0 : Int) ≤ 8 by decide)) ?_
  refine RW.nil ?_
  refine WPK.region ?_
  refine RW.seg hT 2 [] [] [.int .i64 (IntKind.i64.wrap (x3 + 1)), .int .i64 (IntKind.i64.wrap (x3 + 1))] [] (by kernel_rfl) (trivial) ?_
  refine RW.nil ?_
  subst hrec1
  exact ⟨n2, Nat.le_refl _, fun X h => kc (by kernel_rfl) rfl (h (orI .u64 (shlI .u64 x2 8) (IntKind.u64.wrap x4)) (IntKind.i64.wrap (x3 + 1)) hf)⟩
  have hf := iteF h1 hf
  refine WPK.condF (Eq.trans (b := .bool (decide (x3 < (x1.1.length : Int)))) (by kernel_rfl) (bo_f h1)) ?_
  refine WPK.exit (blockQ.same ?_)
  refine WPK.seq ?_
  refine WPK.region ?_
  refine RW.seg hT 2 [] [] [.int .u64 x2, .int .u64 x2] [] (by kernel_rfl) (trivial) ?_
  refine RW.nil ?_
  refine WPK.ret (?_)
  obtain rfl := someS hf
  refine Fin.of (rs := [.tmp 4]) hT [] (.int .u64 x2) [] rfl (by kernel_rfl) (trivial) ?_
  exact fun X h => vc rfl (h I1 A4 u4 _ s kk hc2 e2)
theorem c83 {w1 w : World} {M I : Nat → Prop} {F : List It} (p0 : T_pack_Reader) (b1 : Nat) (A1 : Option Addr) (n1 : Nat) (u1 : Nat) (cl1 : List Value) (hn1 : n1 = p0.b.length) (rp1 : RepL (Rp.int .u8) I w cl1 p0.b) (s : St w1 M I ((.blk b1 (.cells #[.slice A1 n1 u1, .int .i64 p0.err, .bool p0.made] 85 (0, 0))) :: (.sl (.slice A1 n1 u1) 5 1 n1 cl1) :: F) w) {r : (Int × T_pack_Reader)} (hf : g83 p0 = some r) :
    Ret Tryd.prog 83 [.pointer (some ⟨b1, 0, none⟩)] w fun v wz => ∀ X : Value → World → Prop, (∀ (I' : Nat → Prop) (A2 : Option Addr) (u2 : Nat) (w' : World), St w1 M I' ((.blk b1 (.cells #[.slice A2 r.2.b.length u2, .int .i64 r.2.err, .bool r.2.made] 85 (0, 0))) :: F) w' → Kp I w I' w' → (r.2.b.length ≤ u2 ∧ u2 ≤ 9223372036854775807) → Elems (Rp.int .u8) I' w' A2 r.2.b → X (.int .u32 r.1) w') → X v wz := by
  have kk : Kp I w I w := Kp.refl
  unfold g83 at hf
  refine Ret.of Tryd.func83 rfl ?_
  refine WPK.seq ?_
  refine WPK.region ?_
  refine RW.seg hT 1 [] [] [.int .u32 0] [] (by kernel_rfl) (trivial) ?_
  refine RW.nil ?_
  refine WPK.seq ?_
  refine WPK.region ?_
  refine RW.seg hT 1 [] [] [.pointer (some ⟨b1, 0, none⟩)] [] (by kernel_rfl) (trivial) ?_
  obtain ⟨x1, hx1, hf⟩ := bindS hf
  refine RW.op (by kernel_rfl) (OK.call' en55 (by kernel_rfl) (c55 (F := F) p0 4 b1 A1 n1 u1 cl1 hn1 rp1 s hx1) ?_)
  intro X1 hX1
  refine fun _ _ hJ => hJ X1 ?_
  clear s
  intro I1 A3 u3 w2 s k1 hc1 e1
  refine hX1 _ _ ?_
  replace rp1 := rp1.st k1
  replace kk := kk.trans k1
  refine RW.seg hT 2 [undef] [] [.int .u32 (IntKind.u32.wrap x1.1), .int .u32 (IntKind.u32.wrap x1.1)] [] (by kernel_rfl) (trivial) ?_
  refine RW.nil ?_
  refine WPK.ret (?_)
  obtain rfl := someS hf
  refine Fin.of (rs := [.tmp 2]) hT [] (.int .u32 (IntKind.u32.wrap x1.1)) [] rfl (by kernel_rfl) (trivial) ?_
  exact fun X h => vc rfl (h I1 A3 u3 _ s kk hc1 e1)
theorem c56_1 {w1 w : World} {M I : Nat → Prop} {F : List It} (p0 : T_pack_Reader) (b1 : Nat) (A1 : Option Addr) (u1 : Nat) (hc1 : (p0.b.length ≤ u1 ∧ u1 ≤ 9223372036854775807)) (e1 : Elems (Rp.int .u8) I w A1 p0.b) (s : St w1 M I ((.blk b1 (.cells #[.slice A1 p0.b.length u1, .int .i64 p0.err, .bool p0.made] 85 (0, 0))) :: F) w) {r : Bool} (hf : g56_1 p0 = some r) :
    Ret Tryd.prog 56 [.pointer (some ⟨b1, 0, none⟩)] w fun v wz => ∀ X : Value → World → Prop, (∀ (I' : Nat → Prop) (w' : World), St w1 M I' ((.blk b1 (.cells #[.slice A1 p0.b.length u1, .int .i64 p0.err, .bool p0.made] 85 (0, 0))) :: F) w' → Kp I w I' w' → X (.bool r) w') → X v wz := by
  have kk : Kp I w I w := Kp.refl
  unfold g56_1 at hf
  refine Ret.of Tryd.func56 rfl ?_
  refine WPK.seq ?_
  refine WPK.region ?_
  refine RW.seg hT 1 [] [] [.bool false] [] (by kernel_rfl) (trivial) ?_
  refine RW.nil ?_
  refine WPK.seq ?_
  refine WPK.region ?_
  refine RW.seg hT 9 [.bool p0.made] [(10, .bool (decide (¬ (p0.made = true))))] [.pointer (some ⟨b1, 0, none⟩), .bool false, .bool false, .pointer (some ⟨b1, 0, none⟩), .pointer (some ⟨b1, 0, none⟩), .pointer (some ⟨b1, 2, none⟩), .bool p0.made, .bool (decide (¬ (p0.made = true))), .bool (decide (¬ (p0.made = true)))] [.cell ⟨b1, 2, none⟩ (.bool p0.made), .veq (.bool (!p0.made)) (.bool (decide (¬ (p0.made = true))))] (by kernel_rfl) (⟨s.cell (i := 0) (off := 2) rfl rfl, not_b⟩) ?_
  by_cases h1 : ¬ (p0.made = true)
  have hf := iteT h1 hf
  refine RW.seg hT 8 [] [(12, .bool true)] [.bool true, undef, undef, undef, undef, undef, .bool true, .bool true] [.veq (.bool (decide (¬ (p0.made = true)))) (.bool true)] (by kernel_rfl) (bo_t h1) ?_
  refine RW.nil ?_
  refine WPK.ret (?_)
  obtain rfl := someS hf
  refine Fin.of (rs := [.tmp 2]) hT [] (.bool true) [] rfl (by kernel_rfl) (trivial) ?_
  exact fun X h => vc rfl (h I _ s kk)
  have hf := iteF h1 hf
  refine RW.seg hT 8 [.int .i64 p0.err] [(12, .bool false), (17, .bool (decide (p0.err ≠ 0)))] [.bool false, .pointer (some ⟨b1, 0, none⟩), .pointer (some ⟨b1, 0, none⟩), .pointer (some ⟨b1, 1, none⟩), .int .i64 p0.err, .bool (decide (p0.err ≠ 0)), .bool (decide (p0.err ≠ 0)), .bool (decide (p0.err ≠ 0))] [.veq (.bool (decide (¬ (p0.made = true)))) (.bool false), .cell ⟨b1, 1, none⟩ (.int .i64 p0.err), .veq (.bool (p0.err != 0)) (.bool (decide (p0.err ≠ 0)))] (by kernel_rfl) (⟨bo_f h1, s.cell (i := 0) (off := 1) rfl rfl, ne_v⟩) ?_
  refine RW.nil ?_
  refine WPK.ret (?_)
  obtain rfl := someS hf
  refine Fin.of (rs := [.tmp 2]) hT [] (.bool (decide (p0.err ≠ 0))) [] rfl (by kernel_rfl) (trivial) ?_
  exact fun X h => vc rfl (h I _ s kk)
theorem c57_1 {w1 w : World} {M I : Nat → Prop} {F : List It} (p0 : T_pack_Reader) (p1 : Int) (b1 : Nat) (A1 : Option Addr) (u1 : Nat) (hc1 : (p0.b.length ≤ u1 ∧ u1 ≤ 9223372036854775807)) (e1 : Elems (Rp.int .u8) I w A1 p0.b) (s : St w1 M I ((.blk b1 (.cells #[.slice A1 p0.b.length u1, .int .i64 p0.err, .bool p0.made] 85 (0, 0))) :: F) w) {r : T_pack_Reader} (hf : g57_1 p0 p1 = some r) :
    Ret Tryd.prog 57 [.pointer (some ⟨b1, 0, none⟩), .int .i64 p1] w fun v wz => ∀ X : Value → World → Prop, (∀ (I' : Nat → Prop) (A2 : Option Addr) (u2 : Nat) (w' : World), St w1 M I' ((.blk b1 (.cells #[.slice A2 r.b.length u2, .int .i64 r.err, .bool r.made] 85 (0, 0))) :: F) w' → Kp I w I' w' → (r.b.length ≤ u2 ∧ u2 ≤ 9223372036854775807) → Elems (Rp.int .u8) I' w' A2 r.b → X (.tuple #[]) w') → X v wz := by
  have kk : Kp I w I w := Kp.refl
  unfold g57_1 at hf
  refine Ret.of Tryd.func57 rfl ?_
  refine WPK.region ?_
  refine RW.seg hT 4 [] [] [.pointer (some ⟨b1, 0, none⟩), .int .i64 p1, .pointer (some ⟨b1, 0, none⟩), .pointer (some ⟨b1, 1, none⟩)] [] (by kernel_rfl) (trivial) ?_
  refine RW.op (by kernel_rfl) (OK.store hT (i := 0) (b := b1) (off := 1) (n := 1) (vs := [.int .i64 p1]) (cs := [.slice A1 p0.b.length u1, .int .i64 p0.err, .bool p0.made]) (e := 85) s (by kernel_rfl) rfl rfl (flat_ok rfl) (Nat.le_of_ble_eq_true rfl) ?_)
  clear s
  rintro w2 s k1 -
  replace e1 := e1.st k1
  replace kk := kk.trans k1
  refine RW.nil ?_
  obtain rfl := someS hf
  refine Fin.of (rs := []) hT [] (.tuple #[]) [] rfl (by kernel_rfl) (trivial) ?_
  exact fun X h => vc rfl (h I A1 u1 _ s kk hc1 e1)
theorem c58_1 {w1 w : World} {M I : Nat → Prop} {F : List It} (p0 : T_pack_Reader) (p1 : Int) (b1 : Nat) (A1 : Option Addr) (u1 : Nat) (hc1 : (p0.b.length ≤ u1 ∧ u1 ≤ 9223372036854775807)) (e1 : Elems (Rp.int .u8) I w A1 p0.b) (s : St w1 M I ((.blk b1 (.cells #[.slice A1 p0.b.length u1, .int .i64 p0.err, .bool p0.made] 85 (0, 0))) :: F) w) {r : ((List Int) × T_pack_Reader)} (hf : g58_1 p0 p1 = some r) :
    Ret Tryd.prog 58 [.pointer (some ⟨b1, 0, none⟩), .int .i64 p1] w fun v wz => ∀ X : Value → World → Prop, (∀ (I' : Nat → Prop) (A2 : Option Addr) (u2 : Nat) (A3 : Option Addr) (u3 : Nat) (w' : World), St w1 M I' ((.blk b1 (.cells #[.slice A3 r.2.b.length u3, .int .i64 r.2.err, .bool r.2.made] 85 (0, 0))) :: F) w' → Kp I w I' w' → (r.1.length ≤ u2 ∧ u2 ≤ 9223372036854775807) → Elems (Rp.int .u8) I' w' A2 r.1 → (r.2.b.length ≤ u3 ∧ u3 ≤ 9223372036854775807) → Elems (Rp.int .u8) I' w' A3 r.2.b → X (.slice A2 r.1.length u2) w') → X v wz := by
  have kk : Kp I w I w := Kp.refl
  unfold g58_1 at hf
  refine Ret.of Tryd.func58 rfl ?_
  refine WPK.seq ?_
  refine WPK.region ?_
  refine RW.seg hT 1 [] [] [.slice none 0 0] [] (by kernel_rfl) (trivial) ?_
  refine RW.nil ?_
  refine WPK.seq ?_
  refine WPK.seq ?_
  refine WPK.region ?_
  refine RW.seg hT 1 [] [] [.pointer (some ⟨b1, 0, none⟩)] [] (by kernel_rfl) (trivial) ?_
  obtain ⟨x1, hx1, hf⟩ := bindS hf
  refine RW.op (by kernel_rfl) (OK.call' en56 (by kernel_rfl) (c56_1 (F := F) p0 b1 A1 u1 hc1 e1 s hx1) ?_)
  intro X1 hX1
  refine fun _ _ hJ => hJ X1 ?_
  clear s
  intro I1 w2 s k1
  refine hX1 _ _ ?_
  replace e1 := e1.st k1
  replace kk := kk.trans k1
  refine RW.nil ?_
  by_cases h1 : x1 = true
  have hf := iteT h1 hf
  refine WPK.condT (Eq.trans (b := .bool x1) (by kernel_rfl) (b_t h1)) ?_
  refine WPK.seq ?_
  refine WPK.region ?_
  refine RW.seg hT 1 [] [] [.slice none 0 0] [] (by kernel_rfl) (trivial) ?_
  refine RW.nil ?_
  refine WPK.ret (?_)
  obtain rfl := someS hf
  refine Fin.of (rs := [.tmp 4]) hT [] (.slice none 0 0) [] rfl (by kernel_rfl) (trivial) ?_
  exact fun X h => vc rfl (h I1 none 0 A1 u1 _ s kk nil_hc Elems.nil hc1 e1)
  have hf := iteF h1 hf
  refine WPK.condF (Eq.trans (b := .bool x1) (by kernel_rfl) (b_f h1)) ?_
  refine WPK.skip ?_
  refine WPK.seq ?_
  refine WPK.seq ?_
  refine WPK.region ?_
  refine RW.seg hT 7 [.slice A1 p0.b.length u1] [] [.int .i64 p1, .pointer (some ⟨b1, 0, none⟩), .pointer (some ⟨b1, 0, none⟩), .pointer (some ⟨b1, 0, none⟩), .slice A1 p0.b.length u1, .int .i64 (p0.b.length : Int), .bool (decide (p1 > (p0.b.length : Int)))] [.cell ⟨b1, 0, none⟩ (.slice A1 p0.b.length u1)] (by kernel_rfl) (s.cell (i := 0) (off := 0) rfl rfl) ?_
  refine RW.nil ?_
  by_cases h2 : p1 > (p0.b.length : Int)
  have hf := iteT h2 hf
  refine WPK.condT (Eq.trans (b := .bool (decide (p1 > (p0.b.length : Int)))) (by kernel_rfl) (bo_t h2)) ?_
  refine WPK.seq ?_
  refine WPK.region ?_
  refine RW.seg hT 1 [] [] [.pointer (some ⟨b1, 0, none⟩)] [] (by kernel_rfl) (trivial) ?_
  obtain ⟨x2, hx2, hf⟩ := bindS hf
  refine RW.op (by kernel_rfl) (OK.call' en57 (by kernel_rfl) (c57_1 (F := F) p0 10 b1 A1 u1 hc1 e1 s hx2) ?_)
  intro X2 hX2
  refine fun _ _ hJ => hJ X2 ?_
  clear s
  intro I2 A4 u4 w3 s k2 hc2 e2
  refine hX2 _ _ ?_
  replace e1 := e1.st k2
  replace kk := kk.trans k2
  refine RW.nil ?_
  refine WPK.seq ?_
  refine WPK.region ?_
  refine RW.seg hT 1 [] [] [.slice none 0 0] [] (by kernel_rfl) (trivial) ?_
  refine RW.nil ?_
  refine WPK.ret (?_)
  obtain rfl := someS hf
  refine Fin.of (rs := [.tmp 4]) hT [] (.slice none 0 0) [] rfl (by kernel_rfl) (trivial) ?_
  exact fun X h => vc rfl (h I2 none 0 A4 u4 _ s kk nil_hc Elems.nil hc2 e2)
  have hf := iteF h2 hf
  refine WPK.condF (Eq.trans (b := .bool (decide (p1 > (p0.b.length : Int)))) (by kernel_rfl) (bo_f h2)) ?_
  refine WPK.skip ?_
  refine WPK.seq ?_
  refine WPK.region ?_
  obtain ⟨h3, hf⟩ := iteS hf
  obtain ⟨y1, hy1, hf⟩ := bindS hf
  obtain ⟨u5, h4, hc3, e3, q1, q2⟩ := slS0m hc1 e1 hy1 h3
  refine RW.seg hT 8 [.slice A1 p0.b.length u1] [(23, .slice A1 y1.length u5)] [.pointer (some ⟨b1, 0, none⟩), .pointer (some ⟨b1, 0, none⟩), .pointer (some ⟨b1, 0, none⟩), .slice A1 p0.b.length u1, .int .i64 p1, .int .i64 p1, .slice A1 y1.length u5, .slice A1 y1.length u5] [.cell ⟨b1, 0, none⟩ (.slice A1 p0.b.length u1), .both (.cut 0 p1 p1 u1) (.veq (.slice A1 p1.toNat p1.toNat) (.slice A1 y1.length u5))] (by kernel_rfl) (⟨s.cell (i := 0) (off := 0) rfl rfl, ⟨⟨Int.le_refl _, h4⟩, sl_eq rfl q1 q2⟩⟩) ?_
  refine RW.nil ?_
  refine WPK.seq ?_
  refine WPK.region ?_
  obtain ⟨y2, hy2, hf⟩ := bindS hf
  obtain ⟨A5, u6, h5, hc4, e4, q3, q4, q5⟩ := slS (size := 1) rfl hc1 e1 hy2
  refine RW.seg hT 9 [.slice A1 p0.b.length u1] [(30, .slice A5 y2.length u6)] [.pointer (some ⟨b1, 0, none⟩), .pointer (some ⟨b1, 0, none⟩), .pointer (some ⟨b1, 0, none⟩), .pointer (some ⟨b1, 0, none⟩), .slice A1 p0.b.length u1, .int .i64 p1, .slice A5 y2.length u6, .pointer (some ⟨b1, 0, none⟩), .pointer (some ⟨b1, 0, none⟩)] [.cell ⟨b1, 0, none⟩ (.slice A1 p0.b.length u1), .both (.cut p1 (p0.b.length : Int) u1 u1) (.veq (.slice (cutA A1 p1.toNat u1 1) (p0.b.length - p1.toNat) (u1 - p1.toNat)) (.slice A5 y2.length u6))] (by kernel_rfl) (⟨s.cell (i := 0) (off := 0) rfl rfl, ⟨⟨by omega, by omega, by omega, by omega⟩, sl_eq q3 q4 q5⟩⟩) ?_
  refine RW.op (by kernel_rfl) (OK.store hT (i := 0) (b := b1) (off := 0) (n := 1) (vs := [.slice A5 y2.length u6]) (cs := [.slice A1 p0.b.length u1, .int .i64 p0.err, .bool p0.made]) (e := 85) s (by kernel_rfl) rfl rfl (flat_ok rfl) (Nat.le_of_ble_eq_true rfl) ?_)
  clear s
  rintro w4 s k3 -
  replace e3 := e3.st k3
  replace e1 := e1.st k3
  replace e4 := e4.st k3
  replace kk := kk.trans k3
  refine RW.nil ?_
  refine WPK.seq ?_
  refine WPK.region ?_
  refine RW.seg hT 2 [] [] [.slice A1 y1.length u5, .slice A1 y1.length u5] [] (by kernel_rfl) (trivial) ?_
  refine RW.nil ?_
  refine WPK.ret (?_)
  obtain rfl := someS hf
  refine Fin.of (rs := [.tmp 4]) hT [] (.slice A1 y1.length u5) [] rfl (by kernel_rfl) (trivial) ?_
  exact fun X h => vc rfl (h I1 A1 u5 A5 u6 _ s kk hc3 e3 hc4 e4)
theorem c55_1 {w1 w : World} {M I : Nat → Prop} {F : List It} (p0 : T_pack_Reader) (p1 : Int) (b1 : Nat) (A1 : Option Addr) (u1 : Nat) (hc1 : (p0.b.length ≤ u1 ∧ u1 ≤ 9223372036854775807)) (e1 : Elems (Rp.int .u8) I w A1 p0.b) (s : St w1 M I ((.blk b1 (.cells #[.slice A1 p0.b.length u1, .int .i64 p0.err, .bool p0.made] 85 (0, 0))) :: F) w) {r : (Int × T_pack_Reader)} (hf : g55_1 p0 p1 = some r) :
    Ret Tryd.prog 55 [.pointer (some ⟨b1, 0, none⟩), .int .i64 p1] w fun v wz => ∀ X : Value → World → Prop, (∀ (I' : Nat → Prop) (A2 : Option Addr) (u2 : Nat) (w' : World), St w1 M I' ((.blk b1 (.cells #[.slice A2 r.2.b.length u2, .int .i64 r.2.err, .bool r.2.made] 85 (0, 0))) :: F) w' → Kp I w I' w' → (r.2.b.length ≤ u2 ∧ u2 ≤ 9223372036854775807) → Elems (Rp.int .u8) I' w' A2 r.2.b → X (.int .u64 r.1) w') → X v wz := by
  have kk : Kp I w I w := Kp.refl
  unfold g55_1 at hf
  refine Ret.of Tryd.func55 rfl ?_
  refine WPK.seq ?_
  refine WPK.region ?_
  refine RW.seg hT 1 [] [] [.int .u64 0] [] (by kernel_rfl) (trivial) ?_
  refine RW.nil ?_
  refine WPK.seq ?_
  refine WPK.region ?_
  refine RW.seg hT 1 [] [] [.int .u64 0] [] (by kernel_rfl) (trivial) ?_
  refine RW.nil ?_
  refine WPK.seq ?_
  refine WPK.seq ?_
  refine WPK.region ?_
  refine RW.seg hT 2 [] [] [.pointer (some ⟨b1, 0, none⟩), .int .i64 p1] [] (by kernel_rfl) (trivial) ?_
  obtain ⟨x1, hx1, hf⟩ := bindS hf
  refine RW.op (by kernel_rfl) (OK.call' en58 (by kernel_rfl) (c58_1 (F := F) p0 p1 b1 A1 u1 hc1 e1 s hx1) ?_)
  intro X1 hX1
  refine fun _ _ hJ => hJ X1 ?_
  clear s
  intro I1 A3 u3 A4 u4 w2 s k1 hc2 e2 hc3 e3
  refine hX1 _ _ ?_
  replace e1 := e1.st k1
  replace kk := kk.trans k1
  refine RW.seg hT 2 [] [] [.int .i64 (x1.1.length : Int), .int .i64 0] [] (by kernel_rfl) (trivial) ?_
  refine RW.nil ?_
  refine WPK.block ?_
  refine WPK.loop' (J := fun n1 D1 ds wz => ∀ X : Kont, (∀ (x2 : Int) (x3 : Int), g55_1_l1 x1 n1 x2 x3 = some r → X [(D1.getD 0 undef), (D1.getD 1 undef), (D1.getD 2 undef), (D1.getD 3 undef), .int .u64 0, .int .u64 x2, (D1.getD 6 undef), (D1.getD 7 undef), (D1.getD 8 undef), (D1.getD 9 undef), .slice A3 x1.1.length u3, .int .i64 (x1.1.length : Int), .int .i64 x3, (D1.getD 13 undef), (D1.getD 14 undef), (D1.getD 15 undef), (D1.getD 16 undef), (D1.getD 17 undef), (D1.getD 18 undef), (D1.getD 19 undef), (D1.getD 20 undef), (D1.getD 21 undef), undef] [] w2) → X D1 ds wz) FUEL (fun X h => kc (by kernel_rfl) rfl (h 0 0 hf)) (fun _ _ _ hJ => hJ (fun _ _ _ => False) (by intro x2 x3 hf; exact noneS hf)) ?_
  intro X2 hX2
  refine fun n1 D1 _ _ hJ => hJ (X2 n1) ?_
  intro x2 x3 hf
  refine hX2 _ _ _ _ ?_
  replace hf : g55_1_l1B x1 (g55_1_l1 x1 n1) x2 x3 = some r := hf
  generalize hrec1 : g55_1_l1 x1 n1 = rec1 at hf
  unfold g55_1_l1B at hf
  refine WPK.seq ?_
  refine WPK.region ?_
  refine RW.seg hT 1 [] [] [.bool (decide (x3 < (x1.1.length : Int)))] [] (by kernel_rfl) (trivial) ?_
  refine RW.nil ?_
  refine WPK.seq ?_
  by_cases h1 : x3 < (x1.1.length : Int)
  have hf := iteT h1 hf
  refine WPK.condT (Eq.trans (b := .bool (decide (x3 < (x1.1.length : Int)))) (by kernel_rfl) (bo_t h1)) ?_
  refine WPK.skip ?_
  refine WPK.seq ?_
  refine WPK.block ?_
  refine WPK.seq ?_
  refine WPK.region ?_
  obtain ⟨x4, hx2, hf⟩ := bindS hf
  obtain ⟨h2, hx2⟩ := getS hx2
  obtain ⟨b2, o1, rfl⟩ := Elems.opn e2 hx2
  obtain ⟨cs1, hr1, ha1⟩ := Elems.get e2 hx2
  obtain rfl : cs1 = [.int .u8 x4] := hr1
  refine RW.seg hT 3 [.int .u8 x4] [] [.pointer (some ⟨b2, o1 + x3.toNat * 1, none⟩), .int .u8 x4, .int .u8 x4] [.idx x3 x1.1.length, .cell ⟨b2, o1 + x3.toNat * 1, none⟩ (.int .u8 x4)] (by kernel_rfl) (⟨h2, ha1 0 _ rfl⟩) ?_
  refine RW.nil ?_
  refine WPK.region ?_
  refine RW.seg hT 6 [undef] [] [.int .u64 x2, .int .u64 (shlI .u64 x2 8), .int .u8 x4, .int .u64 (IntKind.u64.wrap x4), .int .u64 (orI .u64 (shlI .u64 x2 8) (IntKind.u64.wrap x4)), .int .u64 (orI .u64 (shlI .u64 x2 8) (IntKind.u64.wrap x4))] [.nn 8] (by kernel_rfl) ((show (0 : Int) ≤ 8 by decide)) ?_
  refine RW.nil ?_
  refine WPK.region ?_
  refine RW.seg hT 2 [] [] [.int .i64 (IntKind.i64.wrap (x3 + 1)), .int .i64 (IntKind.i64.wrap (x3 + 1))] [] (by kernel_rfl) (trivial) ?_
  refine RW.nil ?_
  subst hrec1
  exact ⟨n1, Nat.le_refl _, fun X h => kc (by kernel_rfl) rfl (h (orI .u64 (shlI .u64 x2 8) (IntKind.u64.wrap x4)) (IntKind.i64.wrap (x3 + 1)) hf)⟩
  have hf := iteF h1 hf
  refine WPK.condF (Eq.trans (b := .bool (decide (x3 < (x1.1.length : Int)))) (by kernel_rfl) (bo_f h1)) ?_
  refine WPK.exit (blockQ.same ?_)
  refine WPK.seq ?_
  refine WPK.region ?_
  refine RW.seg hT 2 [] [] [.int .u64 x2, .int .u64 x2] [] (by kernel_rfl) (trivial) ?_
  refine RW.nil ?_
  refine WPK.ret (?_)
  obtain rfl := someS hf
  refine Fin.of (rs := [.tmp 4]) hT [] (.int .u64 x2) [] rfl (by kernel_rfl) (trivial) ?_
  exact fun X h => vc rfl (h I1 A4 u4 _ s kk hc3 e3)
theorem c34 {w1 w : World} {M I : Nat → Prop} {F : List It} (p0 : T_pack_Reader) (b1 : Nat) (A1 : Option Addr) (u1 : Nat) (hc1 : (p0.b.length ≤ u1 ∧ u1 ≤ 9223372036854775807)) (e1 : Elems (Rp.int .u8) I w A1 p0.b) (s : St w1 M I ((.blk b1 (.cells #[.slice A1 p0.b.length u1, .int .i64 p0.err, .bool p0.made] 85 (0, 0))) :: F) w) {r : (Int × T_pack_Reader)} (hf : g34 p0 = some r) :
    Ret Tryd.prog 34 [.pointer (some ⟨b1, 0, none⟩)] w fun v wz => ∀ X : Value → World → Prop, (∀ (I' : Nat → Prop) (A2 : Option Addr) (u2 : Nat) (w' : World), St w1 M I' ((.blk b1 (.cells #[.slice A2 r.2.b.length u2, .int .i64 r.2.err, .bool r.2.made] 85 (0, 0))) :: F) w' → Kp I w I' w' → (r.2.b.length ≤ u2 ∧ u2 ≤ 9223372036854775807) → Elems (Rp.int .u8) I' w' A2 r.2.b → X (.int .u8 r.1) w') → X v wz := by
  have kk : Kp I w I w := Kp.refl
  unfold g34 at hf
  refine Ret.of Tryd.func34 rfl ?_
  refine WPK.seq ?_
  refine WPK.region ?_
  refine RW.seg hT 1 [] [] [.int .u8 0] [] (by kernel_rfl) (trivial) ?_
  refine RW.nil ?_
  refine WPK.seq ?_
  refine WPK.region ?_
  refine RW.seg hT 1 [] [] [.pointer (some ⟨b1, 0, none⟩)] [] (by kernel_rfl) (trivial) ?_
  obtain ⟨x1, hx1, hf⟩ := bindS hf
  refine RW.op (by kernel_rfl) (OK.call' en55 (by kernel_rfl) (c55_1 (F := F) p0 1 b1 A1 u1 hc1 e1 s hx1) ?_)
  intro X1 hX1
  refine fun _ _ hJ => hJ X1 ?_
  clear s
  intro I1 A3 u3 w2 s k1 hc2 e2
  refine hX1 _ _ ?_
  replace e1 := e1.st k1
  replace kk := kk.trans k1
  refine RW.seg hT 2 [undef] [] [.int .u8 (IntKind.u8.wrap x1.1), .int .u8 (IntKind.u8.wrap x1.1)] [] (by kernel_rfl) (trivial) ?_
  refine RW.nil ?_
  refine WPK.ret (?_)
  obtain rfl := someS hf
  refine Fin.of (rs := [.tmp 2]) hT [] (.int .u8 (IntKind.u8.wrap x1.1)) [] rfl (by kernel_rfl) (trivial) ?_
  exact fun X h => vc rfl (h I1 A3 u3 _ s kk hc2 e2)
theorem c33 {w1 w : World} {M I : Nat → Prop} {F : List It} (p0 : T_pack_Reader) (b1 : Nat) (A1 : Option Addr) (u1 : Nat) (hc1 : (p0.b.length ≤ u1 ∧ u1 ≤ 9223372036854775807)) (e1 : Elems (Rp.int .u8) I w A1 p0.b) (s : St w1 M I ((.blk b1 (.cells #[.slice A1 p0.b.length u1, .int .i64 p0.err, .bool p0.made] 85 (0, 0))) :: F) w) {r : (Int × T_pack_Reader)} (hf : g33 p0 = some r) :
    Ret Tryd.prog 33 [.pointer (some ⟨b1, 0, none⟩)] w fun v wz => ∀ X : Value → World → Prop, (∀ (I' : Nat → Prop) (A2 : Option Addr) (u2 : Nat) (w' : World), St w1 M I' ((.blk b1 (.cells #[.slice A2 r.2.b.length u2, .int .i64 r.2.err, .bool r.2.made] 85 (0, 0))) :: F) w' → Kp I w I' w' → (r.2.b.length ≤ u2 ∧ u2 ≤ 9223372036854775807) → Elems (Rp.int .u8) I' w' A2 r.2.b → X (.int .u16 r.1) w') → X v wz := by
  have kk : Kp I w I w := Kp.refl
  unfold g33 at hf
  refine Ret.of Tryd.func33 rfl ?_
  refine WPK.seq ?_
  refine WPK.region ?_
  refine RW.seg hT 1 [] [] [.int .u16 0] [] (by kernel_rfl) (trivial) ?_
  refine RW.nil ?_
  refine WPK.seq ?_
  refine WPK.region ?_
  refine RW.seg hT 1 [] [] [.pointer (some ⟨b1, 0, none⟩)] [] (by kernel_rfl) (trivial) ?_
  obtain ⟨x1, hx1, hf⟩ := bindS hf
  refine RW.op (by kernel_rfl) (OK.call' en55 (by kernel_rfl) (c55_1 (F := F) p0 2 b1 A1 u1 hc1 e1 s hx1) ?_)
  intro X1 hX1
  refine fun _ _ hJ => hJ X1 ?_
  clear s
  intro I1 A3 u3 w2 s k1 hc2 e2
  refine hX1 _ _ ?_
  replace e1 := e1.st k1
  replace kk := kk.trans k1
  refine RW.seg hT 2 [undef] [] [.int .u16 (IntKind.u16.wrap x1.1), .int .u16 (IntKind.u16.wrap x1.1)] [] (by kernel_rfl) (trivial) ?_
  refine RW.nil ?_
  refine WPK.ret (?_)
  obtain rfl := someS hf
  refine Fin.of (rs := [.tmp 2]) hT [] (.int .u16 (IntKind.u16.wrap x1.1)) [] rfl (by kernel_rfl) (trivial) ?_
  exact fun X h => vc rfl (h I1 A3 u3 _ s kk hc2 e2)
theorem c84 {w1 w : World} {M I : Nat → Prop} {F : List It} (p0 : T_pack_Reader) (b1 : Nat) (A1 : Option Addr) (u1 : Nat) (hc1 : (p0.b.length ≤ u1 ∧ u1 ≤ 9223372036854775807)) (e1 : Elems (Rp.int .u8) I w A1 p0.b) (s : St w1 M I ((.blk b1 (.cells #[.slice A1 p0.b.length u1, .int .i64 p0.err, .bool p0.made] 85 (0, 0))) :: F) w) {r : (Int × T_pack_Reader)} (hf : g84 p0 = some r) :
    Ret Tryd.prog 84 [.pointer (some ⟨b1, 0, none⟩)] w fun v wz => ∀ X : Value → World → Prop, (∀ (I' : Nat → Prop) (A2 : Option Addr) (u2 : Nat) (w' : World), St w1 M I' ((.blk b1 (.cells #[.slice A2 r.2.b.length u2, .int .i64 r.2.err, .bool r.2.made] 85 (0, 0))) :: F) w' → Kp I w I' w' → (r.2.b.length ≤ u2 ∧ u2 ≤ 9223372036854775807) → Elems (Rp.int .u8) I' w' A2 r.2.b → X (.int .u64 r.1) w') → X v wz := by
  have kk : Kp I w I w := Kp.refl
  unfold g84 at hf
  refine Ret.of Tryd.func84 rfl ?_
  refine WPK.seq ?_
  refine WPK.region ?_
  refine RW.seg hT 1 [] [] [.int .u64 0] [] (by kernel_rfl) (trivial) ?_
  refine RW.nil ?_
  refine WPK.seq ?_
  refine WPK.region ?_
  refine RW.seg hT 1 [] [] [.pointer (some ⟨b1, 0, none⟩)] [] (by kernel_rfl) (trivial) ?_
  obtain ⟨x1, hx1, hf⟩ := bindS hf
  refine RW.op (by kernel_rfl) (OK.call' en55 (by kernel_rfl) (c55_1 (F := F) p0 8 b1 A1 u1 hc1 e1 s hx1) ?_)
  intro X1 hX1
  refine fun _ _ hJ => hJ X1 ?_
  clear s
  intro I1 A3 u3 w2 s k1 hc2 e2
  refine hX1 _ _ ?_
  replace e1 := e1.st k1
  replace kk := kk.trans k1
  refine RW.seg hT 1 [] [] [.int .u64 x1.1] [] (by kernel_rfl) (trivial) ?_
  refine RW.nil ?_
  refine WPK.ret (?_)
  obtain rfl := someS hf
  refine Fin.of (rs := [.tmp 2]) hT [] (.int .u64 x1.1) [] rfl (by kernel_rfl) (trivial) ?_
  exact fun X h => vc rfl (h I1 A3 u3 _ s kk hc2 e2)
theorem c85 {w1 w : World} {M I : Nat → Prop} {F : List It} (p0 : T_pack_Reader) (p1 : Int) (b1 : Nat) (A1 : Option Addr) (u1 : Nat) (hc1 : (p0.b.length ≤ u1 ∧ u1 ≤ 9223372036854775807)) (e1 : Elems (Rp.int .u8) I w A1 p0.b) (s : St w1 M I ((.blk b1 (.cells #[.slice A1 p0.b.length u1, .int .i64 p0.err, .bool p0.made] 85 (0, 0))) :: F) w) {r : ((List Int) × T_pack_Reader)} (hf : g85 p0 p1 = some r) :
    Ret Tryd.prog 85 [.pointer (some ⟨b1, 0, none⟩), .int .i64 p1] w fun v wz => ∀ X : Value → World → Prop, (∀ (I' : Nat → Prop) (A2 : Option Addr) (u2 : Nat) (A3 : Option Addr) (u3 : Nat) (w' : World), St w1 M I' ((.blk b1 (.cells #[.slice A3 r.2.b.length u3, .int .i64 r.2.err, .bool r.2.made] 85 (0, 0))) :: F) w' → Kp I w I' w' → (r.1.length ≤ u2 ∧ u2 ≤ 9223372036854775807) → Elems (Rp.int .u8) I' w' A2 r.1 → (r.2.b.length ≤ u3 ∧ u3 ≤ 9223372036854775807) → Elems (Rp.int .u8) I' w' A3 r.2.b → X (.slice A2 r.1.length u2) w') → X v wz := by
  have kk : Kp I w I w := Kp.refl
  unfold g85 at hf
  refine Ret.of Tryd.func85 rfl ?_
  refine WPK.seq ?_
  refine WPK.region ?_
  refine RW.seg hT 1 [] [] [.slice none 0 0] [] (by kernel_rfl) (trivial) ?_
  refine RW.nil ?_
  refine WPK.seq ?_
  refine WPK.seq ?_
  refine WPK.region ?_
  refine RW.seg hT 1 [] [] [.pointer (some ⟨b1, 0, none⟩)] [] (by kernel_rfl) (trivial) ?_
  obtain ⟨x1, hx1, hf⟩ := bindS hf
  refine RW.op (by kernel_rfl) (OK.call' en56 (by kernel_rfl) (c56_1 (F := F) p0 b1 A1 u1 hc1 e1 s hx1) ?_)
  intro X1 hX1
  refine fun _ _ hJ => hJ X1 ?_
  clear s
  intro I1 w2 s k1
  refine hX1 _ _ ?_
  replace e1 := e1.st k1
  replace kk := kk.trans k1
  refine RW.nil ?_
  by_cases h1 : x1 = true
  have hf := iteT h1 hf
  refine WPK.condT (Eq.trans (b := .bool x1) (by kernel_rfl) (b_t h1)) ?_
  refine WPK.seq ?_
  refine WPK.region ?_
  refine RW.seg hT 1 [] [] [.slice none 0 0] [] (by kernel_rfl) (trivial) ?_
  refine RW.nil ?_
  refine WPK.ret (?_)
  obtain rfl := someS hf
  refine Fin.of (rs := [.tmp 4]) hT [] (.slice none 0 0) [] rfl (by kernel_rfl) (trivial) ?_
  exact fun X h => vc rfl (h I1 none 0 A1 u1 _ s kk nil_hc Elems.nil hc1 e1)
  have hf := iteF h1 hf
  refine WPK.condF (Eq.trans (b := .bool x1) (by kernel_rfl) (b_f h1)) ?_
  refine WPK.skip ?_
  refine WPK.seq ?_
  refine WPK.seq ?_
  refine WPK.region ?_
  refine RW.seg hT 2 [] [] [.int .i64 p1, .bool (decide (p1 < 0))] [] (by kernel_rfl) (trivial) ?_
  refine RW.nil ?_
  by_cases h2 : p1 < 0
  have hf := iteT h2 hf
  refine WPK.condT (Eq.trans (b := .bool (decide (p1 < 0))) (by kernel_rfl) (bo_t h2)) ?_
  refine WPK.seq ?_
  refine WPK.region ?_
  refine RW.seg hT 1 [] [] [.pointer (some ⟨b1, 0, none⟩)] [] (by kernel_rfl) (trivial) ?_
  obtain ⟨x2, hx2, hf⟩ := bindS hf
  refine RW.op (by kernel_rfl) (OK.call' en57 (by kernel_rfl) (c57_1 (F := F) p0 1 b1 A1 u1 hc1 e1 s hx2) ?_)
  intro X2 hX2
  refine fun _ _ hJ => hJ X2 ?_
  clear s
  intro I2 A4 u4 w3 s k2 hc2 e2
  refine hX2 _ _ ?_
  replace e1 := e1.st k2
  replace kk := kk.trans k2
  refine RW.nil ?_
  refine WPK.seq ?_
  refine WPK.region ?_
  refine RW.seg hT 1 [] [] [.slice none 0 0] [] (by kernel_rfl) (trivial) ?_
  refine RW.nil ?_
  refine WPK.ret (?_)
  obtain rfl := someS hf
  refine Fin.of (rs := [.tmp 4]) hT [] (.slice none 0 0) [] rfl (by kernel_rfl) (trivial) ?_
  exact fun X h => vc rfl (h I2 none 0 A4 u4 _ s kk nil_hc Elems.nil hc2 e2)
  have hf := iteF h2 hf
  refine WPK.condF (Eq.trans (b := .bool (decide (p1 < 0))) (by kernel_rfl) (bo_f h2)) ?_
  refine WPK.skip ?_
  refine WPK.seq ?_
  refine WPK.region ?_
  refine RW.seg hT 2 [] [] [.pointer (some ⟨b1, 0, none⟩), .int .i64 p1] [] (by kernel_rfl) (trivial) ?_
  obtain ⟨x3, hx3, hf⟩ := bindS hf
  refine RW.op (by kernel_rfl) (OK.call' en58 (by kernel_rfl) (c58_1 (F := F) p0 p1 b1 A1 u1 hc1 e1 s hx3) ?_)
  intro X3 hX3
  refine fun _ _ hJ => hJ X3 ?_
  clear s
  intro I3 A5 u5 A6 u6 w4 s k3 hc3 e3 hc4 e4
  refine hX3 _ _ ?_
  replace e1 := e1.st k3
  replace kk := kk.trans k3
  refine RW.seg hT 1 [] [] [.slice A5 x3.1.length u5] [] (by kernel_rfl) (trivial) ?_
  refine RW.nil ?_
  refine WPK.ret (?_)
  obtain rfl := someS hf
  refine Fin.of (rs := [.tmp 4]) hT [] (.slice A5 x3.1.length u5) [] rfl (by kernel_rfl) (trivial) ?_
  exact fun X h => vc rfl (h I3 A5 u5 A6 u6 _ s kk hc3 e3 hc4 e4)
theorem c80 {w1 w : World} {M I : Nat → Prop} {F : List It} (p0 : (List Int)) (hl1 : 256 = p0.length) (s : St w1 M I (F) w) {r : (T_api_Frame × Int)} (hf : g80 p0 = some r) :
    Ret Tryd.prog 80 [.agg (List.map (Value.int .u8) p0).toArray] w fun v wz => ∀ X : Value → World → Prop, (∀ (I' : Nat → Prop) (A1 : Option Addr) (u1 : Nat) (w' : World), St w1 M I' (F) w' → Kp I w I' w' → (r.1.Data.length ≤ u1 ∧ u1 ≤ 9223372036854775807) → Elems (Rp.int .u8) I' w' A1 r.1.Data → X (.tuple #[.agg #[.int .i64 r.1.Kind, .int .i64 r.1.Page, .int .u64 r.1.Epoch, .slice A1 r.1.Data.length u1], .int .u32 r.2]) w') → X v wz := by
  have kk : Kp I w I w := Kp.refl
  unfold g80 at hf
  refine Ret.of Tryd.func80 rfl ?_
  refine WPK.seq ?_
  refine WPK.region ?_
  refine RW.op (by kernel_rfl) (OK.new hT (f := fun b => .pointer (some ⟨b, 0, none⟩)) (cs := (List.map (Value.int .u8) p0)) (e := 91) (c := .tt) s (by kernel_rfl) trivial ?_)
  clear s
  rintro w2 b1 s k1 -
  have hn1 : 256 = (p0).length := hl1
  obtain ⟨cl1, hcl1⟩ : ∃ q, q = (List.map (Value.int .u8) p0) := ⟨_, rfl⟩
  replace s := s.blkSl (i := 0) (n := 256) (c := 256) (size := 1) rfl (by simp [← hn1]) (Nat.le_refl _) (by decide)
  rw [List.take_of_length_le (by simp [← hn1]), ← hcl1] at s
  replace kk := kk.trans k1
  have rp1 : RepL (Rp.int .u8) I w2 cl1 p0 := by rw [hcl1]; exact repl_map
  refine RW.op (by kernel_rfl) (OK.new hT (f := fun b => .pointer (some ⟨b, 0, none⟩)) (cs := [.int .i64 0, .int .i64 0, .int .u64 0, .slice none 0 0]) (e := 55) (c := .tt) s (by kernel_rfl) trivial ?_)
  clear s
  rintro w3 b2 s k2 -
  replace rp1 := rp1.st k2
  replace kk := kk.trans k2
  refine RW.seg hT 1 [] [] [.int .u32 0] [] (by kernel_rfl) (trivial) ?_
  refine RW.nil ?_
  refine WPK.seq ?_
  refine WPK.region ?_
  refine RW.seg hT 1 [] [] [.slice (some ⟨b1, 0, none⟩) 256 256] [] (by kernel_rfl) (trivial) ?_
  have sa1 := s
  obtain ⟨hc1, e1⟩ := St.lend s (i := 1) rfl hn1 rp1
  have k3 := Kp.shut (I := I) (w := w3) (p := .sl (.slice (some ⟨b1, 0, none⟩) 256 256) 91 1 256 cl1)
  replace s := s.shut 1 rfl
  obtain ⟨x1, hx1, hf⟩ := bindS hf
  have hc2 := c32 (F := (.blk b2 (.cells #[.int .i64 0, .int .i64 0, .int .u64 0, .slice none 0 0] 55 (0, 0))) :: F) p0 (some ⟨b1, 0, none⟩) 256 hc1 e1 s hx1
  rw [← hn1] at hc2
  refine RW.op (by kernel_rfl) (OK.call' en32 (by kernel_rfl) (hc2) ?_)
  intro X1 hX1
  refine fun _ _ hJ => hJ X1 ?_
  clear s
  intro I1 b3 A2 n1 u2 cl2 w4 s k4 hn2 rp2
  refine hX1 _ _ ?_
  have s' := St.back sa1 (i := 1) rfl s k4
  replace k4 := Kp.back sa1 (i := 1) rfl k4
  replace s := s'; clear s'
  obtain ⟨I2, s, k4⟩ : ∃ I : Nat → Prop, St w1 M I ((.sl (.slice (some ⟨b1, 0, none⟩) 256 256) 91 1 256 cl1) :: (.blk b3 (.cells #[.slice A2 n1 u2, .int .i64 x1.err, .bool x1.made] 85 (0, 0))) :: (.sl (.slice A2 n1 u2) 5 1 n1 cl2) :: (.blk b2 (.cells #[.int .i64 0, .int .i64 0, .int .u64 0, .slice none 0 0] 55 (0, 0))) :: F) w4 ∧ Kp _ _ I _ := ⟨_, s, k4⟩
  replace rp2 := RepL.free (I' := I2) (w' := w4) free_int rp2
  replace rp1 := rp1.st k4
  replace kk := kk.trans k4
  refine RW.seg hT 1 [] [] [.pointer (some ⟨b3, 0, none⟩)] [] (by kernel_rfl) (trivial) ?_
  refine RW.nil ?_
  refine WPK.seq ?_
  refine WPK.region ?_
  refine RW.seg hT 1 [] [] [.pointer (some ⟨b3, 0, none⟩)] [] (by kernel_rfl) (trivial) ?_
  replace s := s.pick [1, 2, 0, 3] 4 rfl
  obtain ⟨x2, hx2, hf⟩ := bindS hf
  refine RW.op (by kernel_rfl) (OK.call' en83 (by kernel_rfl) (c83 (F := (.sl (.slice (some ⟨b1, 0, none⟩) 256 256) 91 1 256 cl1) :: (.blk b2 (.cells #[.int .i64 0, .int .i64 0, .int .u64 0, .slice none 0 0] 55 (0, 0))) :: F) x1 b3 A2 n1 u2 cl2 hn2 rp2 s hx2) ?_)
  intro X2 hX2
  refine fun _ _ hJ => hJ X2 ?_
  clear s
  intro I3 A3 u3 w5 s k5 hc3 e2
  refine hX2 _ _ ?_
  replace rp2 := rp2.st k5
  replace rp1 := rp1.st k5
  replace kk := kk.trans k5
  refine RW.seg hT 1 [] [] [.int .u32 x2.1] [] (by kernel_rfl) (trivial) ?_
  refine RW.nil ?_
  refine WPK.seq ?_
  refine WPK.region ?_
  refine RW.seg hT 1 [] [] [.pointer (some ⟨b3, 0, none⟩)] [] (by kernel_rfl) (trivial) ?_
  obtain ⟨x3, hx3, hf⟩ := bindS hf
  refine RW.op (by kernel_rfl) (OK.call' en34 (by kernel_rfl) (c34 (F := (.sl (.slice (some ⟨b1, 0, none⟩) 256 256) 91 1 256 cl1) :: (.blk b2 (.cells #[.int .i64 0, .int .i64 0, .int .u64 0, .slice none 0 0] 55 (0, 0))) :: F) x2.2 b3 A3 u3 hc3 e2 s hx3) ?_)
  intro X3 hX3
  refine fun _ _ hJ => hJ X3 ?_
  clear s
  intro I4 A4 u4 w6 s k6 hc4 e3
  refine hX3 _ _ ?_
  replace e2 := e2.st k6
  replace rp1 := rp1.st k6
  replace kk := kk.trans k6
  refine RW.seg hT 2 [undef] [] [.int .i64 (IntKind.i64.wrap x3.1), .agg #[.int .i64 (IntKind.i64.wrap x3.1), .int .i64 0, .int .u64 0, .slice none 0 0]] [] (by kernel_rfl) (trivial) ?_
  refine RW.op (by kernel_rfl) (OK.new hT (f := fun b => .pointer (some ⟨b, 0, none⟩)) (cs := [.int .i64 0, .int .i64 0, .int .u64 0, .slice none 0 0]) (e := 55) (c := .tt) s (by kernel_rfl) trivial ?_)
  clear s
  rintro w7 b4 s k7 -
  replace e3 := e3.st k7
  replace rp1 := rp1.st k7
  replace kk := kk.trans k7
  refine RW.op (by kernel_rfl) (OK.store hT (i := 0) (b := b4) (off := 0) (n := 4) (vs := [.int .i64 (IntKind.i64.wrap x3.1), .int .i64 0, .int .u64 0, .slice none 0 0]) (cs := [.int .i64 0, .int .i64 0, .int .u64 0, .slice none 0 0]) (e := 55) s (by kernel_rfl) rfl rfl (flat_ok rfl) (Nat.le_of_ble_eq_true rfl) ?_)
  clear s
  rintro w8 s k8 -
  replace e3 := e3.st k8
  replace rp1 := rp1.st k8
  replace kk := kk.trans k8
  refine RW.nil ?_
  refine WPK.seq ?_
  refine WPK.region ?_
  refine RW.seg hT 1 [] [] [.pointer (some ⟨b3, 0, none⟩)] [] (by kernel_rfl) (trivial) ?_
  replace s := s.pick [1, 0, 2, 3] 4 rfl
  obtain ⟨x4, hx4, hf⟩ := bindS hf
  refine RW.op (by kernel_rfl) (OK.call' en34 (by kernel_rfl) (c34 (F := (.blk b4 (.cells #[.int .i64 (IntKind.i64.wrap x3.1), .int .i64 0, .int .u64 0, .slice none 0 0] 55 (0, 0))) :: (.sl (.slice (some ⟨b1, 0, none⟩) 256 256) 91 1 256 cl1) :: (.blk b2 (.cells #[.int .i64 0, .int .i64 0, .int .u64 0, .slice none 0 0] 55 (0, 0))) :: F) x3.2 b3 A4 u4 hc4 e3 s hx4) ?_)
  intro X4 hX4
  refine fun _ _ hJ => hJ X4 ?_
  clear s
  intro I5 A5 u5 w9 s k9 hc5 e4
  refine hX4 _ _ ?_
  replace e3 := e3.st k9
  replace rp1 := rp1.st k9
  replace kk := kk.trans k9
  refine RW.nil ?_
  refine WPK.seq ?_
  refine WPK.region ?_
  refine RW.seg hT 1 [] [] [.pointer (some ⟨b3, 0, none⟩)] [] (by kernel_rfl) (trivial) ?_
  obtain ⟨x5, hx5, hf⟩ := bindS hf
  refine RW.op (by kernel_rfl) (OK.call' en33 (by kernel_rfl) (c33 (F := (.blk b4 (.cells #[.int .i64 (IntKind.i64.wrap x3.1), .int .i64 0, .int .u64 0, .slice none 0 0] 55 (0, 0))) :: (.sl (.slice (some ⟨b1, 0, none⟩) 256 256) 91 1 256 cl1) :: (.blk b2 (.cells #[.int .i64 0, .int .i64 0, .int .u64 0, .slice none 0 0] 55 (0, 0))) :: F) x4.2 b3 A5 u5 hc5 e4 s hx5) ?_)
  intro X5 hX5
  refine fun _ _ hJ => hJ X5 ?_
  clear s
  intro I6 A6 u6 w10 s k10 hc6 e5
  refine hX5 _ _ ?_
  replace e4 := e4.st k10
  replace rp1 := rp1.st k10
  replace kk := kk.trans k10
  refine RW.seg hT 2 [undef] [] [.int .i64 (IntKind.i64.wrap x5.1), .pointer (some ⟨b3, 0, none⟩)] [] (by kernel_rfl) (trivial) ?_
  obtain ⟨x6, hx6, hf⟩ := bindS hf
  refine RW.op (by kernel_rfl) (OK.call' en84 (by kernel_rfl) (c84 (F := (.blk b4 (.cells #[.int .i64 (IntKind.i64.wrap x3.1), .int .i64 0, .int .u64 0, .slice none 0 0] 55 (0, 0))) :: (.sl (.slice (some ⟨b1, 0, none⟩) 256 256) 91 1 256 cl1) :: (.blk b2 (.cells #[.int .i64 0, .int .i64 0, .int .u64 0, .slice none 0 0] 55 (0, 0))) :: F) x5.2 b3 A6 u6 hc6 e5 s hx6) ?_)
  intro X6 hX6
  refine fun _ _ hJ => hJ X6 ?_
  clear s
  intro I7 A7 u7 w11 s k11 hc7 e6
  refine hX6 _ _ ?_
  replace e5 := e5.st k11
  replace rp1 := rp1.st k11
  replace kk := kk.trans k11
  refine RW.seg hT 1 [] [] [.pointer (some ⟨b4, 1, none⟩)] [] (by kernel_rfl) (trivial) ?_
  refine RW.op (by kernel_rfl) (OK.store hT (i := 1) (b := b4) (off := 1) (n := 1) (vs := [.int .i64 (IntKind.i64.wrap x5.1)]) (cs := [.int .i64 (IntKind.i64.wrap x3.1), .int .i64 0, .int .u64 0, .slice none 0 0]) (e := 55) s (by kernel_rfl) rfl rfl (flat_ok rfl) (Nat.le_of_ble_eq_true rfl) ?_)
  clear s
  rintro w12 s k12 -
  replace e6 := e6.st k12
  replace rp1 := rp1.st k12
  replace kk := kk.trans k12
  refine RW.seg hT 1 [] [] [.pointer (some ⟨b4, 2, none⟩)] [] (by kernel_rfl) (trivial) ?_
  refine RW.op (by kernel_rfl) (OK.store hT (i := 1) (b := b4) (off := 2) (n := 1) (vs := [.int .u64 x6.1]) (cs := [.int .i64 (IntKind.i64.wrap x3.1), .int .i64 (IntKind.i64.wrap x5.1), .int .u64 0, .slice none 0 0]) (e := 55) s (by kernel_rfl) rfl rfl (flat_ok rfl) (Nat.le_of_ble_eq_true rfl) ?_)
  clear s
  rintro w13 s k13 -
  replace e6 := e6.st k13
  replace rp1 := rp1.st k13
  replace kk := kk.trans k13
  refine RW.nil ?_
  refine WPK.seq ?_
  refine WPK.region ?_
  refine RW.seg hT 1 [] [] [.pointer (some ⟨b3, 0, none⟩)] [] (by kernel_rfl) (trivial) ?_
  obtain ⟨x7, hx7, hf⟩ := bindS hf
  refine RW.op (by kernel_rfl) (OK.call' en85 (by kernel_rfl) (c85 (F := (.blk b4 (.cells #[.int .i64 (IntKind.i64.wrap x3.1), .int .i64 (IntKind.i64.wrap x5.1), .int .u64 x6.1, .slice none 0 0] 55 (0, 0))) :: (.sl (.slice (some ⟨b1, 0, none⟩) 256 256) 91 1 256 cl1) :: (.blk b2 (.cells #[.int .i64 0, .int .i64 0, .int .u64 0, .slice none 0 0] 55 (0, 0))) :: F) x6.2 240 b3 A7 u7 hc7 e6 s hx7) ?_)
  intro X7 hX7
  refine fun _ _ hJ => hJ X7 ?_
  clear s
  intro I8 A8 u8 A9 u9 w14 s k14 hc8 e7 hc9 e8
  refine hX7 _ _ ?_
  replace e6 := e6.st k14
  replace rp1 := rp1.st k14
  replace kk := kk.trans k14
  refine RW.seg hT 1 [] [] [.pointer (some ⟨b4, 3, none⟩)] [] (by kernel_rfl) (trivial) ?_
  refine RW.op (by kernel_rfl) (OK.store hT (i := 1) (b := b4) (off := 3) (n := 1) (vs := [.slice A8 x7.1.length u8]) (cs := [.int .i64 (IntKind.i64.wrap x3.1), .int .i64 (IntKind.i64.wrap x5.1), .int .u64 x6.1, .slice none 0 0]) (e := 55) s (by kernel_rfl) rfl rfl (flat_ok rfl) (Nat.le_of_ble_eq_true rfl) ?_)
  clear s
  rintro w15 s k15 -
  replace e7 := e7.st k15
  replace e8 := e8.st k15
  replace rp1 := rp1.st k15
  replace kk := kk.trans k15
  refine RW.nil ?_
  refine WPK.seq ?_
  refine WPK.region ?_
  refine RW.seg hT 2 [.agg #[.int .i64 (IntKind.i64.wrap x3.1), .int .i64 (IntKind.i64.wrap x5.1), .int .u64 x6.1, .slice A8 x7.1.length u8]] [] [.agg #[.int .i64 (IntKind.i64.wrap x3.1), .int .i64 (IntKind.i64.wrap x5.1), .int .u64 x6.1, .slice A8 x7.1.length u8], .int .u32 x2.1] [.cells ⟨b4, 0, none⟩ [.int .i64 (IntKind.i64.wrap x3.1), .int .i64 (IntKind.i64.wrap x5.1), .int .u64 x6.1, .slice A8 x7.1.length u8] 4] (by kernel_rfl) (s.cells (i := 1) rfl rfl rfl) ?_
  refine RW.op (by kernel_rfl) (OK.store hT (i := 3) (b := b2) (off := 0) (n := 4) (vs := [.int .i64 (IntKind.i64.wrap x3.1), .int .i64 (IntKind.i64.wrap x5.1), .int .u64 x6.1, .slice A8 x7.1.length u8]) (cs := [.int .i64 0, .int .i64 0, .int .u64 0, .slice none 0 0]) (e := 55) s (by kernel_rfl) rfl rfl (flat_ok rfl) (Nat.le_of_ble_eq_true rfl) ?_)
  clear s
  rintro w16 s k16 -
  replace e7 := e7.st k16
  replace e8 := e8.st k16
  replace rp1 := rp1.st k16
  replace kk := kk.trans k16
  refine RW.seg hT 1 [] [] [.int .u32 x2.1] [] (by kernel_rfl) (trivial) ?_
  refine RW.nil ?_
  refine WPK.ret (?_)
  obtain rfl := someS hf
  refine Fin.of (rs := [.cell 2 55, .tmp 3]) hT [.agg #[.int .i64 (IntKind.i64.wrap x3.1), .int .i64 (IntKind.i64.wrap x5.1), .int .u64 x6.1, .slice A8 x7.1.length u8]] (.tuple #[.agg #[.int .i64 (IntKind.i64.wrap x3.1), .int .i64 (IntKind.i64.wrap x5.1), .int .u64 x6.1, .slice A8 x7.1.length u8], .int .u32 x2.1]) [.cells ⟨b2, 0, none⟩ [.int .i64 (IntKind.i64.wrap x3.1), .int .i64 (IntKind.i64.wrap x5.1), .int .u64 x6.1, .slice A8 x7.1.length u8] 4] rfl (by kernel_rfl) (s.cells (i := 3) rfl rfl rfl) ?_
  replace s := s.pick [] 4 rfl
  exact fun X h => vc rfl (h I8 A8 u8 _ s kk hc8 e7)
theorem c70 {w1 w : World} {M I : Nat → Prop} {F : List It} (p0 : (List Int)) (p1 : Int) (A1 : Option Addr) (u1 : Nat) (hc1 : (p0.length ≤ u1 ∧ u1 ≤ 9223372036854775807)) (e1 : Elems (Rp.int .u8) I w A1 p0) (eg2 : Elems (Rp.int .u32) I w (some ⟨2, 0, none⟩) TAB2) (s : St w1 M I (F) w) {r : (T_api_Frame × Int)} (hf : g70 p0 p1 = some r) :
    Ret Tryd.prog 70 [.slice A1 p0.length u1, .int .i64 p1] w fun v wz => ∀ X : Value → World → Prop, (∀ (I' : Nat → Prop) (A2 : Option Addr) (u2 : Nat) (w' : World), St w1 M I' (F) w' → Kp I w I' w' → (r.1.Data.length ≤ u2 ∧ u2 ≤ 9223372036854775807) → Elems (Rp.int .u8) I' w' A2 r.1.Data → X (.tuple #[.agg #[.int .i64 r.1.Kind, .int .i64 r.1.Page, .int .u64 r.1.Epoch, .slice A2 r.1.Data.length u2], .int .i64 r.2]) w') → X v wz := by
  have kk : Kp I w I w := Kp.refl
  unfold g70 at hf
  refine Ret.of Tryd.func70 rfl ?_
  refine WPK.seq ?_
  refine WPK.region ?_
  refine RW.op (by kernel_rfl) (OK.new hT (f := fun b => .pointer (some ⟨b, 0, none⟩)) (cs := [.int .i64 0, .int .i64 0, .int .u64 0, .slice none 0 0]) (e := 55) (c := .tt) s (by kernel_rfl) trivial ?_)
  clear s
  rintro w2 b1 s k1 -
  replace e1 := e1.st k1
  replace eg2 := eg2.st k1
  replace kk := kk.trans k1
  refine RW.seg hT 1 [] [] [.int .i64 0] [] (by kernel_rfl) (trivial) ?_
  refine RW.nil ?_
  refine WPK.seq ?_
  refine WPK.seq ?_
  refine WPK.region ?_
  refine RW.seg hT 3 [] [(11, .bool (decide ((p0.length : Int) ≠ 256)))] [.slice A1 p0.length u1, .int .i64 (p0.length : Int), .bool (decide ((p0.length : Int) ≠ 256))] [.veq (.bool ((p0.length : Int) != 256)) (.bool (decide ((p0.length : Int) ≠ 256)))] (by kernel_rfl) (ne_v) ?_
  refine RW.nil ?_
  by_cases h1 : (p0.length : Int) ≠ 256
  have hf := iteT h1 hf
  refine WPK.condT (Eq.trans (b := .bool (decide ((p0.length : Int) ≠ 256))) (by kernel_rfl) (bo_t h1)) ?_
  refine WPK.seq ?_
  refine WPK.region ?_
  refine RW.seg hT 1 [] [] [.agg #[.int .i64 0, .int .i64 0, .int .u64 0, .slice none 0 0]] [] (by kernel_rfl) (trivial) ?_
  refine RW.op (by kernel_rfl) (OK.store hT (i := 0) (b := b1) (off := 0) (n := 4) (vs := [.int .i64 0, .int .i64 0, .int .u64 0, .slice none 0 0]) (cs := [.int .i64 0, .int .i64 0, .int .u64 0, .slice none 0 0]) (e := 55) s (by kernel_rfl) rfl rfl (flat_ok rfl) (Nat.le_of_ble_eq_true rfl) ?_)
  clear s
  rintro w3 s k2 -
  replace e1 := e1.st k2
  replace eg2 := eg2.st k2
  replace kk := kk.trans k2
  refine RW.seg hT 1 [] [] [.int .i64 1] [] (by kernel_rfl) (trivial) ?_
  refine RW.nil ?_
  refine WPK.ret (?_)
  obtain rfl := someS hf
  refine Fin.of (rs := [.cell 4 55, .tmp 5]) hT [.agg #[.int .i64 0, .int .i64 0, .int .u64 0, .slice none 0 0]] (.tuple #[.agg #[.int .i64 0, .int .i64 0, .int .u64 0, .slice none 0 0], .int .i64 1]) [.cells ⟨b1, 0, none⟩ [.int .i64 0, .int .i64 0, .int .u64 0, .slice none 0 0] 4] rfl (by kernel_rfl) (s.cells (i := 0) rfl rfl rfl) ?_
  replace s := s.pick [] 1 rfl
  exact fun X h => vc rfl (h I none 0 _ s kk nil_hc Elems.nil)
  have hf := iteF h1 hf
  refine WPK.condF (Eq.trans (b := .bool (decide ((p0.length : Int) ≠ 256))) (by kernel_rfl) (bo_f h1)) ?_
  refine WPK.skip ?_
  refine WPK.seq ?_
  refine WPK.region ?_
  refine RW.seg hT 1 [] [] [.slice A1 p0.length u1] [] (by kernel_rfl) (trivial) ?_
  obtain ⟨h2, hf⟩ := iteS hf
  obtain ⟨b2, o1, rfl⟩ := Elems.some_of e1 h2 (by decide)
  refine RW.op (by kernel_rfl) (OK.head hT (t := 91) (N := 256) (e := 5) (A := (some ⟨b2, o1, none⟩)) (n := p0.length) (c := u1) (by kernel_rfl) rfl rfl h2 ?_)
  have hl1 : 256 = ((List.take 256 p0)).length := by rw [List.length_take]; omega
  refine RW.seg hT 1 [.agg (List.map (Value.int .u8) (List.take 256 p0)).toArray] [] [.agg (List.map (Value.int .u8) (List.take 256 p0)).toArray] [.cells ⟨b2, o1, none⟩ (List.map (Value.int .u8) (List.take 256 p0)) 256] (by kernel_rfl) (Elems.arr e1 h2) ?_
  refine RW.op (by kernel_rfl) (OK.new hT (f := fun b => .pointer (some ⟨b, 0, none⟩)) (cs := (List.replicate 256 (Value.int .u8 0))) (e := 91) (c := .tt) s (by kernel_rfl) trivial ?_)
  clear s
  rintro w4 b3 s k3 -
  have hn1 : 256 = ((List.replicate 256 (0 : Int))).length := by simp
  obtain ⟨cl1, hcl1⟩ : ∃ q, q = (List.replicate 256 (Value.int .u8 0)) := ⟨_, rfl⟩
  replace s := s.blkSl (i := 0) (n := 256) (c := 256) (size := 1) rfl (by simp) (Nat.le_refl _) (by decide)
  rw [List.take_of_length_le (by simp), ← hcl1] at s
  replace e1 := e1.st k3
  replace eg2 := eg2.st k3
  replace kk := kk.trans k3
  have rp1 : RepL (Rp.int .u8) I w4 cl1 (List.replicate 256 (0 : Int)) := by rw [hcl1]; exact RepL.rep rfl _
  obtain ⟨cl2, hcl2⟩ : ∃ q, q = List.map (Value.int .u8) (List.take 256 p0) := ⟨_, rfl⟩
  have rp2 : RepL (Rp.int .u8) I w4 cl2 (List.take 256 p0) := by rw [hcl2]; exact repl_map
  have hn2 := hl1
  refine RW.op (by kernel_rfl) (OK.storeAt hT (i := 0) (b := b3) (off := 0) (m := 256) (vs := (List.map (Value.int .u8) (List.take 256 p0))) (c := 256) (e := 91) (size := 1) (n := 256) (cl := cl1) (cl' := cl2) s (by kernel_rfl) rfl (by rw [List.length_map]; exact (hl1).symm) (RepL.flat flat_int (repl_map (I := I) (w := w4))) (by have h3 := RepL.length rp1; have h4 := (hn1).symm.trans hl1; have h5 : (Rp.int .u8).n = 1 := rfl; rw [h5] at h3; simp only [List.length_map]; omega) (by rw [hcl2]; have h3 := RepL.length rp1; have h5 : (Rp.int .u8).n = 1 := rfl; rw [h5, Nat.mul_one, ← hn1] at h3; exact setL_all (by rw [List.length_map, h3]; exact (hl1).symm)) ?_)
  clear s
  rintro w5 s k4
  replace e1 := e1.st k4
  replace rp2 := rp2.st k4
  replace eg2 := eg2.st k4
  replace kk := kk.trans k4
  refine RW.nil ?_
  refine WPK.seq ?_
  refine WPK.region ?_
  refine RW.seg hT 1 [.agg (List.map (Value.int .u8) (List.take 256 p0)).toArray] [] [.agg (List.map (Value.int .u8) (List.take 256 p0)).toArray] [.cells ⟨b3, 0, none⟩ (List.map (Value.int .u8) (List.take 256 p0)) 256] (by kernel_rfl) (St.arr s (i := 0) rfl rp2 hn2) ?_
  obtain ⟨x1, hx1, hf⟩ := bindS hf
  refine RW.op (by kernel_rfl) (OK.call' en80 (by kernel_rfl) (c80 (F := (.sl (.slice (some ⟨b3, 0, none⟩) 256 256) 91 1 256 cl2) :: (.blk b1 (.cells #[.int .i64 0, .int .i64 0, .int .u64 0, .slice none 0 0] 55 (0, 0))) :: F) (List.take 256 p0) hn2 s hx1) ?_)
  intro X1 hX1
  refine fun _ _ hJ => hJ X1 ?_
  clear s
  intro I1 A3 u3 w6 s k5 hc2 e2
  refine hX1 _ _ ?_
  replace e1 := e1.st k5
  replace rp2 := rp2.st k5
  replace eg2 := eg2.st k5
  replace kk := kk.trans k5
  refine RW.seg hT 3 [] [] [.tuple #[.agg #[.int .i64 x1.1.Kind, .int .i64 x1.1.Page, .int .u64 x1.1.Epoch, .slice A3 x1.1.Data.length u3], .int .u32 x1.2], .agg #[.int .i64 x1.1.Kind, .int .i64 x1.1.Page, .int .u64 x1.1.Epoch, .slice A3 x1.1.Data.length u3], .int .u32 x1.2] [] (by kernel_rfl) (trivial) ?_
  refine RW.op (by kernel_rfl) (OK.new hT (f := fun b => .pointer (some ⟨b, 0, none⟩)) (cs := [.int .i64 0, .int .i64 0, .int .u64 0, .slice none 0 0]) (e := 55) (c := .tt) s (by kernel_rfl) trivial ?_)
  clear s
  rintro w7 b4 s k6 -
  replace e1 := e1.st k6
  replace e2 := e2.st k6
  replace rp2 := rp2.st k6
  replace eg2 := eg2.st k6
  replace kk := kk.trans k6
  refine RW.op (by kernel_rfl) (OK.store hT (i := 0) (b := b4) (off := 0) (n := 4) (vs := [.int .i64 x1.1.Kind, .int .i64 x1.1.Page, .int .u64 x1.1.Epoch, .slice A3 x1.1.Data.length u3]) (cs := [.int .i64 0, .int .i64 0, .int .u64 0, .slice none 0 0]) (e := 55) s (by kernel_rfl) rfl rfl (flat_ok rfl) (Nat.le_of_ble_eq_true rfl) ?_)
  clear s
  rintro w8 s k7 -
  replace e1 := e1.st k7
  replace e2 := e2.st k7
  replace rp2 := rp2.st k7
  replace eg2 := eg2.st k7
  replace kk := kk.trans k7
  refine RW.seg hT 1 [] [] [.int .u32 x1.2] [] (by kernel_rfl) (trivial) ?_
  refine RW.nil ?_
  refine WPK.seq ?_
  refine WPK.block ?_
  refine WPK.seq ?_
  refine WPK.cut' (Kn fun D1 ds wz => ∀ X : Kont, (∀ (I2 : Nat → Prop) (x2 : Bool) (w' : World), g70_j1 p0 p1 x1 x2 = some r → St w1 M I2 ((.blk b4 (.cells #[.int .i64 x1.1.Kind, .int .i64 x1.1.Page, .int .u64 x1.1.Epoch, .slice A3 x1.1.Data.length u3] 55 (0, 0))) :: (.sl (.slice (some ⟨b3, 0, none⟩) 256 256) 91 1 256 cl2) :: (.blk b1 (.cells #[.int .i64 0, .int .i64 0, .int .u64 0, .slice none 0 0] 55 (0, 0))) :: F) w' → Kp I w I2 w' → Elems (Rp.int .u8) I2 w' A3 x1.1.Data → RepL (Rp.int .u8) I2 w' cl2 (List.take 256 p0) → Elems (Rp.int .u32) I2 w' (some ⟨2, 0, none⟩) TAB2 → X [(D1.getD 0 undef), .int .i64 p1, (D1.getD 2 undef), (D1.getD 3 undef), .pointer (some ⟨b1, 0, none⟩), .int .i64 0, .pointer (some ⟨b3, 0, none⟩), .pointer (some ⟨b4, 0, none⟩), (D1.getD 8 undef), (D1.getD 9 undef), (D1.getD 10 undef), (D1.getD 11 undef), (D1.getD 12 undef), (D1.getD 13 undef), (D1.getD 14 undef), (D1.getD 15 undef), (D1.getD 16 undef), (D1.getD 17 undef), (D1.getD 18 undef), (D1.getD 19 undef), (D1.getD 20 undef), .bool x2, (D1.getD 22 undef), (D1.getD 23 undef), (D1.getD 24 undef), (D1.getD 25 undef), (D1.getD 26 undef), (D1.getD 27 undef), (D1.getD 28 undef), (D1.getD 29 undef), undef, undef, undef, undef, undef, undef, undef, undef, undef, undef, undef, undef, undef, undef, undef, undef, undef, undef, undef, undef, undef, undef, undef, undef] [] w') → X D1 ds wz) ?_ ?_
  intro X2 hX2
  refine fun D1 _ _ hJ => hJ X2 ?_
  clear s
  intro I2 x2 w9 hf s kk e2 rp2 eg2
  refine hX2 _ _ _ ?_
  unfold g70_j1 at hf
  by_cases h6 : x2 = true
  have hf := iteT h6 hf
  refine WPK.condT (Eq.trans (b := .bool x2) (by kernel_rfl) (b_t h6)) ?_
  refine WPK.seq ?_
  refine WPK.region ?_
  refine RW.seg hT 1 [] [] [.agg #[.int .i64 0, .int .i64 0, .int .u64 0, .slice none 0 0]] [] (by kernel_rfl) (trivial) ?_
  refine RW.op (by kernel_rfl) (OK.store hT (i := 2) (b := b1) (off := 0) (n := 4) (vs := [.int .i64 0, .int .i64 0, .int .u64 0, .slice none 0 0]) (cs := [.int .i64 0, .int .i64 0, .int .u64 0, .slice none 0 0]) (e := 55) s (by kernel_rfl) rfl rfl (flat_ok rfl) (Nat.le_of_ble_eq_true rfl) ?_)
  clear s
  rintro w10 s k8 -
  replace e2 := e2.st k8
  replace rp2 := rp2.st k8
  replace eg2 := eg2.st k8
  replace kk := kk.trans k8
  refine RW.seg hT 1 [] [] [.int .i64 40] [] (by kernel_rfl) (trivial) ?_
  refine RW.nil ?_
  refine WPK.ret (blockQ.ret (?_))
  obtain rfl := someS hf
  refine Fin.of (rs := [.cell 4 55, .tmp 5]) hT [.agg #[.int .i64 0, .int .i64 0, .int .u64 0, .slice none 0 0]] (.tuple #[.agg #[.int .i64 0, .int .i64 0, .int .u64 0, .slice none 0 0], .int .i64 40]) [.cells ⟨b1, 0, none⟩ [.int .i64 0, .int .i64 0, .int .u64 0, .slice none 0 0] 4] rfl (by kernel_rfl) (s.cells (i := 2) rfl rfl rfl) ?_
  replace s := s.pick [] 3 rfl
  exact fun X h => vc rfl (h I2 none 0 _ s kk nil_hc Elems.nil)
  have hf := iteF h6 hf
  refine WPK.condF (Eq.trans (b := .bool x2) (by kernel_rfl) (b_f h6)) ?_
  refine WPK.seq ?_
  refine WPK.cut' (Kn fun D2 ds wz => ∀ X : Kont, (∀ (I3 : Nat → Prop) (x3 : Bool) (w' : World), g70_j2 p1 x1 x3 = some r → St w1 M I3 ((.blk b4 (.cells #[.int .i64 x1.1.Kind, .int .i64 x1.1.Page, .int .u64 x1.1.Epoch, .slice A3 x1.1.Data.length u3] 55 (0, 0))) :: (.blk b1 (.cells #[.int .i64 0, .int .i64 0, .int .u64 0, .slice none 0 0] 55 (0, 0))) :: F) w' → Kp I w I3 w' → Elems (Rp.int .u8) I3 w' A3 x1.1.Data → Elems (Rp.int .u32) I3 w' (some ⟨2, 0, none⟩) TAB2 → X [(D2.getD 0 undef), .int .i64 p1, (D2.getD 2 undef), (D2.getD 3 undef), .pointer (some ⟨b1, 0, none⟩), .int .i64 0, (D2.getD 6 undef), .pointer (some ⟨b4, 0, none⟩), (D2.getD 8 undef), (D2.getD 9 undef), (D2.getD 10 undef), (D2.getD 11 undef), (D2.getD 12 undef), (D2.getD 13 undef), (D2.getD 14 undef), (D2.getD 15 undef), (D2.getD 16 undef), (D2.getD 17 undef), (D2.getD 18 undef), (D2.getD 19 undef), (D2.getD 20 undef), (D2.getD 21 undef), (D2.getD 22 undef), (D2.getD 23 undef), (D2.getD 24 undef), (D2.getD 25 undef), (D2.getD 26 undef), (D2.getD 27 undef), (D2.getD 28 undef), (D2.getD 29 undef), (D2.getD 30 undef), .bool x3, (D2.getD 32 undef), (D2.getD 33 undef), (D2.getD 34 undef), (D2.getD 35 undef), (D2.getD 36 undef), (D2.getD 37 undef), (D2.getD 38 undef), (D2.getD 39 undef), (D2.getD 40 undef), undef, undef, undef, undef, undef, undef, undef, undef, undef, undef, undef, undef, undef] [] w') → X D2 ds wz) ?_ ?_
  intro X3 hX3
  refine fun D2 _ _ hJ => hJ X3 ?_
  clear s
  intro I3 x3 w11 hf s kk e2 eg2
  refine hX3 _ _ _ ?_
  unfold g70_j2 at hf
  by_cases h7 : x3 = true
  have hf := iteT h7 hf
  refine WPK.condT (Eq.trans (b := .bool x3) (by kernel_rfl) (b_t h7)) ?_
  refine WPK.seq ?_
  refine WPK.region ?_
  refine RW.seg hT 1 [] [] [.agg #[.int .i64 0, .int .i64 0, .int .u64 0, .slice none 0 0]] [] (by kernel_rfl) (trivial) ?_
  refine RW.op (by kernel_rfl) (OK.store hT (i := 1) (b := b1) (off := 0) (n := 4) (vs := [.int .i64 0, .int .i64 0, .int .u64 0, .slice none 0 0]) (cs := [.int .i64 0, .int .i64 0, .int .u64 0, .slice none 0 0]) (e := 55) s (by kernel_rfl) rfl rfl (flat_ok rfl) (Nat.le_of_ble_eq_true rfl) ?_)
  clear s
  rintro w12 s k9 -
  replace e2 := e2.st k9
  replace eg2 := eg2.st k9
  replace kk := kk.trans k9
  refine RW.seg hT 1 [] [] [.int .i64 42] [] (by kernel_rfl) (trivial) ?_
  refine RW.nil ?_
  refine WPK.ret (blockQ.ret (?_))
  obtain rfl := someS hf
  refine Fin.of (rs := [.cell 4 55, .tmp 5]) hT [.agg #[.int .i64 0, .int .i64 0, .int .u64 0, .slice none 0 0]] (.tuple #[.agg #[.int .i64 0, .int .i64 0, .int .u64 0, .slice none 0 0], .int .i64 42]) [.cells ⟨b1, 0, none⟩ [.int .i64 0, .int .i64 0, .int .u64 0, .slice none 0 0] 4] rfl (by kernel_rfl) (s.cells (i := 1) rfl rfl rfl) ?_
  replace s := s.pick [] 2 rfl
  exact fun X h => vc rfl (h I3 none 0 _ s kk nil_hc Elems.nil)
  have hf := iteF h7 hf
  refine WPK.condF (Eq.trans (b := .bool x3) (by kernel_rfl) (b_f h7)) ?_
  refine WPK.seq ?_
  refine WPK.region ?_
  refine RW.seg hT 4 [.int .i64 x1.1.Page] [(46, .bool (decide (x1.1.Page ≠ p1)))] [.pointer (some ⟨b4, 1, none⟩), .int .i64 x1.1.Page, .int .i64 p1, .bool (decide (x1.1.Page ≠ p1))] [.cell ⟨b4, 1, none⟩ (.int .i64 x1.1.Page), .veq (.bool (x1.1.Page != p1)) (.bool (decide (x1.1.Page ≠ p1)))] (by kernel_rfl) (⟨s.cell (i := 0) (off := 1) rfl rfl, ne_v⟩) ?_
  by_cases h8 : x1.1.Page ≠ p1
  have hf := iteT h8 hf
  refine RW.seg hT 6 [] [(47, .bool true)] [.bool true, undef, undef, undef, .bool true, .bool true] [.veq (.bool (decide (x1.1.Page ≠ p1))) (.bool true)] (by kernel_rfl) (bo_t h8) ?_
  refine RW.nil ?_
  refine WPK.condT (by kernel_rfl) ?_
  refine WPK.seq ?_
  refine WPK.region ?_
  refine RW.seg hT 1 [] [] [.agg #[.int .i64 0, .int .i64 0, .int .u64 0, .slice none 0 0]] [] (by kernel_rfl) (trivial) ?_
  refine RW.op (by kernel_rfl) (OK.store hT (i := 1) (b := b1) (off := 0) (n := 4) (vs := [.int .i64 0, .int .i64 0, .int .u64 0, .slice none 0 0]) (cs := [.int .i64 0, .int .i64 0, .int .u64 0, .slice none 0 0]) (e := 55) s (by kernel_rfl) rfl rfl (flat_ok rfl) (Nat.le_of_ble_eq_true rfl) ?_)
  clear s
  rintro w13 s k10 -
  replace e2 := e2.st k10
  replace eg2 := eg2.st k10
  replace kk := kk.trans k10
  refine RW.seg hT 1 [] [] [.int .i64 41] [] (by kernel_rfl) (trivial) ?_
  refine RW.nil ?_
  refine WPK.ret (blockQ.ret (?_))
  obtain rfl := someS hf
  refine Fin.of (rs := [.cell 4 55, .tmp 5]) hT [.agg #[.int .i64 0, .int .i64 0, .int .u64 0, .slice none 0 0]] (.tuple #[.agg #[.int .i64 0, .int .i64 0, .int .u64 0, .slice none 0 0], .int .i64 41]) [.cells ⟨b1, 0, none⟩ [.int .i64 0, .int .i64 0, .int .u64 0, .slice none 0 0] 4] rfl (by kernel_rfl) (s.cells (i := 1) rfl rfl rfl) ?_
  replace s := s.pick [] 2 rfl
  exact fun X h => vc rfl (h I3 none 0 _ s kk nil_hc Elems.nil)
  have hf := iteF h8 hf
  refine RW.seg hT 6 [.int .i64 x1.1.Page] [(47, .bool false)] [.bool false, .pointer (some ⟨b4, 1, none⟩), .int .i64 x1.1.Page, .bool (decide (x1.1.Page ≥ 2048)), .bool (decide (x1.1.Page ≥ 2048)), .bool (decide (x1.1.Page ≥ 2048))] [.veq (.bool (decide (x1.1.Page ≠ p1))) (.bool false), .cell ⟨b4, 1, none⟩ (.int .i64 x1.1.Page)] (by kernel_rfl) (⟨bo_f h8, s.cell (i := 0) (off := 1) rfl rfl⟩) ?_
  refine RW.nil ?_
  by_cases h9 : x1.1.Page ≥ 2048
  have hf := iteT h9 hf
  refine WPK.condT (Eq.trans (b := .bool (decide (x1.1.Page ≥ 2048))) (by kernel_rfl) (bo_t h9)) ?_
  refine WPK.seq ?_
  refine WPK.region ?_
  refine RW.seg hT 1 [] [] [.agg #[.int .i64 0, .int .i64 0, .int .u64 0, .slice none 0 0]] [] (by kernel_rfl) (trivial) ?_
  refine RW.op (by kernel_rfl) (OK.store hT (i := 1) (b := b1) (off := 0) (n := 4) (vs := [.int .i64 0, .int .i64 0, .int .u64 0, .slice none 0 0]) (cs := [.int .i64 0, .int .i64 0, .int .u64 0, .slice none 0 0]) (e := 55) s (by kernel_rfl) rfl rfl (flat_ok rfl) (Nat.le_of_ble_eq_true rfl) ?_)
  clear s
  rintro w14 s k11 -
  replace e2 := e2.st k11
  replace eg2 := eg2.st k11
  replace kk := kk.trans k11
  refine RW.seg hT 1 [] [] [.int .i64 41] [] (by kernel_rfl) (trivial) ?_
  refine RW.nil ?_
  refine WPK.ret (blockQ.ret (?_))
  obtain rfl := someS hf
  refine Fin.of (rs := [.cell 4 55, .tmp 5]) hT [.agg #[.int .i64 0, .int .i64 0, .int .u64 0, .slice none 0 0]] (.tuple #[.agg #[.int .i64 0, .int .i64 0, .int .u64 0, .slice none 0 0], .int .i64 41]) [.cells ⟨b1, 0, none⟩ [.int .i64 0, .int .i64 0, .int .u64 0, .slice none 0 0] 4] rfl (by kernel_rfl) (s.cells (i := 1) rfl rfl rfl) ?_
  replace s := s.pick [] 2 rfl
  exact fun X h => vc rfl (h I3 none 0 _ s kk nil_hc Elems.nil)
  have hf := iteF h9 hf
  refine WPK.condF (Eq.trans (b := .bool (decide (x1.1.Page ≥ 2048))) (by kernel_rfl) (bo_f h9)) ?_
  refine WPK.skip ?_
  refine WPK.seq ?_
  refine WPK.region ?_
  refine RW.seg hT 1 [.agg #[.int .i64 x1.1.Kind, .int .i64 x1.1.Page, .int .u64 x1.1.Epoch, .slice A3 x1.1.Data.length u3]] [] [.agg #[.int .i64 x1.1.Kind, .int .i64 x1.1.Page, .int .u64 x1.1.Epoch, .slice A3 x1.1.Data.length u3]] [.cells ⟨b4, 0, none⟩ [.int .i64 x1.1.Kind, .int .i64 x1.1.Page, .int .u64 x1.1.Epoch, .slice A3 x1.1.Data.length u3] 4] (by kernel_rfl) (s.cells (i := 0) rfl rfl rfl) ?_
  refine RW.op (by kernel_rfl) (OK.store hT (i := 1) (b := b1) (off := 0) (n := 4) (vs := [.int .i64 x1.1.Kind, .int .i64 x1.1.Page, .int .u64 x1.1.Epoch, .slice A3 x1.1.Data.length u3]) (cs := [.int .i64 0, .int .i64 0, .int .u64 0, .slice none 0 0]) (e := 55) s (by kernel_rfl) rfl rfl (flat_ok rfl) (Nat.le_of_ble_eq_true rfl) ?_)
  clear s
  rintro w15 s k12 -
  replace e2 := e2.st k12
  replace eg2 := eg2.st k12
  replace kk := kk.trans k12
  refine RW.seg hT 1 [] [] [.int .i64 0] [] (by kernel_rfl) (trivial) ?_
  refine RW.nil ?_
  refine WPK.ret (?_)
  obtain rfl := someS hf
  refine Fin.of (rs := [.cell 4 55, .tmp 5]) hT [.agg #[.int .i64 x1.1.Kind, .int .i64 x1.1.Page, .int .u64 x1.1.Epoch, .slice A3 x1.1.Data.length u3]] (.tuple #[.agg #[.int .i64 x1.1.Kind, .int .i64 x1.1.Page, .int .u64 x1.1.Epoch, .slice A3 x1.1.Data.length u3], .int .i64 0]) [.cells ⟨b1, 0, none⟩ [.int .i64 x1.1.Kind, .int .i64 x1.1.Page, .int .u64 x1.1.Epoch, .slice A3 x1.1.Data.length u3] 4] rfl (by kernel_rfl) (s.cells (i := 1) rfl rfl rfl) ?_
  replace s := s.pick [] 2 rfl
  exact fun X h => vc rfl (h I3 A3 u3 _ s kk hc2 e2)
  refine WPK.region ?_
  refine RW.seg hT 2 [.int .i64 x1.1.Kind] [] [.pointer (some ⟨b4, 0, none⟩), .int .i64 x1.1.Kind] [.cell ⟨b4, 0, none⟩ (.int .i64 x1.1.Kind)] (by kernel_rfl) (s.cell (i := 0) (off := 0) rfl rfl) ?_
  obtain ⟨x4, hx2, hf⟩ := bindS hf
  refine RW.op (by kernel_rfl) (OK.call' en72 (by kernel_rfl) (c72 (F := (.blk b4 (.cells #[.int .i64 x1.1.Kind, .int .i64 x1.1.Page, .int .u64 x1.1.Epoch, .slice A3 x1.1.Data.length u3] 55 (0, 0))) :: (.sl (.slice (some ⟨b3, 0, none⟩) 256 256) 91 1 256 cl2) :: (.blk b1 (.cells #[.int .i64 0, .int .i64 0, .int .u64 0, .slice none 0 0] 55 (0, 0))) :: F) x1.1.Kind s hx2) ?_)
  intro X4 hX4
  refine fun _ _ hJ => hJ X4 ?_
  clear s
  intro I4 w16 s k13
  refine hX4 _ _ ?_
  replace e2 := e2.st k13
  replace rp2 := rp2.st k13
  replace eg2 := eg2.st k13
  replace kk := kk.trans k13
  refine RW.seg hT 1 [] [(35, .bool (decide (¬ (x4 = true))))] [.bool (decide (¬ (x4 = true)))] [.veq (.bool (!x4)) (.bool (decide (¬ (x4 = true))))] (by kernel_rfl) (not_b) ?_
  by_cases h10 : ¬ (x4 = true)
  have hf := iteT h10 hf
  refine RW.seg hT 6 [] [(36, .bool true)] [.bool true, undef, undef, undef, .bool true, .bool true] [.veq (.bool (decide (¬ (x4 = true)))) (.bool true)] (by kernel_rfl) (bo_t h10) ?_
  refine RW.nil ?_
  replace s := s.pick [0, 2] 3 rfl
  exact fun X h => kc (by kernel_rfl) rfl (h I4 true _ hf s kk e2 eg2)
  have hf := iteF h10 hf
  obtain ⟨x5, hx3, hf⟩ := bindS hf
  obtain ⟨h11, hx3⟩ := getS hx3
  rw [← hn2] at h11
  obtain ⟨-, cs1, hr1, ha1⟩ := St.elem s (i := 1) rfl hn2 rp2 hx3
  replace ha1 := ha1 _ rfl
  obtain rfl : cs1 = [.int .u8 x5] := hr1
  refine RW.seg hT 6 [.int .u8 x5] [(36, .bool false), (39, .bool (decide (x5 ≠ 0)))] [.bool false, .pointer (some ⟨b3, 0 + (5 : Int).toNat * 1, none⟩), .int .u8 x5, .bool (decide (x5 ≠ 0)), .bool (decide (x5 ≠ 0)), .bool (decide (x5 ≠ 0))] [.veq (.bool (decide (¬ (x4 = true)))) (.bool false), .idx 5 256, .cell ⟨b3, 0 + (5 : Int).toNat * 1, none⟩ (.int .u8 x5), .veq (.bool (x5 != 0)) (.bool (decide (x5 ≠ 0)))] (by kernel_rfl) (⟨bo_f h10, h11, ha1 0 _ rfl, ne_v⟩) ?_
  refine RW.nil ?_
  replace s := s.pick [0, 2] 3 rfl
  exact fun X h => kc (by kernel_rfl) rfl (h I4 (decide (x5 ≠ 0)) _ hf s kk e2 eg2)
  refine WPK.region ?_
  refine RW.seg hT 2 [.agg (List.map (Value.int .u8) (List.take 256 p0)).toArray] [] [.agg (List.map (Value.int .u8) (List.take 256 p0)).toArray, .agg (List.map (Value.int .u8) (List.replicate 256 (0 : Int))).toArray] [.cells ⟨b3, 0, none⟩ (List.map (Value.int .u8) (List.take 256 p0)) 256] (by kernel_rfl) (St.arr s (i := 1) rfl rp2 hn2) ?_
  refine RW.op (by kernel_rfl) (OK.arrEq hT (t := 91) (N := 256) (e := 5) (k := .u8) (b := true) (xs := (List.take 256 p0)) (ys := (List.replicate 256 (0 : Int))) (by kernel_rfl) (by kernel_rfl) rfl rfl rfl rfl rfl hn2 (by simp) ?_)
  by_cases h12 : (List.take 256 p0) = (List.replicate 256 (0 : Int))
  have hf := iteT h12 hf
  refine RW.seg hT 6 [] [(25, .bool true)] [.bool true, undef, undef, undef, .bool true, .bool true] [.veq (.bool (decide ((List.take 256 p0) = (List.replicate 256 (0 : Int))))) (.bool true)] (by kernel_rfl) (bo_t h12) ?_
  refine RW.nil ?_
  exact fun X h => kc (by kernel_rfl) rfl (h I1 true _ hf s kk e2 rp2 eg2)
  have hf := iteF h12 hf
  refine RW.seg hT 2 [] [(25, .bool false)] [.bool false, .int .u32 x1.2] [.veq (.bool (decide ((List.take 256 p0) = (List.replicate 256 (0 : Int))))) (.bool false)] (by kernel_rfl) (bo_f h12) ?_
  refine RW.op (by kernel_rfl) (OK.inl (args := [.pointer (some ⟨b3, 0, none⟩)]) en75 (by kernel_rfl) ?_)
  intro R1 hR1
  refine Ret.of Tryd.func75 rfl ?_
  refine WPK.seq ?_
  refine WPK.region ?_
  refine RW.seg hT 1 [] [] [.int .u32 0] [] (by kernel_rfl) (trivial) ?_
  refine RW.nil ?_
  refine WPK.seq ?_
  refine WPK.region ?_
  obtain ⟨h13, hf⟩ := iteS hf
  replace h13 : (0 : Int) ≤ 4 ∧ 4 ≤ ((List.take 256 p0).length : Int) ∧ ((List.take 256 p0).length : Int) ≤ ((256 : Nat) : Int) - 0 := by have hnn := hn2; omega
  obtain ⟨o2, n1, u4, q1, q2, q3, q4, q5, pt1⟩ := partS (b := b3) (c := 256) (Pt.whole (size := 1) (row_hc (s.at (i := 1) rfl)).1) (Nat.le_refl _) h13
  rw [Int.zero_add, Int.zero_add] at pt1
  replace q2 : 256 - (4 : Int).toNat = n1 := by rw [← q2]; have hnn := hn2; omega
  refine RW.seg hT 3 [] [(5, .slice (some ⟨b3, o2, none⟩) n1 u4)] [.pointer (some ⟨b3, 0, none⟩), .pointer (some ⟨b3, 0, none⟩), .slice (some ⟨b3, o2, none⟩) n1 u4] [.both (.cut 4 (256 : Nat) 256 256) (.veq (.slice (cutA (some ⟨b3, 0, none⟩) (4 : Int).toNat 256 1) (256 - (4 : Int).toNat) (256 - (4 : Int).toNat)) (.slice (some ⟨b3, o2, none⟩) n1 u4))] (by kernel_rfl) (⟨⟨(q5).1, by have h3 := (q5).2.1; have h4 := (q5).2.2.1; omega, by have := (q5).2.2.2; omega, by omega⟩, sl_eq q1 q2 q3⟩) ?_
  refine RW.op (by kernel_rfl) (OK.new hT (f := fun b => .slice (some ⟨b, 0, none⟩) 1 1) (cs := [.slice (some ⟨b3, o2, none⟩) n1 u4]) (e := 24) (c := .tt) s (by kernel_rfl) trivial ?_)
  clear s
  rintro w17 b5 s k14 -
  replace e2 := e2.st k14
  replace rp2 := rp2.st k14
  replace eg2 := eg2.st k14
  replace kk := kk.trans k14
  refine RW.op (by kernel_rfl) (OK.inl (args := [.slice (some ⟨b5, 0, none⟩) 1 1]) en81 (by kernel_rfl) ?_)
  intro R2 hR2
  refine Ret.of Tryd.func81 rfl ?_
  refine WPK.seq ?_
  refine WPK.region ?_
  refine RW.seg hT 1 [] [] [.int .u32 0] [] (by kernel_rfl) (trivial) ?_
  refine RW.nil ?_
  refine WPK.seq ?_
  refine WPK.region ?_
  refine RW.seg hT 1 [] [] [.slice (some ⟨b5, 0, none⟩) 1 1] [] (by kernel_rfl) (trivial) ?_
  refine RW.op (by kernel_rfl) (OK.inl (args := [.int .u32 0, .slice (some ⟨b5, 0, none⟩) 1 1]) en86 (by kernel_rfl) ?_)
  intro R3 hR3
  refine Ret.of Tryd.func86 rfl ?_
  refine WPK.seq ?_
  refine WPK.region ?_
  refine RW.seg hT 1 [] [] [.int .u32 0] [] (by kernel_rfl) (trivial) ?_
  refine RW.nil ?_
  refine WPK.seq ?_
  refine WPK.region ?_
  refine RW.seg hT 1 [] [] [.int .u32 0] [] (by kernel_rfl) (trivial) ?_
  obtain ⟨x6, hx4, hf⟩ := bindS hf
  refine RW.op (by kernel_rfl) (OK.call' en88 (by kernel_rfl) (c88 (F := (.blk b5 (.cells #[.slice (some ⟨b3, o2, none⟩) n1 u4] 24 (0, 0))) :: (.blk b4 (.cells #[.int .i64 x1.1.Kind, .int .i64 x1.1.Page, .int .u64 x1.1.Epoch, .slice A3 x1.1.Data.length u3] 55 (0, 0))) :: (.sl (.slice (some ⟨b3, 0, none⟩) 256 256) 91 1 256 cl2) :: (.blk b1 (.cells #[.int .i64 0, .int .i64 0, .int .u64 0, .slice none 0 0] 55 (0, 0))) :: F) 0 s hx4) ?_)
  intro X5 hX5
  refine fun _ _ hJ => hJ X5 ?_
  clear s
  intro I5 w18 s k15
  refine hX5 _ _ ?_
  replace e2 := e2.st k15
  replace rp2 := rp2.st k15
  replace eg2 := eg2.st k15
  replace kk := kk.trans k15
  refine RW.seg hT 1 [] [] [.int .u32 x6] [] (by kernel_rfl) (trivial) ?_
  refine RW.nil ?_
  refine WPK.seq ?_
  refine WPK.seq ?_
  refine WPK.region ?_
  refine RW.seg hT 3 [] [] [.slice (some ⟨b5, 0, none⟩) 1 1, .int .i64 1, .int .i64 0] [] (by kernel_rfl) (trivial) ?_
  refine RW.nil ?_
  refine WPK.block ?_
  refine WPK.rounds 12 ?_
  refine Rounds.go ?_
  refine WPK.seq ?_
  refine WPK.region ?_
  refine RW.seg hT 1 [] [] [.bool true] [] (by kernel_rfl) (trivial) ?_
  refine RW.nil ?_
  refine WPK.seq ?_
  refine WPK.condT (by kernel_rfl) ?_
  refine WPK.skip ?_
  refine WPK.seq ?_
  refine WPK.block ?_
  refine WPK.seq ?_
  refine WPK.region ?_
  refine RW.seg hT 3 [.slice (some ⟨b3, o2, none⟩) n1 u4] [] [.pointer (some ⟨b5, 0, none⟩), .slice (some ⟨b3, o2, none⟩) n1 u4, .slice (some ⟨b3, o2, none⟩) n1 u4] [.idx 0 1, .cell ⟨b5, 0, none⟩ (.slice (some ⟨b3, o2, none⟩) n1 u4)] (by kernel_rfl) (⟨⟨by decide, by decide⟩, s.cell (i := 0) (off := 0) rfl rfl⟩) ?_
  refine RW.nil ?_
  refine WPK.region ?_
  refine RW.seg hT 2 [] [] [.int .u32 x6, .slice (some ⟨b3, o2, none⟩) n1 u4] [] (by kernel_rfl) (trivial) ?_
  obtain ⟨y1, hy1, hf⟩ := bindS hf
  have sa1 := s
  obtain ⟨hm1, hc3, e3⟩ := St.lendPt s (i := 2) rfl rfl rp2 pt1 (q4) hy1
  have k16 := Kp.shut (I := I5) (w := w18) (p := .sl (.slice (some ⟨b3, 0, none⟩) 256 256) 91 1 256 cl2)
  replace s := s.shut 2 rfl
  obtain ⟨x7, hx5, hf⟩ := bindS hf
  have hc4 := c89 (F := (.blk b5 (.cells #[.slice (some ⟨b3, o2, none⟩) n1 u4] 24 (0, 0))) :: (.blk b4 (.cells #[.int .i64 x1.1.Kind, .int .i64 x1.1.Page, .int .u64 x1.1.Epoch, .slice A3 x1.1.Data.length u3] 55 (0, 0))) :: (.blk b1 (.cells #[.int .i64 0, .int .i64 0, .int .u64 0, .slice none 0 0] 55 (0, 0))) :: F) x6 y1 (some ⟨b3, o2, none⟩) u4 hc3 e3 (eg2.st k16) s hx5
  rw [← hm1] at hc4
  refine RW.op (by kernel_rfl) (OK.call' en89 (by kernel_rfl) (hc4) ?_)
  intro X6 hX6
  refine fun _ _ hJ => hJ X6 ?_
  clear s
  intro I6 w19 s k17
  refine hX6 _ _ ?_
  have s' := St.back sa1 (i := 2) rfl s k17
  replace k17 := Kp.back sa1 (i := 2) rfl k17
  replace s := s'; clear s'
  obtain ⟨I7, s, k17⟩ : ∃ I : Nat → Prop, St w1 M I ((.sl (.slice (some ⟨b3, 0, none⟩) 256 256) 91 1 256 cl2) :: (.blk b5 (.cells #[.slice (some ⟨b3, o2, none⟩) n1 u4] 24 (0, 0))) :: (.blk b4 (.cells #[.int .i64 x1.1.Kind, .int .i64 x1.1.Page, .int .u64 x1.1.Epoch, .slice A3 x1.1.Data.length u3] 55 (0, 0))) :: (.blk b1 (.cells #[.int .i64 0, .int .i64 0, .int .u64 0, .slice none 0 0] 55 (0, 0))) :: F) w19 ∧ Kp _ _ I _ := ⟨_, s, k17⟩
  replace e2 := e2.st k17
  replace eg2 := eg2.st k17
  replace rp2 := rp2.st k17
  replace kk := kk.trans k17
  refine RW.seg hT 1 [] [] [.int .u32 x7] [] (by kernel_rfl) (trivial) ?_
  refine RW.nil ?_
  refine WPK.region ?_
  refine RW.seg hT 2 [] [] [.int .i64 1, .int .i64 1] [] (by kernel_rfl) (trivial) ?_
  refine RW.nil ?_
  refine Rounds.go ?_
  refine WPK.seq ?_
  refine WPK.region ?_
  refine RW.seg hT 1 [] [] [.bool false] [] (by kernel_rfl) (trivial) ?_
  refine RW.nil ?_
  refine WPK.seq ?_
  refine WPK.condF (by kernel_rfl) ?_
  refine WPK.exit (blockQ.same ?_)
  refine WPK.seq ?_
  refine WPK.region ?_
  refine RW.seg hT 1 [] [] [.int .u32 x7] [] (by kernel_rfl) (trivial) ?_
  obtain ⟨x8, hx6, hf⟩ := bindS hf
  refine RW.op (by kernel_rfl) (OK.call' en90 (by kernel_rfl) (c90 (F := (.sl (.slice (some ⟨b3, 0, none⟩) 256 256) 91 1 256 cl2) :: (.blk b5 (.cells #[.slice (some ⟨b3, o2, none⟩) n1 u4] 24 (0, 0))) :: (.blk b4 (.cells #[.int .i64 x1.1.Kind, .int .i64 x1.1.Page, .int .u64 x1.1.Epoch, .slice A3 x1.1.Data.length u3] 55 (0, 0))) :: (.blk b1 (.cells #[.int .i64 0, .int .i64 0, .int .u64 0, .slice none 0 0] 55 (0, 0))) :: F) x7 s hx6) ?_)
  intro X7 hX7
  refine fun _ _ hJ => hJ X7 ?_
  clear s
  intro I8 w20 s k18
  refine hX7 _ _ ?_
  replace e2 := e2.st k18
  replace rp2 := rp2.st k18
  replace eg2 := eg2.st k18
  replace kk := kk.trans k18
  refine RW.seg hT 1 [] [] [.int .u32 x8] [] (by kernel_rfl) (trivial) ?_
  refine RW.nil ?_
  refine WPK.ret (?_)
  refine Fin.of (rs := [.tmp 4]) hT [] (.int .u32 x8) [] rfl (by kernel_rfl) (trivial) ?_
  refine hR3 _ _ ?_
  refine RW.seg hT 1 [] [] [.int .u32 x8] [] (by kernel_rfl) (trivial) ?_
  refine RW.nil ?_
  refine WPK.ret (?_)
  refine Fin.of (rs := [.tmp 2]) hT [] (.int .u32 x8) [] rfl (by kernel_rfl) (trivial) ?_
  refine hR2 _ _ ?_
  refine RW.seg hT 1 [] [] [.int .u32 x8] [] (by kernel_rfl) (trivial) ?_
  refine RW.nil ?_
  refine WPK.ret (?_)
  refine Fin.of (rs := [.tmp 2]) hT [] (.int .u32 x8) [] rfl (by kernel_rfl) (trivial) ?_
  refine hR1 _ _ ?_
  refine RW.seg hT 3 [] [(28, .bool (decide (x1.2 ≠ x8)))] [.bool (decide (x1.2 ≠ x8)), .bool (decide (x1.2 ≠ x8)), .bool (decide (x1.2 ≠ x8))] [.veq (.bool (x1.2 != x8)) (.bool (decide (x1.2 ≠ x8)))] (by kernel_rfl) (ne_v) ?_
  refine RW.nil ?_
  replace s := s.pick [2, 0, 3] 4 rfl
  exact fun X h => kc (by kernel_rfl) rfl (h I8 (decide (x1.2 ≠ x8)) _ hf s kk e2 rp2 eg2)
theorem c52 {w1 w : World} {M I : Nat → Prop} {F : List It} (p0 : (List Int)) (p1 : Int) (p2 : (List Int)) (A1 : Option Addr) (u1 : Nat) (A2 : Option Addr) (u2 : Nat) (hc1 : (p0.length ≤ u1 ∧ u1 ≤ 9223372036854775807)) (e1 : Elems (Rp.int .u8) I w A1 p0) (hc2 : (p2.length ≤ u2 ∧ u2 ≤ 9223372036854775807)) (e2 : Elems (Rp.int .i64) I w A2 p2) (eg2 : Elems (Rp.int .u32) I w (some ⟨2, 0, none⟩) TAB2) (s : St w1 M I (F) w) {r : (T_api_Frame × Int)} (hf : g52 p0 p1 p2 = some r) :
    Ret Tryd.prog 52 [.slice A1 p0.length u1, .int .i64 p1, .slice A2 p2.length u2] w fun v wz => ∀ X : Value → World → Prop, (∀ (I' : Nat → Prop) (A3 : Option Addr) (u3 : Nat) (w' : World), St w1 M I' (F) w' → Kp I w I' w' → (r.1.Data.length ≤ u3 ∧ u3 ≤ 9223372036854775807) → Elems (Rp.int .u8) I' w' A3 r.1.Data → X (.tuple #[.agg #[.int .i64 r.1.Kind, .int .i64 r.1.Page, .int .u64 r.1.Epoch, .slice A3 r.1.Data.length u3], .int .i64 r.2]) w') → X v wz := by
  have kk : Kp I w I w := Kp.refl
  unfold g52 at hf
  refine Ret.of Tryd.func52 rfl ?_
  refine WPK.seq ?_
  refine WPK.region ?_
  refine RW.op (by kernel_rfl) (OK.new hT (f := fun b => .pointer (some ⟨b, 0, none⟩)) (cs := [.int .i64 0, .int .i64 0, .int .u64 0, .slice none 0 0]) (e := 55) (c := .tt) s (by kernel_rfl) trivial ?_)
  clear s
  rintro w2 b1 s k1 -
  replace e1 := e1.st k1
  replace e2 := e2.st k1
  replace eg2 := eg2.st k1
  replace kk := kk.trans k1
  refine RW.seg hT 1 [] [] [.int .i64 0] [] (by kernel_rfl) (trivial) ?_
  refine RW.nil ?_
  refine WPK.seq ?_
  refine WPK.region ?_
  refine RW.seg hT 2 [] [] [.slice A1 p0.length u1, .int .i64 p1] [] (by kernel_rfl) (trivial) ?_
  obtain ⟨x1, hx1, hf⟩ := bindS hf
  refine RW.op (by kernel_rfl) (OK.call' en70 (by kernel_rfl) (c70 (F := (.blk b1 (.cells #[.int .i64 0, .int .i64 0, .int .u64 0, .slice none 0 0] 55 (0, 0))) :: F) p0 p1 A1 u1 hc1 e1 eg2 s hx1) ?_)
  intro X1 hX1
  refine fun _ _ hJ => hJ X1 ?_
  clear s
  intro I1 A4 u4 w3 s k2 hc3 e3
  refine hX1 _ _ ?_
  replace e1 := e1.st k2
  replace e2 := e2.st k2
  replace eg2 := eg2.st k2
  replace kk := kk.trans k2
  refine RW.seg hT 3 [] [] [.tuple #[.agg #[.int .i64 x1.1.Kind, .int .i64 x1.1.Page, .int .u64 x1.1.Epoch, .slice A4 x1.1.Data.length u4], .int .i64 x1.2], .agg #[.int .i64 x1.1.Kind, .int .i64 x1.1.Page, .int .u64 x1.1.Epoch, .slice A4 x1.1.Data.length u4], .int .i64 x1.2] [] (by kernel_rfl) (trivial) ?_
  refine RW.op (by kernel_rfl) (OK.new hT (f := fun b => .pointer (some ⟨b, 0, none⟩)) (cs := [.int .i64 0, .int .i64 0, .int .u64 0, .slice none 0 0]) (e := 55) (c := .tt) s (by kernel_rfl) trivial ?_)
  clear s
  rintro w4 b2 s k3 -
  replace e1 := e1.st k3
  replace e2 := e2.st k3
  replace e3 := e3.st k3
  replace eg2 := eg2.st k3
  replace kk := kk.trans k3
  refine RW.op (by kernel_rfl) (OK.store hT (i := 0) (b := b2) (off := 0) (n := 4) (vs := [.int .i64 x1.1.Kind, .int .i64 x1.1.Page, .int .u64 x1.1.Epoch, .slice A4 x1.1.Data.length u4]) (cs := [.int .i64 0, .int .i64 0, .int .u64 0, .slice none 0 0]) (e := 55) s (by kernel_rfl) rfl rfl (flat_ok rfl) (Nat.le_of_ble_eq_true rfl) ?_)
  clear s
  rintro w5 s k4 -
  replace e1 := e1.st k4
  replace e2 := e2.st k4
  replace e3 := e3.st k4
  replace eg2 := eg2.st k4
  replace kk := kk.trans k4
  refine RW.seg hT 1 [] [] [.int .i64 x1.2] [] (by kernel_rfl) (trivial) ?_
  refine RW.nil ?_
  refine WPK.seq ?_
  refine WPK.seq ?_
  refine WPK.cut' (Kn fun D1 ds wz => ∀ X : Kont, (∀ (I2 : Nat → Prop) (x2 : Bool) (w' : World), g52_j1 x1 x2 = some r → St w1 M I2 ((.blk b2 (.cells #[.int .i64 x1.1.Kind, .int .i64 x1.1.Page, .int .u64 x1.1.Epoch, .slice A4 x1.1.Data.length u4] 55 (0, 0))) :: (.blk b1 (.cells #[.int .i64 0, .int .i64 0, .int .u64 0, .slice none 0 0] 55 (0, 0))) :: F) w' → Kp I w I2 w' → Elems (Rp.int .u8) I2 w' A4 x1.1.Data → Elems (Rp.int .u32) I2 w' (some ⟨2, 0, none⟩) TAB2 → X [(D1.getD 0 undef), (D1.getD 1 undef), (D1.getD 2 undef), (D1.getD 3 undef), (D1.getD 4 undef), (D1.getD 5 undef), .pointer (some ⟨b1, 0, none⟩), .int .i64 0, .pointer (some ⟨b2, 0, none⟩), .int .i64 x1.2, (D1.getD 10 undef), (D1.getD 11 undef), (D1.getD 12 undef), (D1.getD 13 undef), (D1.getD 14 undef), (D1.getD 15 undef), (D1.getD 16 undef), (D1.getD 17 undef), (D1.getD 18 undef), (D1.getD 19 undef), (D1.getD 20 undef), (D1.getD 21 undef), (D1.getD 22 undef), (D1.getD 23 undef), .bool x2, undef, undef, undef] [] w') → X D1 ds wz) ?_ ?_
  intro X2 hX2
  refine fun D1 _ _ hJ => hJ X2 ?_
  clear s
  intro I2 x2 w6 hf s kk e3 eg2
  refine hX2 _ _ _ ?_
  unfold g52_j1 at hf
  by_cases h1 : x2 = true
  have hf := iteT h1 hf
  refine WPK.condT (Eq.trans (b := .bool x2) (by kernel_rfl) (b_t h1)) ?_
  refine WPK.seq ?_
  refine WPK.region ?_
  refine RW.seg hT 1 [] [] [.agg #[.int .i64 0, .int .i64 0, .int .u64 0, .slice none 0 0]] [] (by kernel_rfl) (trivial) ?_
  refine RW.op (by kernel_rfl) (OK.store hT (i := 1) (b := b1) (off := 0) (n := 4) (vs := [.int .i64 0, .int .i64 0, .int .u64 0, .slice none 0 0]) (cs := [.int .i64 0, .int .i64 0, .int .u64 0, .slice none 0 0]) (e := 55) s (by kernel_rfl) rfl rfl (flat_ok rfl) (Nat.le_of_ble_eq_true rfl) ?_)
  clear s
  rintro w7 s k5 -
  replace e3 := e3.st k5
  replace eg2 := eg2.st k5
  replace kk := kk.trans k5
  refine RW.seg hT 1 [] [] [.int .i64 42] [] (by kernel_rfl) (trivial) ?_
  refine RW.nil ?_
  refine WPK.ret (?_)
  obtain rfl := someS hf
  refine Fin.of (rs := [.cell 6 55, .tmp 7]) hT [.agg #[.int .i64 0, .int .i64 0, .int .u64 0, .slice none 0 0]] (.tuple #[.agg #[.int .i64 0, .int .i64 0, .int .u64 0, .slice none 0 0], .int .i64 42]) [.cells ⟨b1, 0, none⟩ [.int .i64 0, .int .i64 0, .int .u64 0, .slice none 0 0] 4] rfl (by kernel_rfl) (s.cells (i := 1) rfl rfl rfl) ?_
  replace s := s.pick [] 2 rfl
  exact fun X h => vc rfl (h I2 none 0 _ s kk nil_hc Elems.nil)
  have hf := iteF h1 hf
  refine WPK.condF (Eq.trans (b := .bool x2) (by kernel_rfl) (b_f h1)) ?_
  refine WPK.skip ?_
  refine WPK.seq ?_
  refine WPK.region ?_
  refine RW.seg hT 2 [.agg #[.int .i64 x1.1.Kind, .int .i64 x1.1.Page, .int .u64 x1.1.Epoch, .slice A4 x1.1.Data.length u4]] [] [.agg #[.int .i64 x1.1.Kind, .int .i64 x1.1.Page, .int .u64 x1.1.Epoch, .slice A4 x1.1.Data.length u4], .int .i64 x1.2] [.cells ⟨b2, 0, none⟩ [.int .i64 x1.1.Kind, .int .i64 x1.1.Page, .int .u64 x1.1.Epoch, .slice A4 x1.1.Data.length u4] 4] (by kernel_rfl) (s.cells (i := 0) rfl rfl rfl) ?_
  refine RW.op (by kernel_rfl) (OK.store hT (i := 1) (b := b1) (off := 0) (n := 4) (vs := [.int .i64 x1.1.Kind, .int .i64 x1.1.Page, .int .u64 x1.1.Epoch, .slice A4 x1.1.Data.length u4]) (cs := [.int .i64 0, .int .i64 0, .int .u64 0, .slice none 0 0]) (e := 55) s (by kernel_rfl) rfl rfl (flat_ok rfl) (Nat.le_of_ble_eq_true rfl) ?_)
  clear s
  rintro w8 s k6 -
  replace e3 := e3.st k6
  replace eg2 := eg2.st k6
  replace kk := kk.trans k6
  refine RW.seg hT 1 [] [] [.int .i64 x1.2] [] (by kernel_rfl) (trivial) ?_
  refine RW.nil ?_
  refine WPK.ret (?_)
  obtain rfl := someS hf
  refine Fin.of (rs := [.cell 6 55, .tmp 7]) hT [.agg #[.int .i64 x1.1.Kind, .int .i64 x1.1.Page, .int .u64 x1.1.Epoch, .slice A4 x1.1.Data.length u4]] (.tuple #[.agg #[.int .i64 x1.1.Kind, .int .i64 x1.1.Page, .int .u64 x1.1.Epoch, .slice A4 x1.1.Data.length u4], .int .i64 x1.2]) [.cells ⟨b1, 0, none⟩ [.int .i64 x1.1.Kind, .int .i64 x1.1.Page, .int .u64 x1.1.Epoch, .slice A4 x1.1.Data.length u4] 4] rfl (by kernel_rfl) (s.cells (i := 1) rfl rfl rfl) ?_
  replace s := s.pick [] 2 rfl
  exact fun X h => vc rfl (h I2 A4 u4 _ s kk hc3 e3)
  refine WPK.region ?_
  refine RW.seg hT 2 [] [(17, .bool (decide (x1.2 = 0)))] [.int .i64 x1.2, .bool (decide (x1.2 = 0))] [.veq (.bool (x1.2 == 0)) (.bool (decide (x1.2 = 0)))] (by kernel_rfl) (eq_v) ?_
  by_cases h2 : x1.2 = 0
  have hf := iteT h2 hf
  refine RW.seg hT 4 [.int .i64 x1.1.Kind] [(18, .bool true)] [.bool true, .slice A2 p2.length u2, .pointer (some ⟨b2, 0, none⟩), .int .i64 x1.1.Kind] [.veq (.bool (decide (x1.2 = 0))) (.bool true), .cell ⟨b2, 0, none⟩ (.int .i64 x1.1.Kind)] (by kernel_rfl) (⟨bo_t h2, s.cell (i := 0) (off := 0) rfl rfl⟩) ?_
  obtain ⟨x3, hx2, hf⟩ := bindS hf
  refine RW.op (by kernel_rfl) (OK.call' en65 (by kernel_rfl) (c65 (F := (.blk b2 (.cells #[.int .i64 x1.1.Kind, .int .i64 x1.1.Page, .int .u64 x1.1.Epoch, .slice A4 x1.1.Data.length u4] 55 (0, 0))) :: (.blk b1 (.cells #[.int .i64 0, .int .i64 0, .int .u64 0, .slice none 0 0] 55 (0, 0))) :: F) p2 x1.1.Kind A2 u2 hc2 e2 s hx2) ?_)
  intro X3 hX3
  refine fun _ _ hJ => hJ X3 ?_
  clear s
  intro I3 w9 s k7
  refine hX3 _ _ ?_
  replace e1 := e1.st k7
  replace e2 := e2.st k7
  replace e3 := e3.st k7
  replace eg2 := eg2.st k7
  replace kk := kk.trans k7
  refine RW.seg hT 2 [] [(23, .bool (decide (¬ (x3 = true))))] [.bool (decide (¬ (x3 = true))), .bool (decide (¬ (x3 = true)))] [.veq (.bool (!x3)) (.bool (decide (¬ (x3 = true))))] (by kernel_rfl) (not_b) ?_
  refine RW.nil ?_
  exact fun X h => kc (by kernel_rfl) rfl (h I3 (decide (¬ (x3 = true))) _ hf s kk e3 eg2)
  have hf := iteF h2 hf
  refine RW.seg hT 7 [] [(18, .bool false)] [.bool false, undef, undef, undef, undef, undef, .bool false] [.veq (.bool (decide (x1.2 = 0))) (.bool false)] (by kernel_rfl) (bo_f h2) ?_
  refine RW.nil ?_
  exact fun X h => kc (by kernel_rfl) rfl (h I1 false _ hf s kk e3 eg2)
theorem c33_1 {w1 w : World} {M I : Nat → Prop} {F : List It} (p0 : T_pack_Reader) (b1 : Nat) (A1 : Option Addr) (n1 : Nat) (u1 : Nat) (cl1 : List Value) (hn1 : n1 = p0.b.length) (rp1 : RepL (Rp.int .u8) I w cl1 p0.b) (s : St w1 M I ((.blk b1 (.cells #[.slice A1 n1 u1, .int .i64 p0.err, .bool p0.made] 85 (0, 0))) :: (.sl (.slice A1 n1 u1) 5 1 n1 cl1) :: F) w) {r : (Int × T_pack_Reader)} (hf : g33_1 p0 = some r) :
    Ret Tryd.prog 33 [.pointer (some ⟨b1, 0, none⟩)] w fun v wz => ∀ X : Value → World → Prop, (∀ (I' : Nat → Prop) (A2 : Option Addr) (u2 : Nat) (w' : World), St w1 M I' ((.blk b1 (.cells #[.slice A2 r.2.b.length u2, .int .i64 r.2.err, .bool r.2.made] 85 (0, 0))) :: F) w' → Kp I w I' w' → (r.2.b.length ≤ u2 ∧ u2 ≤ 9223372036854775807) → Elems (Rp.int .u8) I' w' A2 r.2.b → X (.int .u16 r.1) w') → X v wz := by
  have kk : Kp I w I w := Kp.refl
  unfold g33_1 at hf
  refine Ret.of Tryd.func33 rfl ?_
  refine WPK.seq ?_
  refine WPK.region ?_
  refine RW.seg hT 1 [] [] [.int .u16 0] [] (by kernel_rfl) (trivial) ?_
  refine RW.nil ?_
  refine WPK.seq ?_
  refine WPK.region ?_
  refine RW.seg hT 1 [] [] [.pointer (some ⟨b1, 0, none⟩)] [] (by kernel_rfl) (trivial) ?_
  obtain ⟨x1, hx1, hf⟩ := bindS hf
  refine RW.op (by kernel_rfl) (OK.call' en55 (by kernel_rfl) (c55 (F := F) p0 2 b1 A1 n1 u1 cl1 hn1 rp1 s hx1) ?_)
  intro X1 hX1
  refine fun _ _ hJ => hJ X1 ?_
  clear s
  intro I1 A3 u3 w2 s k1 hc1 e1
  refine hX1 _ _ ?_
  replace rp1 := rp1.st k1
  replace kk := kk.trans k1
  refine RW.seg hT 2 [undef] [] [.int .u16 (IntKind.u16.wrap x1.1), .int .u16 (IntKind.u16.wrap x1.1)] [] (by kernel_rfl) (trivial) ?_
  refine RW.nil ?_
  refine WPK.ret (?_)
  obtain rfl := someS hf
  refine Fin.of (rs := [.tmp 2]) hT [] (.int .u16 (IntKind.u16.wrap x1.1)) [] rfl (by kernel_rfl) (trivial) ?_
  exact fun X h => vc rfl (h I1 A3 u3 _ s kk hc1 e1)
theorem c35 {w1 w : World} {M I : Nat → Prop} {F : List It} (p0 : T_pack_Reader) (p1 : Int) (b1 : Nat) (A1 : Option Addr) (u1 : Nat) (hc1 : (p0.b.length ≤ u1 ∧ u1 ≤ 9223372036854775807)) (e1 : Elems (Rp.int .u8) I w A1 p0.b) (s : St w1 M I ((.blk b1 (.cells #[.slice A1 p0.b.length u1, .int .i64 p0.err, .bool p0.made] 85 (0, 0))) :: F) w) {r : ((List Int) × T_pack_Reader)} (hf : g35 p0 p1 = some r) :
    Ret Tryd.prog 35 [.pointer (some ⟨b1, 0, none⟩), .int .i64 p1] w fun v wz => ∀ X : Value → World → Prop, (∀ (I' : Nat → Prop) (A2 : Option Addr) (u2 : Nat) (A3 : Option Addr) (u3 : Nat) (w' : World), St w1 M I' ((.blk b1 (.cells #[.slice A3 r.2.b.length u3, .int .i64 r.2.err, .bool r.2.made] 85 (0, 0))) :: F) w' → Kp I w I' w' → (r.1.length ≤ u2 ∧ u2 ≤ 9223372036854775807) → Elems (Rp.int .u8) I' w' A2 r.1 → (r.2.b.length ≤ u3 ∧ u3 ≤ 9223372036854775807) → Elems (Rp.int .u8) I' w' A3 r.2.b → X (.slice A2 r.1.length u2) w') → X v wz := by
  have kk : Kp I w I w := Kp.refl
  unfold g35 at hf
  refine Ret.of Tryd.func35 rfl ?_
  refine WPK.seq ?_
  refine WPK.region ?_
  refine RW.seg hT 1 [] [] [.slice none 0 0] [] (by kernel_rfl) (trivial) ?_
  refine RW.nil ?_
  refine WPK.seq ?_
  refine WPK.seq ?_
  refine WPK.region ?_
  refine RW.seg hT 1 [] [] [.pointer (some ⟨b1, 0, none⟩)] [] (by kernel_rfl) (trivial) ?_
  obtain ⟨x1, hx1, hf⟩ := bindS hf
  refine RW.op (by kernel_rfl) (OK.call' en56 (by kernel_rfl) (c56_1 (F := F) p0 b1 A1 u1 hc1 e1 s hx1) ?_)
  intro X1 hX1
  refine fun _ _ hJ => hJ X1 ?_
  clear s
  intro I1 w2 s k1
  refine hX1 _ _ ?_
  replace e1 := e1.st k1
  replace kk := kk.trans k1
  refine RW.nil ?_
  by_cases h1 : x1 = true
  have hf := iteT h1 hf
  refine WPK.condT (Eq.trans (b := .bool x1) (by kernel_rfl) (b_t h1)) ?_
  refine WPK.seq ?_
  refine WPK.region ?_
  refine RW.seg hT 1 [] [] [.slice none 0 0] [] (by kernel_rfl) (trivial) ?_
  refine RW.nil ?_
  refine WPK.ret (?_)
  obtain rfl := someS hf
  refine Fin.of (rs := [.tmp 4]) hT [] (.slice none 0 0) [] rfl (by kernel_rfl) (trivial) ?_
  exact fun X h => vc rfl (h I1 none 0 A1 u1 _ s kk nil_hc Elems.nil hc1 e1)
  have hf := iteF h1 hf
  refine WPK.condF (Eq.trans (b := .bool x1) (by kernel_rfl) (b_f h1)) ?_
  refine WPK.skip ?_
  refine WPK.seq ?_
  refine WPK.region ?_
  refine RW.seg hT 1 [] [] [.int .i64 0] [] (by kernel_rfl) (trivial) ?_
  refine RW.nil ?_
  refine WPK.seq ?_
  refine WPK.cut' (Kn fun D1 ds wz => ∀ X : Kont, (∀ (I2 : Nat → Prop) (x2 : Int) (w' : World), g35_j1 p0 x2 = some r → St w1 M I2 ((.blk b1 (.cells #[.slice A1 p0.b.length u1, .int .i64 p0.err, .bool p0.made] 85 (0, 0))) :: F) w' → Kp I w I2 w' → Elems (Rp.int .u8) I2 w' A1 p0.b → X [.pointer (some ⟨b1, 0, none⟩), (D1.getD 1 undef), (D1.getD 2 undef), (D1.getD 3 undef), .slice none 0 0, .int .i64 x2, (D1.getD 6 undef), (D1.getD 7 undef), (D1.getD 8 undef), (D1.getD 9 undef), (D1.getD 10 undef), (D1.getD 11 undef), (D1.getD 12 undef), (D1.getD 13 undef), (D1.getD 14 undef), (D1.getD 15 undef), (D1.getD 16 undef), (D1.getD 17 undef), (D1.getD 18 undef), (D1.getD 19 undef), (D1.getD 20 undef), (D1.getD 21 undef), (D1.getD 22 undef), (D1.getD 23 undef), (D1.getD 24 undef), (D1.getD 25 undef), (D1.getD 26 undef), (D1.getD 27 undef), (D1.getD 28 undef), (D1.getD 29 undef), (D1.getD 30 undef), (D1.getD 31 undef), (D1.getD 32 undef), (D1.getD 33 undef), (D1.getD 34 undef), (D1.getD 35 undef), (D1.getD 36 undef), (D1.getD 37 undef), (D1.getD 38 undef), (D1.getD 39 undef), (D1.getD 40 undef), (D1.getD 41 undef), undef, undef, undef, undef, (D1.getD 46 undef), undef, undef, undef, undef, undef, undef, undef, undef, undef, undef, undef] [] w') → X D1 ds wz) ?_ ?_
  intro X2 hX2
  refine fun D1 _ _ hJ => hJ X2 ?_
  clear s
  intro I2 x2 w3 hf s kk e1
  refine hX2 _ _ _ ?_
  unfold g35_j1 at hf
  refine WPK.seq ?_
  refine WPK.seq ?_
  refine WPK.region ?_
  refine RW.seg hT 2 [] [(43, .bool (decide (x2 ≠ 0)))] [.int .i64 x2, .bool (decide (x2 ≠ 0))] [.veq (.bool (x2 != 0)) (.bool (decide (x2 ≠ 0)))] (by kernel_rfl) (ne_v) ?_
  refine RW.nil ?_
  by_cases h2 : x2 ≠ 0
  have hf := iteT h2 hf
  refine WPK.condT (Eq.trans (b := .bool (decide (x2 ≠ 0))) (by kernel_rfl) (bo_t h2)) ?_
  refine WPK.seq ?_
  refine WPK.region ?_
  refine RW.seg hT 2 [] [] [.pointer (some ⟨b1, 0, none⟩), .int .i64 x2] [] (by kernel_rfl) (trivial) ?_
  obtain ⟨x3, hx2, hf⟩ := bindS hf
  refine RW.op (by kernel_rfl) (OK.call' en57 (by kernel_rfl) (c57_1 (F := F) p0 x2 b1 A1 u1 hc1 e1 s hx2) ?_)
  intro X3 hX3
  refine fun _ _ hJ => hJ X3 ?_
  clear s
  intro I3 A4 u4 w4 s k2 hc2 e2
  refine hX3 _ _ ?_
  replace e1 := e1.st k2
  replace kk := kk.trans k2
  refine RW.nil ?_
  refine WPK.seq ?_
  refine WPK.region ?_
  refine RW.seg hT 1 [] [] [.slice none 0 0] [] (by kernel_rfl) (trivial) ?_
  refine RW.nil ?_
  refine WPK.ret (?_)
  obtain rfl := someS hf
  refine Fin.of (rs := [.tmp 4]) hT [] (.slice none 0 0) [] rfl (by kernel_rfl) (trivial) ?_
  exact fun X h => vc rfl (h I3 none 0 A4 u4 _ s kk nil_hc Elems.nil hc2 e2)
  have hf := iteF h2 hf
  refine WPK.condF (Eq.trans (b := .bool (decide (x2 ≠ 0))) (by kernel_rfl) (bo_f h2)) ?_
  refine WPK.skip ?_
  refine WPK.seq ?_
  refine WPK.region ?_
  obtain ⟨x4, hx3, hf⟩ := bindS hf
  obtain ⟨h3, hx3⟩ := getS hx3
  obtain ⟨b2, o1, rfl⟩ := Elems.opn e1 hx3
  obtain ⟨cs1, hr1, ha1⟩ := Elems.get e1 hx3
  obtain rfl : cs1 = [.int .u8 x4] := hr1
  refine RW.seg hT 9 [.slice (some ⟨b2, o1, none⟩) p0.b.length u1, .int .u8 x4, undef] [] [.pointer (some ⟨b1, 0, none⟩), .pointer (some ⟨b1, 0, none⟩), .pointer (some ⟨b1, 0, none⟩), .pointer (some ⟨b1, 0, none⟩), .slice (some ⟨b2, o1, none⟩) p0.b.length u1, .pointer (some ⟨b2, o1 + (0 : Int).toNat * 1, none⟩), .int .u8 x4, .int .i64 (IntKind.i64.wrap x4), .int .i64 (IntKind.i64.wrap (1 + (IntKind.i64.wrap x4)))] [.cell ⟨b1, 0, none⟩ (.slice (some ⟨b2, o1, none⟩) p0.b.length u1), .idx 0 p0.b.length, .cell ⟨b2, o1 + (0 : Int).toNat * 1, none⟩ (.int .u8 x4)] (by kernel_rfl) (⟨s.cell (i := 0) (off := 0) rfl rfl, h3, ha1 0 _ rfl⟩) ?_
  obtain ⟨x5, hx4, hf⟩ := bindS hf
  refine RW.op (by kernel_rfl) (OK.call' en58 (by kernel_rfl) (c58_1 (F := F) p0 (IntKind.i64.wrap (1 + (IntKind.i64.wrap x4))) b1 (some ⟨b2, o1, none⟩) u1 hc1 e1 s hx4) ?_)
  intro X4 hX4
  refine fun _ _ hJ => hJ X4 ?_
  clear s
  intro I4 A5 u5 A6 u6 w5 s k3 hc3 e3 hc4 e4
  refine hX4 _ _ ?_
  replace e1 := e1.st k3
  replace kk := kk.trans k3
  obtain ⟨y1, hy1, hf⟩ := bindS hf
  obtain ⟨A7, u7, h4, hc5, e5, q1, q2, q3⟩ := slS (size := 1) rfl hc3 e3 hy1
  refine RW.seg hT 2 [] [(57, .slice A7 y1.length u7)] [.slice A7 y1.length u7, .slice A7 y1.length u7] [.both (.cut 1 (x5.1.length : Int) u5 u5) (.veq (.slice (cutA A5 (1 : Int).toNat u5 1) (x5.1.length - (1 : Int).toNat) (u5 - (1 : Int).toNat)) (.slice A7 y1.length u7))] (by kernel_rfl) (⟨⟨by omega, by omega, by omega, by omega⟩, sl_eq q1 q2 q3⟩) ?_
  refine RW.nil ?_
  refine WPK.ret (?_)
  obtain rfl := someS hf
  refine Fin.of (rs := [.tmp 4]) hT [] (.slice A7 y1.length u7) [] rfl (by kernel_rfl) (trivial) ?_
  exact fun X h => vc rfl (h I4 A7 u7 A6 u6 _ s kk hc5 e5 hc4 e4)
  refine WPK.block ?_
  refine WPK.seq ?_
  refine WPK.region ?_
  refine RW.seg hT 3 [] [] [.int .i64 p1, .bool (decide (p1 < 0)), .bool (decide (p1 < 0))] [] (by kernel_rfl) (trivial) ?_
  refine RW.nil ?_
  by_cases h5 : p1 < 0
  have hf := iteT h5 hf
  refine WPK.condT (Eq.trans (b := .bool (decide (p1 < 0))) (by kernel_rfl) (bo_t h5)) ?_
  refine WPK.region ?_
  refine RW.seg hT 1 [] [] [.int .i64 1] [] (by kernel_rfl) (trivial) ?_
  refine RW.nil ?_
  exact fun X h => kc (by kernel_rfl) rfl (h I1 1 _ hf s kk e1)
  have hf := iteF h5 hf
  refine WPK.condF (Eq.trans (b := .bool (decide (p1 < 0))) (by kernel_rfl) (bo_f h5)) ?_
  refine WPK.seq ?_
  refine WPK.region ?_
  refine RW.seg hT 7 [.slice A1 p0.b.length u1] [(17, .bool (decide ((p0.b.length : Int) = 0)))] [.pointer (some ⟨b1, 0, none⟩), .pointer (some ⟨b1, 0, none⟩), .pointer (some ⟨b1, 0, none⟩), .slice A1 p0.b.length u1, .int .i64 (p0.b.length : Int), .bool (decide ((p0.b.length : Int) = 0)), .bool (decide ((p0.b.length : Int) = 0))] [.cell ⟨b1, 0, none⟩ (.slice A1 p0.b.length u1), .veq (.bool ((p0.b.length : Int) == 0)) (.bool (decide ((p0.b.length : Int) = 0)))] (by kernel_rfl) (⟨s.cell (i := 0) (off := 0) rfl rfl, eq_v⟩) ?_
  refine RW.nil ?_
  by_cases h6 : (p0.b.length : Int) = 0
  have hf := iteT h6 hf
  refine WPK.condT (Eq.trans (b := .bool (decide ((p0.b.length : Int) = 0))) (by kernel_rfl) (bo_t h6)) ?_
  refine WPK.region ?_
  refine RW.seg hT 1 [] [] [.int .i64 10] [] (by kernel_rfl) (trivial) ?_
  refine RW.nil ?_
  exact fun X h => kc (by kernel_rfl) rfl (h I1 10 _ hf s kk e1)
  have hf := iteF h6 hf
  refine WPK.condF (Eq.trans (b := .bool (decide ((p0.b.length : Int) = 0))) (by kernel_rfl) (bo_f h6)) ?_
  refine WPK.seq ?_
  refine WPK.region ?_
  obtain ⟨x6, hx5, hf⟩ := bindS hf
  obtain ⟨h7, hx5⟩ := getS hx5
  obtain ⟨b3, o2, rfl⟩ := Elems.opn e1 hx5
  obtain ⟨cs2, hr2, ha2⟩ := Elems.get e1 hx5
  obtain rfl : cs2 = [.int .u8 x6] := hr2
  refine RW.seg hT 10 [.slice (some ⟨b3, o2, none⟩) p0.b.length u1, .int .u8 x6, undef] [] [.pointer (some ⟨b1, 0, none⟩), .pointer (some ⟨b1, 0, none⟩), .pointer (some ⟨b1, 0, none⟩), .slice (some ⟨b3, o2, none⟩) p0.b.length u1, .pointer (some ⟨b3, o2 + (0 : Int).toNat * 1, none⟩), .int .u8 x6, .int .i64 (IntKind.i64.wrap x6), .int .i64 p1, .bool (decide ((IntKind.i64.wrap x6) > p1)), .bool (decide ((IntKind.i64.wrap x6) > p1))] [.cell ⟨b1, 0, none⟩ (.slice (some ⟨b3, o2, none⟩) p0.b.length u1), .idx 0 p0.b.length, .cell ⟨b3, o2 + (0 : Int).toNat * 1, none⟩ (.int .u8 x6)] (by kernel_rfl) (⟨s.cell (i := 0) (off := 0) rfl rfl, h7, ha2 0 _ rfl⟩) ?_
  refine RW.nil ?_
  by_cases h8 : (IntKind.i64.wrap x6) > p1
  have hf := iteT h8 hf
  refine WPK.condT (Eq.trans (b := .bool (decide ((IntKind.i64.wrap x6) > p1))) (by kernel_rfl) (bo_t h8)) ?_
  refine WPK.region ?_
  refine RW.seg hT 1 [] [] [.int .i64 3] [] (by kernel_rfl) (trivial) ?_
  refine RW.nil ?_
  exact fun X h => kc (by kernel_rfl) rfl (h I1 3 _ hf s kk e1)
  have hf := iteF h8 hf
  refine WPK.condF (Eq.trans (b := .bool (decide ((IntKind.i64.wrap x6) > p1))) (by kernel_rfl) (bo_f h8)) ?_
  refine WPK.seq ?_
  have e1S1 := e1
  have kS1 : Kp I1 w2 I1 w2 := Kp.refl
  refine WPK.drawM (fun w' => ∃ I' : Nat → Prop, St w1 M I' ((.blk b1 (.cells #[.slice (some ⟨b3, o2, none⟩) p0.b.length u1, .int .i64 p0.err, .bool p0.made] 85 (0, 0))) :: F) w' ∧ Kp I1 w2 I' w') 14 [0, 1, 3, 7, 15, 31, 63, 0, 128, 384, 896, 1920, 4095, 8191] (by kernel_rfl) (by kernel_rfl) ?_
  intro ht1 w6 hd1
  have k4 := Kp.dr s hd1
  replace s := s.dr hd1
  replace e1 := e1.st k4
  replace kk := kk.trans k4
  replace kS1 := kS1.trans k4
  obtain ⟨x7, hx6, hf⟩ := bindS hf
  obtain ⟨h9, hx6⟩ := getS hx6
  obtain ⟨cs3, hr3, ha3, hb1⟩ := Elems.getI e1S1 hx6
  obtain rfl : cs3 = [.int .u8 x7] := hr3
  refine RD.segM hT ht1 (by kernel_rfl) [0, 1, 2, 3, 4, 5, 6, 7, 8, 9, 10, 11, 12, 13] [.slice (some ⟨b3, o2, none⟩) p0.b.length u1, .int .u8 x7, undef, .slice (some ⟨b3, o2, none⟩) p0.b.length u1] [] [.pointer (some ⟨b1, 0, none⟩), .pointer (some ⟨b1, 0, none⟩), .pointer (some ⟨b1, 0, none⟩), .slice (some ⟨b3, o2, none⟩) p0.b.length u1, .pointer (some ⟨b3, o2 + (0 : Int).toNat * 1, none⟩), .int .u8 x7, .int .i64 (IntKind.i64.wrap x7), .pointer (some ⟨b1, 0, none⟩), .pointer (some ⟨b1, 0, none⟩), .pointer (some ⟨b1, 0, none⟩), .slice (some ⟨b3, o2, none⟩) p0.b.length u1, .int .i64 (p0.b.length : Int), .bool (decide ((IntKind.i64.wrap x7) ≥ (p0.b.length : Int))), .bool (decide ((IntKind.i64.wrap x7) ≥ (p0.b.length : Int)))] [.cell ⟨b1, 0, none⟩ (.slice (some ⟨b3, o2, none⟩) p0.b.length u1), .idx 0 p0.b.length, .cell ⟨b3, o2 + (0 : Int).toNat * 1, none⟩ (.int .u8 x7), .cell ⟨b1, 0, none⟩ (.slice (some ⟨b3, o2, none⟩) p0.b.length u1)] (by kernel_rfl) (by rintro w' ⟨I', s, k⟩; have e1 := e1S1.st k; have ha3 := ha3.st k hb1; exact ⟨s.cell (i := 0) (off := 0) rfl rfl, h9, ha3 0 _ rfl, s.cell (i := 0) (off := 0) rfl rfl⟩) ⟨_, s.pick [0] 1 rfl, kS1⟩ ?_
  refine RD.done (by kernel_rfl) ?_
  by_cases h10 : (IntKind.i64.wrap x7) ≥ (p0.b.length : Int)
  have hf := iteT h10 hf
  refine WPK.condT (Eq.trans (b := .bool (decide ((IntKind.i64.wrap x7) ≥ (p0.b.length : Int)))) (by kernel_rfl) (bo_t h10)) ?_
  refine WPK.region ?_
  refine RW.seg hT 1 [] [] [.int .i64 10] [] (by kernel_rfl) (trivial) ?_
  refine RW.nil ?_
  exact fun X h => kc (by kernel_rfl) rfl (h I1 10 _ hf s kk e1)
  have hf := iteF h10 hf
  refine WPK.condF (Eq.trans (b := .bool (decide ((IntKind.i64.wrap x7) ≥ (p0.b.length : Int)))) (by kernel_rfl) (bo_f h10)) ?_
  refine WPK.skip ?_
  exact fun X h => kc (by kernel_rfl) rfl (h I1 0 _ hf s kk e1)
theorem c36 {w1 w : World} {M I : Nat → Prop} {F : List It} (p0 : T_pack_Reader) (b1 : Nat) (A1 : Option Addr) (u1 : Nat) (hc1 : (p0.b.length ≤ u1 ∧ u1 ≤ 9223372036854775807)) (e1 : Elems (Rp.int .u8) I w A1 p0.b) (s : St w1 M I ((.blk b1 (.cells #[.slice A1 p0.b.length u1, .int .i64 p0.err, .bool p0.made] 85 (0, 0))) :: F) w) {r : Int} (hf : g36 p0 = some r) :
    Ret Tryd.prog 36 [.pointer (some ⟨b1, 0, none⟩)] w fun v wz => ∀ X : Value → World → Prop, (∀ (I' : Nat → Prop) (w' : World), St w1 M I' ((.blk b1 (.cells #[.slice A1 p0.b.length u1, .int .i64 p0.err, .bool p0.made] 85 (0, 0))) :: F) w' → Kp I w I' w' → X (.int .i64 r) w') → X v wz := by
  have kk : Kp I w I w := Kp.refl
  unfold g36 at hf
  refine Ret.of Tryd.func36 rfl ?_
  refine WPK.seq ?_
  refine WPK.region ?_
  refine RW.seg hT 1 [] [] [.int .i64 0] [] (by kernel_rfl) (trivial) ?_
  refine RW.nil ?_
  refine WPK.seq ?_
  refine WPK.seq ?_
  refine WPK.region ?_
  refine RW.seg hT 9 [.bool p0.made] [(10, .bool (decide (¬ (p0.made = true))))] [.pointer (some ⟨b1, 0, none⟩), .bool false, .bool false, .pointer (some ⟨b1, 0, none⟩), .pointer (some ⟨b1, 0, none⟩), .pointer (some ⟨b1, 2, none⟩), .bool p0.made, .bool (decide (¬ (p0.made = true))), .bool (decide (¬ (p0.made = true)))] [.cell ⟨b1, 2, none⟩ (.bool p0.made), .veq (.bool (!p0.made)) (.bool (decide (¬ (p0.made = true))))] (by kernel_rfl) (⟨s.cell (i := 0) (off := 2) rfl rfl, not_b⟩) ?_
  refine RW.nil ?_
  by_cases h1 : ¬ (p0.made = true)
  have hf := iteT h1 hf
  refine WPK.condT (Eq.trans (b := .bool (decide (¬ (p0.made = true)))) (by kernel_rfl) (bo_t h1)) ?_
  refine WPK.seq ?_
  refine WPK.region ?_
  refine RW.seg hT 1 [] [] [.int .i64 2] [] (by kernel_rfl) (trivial) ?_
  refine RW.nil ?_
  refine WPK.ret (?_)
  obtain rfl := someS hf
  refine Fin.of (rs := [.tmp 2]) hT [] (.int .i64 2) [] rfl (by kernel_rfl) (trivial) ?_
  exact fun X h => vc rfl (h I _ s kk)
  have hf := iteF h1 hf
  refine WPK.condF (Eq.trans (b := .bool (decide (¬ (p0.made = true)))) (by kernel_rfl) (bo_f h1)) ?_
  refine WPK.skip ?_
  refine WPK.seq ?_
  refine WPK.region ?_
  refine RW.seg hT 5 [.int .i64 p0.err] [] [.pointer (some ⟨b1, 0, none⟩), .pointer (some ⟨b1, 0, none⟩), .pointer (some ⟨b1, 1, none⟩), .int .i64 p0.err, .int .i64 p0.err] [.cell ⟨b1, 1, none⟩ (.int .i64 p0.err)] (by kernel_rfl) (s.cell (i := 0) (off := 1) rfl rfl) ?_
  refine RW.nil ?_
  refine WPK.ret (?_)
  obtain rfl := someS hf
  refine Fin.of (rs := [.tmp 2]) hT [] (.int .i64 p0.err) [] rfl (by kernel_rfl) (trivial) ?_
  exact fun X h => vc rfl (h I _ s kk)
theorem c24 {w1 w : World} {M I : Nat → Prop} {F : List It} (p0 : (List Int)) (p1 : (List Int)) (A1 : Option Addr) (u1 : Nat) (A2 : Option Addr) (u2 : Nat) (hc1 : (p0.length ≤ u1 ∧ u1 ≤ 9223372036854775807)) (e1 : Elems (Rp.int .u8) I w A1 p0) (hc2 : (p1.length ≤ u2 ∧ u2 ≤ 9223372036854775807)) (e2 : Elems (Rp.int .u8) I w A2 p1) (s : St w1 M I (F) w) {r : Bool} (hf : g24 p0 p1 = some r) :
    Ret Tryd.prog 24 [.slice A1 p0.length u1, .slice A2 p1.length u2] w fun v wz => ∀ X : Value → World → Prop, (∀ (I' : Nat → Prop) (w' : World), St w1 M I' (F) w' → Kp I w I' w' → X (.bool r) w') → X v wz := by
  have kk : Kp I w I w := Kp.refl
  unfold g24 at hf
  refine Ret.of Tryd.func24 rfl ?_
  refine WPK.seq ?_
  refine WPK.region ?_
  refine RW.seg hT 1 [] [] [.bool false] [] (by kernel_rfl) (trivial) ?_
  refine RW.nil ?_
  refine WPK.seq ?_
  refine WPK.region ?_
  refine RW.seg hT 6 [.string (strOfNums p0), .string (strOfNums p1)] [(9, .bool (decide ((strOfNums p0).toList = (strOfNums p1).toList)))] [.slice A1 p0.length u1, .string (strOfNums p0), .slice A2 p1.length u2, .string (strOfNums p1), .bool (decide ((strOfNums p0).toList = (strOfNums p1).toList)), .bool (decide ((strOfNums p0).toList = (strOfNums p1).toList))] [.bytes A1 p0.length (strOfNums p0), .bytes A2 p1.length (strOfNums p1), .veq (.bool ((strOfNums p0).toList == (strOfNums p1).toList)) (.bool (decide ((strOfNums p0).toList = (strOfNums p1).toList)))] (by kernel_rfl) (⟨Elems.bytes e1, Elems.bytes e2, beq_v⟩) ?_
  refine RW.nil ?_
  refine WPK.ret (?_)
  obtain rfl := someS hf
  refine Fin.of (rs := [.tmp 4]) hT [] (.bool (decide ((strOfNums p0).toList = (strOfNums p1).toList))) [] rfl (by kernel_rfl) (trivial) ?_
  exact fun X h => vc rfl (h I _ s kk)
end Go.Proofs.YtclnddebhjjpfaaDoor
