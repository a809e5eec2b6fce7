/- PRINTED BY sy.py: each call computes what the plain function of its number tells. -/
import Derived.Test.YtefjbhogpgihaaaDoorW2
namespace Go.Proofs.YtefjbhogpgihaaaDoor
open Go Go.SX Go.RowKit
set_option maxRecDepth 100000
set_option linter.unusedVariables false
attribute [local irreducible] WPK RW RD Ret SX.Fin SX.Any opK RoundBeg RoundEnd RangeEnd Rounds
theorem c4 {w0 w : World} {M I : Nat → Prop} {F : List It}  (s : St w0 M I (F) w) {r : Bool} (hf : g4 = some r) :
    Ret Tryd.prog 4 [] w fun v wz => ∀ X : Value → World → Prop, (∀ (I' : Nat → Prop) (w' : World), St w0 M I' (F) w' → Kp I w I' w' → X (.bool r) w') → X v wz := by
  have kk : Kp I w I w := Kp.refl
  unfold g4 at hf
  refine Ret.of Tryd.func4 rfl ?_
  refine WPK.seq ?_
  refine WPK.region ?_
  refine RW.seg hT 1 [] [] [.bool false] [] (by kernel_rfl) (trivial) ?_
  refine RW.nil ?_
  refine WPK.seq ?_
  refine WPK.region ?_
  refine RW.op (by kernel_rfl) (OK.new hT (f := fun b => .slice (some ⟨b, 0, none⟩) 1 1) (cs := [.int .u8 97]) (e := 5) (c := .tt) s (by kernel_rfl) trivial ?_)
  clear s
  rintro w62080 b62081 s k62082 -
  replace kk := kk.trans k62082
  have rp62083 : RepL (Rp.int .u8) I w62080 [.int .u8 97] ([97] : List Int) := RepL.cons (c := [.int .u8 97]) (d := []) (rfl) (RepL.nil)
  replace s : St w0 M I ((.sl (.slice (some ⟨b62081, 0, none⟩) 1 1) 5 1 1 [.int .u8 97]) :: F) w62080 := s.blkSl (i := 0) (n := 1) (c := 1) (size := 1) rfl rfl (Nat.le_refl _) (by decide)
  refine RW.op (by kernel_rfl) (OK.mark hT (t := 27) (eT := 5) (i := 0) (b := b62081) (c := 1) (e := 5) (n := 1) (xs := ([97] : List Int)) s (by kernel_rfl) rfl rfl rfl rfl rfl rfl rp62083 ?_)
  clear s
  rintro I62085 w62086 s k62087 hc62088 e62089
  replace kk := kk.trans k62087
  refine RW.op (by kernel_rfl) (OK.new hT (f := fun b => .slice (some ⟨b, 0, none⟩) 1 1) (cs := [.int .u8 7]) (e := 5) (c := .tt) s (by kernel_rfl) trivial ?_)
  clear s
  rintro w62090 b62091 s k62092 -
  replace e62089 := e62089.st k62092
  replace kk := kk.trans k62092
  have rp62093 : RepL (Rp.int .u8) I62085 w62090 [.int .u8 7] ([7] : List Int) := RepL.cons (c := [.int .u8 7]) (d := []) (rfl) (RepL.nil)
  replace s : St w0 M I62085 ((.sl (.slice (some ⟨b62091, 0, none⟩) 1 1) 5 1 1 [.int .u8 7]) :: F) w62090 := s.blkSl (i := 0) (n := 1) (c := 1) (size := 1) rfl rfl (Nat.le_refl _) (by decide)
  refine RW.seg hT 1 [] [] [.agg #[.slice (some ⟨b62081, 0, none⟩) (([97] : List Int).length) 1, .slice (some ⟨b62091, 0, none⟩) 1 1]] [] (by kernel_rfl) (trivial) ?_
  refine RW.op (by kernel_rfl) (OK.new hT (f := fun b => .slice (some ⟨b, 0, none⟩) 1 1) (cs := [.int .u8 98]) (e := 5) (c := .tt) s (by kernel_rfl) trivial ?_)
  clear s
  rintro w62095 b62096 s k62097 -
  replace e62089 := e62089.st k62097
  replace rp62093 := rp62093.st k62097
  replace kk := kk.trans k62097
  have rp62098 : RepL (Rp.int .u8) I62085 w62095 [.int .u8 98] ([98] : List Int) := RepL.cons (c := [.int .u8 98]) (d := []) (rfl) (RepL.nil)
  replace s : St w0 M I62085 ((.sl (.slice (some ⟨b62096, 0, none⟩) 1 1) 5 1 1 [.int .u8 98]) :: (.sl (.slice (some ⟨b62091, 0, none⟩) 1 1) 5 1 1 [.int .u8 7]) :: F) w62095 := s.blkSl (i := 0) (n := 1) (c := 1) (size := 1) rfl rfl (Nat.le_refl _) (by decide)
  refine RW.op (by kernel_rfl) (OK.mark hT (t := 27) (eT := 5) (i := 0) (b := b62096) (c := 1) (e := 5) (n := 1) (xs := ([98] : List Int)) s (by kernel_rfl) rfl rfl rfl rfl rfl rfl rp62098 ?_)
  clear s
  rintro I62100 w62101 s k62102 hc62103 e62104
  replace e62089 := e62089.st k62102
  replace rp62093 := rp62093.st k62102
  replace kk := kk.trans k62102
  refine RW.seg hT 1 [] [] [.agg #[.slice (some ⟨b62096, 0, none⟩) (([98] : List Int).length) 1, .slice none 0 0]] [] (by kernel_rfl) (trivial) ?_
  obtain ⟨I62105, s', k62106, hc62107, e62108⟩ := St.give s (i := 0) rfl rfl rp62093
  replace s := s'; clear s'
  replace e62089 := e62089.st k62106
  replace e62104 := e62104.st k62106
  replace kk := kk.trans k62106
  refine RW.op (by kernel_rfl) (OK.new hT (f := fun b => .slice (some ⟨b, 0, none⟩) 2 2) (cs := [.slice (some ⟨b62081, 0, none⟩) (([97] : List Int).length) 1, .slice (some ⟨b62091, 0, none⟩) (([7] : List Int).length) 1, .slice (some ⟨b62096, 0, none⟩) (([98] : List Int).length) 1, .slice none 0 0]) (e := 41) (c := .tt) s (by kernel_rfl) trivial ?_)
  clear s
  rintro w62109 b62110 s k62111 -
  replace e62089 := e62089.st k62111
  replace e62108 := e62108.st k62111
  replace e62104 := e62104.st k62111
  replace kk := kk.trans k62111
  have rp62112 : RepL rp_T_api_Pair I62105 w62109 [.slice (some ⟨b62081, 0, none⟩) (([97] : List Int).length) 1, .slice (some ⟨b62091, 0, none⟩) (([7] : List Int).length) 1, .slice (some ⟨b62096, 0, none⟩) (([98] : List Int).length) 1, .slice none 0 0] ([(T_api_Pair.mk ([97] : List Int) ([7] : List Int)), (T_api_Pair.mk ([98] : List Int) [])] : List T_api_Pair) := RepL.cons (c := [.slice (some ⟨b62081, 0, none⟩) (([97] : List Int).length) 1, .slice (some ⟨b62091, 0, none⟩) (([7] : List Int).length) 1]) (d := [.slice (some ⟨b62096, 0, none⟩) (([98] : List Int).length) 1, .slice none 0 0]) (⟨[.slice (some ⟨b62081, 0, none⟩) (([97] : List Int).length) 1], [.slice (some ⟨b62091, 0, none⟩) (([7] : List Int).length) 1], rfl, ⟨_, _, rfl, hc62088.1, hc62088.2, e62089⟩, ⟨_, _, rfl, hc62107.1, hc62107.2, e62108⟩⟩) (RepL.cons (c := [.slice (some ⟨b62096, 0, none⟩) (([98] : List Int).length) 1, .slice none 0 0]) (d := []) (⟨[.slice (some ⟨b62096, 0, none⟩) (([98] : List Int).length) 1], [.slice none 0 0], rfl, ⟨_, _, rfl, hc62103.1, hc62103.2, e62104⟩, ⟨_, _, rfl, nil_hc.1, nil_hc.2, Elems.nil⟩⟩) (RepL.nil))
  replace s : St w0 M I62105 ((.sl (.slice (some ⟨b62110, 0, none⟩) 2 2) 41 2 2 [.slice (some ⟨b62081, 0, none⟩) (([97] : List Int).length) 1, .slice (some ⟨b62091, 0, none⟩) (([7] : List Int).length) 1, .slice (some ⟨b62096, 0, none⟩) (([98] : List Int).length) 1, .slice none 0 0]) :: F) w62109 := s.blkSl (i := 0) (n := 2) (c := 2) (size := 2) rfl rfl (Nat.le_refl _) (by decide)
  refine RW.seg hT 1 [] [] [.agg #[.bool true, .slice (some ⟨b62110, 0, none⟩) 2 2, .slice none 0 0, .slice none 0 0]] [] (by kernel_rfl) (trivial) ?_
  have sa62114 := s
  obtain ⟨hc62115, e62116⟩ := St.lend s (i := 0) rfl rfl rp62112
  have k62117 := Kp.shut (I := I62105) (w := w62109) (p := .sl (.slice (some ⟨b62110, 0, none⟩) 2 2) 41 2 2 [.slice (some ⟨b62081, 0, none⟩) (([97] : List Int).length) 1, .slice (some ⟨b62091, 0, none⟩) (([7] : List Int).length) 1, .slice (some ⟨b62096, 0, none⟩) (([98] : List Int).length) 1, .slice none 0 0])
  replace s := s.shut 0 rfl
  obtain ⟨x62118, hx62119, hf⟩ := bindS hf
  refine RW.op (by kernel_rfl) (OK.call' en6 (by kernel_rfl) (c6 (F := F) (T_api_Node.mk true ([(T_api_Pair.mk ([97] : List Int) ([7] : List Int)), (T_api_Pair.mk ([98] : List Int) [])] : List T_api_Pair) [] []) (some ⟨b62110, 0, none⟩) 2 none 0 none 0 hc62115 e62116 nil_hc Elems.nil nil_hc Elems.nil s hx62119) ?_)
  intro X62122 hX62123
  refine fun _ _ hJ => hJ X62122 ?_
  clear s
  intro I62124 A62125 n62126 c62127 cl62128 w62120 s k62121 hn62129 rp62130
  refine hX62123 _ _ ?_
  have s' := St.back sa62114 (i := 0) rfl s k62121
  replace k62121 := Kp.back sa62114 (i := 0) rfl k62121
  replace s := s'; clear s'
  obtain ⟨I62133, s, k62121⟩ : ∃ I : Nat → Prop, St w0 M I ((.sl (.slice (some ⟨b62110, 0, none⟩) 2 2) 41 2 2 [.slice (some ⟨b62081, 0, none⟩) (([97] : List Int).length) 1, .slice (some ⟨b62091, 0, none⟩) (([7] : List Int).length) 1, .slice (some ⟨b62096, 0, none⟩) (([98] : List Int).length) 1, .slice none 0 0]) :: (.sl (.slice A62125 n62126 c62127) 5 1 n62126 cl62128) :: F) w62120 ∧ Kp _ _ I _ := ⟨_, s, k62121⟩
  replace rp62130 := RepL.free (I' := I62133) (w' := w62120) free_int rp62130
  replace e62089 := e62089.st k62121
  replace e62108 := e62108.st k62121
  replace e62104 := e62104.st k62121
  replace rp62112 := rp62112.st k62121
  replace kk := kk.trans k62121
  rw [hn62129] at s
  try rw [hn62129]
  obtain ⟨I62134, s', k62135, hc62136, e62137⟩ := St.give s (i := 1) rfl rfl rp62130
  replace s := s'; clear s'
  replace e62089 := e62089.st k62135
  replace e62108 := e62108.st k62135
  replace e62104 := e62104.st k62135
  replace rp62112 := rp62112.st k62135
  replace kk := kk.trans k62135
  refine RW.seg hT 7 [] [] [.tuple #[.int .i64 x62118.1, .slice A62125 x62118.2.1.length c62127, .int .i64 x62118.2.2], .int .i64 x62118.1, .slice A62125 x62118.2.1.length c62127, .int .i64 x62118.2.2, .int .i64 x62118.1, .slice A62125 x62118.2.1.length c62127, .int .i64 x62118.2.2] [] (by kernel_rfl) (trivial) ?_
  refine RW.nil ?_
  refine WPK.seq ?_
  refine WPK.region ?_
  refine RW.op (by kernel_rfl) (OK.new hT (f := fun b => .slice (some ⟨b, 0, none⟩) 1 1) (cs := [.int .u8 98]) (e := 5) (c := .tt) s (by kernel_rfl) trivial ?_)
  clear s
  rintro w62138 b62139 s k62140 -
  replace e62137 := e62137.st k62140
  replace e62089 := e62089.st k62140
  replace e62108 := e62108.st k62140
  replace e62104 := e62104.st k62140
  replace rp62112 := rp62112.st k62140
  replace kk := kk.trans k62140
  have rp62141 : RepL (Rp.int .u8) I62134 w62138 [.int .u8 98] ([98] : List Int) := RepL.cons (c := [.int .u8 98]) (d := []) (rfl) (RepL.nil)
  replace s : St w0 M I62134 ((.sl (.slice (some ⟨b62139, 0, none⟩) 1 1) 5 1 1 [.int .u8 98]) :: (.sl (.slice (some ⟨b62110, 0, none⟩) 2 2) 41 2 2 [.slice (some ⟨b62081, 0, none⟩) (([97] : List Int).length) 1, .slice (some ⟨b62091, 0, none⟩) (([7] : List Int).length) 1, .slice (some ⟨b62096, 0, none⟩) (([98] : List Int).length) 1, .slice none 0 0]) :: F) w62138 := s.blkSl (i := 0) (n := 1) (c := 1) (size := 1) rfl rfl (Nat.le_refl _) (by decide)
  refine RW.op (by kernel_rfl) (OK.mark hT (t := 27) (eT := 5) (i := 0) (b := b62139) (c := 1) (e := 5) (n := 1) (xs := ([98] : List Int)) s (by kernel_rfl) rfl rfl rfl rfl rfl rfl rp62141 ?_)
  clear s
  rintro I62143 w62144 s k62145 hc62146 e62147
  replace e62137 := e62137.st k62145
  replace e62089 := e62089.st k62145
  replace e62108 := e62108.st k62145
  replace e62104 := e62104.st k62145
  replace rp62112 := rp62112.st k62145
  replace kk := kk.trans k62145
  refine RW.op (by kernel_rfl) (OK.new hT (f := fun b => .slice (some ⟨b, 0, none⟩) 1 1) (cs := [.slice (some ⟨b62139, 0, none⟩) (([98] : List Int).length) 1]) (e := 27) (c := .tt) s (by kernel_rfl) trivial ?_)
  clear s
  rintro w62148 b62149 s k62150 -
  replace e62137 := e62137.st k62150
  replace e62089 := e62089.st k62150
  replace e62108 := e62108.st k62150
  replace e62104 := e62104.st k62150
  replace e62147 := e62147.st k62150
  replace rp62112 := rp62112.st k62150
  replace kk := kk.trans k62150
  have rp62151 : RepL (Rp.slice (Rp.int .u8)) I62143 w62148 [.slice (some ⟨b62139, 0, none⟩) (([98] : List Int).length) 1] ([([98] : List Int)] : List (List Int)) := RepL.cons (c := [.slice (some ⟨b62139, 0, none⟩) (([98] : List Int).length) 1]) (d := []) (⟨_, _, rfl, hc62146.1, hc62146.2, e62147⟩) (RepL.nil)
  replace s : St w0 M I62143 ((.sl (.slice (some ⟨b62149, 0, none⟩) 1 1) 27 1 1 [.slice (some ⟨b62139, 0, none⟩) (([98] : List Int).length) 1]) :: (.sl (.slice (some ⟨b62110, 0, none⟩) 2 2) 41 2 2 [.slice (some ⟨b62081, 0, none⟩) (([97] : List Int).length) 1, .slice (some ⟨b62091, 0, none⟩) (([7] : List Int).length) 1, .slice (some ⟨b62096, 0, none⟩) (([98] : List Int).length) 1, .slice none 0 0]) :: F) w62148 := s.blkSl (i := 0) (n := 1) (c := 1) (size := 1) rfl rfl (Nat.le_refl _) (by decide)
  refine RW.op (by kernel_rfl) (OK.new hT (f := fun b => .slice (some ⟨b, 0, none⟩) 2 2) (cs := [.int .i64 5, .int .i64 6]) (e := 3) (c := .tt) s (by kernel_rfl) trivial ?_)
  clear s
  rintro w62153 b62154 s k62155 -
  replace e62137 := e62137.st k62155
  replace e62089 := e62089.st k62155
  replace e62108 := e62108.st k62155
  replace e62104 := e62104.st k62155
  replace e62147 := e62147.st k62155
  replace rp62151 := rp62151.st k62155
  replace rp62112 := rp62112.st k62155
  replace kk := kk.trans k62155
  have rp62156 : RepL (Rp.int .i64) I62143 w62153 [.int .i64 5, .int .i64 6] ([5, 6] : List Int) := RepL.cons (c := [.int .i64 5]) (d := [.int .i64 6]) (rfl) (RepL.cons (c := [.int .i64 6]) (d := []) (rfl) (RepL.nil))
  replace s : St w0 M I62143 ((.sl (.slice (some ⟨b62154, 0, none⟩) 2 2) 3 1 2 [.int .i64 5, .int .i64 6]) :: (.sl (.slice (some ⟨b62149, 0, none⟩) 1 1) 27 1 1 [.slice (some ⟨b62139, 0, none⟩) (([98] : List Int).length) 1]) :: (.sl (.slice (some ⟨b62110, 0, none⟩) 2 2) 41 2 2 [.slice (some ⟨b62081, 0, none⟩) (([97] : List Int).length) 1, .slice (some ⟨b62091, 0, none⟩) (([7] : List Int).length) 1, .slice (some ⟨b62096, 0, none⟩) (([98] : List Int).length) 1, .slice none 0 0]) :: F) w62153 := s.blkSl (i := 0) (n := 2) (c := 2) (size := 1) rfl rfl (Nat.le_refl _) (by decide)
  refine RW.seg hT 1 [] [] [.agg #[.bool false, .slice none 0 0, .slice (some ⟨b62149, 0, none⟩) 1 1, .slice (some ⟨b62154, 0, none⟩) 2 2]] [] (by kernel_rfl) (trivial) ?_
  refine RW.op (by kernel_rfl) (OK.new hT (f := fun b => .pointer (some ⟨b, 0, none⟩)) (cs := [.bool false, .slice none 0 0, .slice none 0 0, .slice none 0 0]) (e := 26) (c := .tt) s (by kernel_rfl) trivial ?_)
  clear s
  rintro w62158 b62159 s k62160 -
  replace e62137 := e62137.st k62160
  replace e62089 := e62089.st k62160
  replace e62108 := e62108.st k62160
  replace e62104 := e62104.st k62160
  replace e62147 := e62147.st k62160
  replace rp62156 := rp62156.st k62160
  replace rp62151 := rp62151.st k62160
  replace rp62112 := rp62112.st k62160
  replace kk := kk.trans k62160
  refine RW.op (by kernel_rfl) (OK.store hT (i := 0) (b := b62159) (off := 0) (n := 4) (vs := [.bool false, .slice none 0 0, .slice (some ⟨b62149, 0, none⟩) 1 1, .slice (some ⟨b62154, 0, none⟩) 2 2]) (cs := [.bool false, .slice none 0 0, .slice none 0 0, .slice none 0 0]) (e := 26) s (by kernel_rfl) rfl rfl (flat_ok rfl) (Nat.le_of_ble_eq_true rfl) ?_)
  clear s
  rintro w62161 s k62162 -
  replace e62137 := e62137.st k62162
  replace e62089 := e62089.st k62162
  replace e62108 := e62108.st k62162
  replace e62104 := e62104.st k62162
  replace e62147 := e62147.st k62162
  replace rp62156 := rp62156.st k62162
  replace rp62151 := rp62151.st k62162
  replace rp62112 := rp62112.st k62162
  replace kk := kk.trans k62162
  refine RW.nil ?_
  refine WPK.seq ?_
  refine WPK.cut' (Kn fun E ds wz => ∀ X : Kont, (∀ (I62255 : Nat → Prop) (x62253 : Bool) (D62252 : List Value) (w' : World), g4_j1 x62253 = some r → St w0 M I62255 (F) w' → Kp I w I62255 w' → X [.bool x62253, (D62252.getD 0 undef), (D62252.getD 1 undef), (D62252.getD 2 undef), (D62252.getD 3 undef), (D62252.getD 4 undef), (D62252.getD 5 undef), (D62252.getD 6 undef), (D62252.getD 7 undef), (D62252.getD 8 undef), (D62252.getD 9 undef), (D62252.getD 10 undef), (D62252.getD 11 undef), (D62252.getD 12 undef), (D62252.getD 13 undef), (D62252.getD 14 undef), (D62252.getD 15 undef), (D62252.getD 16 undef), (D62252.getD 17 undef), (D62252.getD 18 undef), (D62252.getD 19 undef), (D62252.getD 20 undef), (D62252.getD 21 undef), (D62252.getD 22 undef), (D62252.getD 23 undef), (D62252.getD 24 undef), (D62252.getD 25 undef), (D62252.getD 26 undef), (D62252.getD 27 undef), (D62252.getD 28 undef), (D62252.getD 29 undef), (D62252.getD 30 undef), (D62252.getD 31 undef), (D62252.getD 32 undef), (D62252.getD 33 undef), (D62252.getD 34 undef), (D62252.getD 35 undef), (D62252.getD 36 undef), (D62252.getD 37 undef), (D62252.getD 38 undef), (D62252.getD 39 undef), (D62252.getD 40 undef), (D62252.getD 41 undef), (D62252.getD 42 undef), (D62252.getD 43 undef), (D62252.getD 44 undef), (D62252.getD 45 undef), (D62252.getD 46 undef), (D62252.getD 47 undef), (D62252.getD 48 undef), (D62252.getD 49 undef), (D62252.getD 50 undef), (D62252.getD 51 undef), (D62252.getD 52 undef), (D62252.getD 53 undef)] [] w') → X E ds wz) ?_ ?_
  · intro X62256 hX62257
    refine fun _ _ _ hJ => hJ X62256 ?_
    clear s
    intro I62255 x62253 D62252 w62254 hf s kk
    refine hX62257 _ _ _ ?_
    unfold g4_j1 at hf
    refine WPK.ret (?_)
    obtain rfl := someS hf
    refine Fin.of (rs := [.tmp 0]) hT [] (.bool x62253) [] rfl (by kernel_rfl) (trivial) ?_
    exact fun X h => vc rfl (h I62255 _ s kk)
  · refine WPK.region ?_
    refine RW.seg hT 2 [] [(25, .bool (decide (x62118.2.2 = 0)))] [.int .i64 x62118.2.2, .bool (decide (x62118.2.2 = 0))] [.veq (.bool (x62118.2.2 == 0)) (.bool (decide (x62118.2.2 = 0)))] (by kernel_rfl) (eq_v) ?_
    by_cases h62258 : x62118.2.2 = 0
    · have hf := iteT h62258 hf
      refine RW.seg hT 4 [] [(26, .bool true), (28, .bool (decide (x62118.1 = 3)))] [.bool true, .int .i64 x62118.1, .bool (decide (x62118.1 = 3)), .bool (decide (x62118.1 = 3))] [.veq (.bool (decide (x62118.2.2 = 0))) (.bool true), .veq (.bool (x62118.1 == 3)) (.bool (decide (x62118.1 = 3)))] (by kernel_rfl) (⟨bo_t h62258, eq_v⟩) ?_
      by_cases h62259 : x62118.1 = 3
      · have hf := iteT h62259 hf
        refine RW.seg hT 5 [] [(30, .bool true), (33, .bool (decide ((x62118.2.1.length : Int) = 240)))] [.bool true, .slice A62125 x62118.2.1.length c62127, .int .i64 (x62118.2.1.length : Int), .bool (decide ((x62118.2.1.length : Int) = 240)), .bool (decide ((x62118.2.1.length : Int) = 240))] [.veq (.bool (decide (x62118.1 = 3))) (.bool true), .veq (.bool ((x62118.2.1.length : Int) == 240)) (.bool (decide ((x62118.2.1.length : Int) = 240)))] (by kernel_rfl) (⟨bo_t h62259, eq_v⟩) ?_
        by_cases h62260 : (x62118.2.1.length : Int) = 240
        · have hf := iteT h62260 hf
          obtain ⟨y62261, hy62262, hf⟩ := bindS hf
          obtain ⟨h62265, hc62266, e62267, q62268⟩ := slS0 hc62136 e62137 hy62262
          refine RW.seg hT 3 [] [(35, .bool true), (37, .slice A62125 y62261.length c62127)] [.bool true, .slice A62125 x62118.2.1.length c62127, .slice A62125 y62261.length c62127] [.veq (.bool (decide ((x62118.2.1.length : Int) = 240))) (.bool true), .both (.cut 0 9 c62127 c62127) (.veq (.slice A62125 (9 : Int).toNat c62127) (.slice A62125 y62261.length c62127))] (by kernel_rfl) (⟨bo_t h62260, ⟨⟨by omega, by omega, by omega, by omega⟩, sl_eq rfl q62268 rfl⟩⟩) ?_
          refine RW.op (by kernel_rfl) (OK.new hT (f := fun b => .slice (some ⟨b, 0, none⟩) 9 9) (cs := [.int .u8 2, .int .u8 1, .int .u8 97, .int .u8 1, .int .u8 7, .int .u8 1, .int .u8 98, .int .u8 0, .int .u8 0]) (e := 5) (c := .tt) s (by kernel_rfl) trivial ?_)
          clear s
          rintro w62271 b62272 s k62273 -
          replace e62137 := e62137.st k62273
          replace e62089 := e62089.st k62273
          replace e62108 := e62108.st k62273
          replace e62104 := e62104.st k62273
          replace e62147 := e62147.st k62273
          replace e62267 := e62267.st k62273
          replace rp62156 := rp62156.st k62273
          replace rp62151 := rp62151.st k62273
          replace rp62112 := rp62112.st k62273
          replace kk := kk.trans k62273
          have rp62274 : RepL (Rp.int .u8) I62143 w62271 [.int .u8 2, .int .u8 1, .int .u8 97, .int .u8 1, .int .u8 7, .int .u8 1, .int .u8 98, .int .u8 0, .int .u8 0] ([2, 1, 97, 1, 7, 1, 98, 0, 0] : List Int) := RepL.cons (c := [.int .u8 2]) (d := [.int .u8 1, .int .u8 97, .int .u8 1, .int .u8 7, .int .u8 1, .int .u8 98, .int .u8 0, .int .u8 0]) (rfl) (RepL.cons (c := [.int .u8 1]) (d := [.int .u8 97, .int .u8 1, .int .u8 7, .int .u8 1, .int .u8 98, .int .u8 0, .int .u8 0]) (rfl) (RepL.cons (c := [.int .u8 97]) (d := [.int .u8 1, .int .u8 7, .int .u8 1, .int .u8 98, .int .u8 0, .int .u8 0]) (rfl) (RepL.cons (c := [.int .u8 1]) (d := [.int .u8 7, .int .u8 1, .int .u8 98, .int .u8 0, .int .u8 0]) (rfl) (RepL.cons (c := [.int .u8 7]) (d := [.int .u8 1, .int .u8 98, .int .u8 0, .int .u8 0]) (rfl) (RepL.cons (c := [.int .u8 1]) (d := [.int .u8 98, .int .u8 0, .int .u8 0]) (rfl) (RepL.cons (c := [.int .u8 98]) (d := [.int .u8 0, .int .u8 0]) (rfl) (RepL.cons (c := [.int .u8 0]) (d := [.int .u8 0]) (rfl) (RepL.cons (c := [.int .u8 0]) (d := []) (rfl) (RepL.nil)))))))))
          replace s : St w0 M I62143 ((.sl (.slice (some ⟨b62272, 0, none⟩) 9 9) 5 1 9 [.int .u8 2, .int .u8 1, .int .u8 97, .int .u8 1, .int .u8 7, .int .u8 1, .int .u8 98, .int .u8 0, .int .u8 0]) :: (.blk b62159 (.cells #[.bool false, .slice none 0 0, .slice (some ⟨b62149, 0, none⟩) 1 1, .slice (some ⟨b62154, 0, none⟩) 2 2] 26 (0, 0))) :: (.sl (.slice (some ⟨b62154, 0, none⟩) 2 2) 3 1 2 [.int .i64 5, .int .i64 6]) :: (.sl (.slice (some ⟨b62149, 0, none⟩) 1 1) 27 1 1 [.slice (some ⟨b62139, 0, none⟩) (([98] : List Int).length) 1]) :: (.sl (.slice (some ⟨b62110, 0, none⟩) 2 2) 41 2 2 [.slice (some ⟨b62081, 0, none⟩) (([97] : List Int).length) 1, .slice (some ⟨b62091, 0, none⟩) (([7] : List Int).length) 1, .slice (some ⟨b62096, 0, none⟩) (([98] : List Int).length) 1, .slice none 0 0]) :: F) w62271 := s.blkSl (i := 0) (n := 9) (c := 9) (size := 1) rfl rfl (Nat.le_refl _) (by decide)
          have sa62276 := s
          obtain ⟨hc62277, e62278⟩ := St.lend s (i := 0) rfl rfl rp62274
          have k62279 := Kp.shut (I := I62143) (w := w62271) (p := .sl (.slice (some ⟨b62272, 0, none⟩) 9 9) 5 1 9 [.int .u8 2, .int .u8 1, .int .u8 97, .int .u8 1, .int .u8 7, .int .u8 1, .int .u8 98, .int .u8 0, .int .u8 0])
          replace s := s.shut 0 rfl
          obtain ⟨x62280, hx62281, hf⟩ := bindS hf
          refine RW.op (by kernel_rfl) (OK.call' en11 (by kernel_rfl) (c11 (F := (.blk b62159 (.cells #[.bool false, .slice none 0 0, .slice (some ⟨b62149, 0, none⟩) 1 1, .slice (some ⟨b62154, 0, none⟩) 2 2] 26 (0, 0))) :: (.sl (.slice (some ⟨b62154, 0, none⟩) 2 2) 3 1 2 [.int .i64 5, .int .i64 6]) :: (.sl (.slice (some ⟨b62149, 0, none⟩) 1 1) 27 1 1 [.slice (some ⟨b62139, 0, none⟩) (([98] : List Int).length) 1]) :: (.sl (.slice (some ⟨b62110, 0, none⟩) 2 2) 41 2 2 [.slice (some ⟨b62081, 0, none⟩) (([97] : List Int).length) 1, .slice (some ⟨b62091, 0, none⟩) (([7] : List Int).length) 1, .slice (some ⟨b62096, 0, none⟩) (([98] : List Int).length) 1, .slice none 0 0]) :: F) y62261 ([2, 1, 97, 1, 7, 1, 98, 0, 0] : List Int) A62125 c62127 (some ⟨b62272, 0, none⟩) 9 hc62266 (e62267.st k62279) hc62277 e62278 s hx62281) ?_)
          intro X62284 hX62285
          refine fun _ _ hJ => hJ X62284 ?_
          clear s
          intro I62286 w62282 s k62283
          refine hX62285 _ _ ?_
          have s' := St.back sa62276 (i := 0) rfl s k62283
          replace k62283 := Kp.back sa62276 (i := 0) rfl k62283
          replace s := s'; clear s'
          obtain ⟨I62288, s, k62283⟩ : ∃ I : Nat → Prop, St w0 M I ((.sl (.slice (some ⟨b62272, 0, none⟩) 9 9) 5 1 9 [.int .u8 2, .int .u8 1, .int .u8 97, .int .u8 1, .int .u8 7, .int .u8 1, .int .u8 98, .int .u8 0, .int .u8 0]) :: (.blk b62159 (.cells #[.bool false, .slice none 0 0, .slice (some ⟨b62149, 0, none⟩) 1 1, .slice (some ⟨b62154, 0, none⟩) 2 2] 26 (0, 0))) :: (.sl (.slice (some ⟨b62154, 0, none⟩) 2 2) 3 1 2 [.int .i64 5, .int .i64 6]) :: (.sl (.slice (some ⟨b62149, 0, none⟩) 1 1) 27 1 1 [.slice (some ⟨b62139, 0, none⟩) (([98] : List Int).length) 1]) :: (.sl (.slice (some ⟨b62110, 0, none⟩) 2 2) 41 2 2 [.slice (some ⟨b62081, 0, none⟩) (([97] : List Int).length) 1, .slice (some ⟨b62091, 0, none⟩) (([7] : List Int).length) 1, .slice (some ⟨b62096, 0, none⟩) (([98] : List Int).length) 1, .slice none 0 0]) :: F) w62282 ∧ Kp _ _ I _ := ⟨_, s, k62283⟩
          replace e62137 := e62137.st k62283
          replace e62089 := e62089.st k62283
          replace e62108 := e62108.st k62283
          replace e62104 := e62104.st k62283
          replace e62147 := e62147.st k62283
          replace e62267 := e62267.st k62283
          replace rp62156 := rp62156.st k62283
          replace rp62151 := rp62151.st k62283
          replace rp62112 := rp62112.st k62283
          replace rp62274 := rp62274.st k62283
          replace kk := kk.trans k62283
          refine RW.seg hT 1 [] [] [.bool x62280] [] (by kernel_rfl) (trivial) ?_
          by_cases h62289 : x62280 = true
          · have hf := iteT h62289 hf
            refine RW.seg hT 2 [.agg #[.bool false, .slice none 0 0, .slice (some ⟨b62149, 0, none⟩) 1 1, .slice (some ⟨b62154, 0, none⟩) 2 2]] [(41, .bool true)] [.bool true, .agg #[.bool false, .slice none 0 0, .slice (some ⟨b62149, 0, none⟩) 1 1, .slice (some ⟨b62154, 0, none⟩) 2 2]] [.veq (.bool (x62280)) (.bool true), .cells ⟨b62159, 0, none⟩ [.bool false, .slice none 0 0, .slice (some ⟨b62149, 0, none⟩) 1 1, .slice (some ⟨b62154, 0, none⟩) 2 2] 4] (by kernel_rfl) (⟨b_t h62289, s.cells (i := 1) rfl rfl rfl⟩) ?_
            refine RW.op (by kernel_rfl) (OK.new hT (f := fun b => .slice (some ⟨b, 0, none⟩) 1 1) (cs := [.int .u8 98]) (e := 5) (c := .tt) s (by kernel_rfl) trivial ?_)
            clear s
            rintro w62290 b62291 s k62292 -
            replace e62137 := e62137.st k62292
            replace e62089 := e62089.st k62292
            replace e62108 := e62108.st k62292
            replace e62104 := e62104.st k62292
            replace e62147 := e62147.st k62292
            replace e62267 := e62267.st k62292
            replace rp62274 := rp62274.st k62292
            replace rp62156 := rp62156.st k62292
            replace rp62151 := rp62151.st k62292
            replace rp62112 := rp62112.st k62292
            replace kk := kk.trans k62292
            have rp62293 : RepL (Rp.int .u8) I62288 w62290 [.int .u8 98] ([98] : List Int) := RepL.cons (c := [.int .u8 98]) (d := []) (rfl) (RepL.nil)
            replace s : St w0 M I62288 ((.sl (.slice (some ⟨b62291, 0, none⟩) 1 1) 5 1 1 [.int .u8 98]) :: (.sl (.slice (some ⟨b62272, 0, none⟩) 9 9) 5 1 9 [.int .u8 2, .int .u8 1, .int .u8 97, .int .u8 1, .int .u8 7, .int .u8 1, .int .u8 98, .int .u8 0, .int .u8 0]) :: (.blk b62159 (.cells #[.bool false, .slice none 0 0, .slice (some ⟨b62149, 0, none⟩) 1 1, .slice (some ⟨b62154, 0, none⟩) 2 2] 26 (0, 0))) :: (.sl (.slice (some ⟨b62154, 0, none⟩) 2 2) 3 1 2 [.int .i64 5, .int .i64 6]) :: (.sl (.slice (some ⟨b62149, 0, none⟩) 1 1) 27 1 1 [.slice (some ⟨b62139, 0, none⟩) (([98] : List Int).length) 1]) :: (.sl (.slice (some ⟨b62110, 0, none⟩) 2 2) 41 2 2 [.slice (some ⟨b62081, 0, none⟩) (([97] : List Int).length) 1, .slice (some ⟨b62091, 0, none⟩) (([7] : List Int).length) 1, .slice (some ⟨b62096, 0, none⟩) (([98] : List Int).length) 1, .slice none 0 0]) :: F) w62290 := s.blkSl (i := 0) (n := 1) (c := 1) (size := 1) rfl rfl (Nat.le_refl _) (by decide)
            refine RW.op (by kernel_rfl) (OK.mark hT (t := 27) (eT := 5) (i := 0) (b := b62291) (c := 1) (e := 5) (n := 1) (xs := ([98] : List Int)) s (by kernel_rfl) rfl rfl rfl rfl rfl rfl rp62293 ?_)
            clear s
            rintro I62295 w62296 s k62297 hc62298 e62299
            replace e62137 := e62137.st k62297
            replace e62089 := e62089.st k62297
            replace e62108 := e62108.st k62297
            replace e62104 := e62104.st k62297
            replace e62147 := e62147.st k62297
            replace e62267 := e62267.st k62297
            replace rp62274 := rp62274.st k62297
            replace rp62156 := rp62156.st k62297
            replace rp62151 := rp62151.st k62297
            replace rp62112 := rp62112.st k62297
            replace kk := kk.trans k62297
            have sa62300 := s
            obtain ⟨hc62301, e62302⟩ := St.lend s (i := 3) rfl rfl rp62151
            have k62303 := Kp.shut (I := I62295) (w := w62296) (p := .sl (.slice (some ⟨b62149, 0, none⟩) 1 1) 27 1 1 [.slice (some ⟨b62139, 0, none⟩) (([98] : List Int).length) 1])
            replace s := s.shut 3 rfl
            have sa62304 := s
            obtain ⟨hc62305, e62306⟩ := St.lend s (i := 2) rfl rfl (rp62156.st k62303)
            have k62307 := Kp.shut (I := (fun k => I62295 k ∨ (It.sl (.slice (some ⟨b62149, 0, none⟩) 1 1) 27 1 1 [.slice (some ⟨b62139, 0, none⟩) (([98] : List Int).length) 1]).foot = some k)) (w := w62296) (p := .sl (.slice (some ⟨b62154, 0, none⟩) 2 2) 3 1 2 [.int .i64 5, .int .i64 6])
            replace s := s.shut 2 rfl
            replace e62302 := e62302.st k62307
            obtain ⟨x62308, hx62309, hf⟩ := bindS hf
            refine RW.op (by kernel_rfl) (OK.call' en12 (by kernel_rfl) (c12 (F := (.sl (.slice (some ⟨b62272, 0, none⟩) 9 9) 5 1 9 [.int .u8 2, .int .u8 1, .int .u8 97, .int .u8 1, .int .u8 7, .int .u8 1, .int .u8 98, .int .u8 0, .int .u8 0]) :: (.blk b62159 (.cells #[.bool false, .slice none 0 0, .slice (some ⟨b62149, 0, none⟩) 1 1, .slice (some ⟨b62154, 0, none⟩) 2 2] 26 (0, 0))) :: (.sl (.slice (some ⟨b62110, 0, none⟩) 2 2) 41 2 2 [.slice (some ⟨b62081, 0, none⟩) (([97] : List Int).length) 1, .slice (some ⟨b62091, 0, none⟩) (([7] : List Int).length) 1, .slice (some ⟨b62096, 0, none⟩) (([98] : List Int).length) 1, .slice none 0 0]) :: F) (T_api_Node.mk false [] ([([98] : List Int)] : List (List Int)) ([5, 6] : List Int)) ([98] : List Int) none 0 (some ⟨b62149, 0, none⟩) 1 (some ⟨b62154, 0, none⟩) 2 (some ⟨b62291, 0, none⟩) 1 nil_hc Elems.nil hc62301 e62302 hc62305 e62306 hc62298 ((e62299.st k62303).st k62307) s hx62309) ?_)
            intro X62312 hX62313
            refine fun _ _ hJ => hJ X62312 ?_
            clear s
            intro I62314 w62310 s k62311
            refine hX62313 _ _ ?_
            have s' := St.back sa62304 (i := 2) rfl s k62311
            replace k62311 := Kp.back sa62304 (i := 2) rfl k62311
            replace s := s'; clear s'
            have s' := St.back sa62300 (i := 3) rfl s k62311
            replace k62311 := Kp.back sa62300 (i := 3) rfl k62311
            replace s := s'; clear s'
            obtain ⟨I62317, s, k62311⟩ : ∃ I : Nat → Prop, St w0 M I ((.sl (.slice (some ⟨b62149, 0, none⟩) 1 1) 27 1 1 [.slice (some ⟨b62139, 0, none⟩) (([98] : List Int).length) 1]) :: (.sl (.slice (some ⟨b62154, 0, none⟩) 2 2) 3 1 2 [.int .i64 5, .int .i64 6]) :: (.sl (.slice (some ⟨b62272, 0, none⟩) 9 9) 5 1 9 [.int .u8 2, .int .u8 1, .int .u8 97, .int .u8 1, .int .u8 7, .int .u8 1, .int .u8 98, .int .u8 0, .int .u8 0]) :: (.blk b62159 (.cells #[.bool false, .slice none 0 0, .slice (some ⟨b62149, 0, none⟩) 1 1, .slice (some ⟨b62154, 0, none⟩) 2 2] 26 (0, 0))) :: (.sl (.slice (some ⟨b62110, 0, none⟩) 2 2) 41 2 2 [.slice (some ⟨b62081, 0, none⟩) (([97] : List Int).length) 1, .slice (some ⟨b62091, 0, none⟩) (([7] : List Int).length) 1, .slice (some ⟨b62096, 0, none⟩) (([98] : List Int).length) 1, .slice none 0 0]) :: F) w62310 ∧ Kp _ _ I _ := ⟨_, s, k62311⟩
            replace e62137 := e62137.st k62311
            replace e62089 := e62089.st k62311
            replace e62108 := e62108.st k62311
            replace e62104 := e62104.st k62311
            replace e62147 := e62147.st k62311
            replace e62267 := e62267.st k62311
            replace e62299 := e62299.st k62311
            replace rp62274 := rp62274.st k62311
            replace rp62112 := rp62112.st k62311
            replace rp62151 := rp62151.st k62311
            replace rp62156 := rp62156.st k62311
            replace kk := kk.trans k62311
            refine RW.seg hT 2 [] [(46, .bool (decide (x62308 = 1)))] [.bool (decide (x62308 = 1)), .bool (decide (x62308 = 1))] [.veq (.bool (x62308 == 1)) (.bool (decide (x62308 = 1)))] (by kernel_rfl) (eq_v) ?_
            by_cases h62318 : x62308 = 1
            · have hf := iteT h62318 hf
              refine RW.seg hT 2 [.agg #[.bool false, .slice none 0 0, .slice (some ⟨b62149, 0, none⟩) 1 1, .slice (some ⟨b62154, 0, none⟩) 2 2]] [(48, .bool true)] [.bool true, .agg #[.bool false, .slice none 0 0, .slice (some ⟨b62149, 0, none⟩) 1 1, .slice (some ⟨b62154, 0, none⟩) 2 2]] [.veq (.bool (decide (x62308 = 1))) (.bool true), .cells ⟨b62159, 0, none⟩ [.bool false, .slice none 0 0, .slice (some ⟨b62149, 0, none⟩) 1 1, .slice (some ⟨b62154, 0, none⟩) 2 2] 4] (by kernel_rfl) (⟨bo_t h62318, s.cells (i := 3) rfl rfl rfl⟩) ?_
              refine RW.op (by kernel_rfl) (OK.new hT (f := fun b => .slice (some ⟨b, 0, none⟩) 3 3) (cs := [.int .u8 97, .int .u8 122, .int .u8 122]) (e := 5) (c := .tt) s (by kernel_rfl) trivial ?_)
              clear s
              rintro w62319 b62320 s k62321 -
              replace e62137 := e62137.st k62321
              replace e62089 := e62089.st k62321
              replace e62108 := e62108.st k62321
              replace e62104 := e62104.st k62321
              replace e62147 := e62147.st k62321
              replace e62267 := e62267.st k62321
              replace e62299 := e62299.st k62321
              replace rp62151 := rp62151.st k62321
              replace rp62156 := rp62156.st k62321
              replace rp62274 := rp62274.st k62321
              replace rp62112 := rp62112.st k62321
              replace kk := kk.trans k62321
              have rp62322 : RepL (Rp.int .u8) I62317 w62319 [.int .u8 97, .int .u8 122, .int .u8 122] ([97, 122, 122] : List Int) := RepL.cons (c := [.int .u8 97]) (d := [.int .u8 122, .int .u8 122]) (rfl) (RepL.cons (c := [.int .u8 122]) (d := [.int .u8 122]) (rfl) (RepL.cons (c := [.int .u8 122]) (d := []) (rfl) (RepL.nil)))
              replace s : St w0 M I62317 ((.sl (.slice (some ⟨b62320, 0, none⟩) 3 3) 5 1 3 [.int .u8 97, .int .u8 122, .int .u8 122]) :: (.sl (.slice (some ⟨b62149, 0, none⟩) 1 1) 27 1 1 [.slice (some ⟨b62139, 0, none⟩) (([98] : List Int).length) 1]) :: (.sl (.slice (some ⟨b62154, 0, none⟩) 2 2) 3 1 2 [.int .i64 5, .int .i64 6]) :: (.sl (.slice (some ⟨b62272, 0, none⟩) 9 9) 5 1 9 [.int .u8 2, .int .u8 1, .int .u8 97, .int .u8 1, .int .u8 7, .int .u8 1, .int .u8 98, .int .u8 0, .int .u8 0]) :: (.blk b62159 (.cells #[.bool false, .slice none 0 0, .slice (some ⟨b62149, 0, none⟩) 1 1, .slice (some ⟨b62154, 0, none⟩) 2 2] 26 (0, 0))) :: (.sl (.slice (some ⟨b62110, 0, none⟩) 2 2) 41 2 2 [.slice (some ⟨b62081, 0, none⟩) (([97] : List Int).length) 1, .slice (some ⟨b62091, 0, none⟩) (([7] : List Int).length) 1, .slice (some ⟨b62096, 0, none⟩) (([98] : List Int).length) 1, .slice none 0 0]) :: F) w62319 := s.blkSl (i := 0) (n := 3) (c := 3) (size := 1) rfl rfl (Nat.le_refl _) (by decide)
              refine RW.op (by kernel_rfl) (OK.mark hT (t := 27) (eT := 5) (i := 0) (b := b62320) (c := 3) (e := 5) (n := 3) (xs := ([97, 122, 122] : List Int)) s (by kernel_rfl) rfl rfl rfl rfl rfl rfl rp62322 ?_)
              clear s
              rintro I62324 w62325 s k62326 hc62327 e62328
              replace e62137 := e62137.st k62326
              replace e62089 := e62089.st k62326
              replace e62108 := e62108.st k62326
              replace e62104 := e62104.st k62326
              replace e62147 := e62147.st k62326
              replace e62267 := e62267.st k62326
              replace e62299 := e62299.st k62326
              replace rp62151 := rp62151.st k62326
              replace rp62156 := rp62156.st k62326
              replace rp62274 := rp62274.st k62326
              replace rp62112 := rp62112.st k62326
              replace kk := kk.trans k62326
              have sa62329 := s
              obtain ⟨hc62330, e62331⟩ := St.lend s (i := 0) rfl rfl rp62151
              have k62332 := Kp.shut (I := I62324) (w := w62325) (p := .sl (.slice (some ⟨b62149, 0, none⟩) 1 1) 27 1 1 [.slice (some ⟨b62139, 0, none⟩) (([98] : List Int).length) 1])
              replace s := s.shut 0 rfl
              have sa62333 := s
              obtain ⟨hc62334, e62335⟩ := St.lend s (i := 0) rfl rfl (rp62156.st k62332)
              have k62336 := Kp.shut (I := (fun k => I62324 k ∨ (It.sl (.slice (some ⟨b62149, 0, none⟩) 1 1) 27 1 1 [.slice (some ⟨b62139, 0, none⟩) (([98] : List Int).length) 1]).foot = some k)) (w := w62325) (p := .sl (.slice (some ⟨b62154, 0, none⟩) 2 2) 3 1 2 [.int .i64 5, .int .i64 6])
              replace s := s.shut 0 rfl
              replace e62331 := e62331.st k62336
              obtain ⟨x62337, hx62338, hf⟩ := bindS hf
              refine RW.op (by kernel_rfl) (OK.call' en12 (by kernel_rfl) (c12 (F := (.sl (.slice (some ⟨b62272, 0, none⟩) 9 9) 5 1 9 [.int .u8 2, .int .u8 1, .int .u8 97, .int .u8 1, .int .u8 7, .int .u8 1, .int .u8 98, .int .u8 0, .int .u8 0]) :: (.blk b62159 (.cells #[.bool false, .slice none 0 0, .slice (some ⟨b62149, 0, none⟩) 1 1, .slice (some ⟨b62154, 0, none⟩) 2 2] 26 (0, 0))) :: (.sl (.slice (some ⟨b62110, 0, none⟩) 2 2) 41 2 2 [.slice (some ⟨b62081, 0, none⟩) (([97] : List Int).length) 1, .slice (some ⟨b62091, 0, none⟩) (([7] : List Int).length) 1, .slice (some ⟨b62096, 0, none⟩) (([98] : List Int).length) 1, .slice none 0 0]) :: F) (T_api_Node.mk false [] ([([98] : List Int)] : List (List Int)) ([5, 6] : List Int)) ([97, 122, 122] : List Int) none 0 (some ⟨b62149, 0, none⟩) 1 (some ⟨b62154, 0, none⟩) 2 (some ⟨b62320, 0, none⟩) 3 nil_hc Elems.nil hc62330 e62331 hc62334 e62335 hc62327 ((e62328.st k62332).st k62336) s hx62338) ?_)
              intro X62341 hX62342
              refine fun _ _ hJ => hJ X62341 ?_
              clear s
              intro I62343 w62339 s k62340
              refine hX62342 _ _ ?_
              have s' := St.back sa62333 (i := 0) rfl s k62340
              replace k62340 := Kp.back sa62333 (i := 0) rfl k62340
              replace s := s'; clear s'
              have s' := St.back sa62329 (i := 0) rfl s k62340
              replace k62340 := Kp.back sa62329 (i := 0) rfl k62340
              replace s := s'; clear s'
              obtain ⟨I62346, s, k62340⟩ : ∃ I : Nat → Prop, St w0 M I ((.sl (.slice (some ⟨b62149, 0, none⟩) 1 1) 27 1 1 [.slice (some ⟨b62139, 0, none⟩) (([98] : List Int).length) 1]) :: (.sl (.slice (some ⟨b62154, 0, none⟩) 2 2) 3 1 2 [.int .i64 5, .int .i64 6]) :: (.sl (.slice (some ⟨b62272, 0, none⟩) 9 9) 5 1 9 [.int .u8 2, .int .u8 1, .int .u8 97, .int .u8 1, .int .u8 7, .int .u8 1, .int .u8 98, .int .u8 0, .int .u8 0]) :: (.blk b62159 (.cells #[.bool false, .slice none 0 0, .slice (some ⟨b62149, 0, none⟩) 1 1, .slice (some ⟨b62154, 0, none⟩) 2 2] 26 (0, 0))) :: (.sl (.slice (some ⟨b62110, 0, none⟩) 2 2) 41 2 2 [.slice (some ⟨b62081, 0, none⟩) (([97] : List Int).length) 1, .slice (some ⟨b62091, 0, none⟩) (([7] : List Int).length) 1, .slice (some ⟨b62096, 0, none⟩) (([98] : List Int).length) 1, .slice none 0 0]) :: F) w62339 ∧ Kp _ _ I _ := ⟨_, s, k62340⟩
              replace e62137 := e62137.st k62340
              replace e62089 := e62089.st k62340
              replace e62108 := e62108.st k62340
              replace e62104 := e62104.st k62340
              replace e62147 := e62147.st k62340
              replace e62267 := e62267.st k62340
              replace e62299 := e62299.st k62340
              replace e62328 := e62328.st k62340
              replace rp62274 := rp62274.st k62340
              replace rp62112 := rp62112.st k62340
              replace rp62151 := rp62151.st k62340
              replace rp62156 := rp62156.st k62340
              replace kk := kk.trans k62340
              refine RW.seg hT 3 [] [(53, .bool (decide (x62337 = 0)))] [.bool (decide (x62337 = 0)), .bool (decide (x62337 = 0)), .bool (decide (x62337 = 0))] [.veq (.bool (x62337 == 0)) (.bool (decide (x62337 = 0)))] (by kernel_rfl) (eq_v) ?_
              refine RW.nil ?_
              replace s := s.pick [] 5 rfl
              exact fun X h => kc (by kernel_rfl) rfl (h I62346 (decide (x62337 = 0)) [.int .i64 x62118.1, .slice A62125 x62118.2.1.length c62127, .int .i64 x62118.2.2, .pointer (some ⟨b62159, 0, none⟩), .tuple #[.int .i64 x62118.1, .slice A62125 x62118.2.1.length c62127, .int .i64 x62118.2.2], .slice (some ⟨b62081, 0, none⟩) (([97] : List Int).length) 1, .slice (some ⟨b62081, 0, none⟩) (([97] : List Int).length) 1, .slice (some ⟨b62091, 0, none⟩) (([7] : List Int).length) 1, .agg #[.slice (some ⟨b62081, 0, none⟩) (([97] : List Int).length) 1, .slice (some ⟨b62091, 0, none⟩) (([7] : List Int).length) 1], .slice (some ⟨b62096, 0, none⟩) (([98] : List Int).length) 1, .slice (some ⟨b62096, 0, none⟩) (([98] : List Int).length) 1, .agg #[.slice (some ⟨b62096, 0, none⟩) (([98] : List Int).length) 1, .slice none 0 0], .slice (some ⟨b62110, 0, none⟩) 2 2, .agg #[.bool true, .slice (some ⟨b62110, 0, none⟩) 2 2, .slice none 0 0, .slice none 0 0], .tuple #[.int .i64 x62118.1, .slice A62125 x62118.2.1.length c62127, .int .i64 x62118.2.2], .int .i64 x62118.1, .slice A62125 x62118.2.1.length c62127, .int .i64 x62118.2.2, .slice (some ⟨b62139, 0, none⟩) (([98] : List Int).length) 1, .slice (some ⟨b62139, 0, none⟩) (([98] : List Int).length) 1, .slice (some ⟨b62149, 0, none⟩) 1 1, .slice (some ⟨b62154, 0, none⟩) 2 2, .agg #[.bool false, .slice none 0 0, .slice (some ⟨b62149, 0, none⟩) 1 1, .slice (some ⟨b62154, 0, none⟩) 2 2], .int .i64 x62118.2.2, .bool (decide (x62118.2.2 = 0)), .bool true, .int .i64 x62118.1, .bool (decide (x62118.1 = 3)), .bool (decide (x62118.1 = 3)), .bool true, .slice A62125 x62118.2.1.length c62127, .int .i64 (x62118.2.1.length : Int), .bool (decide ((x62118.2.1.length : Int) = 240)), .bool (decide ((x62118.2.1.length : Int) = 240)), .bool true, .slice A62125 x62118.2.1.length c62127, .slice A62125 y62261.length c62127, .slice (some ⟨b62272, 0, none⟩) 9 9, .bool x62280, .bool x62280, .bool true, .agg #[.bool false, .slice none 0 0, .slice (some ⟨b62149, 0, none⟩) 1 1, .slice (some ⟨b62154, 0, none⟩) 2 2], .slice (some ⟨b62291, 0, none⟩) (([98] : List Int).length) 1, .slice (some ⟨b62291, 0, none⟩) (([98] : List Int).length) 1, .int .i64 x62308, .bool (decide (x62308 = 1)), .bool (decide (x62308 = 1)), .bool true, .agg #[.bool false, .slice none 0 0, .slice (some ⟨b62149, 0, none⟩) 1 1, .slice (some ⟨b62154, 0, none⟩) 2 2], .slice (some ⟨b62320, 0, none⟩) (([97, 122, 122] : List Int).length) 3, .slice (some ⟨b62320, 0, none⟩) (([97, 122, 122] : List Int).length) 3, .int .i64 x62337, .bool (decide (x62337 = 0)), .bool (decide (x62337 = 0))] _ hf s kk)
            · have hf := iteF h62318 hf
              refine RW.seg hT 8 [] [(48, .bool false)] [.bool false, undef, undef, undef, undef, undef, .bool false, .bool false] [.veq (.bool (decide (x62308 = 1))) (.bool false)] (by kernel_rfl) (bo_f h62318) ?_
              refine RW.nil ?_
              replace s := s.pick [] 5 rfl
              exact fun X h => kc (by kernel_rfl) rfl (h I62317 false [.int .i64 x62118.1, .slice A62125 x62118.2.1.length c62127, .int .i64 x62118.2.2, .pointer (some ⟨b62159, 0, none⟩), .tuple #[.int .i64 x62118.1, .slice A62125 x62118.2.1.length c62127, .int .i64 x62118.2.2], .slice (some ⟨b62081, 0, none⟩) (([97] : List Int).length) 1, .slice (some ⟨b62081, 0, none⟩) (([97] : List Int).length) 1, .slice (some ⟨b62091, 0, none⟩) (([7] : List Int).length) 1, .agg #[.slice (some ⟨b62081, 0, none⟩) (([97] : List Int).length) 1, .slice (some ⟨b62091, 0, none⟩) (([7] : List Int).length) 1], .slice (some ⟨b62096, 0, none⟩) (([98] : List Int).length) 1, .slice (some ⟨b62096, 0, none⟩) (([98] : List Int).length) 1, .agg #[.slice (some ⟨b62096, 0, none⟩) (([98] : List Int).length) 1, .slice none 0 0], .slice (some ⟨b62110, 0, none⟩) 2 2, .agg #[.bool true, .slice (some ⟨b62110, 0, none⟩) 2 2, .slice none 0 0, .slice none 0 0], .tuple #[.int .i64 x62118.1, .slice A62125 x62118.2.1.length c62127, .int .i64 x62118.2.2], .int .i64 x62118.1, .slice A62125 x62118.2.1.length c62127, .int .i64 x62118.2.2, .slice (some ⟨b62139, 0, none⟩) (([98] : List Int).length) 1, .slice (some ⟨b62139, 0, none⟩) (([98] : List Int).length) 1, .slice (some ⟨b62149, 0, none⟩) 1 1, .slice (some ⟨b62154, 0, none⟩) 2 2, .agg #[.bool false, .slice none 0 0, .slice (some ⟨b62149, 0, none⟩) 1 1, .slice (some ⟨b62154, 0, none⟩) 2 2], .int .i64 x62118.2.2, .bool (decide (x62118.2.2 = 0)), .bool true, .int .i64 x62118.1, .bool (decide (x62118.1 = 3)), .bool (decide (x62118.1 = 3)), .bool true, .slice A62125 x62118.2.1.length c62127, .int .i64 (x62118.2.1.length : Int), .bool (decide ((x62118.2.1.length : Int) = 240)), .bool (decide ((x62118.2.1.length : Int) = 240)), .bool true, .slice A62125 x62118.2.1.length c62127, .slice A62125 y62261.length c62127, .slice (some ⟨b62272, 0, none⟩) 9 9, .bool x62280, .bool x62280, .bool true, .agg #[.bool false, .slice none 0 0, .slice (some ⟨b62149, 0, none⟩) 1 1, .slice (some ⟨b62154, 0, none⟩) 2 2], .slice (some ⟨b62291, 0, none⟩) (([98] : List Int).length) 1, .slice (some ⟨b62291, 0, none⟩) (([98] : List Int).length) 1, .int .i64 x62308, .bool (decide (x62308 = 1)), .bool (decide (x62308 = 1)), .bool false, undef, undef, undef, undef, undef, .bool false] _ hf s kk)
          · have hf := iteF h62289 hf
            refine RW.seg hT 15 [] [(41, .bool false)] [.bool false, undef, undef, undef, undef, undef, .bool false, .bool false, undef, undef, undef, undef, undef, .bool false, .bool false] [.veq (.bool (x62280)) (.bool false)] (by kernel_rfl) (b_f h62289) ?_
            refine RW.nil ?_
            replace s := s.pick [] 5 rfl
            exact fun X h => kc (by kernel_rfl) rfl (h I62288 false [.int .i64 x62118.1, .slice A62125 x62118.2.1.length c62127, .int .i64 x62118.2.2, .pointer (some ⟨b62159, 0, none⟩), .tuple #[.int .i64 x62118.1, .slice A62125 x62118.2.1.length c62127, .int .i64 x62118.2.2], .slice (some ⟨b62081, 0, none⟩) (([97] : List Int).length) 1, .slice (some ⟨b62081, 0, none⟩) (([97] : List Int).length) 1, .slice (some ⟨b62091, 0, none⟩) (([7] : List Int).length) 1, .agg #[.slice (some ⟨b62081, 0, none⟩) (([97] : List Int).length) 1, .slice (some ⟨b62091, 0, none⟩) (([7] : List Int).length) 1], .slice (some ⟨b62096, 0, none⟩) (([98] : List Int).length) 1, .slice (some ⟨b62096, 0, none⟩) (([98] : List Int).length) 1, .agg #[.slice (some ⟨b62096, 0, none⟩) (([98] : List Int).length) 1, .slice none 0 0], .slice (some ⟨b62110, 0, none⟩) 2 2, .agg #[.bool true, .slice (some ⟨b62110, 0, none⟩) 2 2, .slice none 0 0, .slice none 0 0], .tuple #[.int .i64 x62118.1, .slice A62125 x62118.2.1.length c62127, .int .i64 x62118.2.2], .int .i64 x62118.1, .slice A62125 x62118.2.1.length c62127, .int .i64 x62118.2.2, .slice (some ⟨b62139, 0, none⟩) (([98] : List Int).length) 1, .slice (some ⟨b62139, 0, none⟩) (([98] : List Int).length) 1, .slice (some ⟨b62149, 0, none⟩) 1 1, .slice (some ⟨b62154, 0, none⟩) 2 2, .agg #[.bool false, .slice none 0 0, .slice (some ⟨b62149, 0, none⟩) 1 1, .slice (some ⟨b62154, 0, none⟩) 2 2], .int .i64 x62118.2.2, .bool (decide (x62118.2.2 = 0)), .bool true, .int .i64 x62118.1, .bool (decide (x62118.1 = 3)), .bool (decide (x62118.1 = 3)), .bool true, .slice A62125 x62118.2.1.length c62127, .int .i64 (x62118.2.1.length : Int), .bool (decide ((x62118.2.1.length : Int) = 240)), .bool (decide ((x62118.2.1.length : Int) = 240)), .bool true, .slice A62125 x62118.2.1.length c62127, .slice A62125 y62261.length c62127, .slice (some ⟨b62272, 0, none⟩) 9 9, .bool x62280, .bool x62280, .bool false, undef, undef, undef, undef, undef, .bool false, .bool false, undef, undef, undef, undef, undef, .bool false] _ hf s kk)
        · have hf := iteF h62260 hf
          refine RW.seg hT 21 [] [(35, .bool false)] [.bool false, undef, undef, undef, undef, .bool false, .bool false, undef, undef, undef, undef, undef, .bool false, .bool false, undef, undef, undef, undef, undef, .bool false, .bool false] [.veq (.bool (decide ((x62118.2.1.length : Int) = 240))) (.bool false)] (by kernel_rfl) (bo_f h62260) ?_
          refine RW.nil ?_
          replace s := s.pick [] 4 rfl
          exact fun X h => kc (by kernel_rfl) rfl (h I62143 false [.int .i64 x62118.1, .slice A62125 x62118.2.1.length c62127, .int .i64 x62118.2.2, .pointer (some ⟨b62159, 0, none⟩), .tuple #[.int .i64 x62118.1, .slice A62125 x62118.2.1.length c62127, .int .i64 x62118.2.2], .slice (some ⟨b62081, 0, none⟩) (([97] : List Int).length) 1, .slice (some ⟨b62081, 0, none⟩) (([97] : List Int).length) 1, .slice (some ⟨b62091, 0, none⟩) (([7] : List Int).length) 1, .agg #[.slice (some ⟨b62081, 0, none⟩) (([97] : List Int).length) 1, .slice (some ⟨b62091, 0, none⟩) (([7] : List Int).length) 1], .slice (some ⟨b62096, 0, none⟩) (([98] : List Int).length) 1, .slice (some ⟨b62096, 0, none⟩) (([98] : List Int).length) 1, .agg #[.slice (some ⟨b62096, 0, none⟩) (([98] : List Int).length) 1, .slice none 0 0], .slice (some ⟨b62110, 0, none⟩) 2 2, .agg #[.bool true, .slice (some ⟨b62110, 0, none⟩) 2 2, .slice none 0 0, .slice none 0 0], .tuple #[.int .i64 x62118.1, .slice A62125 x62118.2.1.length c62127, .int .i64 x62118.2.2], .int .i64 x62118.1, .slice A62125 x62118.2.1.length c62127, .int .i64 x62118.2.2, .slice (some ⟨b62139, 0, none⟩) (([98] : List Int).length) 1, .slice (some ⟨b62139, 0, none⟩) (([98] : List Int).length) 1, .slice (some ⟨b62149, 0, none⟩) 1 1, .slice (some ⟨b62154, 0, none⟩) 2 2, .agg #[.bool false, .slice none 0 0, .slice (some ⟨b62149, 0, none⟩) 1 1, .slice (some ⟨b62154, 0, none⟩) 2 2], .int .i64 x62118.2.2, .bool (decide (x62118.2.2 = 0)), .bool true, .int .i64 x62118.1, .bool (decide (x62118.1 = 3)), .bool (decide (x62118.1 = 3)), .bool true, .slice A62125 x62118.2.1.length c62127, .int .i64 (x62118.2.1.length : Int), .bool (decide ((x62118.2.1.length : Int) = 240)), .bool (decide ((x62118.2.1.length : Int) = 240)), .bool false, undef, undef, undef, undef, .bool false, .bool false, undef, undef, undef, undef, undef, .bool false, .bool false, undef, undef, undef, undef, undef, .bool false] _ hf s kk)
      · have hf := iteF h62259 hf
        refine RW.seg hT 26 [] [(30, .bool false)] [.bool false, undef, undef, undef, .bool false, .bool false, undef, undef, undef, undef, .bool false, .bool false, undef, undef, undef, undef, undef, .bool false, .bool false, undef, undef, undef, undef, undef, .bool false, .bool false] [.veq (.bool (decide (x62118.1 = 3))) (.bool false)] (by kernel_rfl) (bo_f h62259) ?_
        refine RW.nil ?_
        replace s := s.pick [] 4 rfl
        exact fun X h => kc (by kernel_rfl) rfl (h I62143 false [.int .i64 x62118.1, .slice A62125 x62118.2.1.length c62127, .int .i64 x62118.2.2, .pointer (some ⟨b62159, 0, none⟩), .tuple #[.int .i64 x62118.1, .slice A62125 x62118.2.1.length c62127, .int .i64 x62118.2.2], .slice (some ⟨b62081, 0, none⟩) (([97] : List Int).length) 1, .slice (some ⟨b62081, 0, none⟩) (([97] : List Int).length) 1, .slice (some ⟨b62091, 0, none⟩) (([7] : List Int).length) 1, .agg #[.slice (some ⟨b62081, 0, none⟩) (([97] : List Int).length) 1, .slice (some ⟨b62091, 0, none⟩) (([7] : List Int).length) 1], .slice (some ⟨b62096, 0, none⟩) (([98] : List Int).length) 1, .slice (some ⟨b62096, 0, none⟩) (([98] : List Int).length) 1, .agg #[.slice (some ⟨b62096, 0, none⟩) (([98] : List Int).length) 1, .slice none 0 0], .slice (some ⟨b62110, 0, none⟩) 2 2, .agg #[.bool true, .slice (some ⟨b62110, 0, none⟩) 2 2, .slice none 0 0, .slice none 0 0], .tuple #[.int .i64 x62118.1, .slice A62125 x62118.2.1.length c62127, .int .i64 x62118.2.2], .int .i64 x62118.1, .slice A62125 x62118.2.1.length c62127, .int .i64 x62118.2.2, .slice (some ⟨b62139, 0, none⟩) (([98] : List Int).length) 1, .slice (some ⟨b62139, 0, none⟩) (([98] : List Int).length) 1, .slice (some ⟨b62149, 0, none⟩) 1 1, .slice (some ⟨b62154, 0, none⟩) 2 2, .agg #[.bool false, .slice none 0 0, .slice (some ⟨b62149, 0, none⟩) 1 1, .slice (some ⟨b62154, 0, none⟩) 2 2], .int .i64 x62118.2.2, .bool (decide (x62118.2.2 = 0)), .bool true, .int .i64 x62118.1, .bool (decide (x62118.1 = 3)), .bool (decide (x62118.1 = 3)), .bool false, undef, undef, undef, .bool false, .bool false, undef, undef, undef, undef, .bool false, .bool false, undef, undef, undef, undef, undef, .bool false, .bool false, undef, undef, undef, undef, undef, .bool false] _ hf s kk)
    · have hf := iteF h62258 hf
      refine RW.seg hT 30 [] [(26, .bool false)] [.bool false, undef, undef, .bool false, .bool false, undef, undef, undef, .bool false, .bool false, undef, undef, undef, undef, .bool false, .bool false, undef, undef, undef, undef, undef, .bool false, .bool false, undef, undef, undef, undef, undef, .bool false, .bool false] [.veq (.bool (decide (x62118.2.2 = 0))) (.bool false)] (by kernel_rfl) (bo_f h62258) ?_
      refine RW.nil ?_
      replace s := s.pick [] 4 rfl
      exact fun X h => kc (by kernel_rfl) rfl (h I62143 false [.int .i64 x62118.1, .slice A62125 x62118.2.1.length c62127, .int .i64 x62118.2.2, .pointer (some ⟨b62159, 0, none⟩), .tuple #[.int .i64 x62118.1, .slice A62125 x62118.2.1.length c62127, .int .i64 x62118.2.2], .slice (some ⟨b62081, 0, none⟩) (([97] : List Int).length) 1, .slice (some ⟨b62081, 0, none⟩) (([97] : List Int).length) 1, .slice (some ⟨b62091, 0, none⟩) (([7] : List Int).length) 1, .agg #[.slice (some ⟨b62081, 0, none⟩) (([97] : List Int).length) 1, .slice (some ⟨b62091, 0, none⟩) (([7] : List Int).length) 1], .slice (some ⟨b62096, 0, none⟩) (([98] : List Int).length) 1, .slice (some ⟨b62096, 0, none⟩) (([98] : List Int).length) 1, .agg #[.slice (some ⟨b62096, 0, none⟩) (([98] : List Int).length) 1, .slice none 0 0], .slice (some ⟨b62110, 0, none⟩) 2 2, .agg #[.bool true, .slice (some ⟨b62110, 0, none⟩) 2 2, .slice none 0 0, .slice none 0 0], .tuple #[.int .i64 x62118.1, .slice A62125 x62118.2.1.length c62127, .int .i64 x62118.2.2], .int .i64 x62118.1, .slice A62125 x62118.2.1.length c62127, .int .i64 x62118.2.2, .slice (some ⟨b62139, 0, none⟩) (([98] : List Int).length) 1, .slice (some ⟨b62139, 0, none⟩) (([98] : List Int).length) 1, .slice (some ⟨b62149, 0, none⟩) 1 1, .slice (some ⟨b62154, 0, none⟩) 2 2, .agg #[.bool false, .slice none 0 0, .slice (some ⟨b62149, 0, none⟩) 1 1, .slice (some ⟨b62154, 0, none⟩) 2 2], .int .i64 x62118.2.2, .bool (decide (x62118.2.2 = 0)), .bool false, undef, undef, .bool false, .bool false, undef, undef, undef, .bool false, .bool false, undef, undef, undef, undef, .bool false, .bool false, undef, undef, undef, undef, undef, .bool false, .bool false, undef, undef, undef, undef, undef, .bool false] _ hf s kk)
theorem c5 {w0 w : World} {M I : Nat → Prop} {F : List It} (p0 : (List T_api_Node)) (A69380 : Option Addr) (c69381 : Nat) (hc69382 : (p0.length ≤ c69381 ∧ c69381 ≤ 9223372036854775807)) (e69383 : Elems rp_T_api_Node I w A69380 p0) (s : St w0 M I (F) w) {r : Bool} (hf : g5 p0 = some r) :
    Ret Tryd.prog 5 [.slice A69380 p0.length c69381] w fun v wz => ∀ X : Value → World → Prop, (∀ (I' : Nat → Prop) (w' : World), St w0 M I' (F) w' → Kp I w I' w' → X (.bool r) w') → X v wz := by
  have kk : Kp I w I w := Kp.refl
  unfold g5 at hf
  refine Ret.of Tryd.func5 rfl ?_
  refine WPK.seq ?_
  refine WPK.region ?_
  refine RW.seg hT 1 [] [] [.bool false] [] (by kernel_rfl) (trivial) ?_
  refine RW.nil ?_
  refine WPK.seq ?_
  refine WPK.seq ?_
  refine WPK.region ?_
  refine RW.seg hT 3 [] [] [.slice A69380 p0.length c69381, .int .i64 (p0.length : Int), .int .i64 0] [] (by kernel_rfl) (trivial) ?_
  refine RW.nil ?_
  refine WPK.block ?_
  refine WPK.loop' (J := fun n75230 E ds wz => ∀ X : Kont, (∀ (I74062 : Nat → Prop) (x74060 : Int) (D74059 : List Value) (w' : World), g5_l1 p0 n75230 x74060 = some r → St w0 M I74062 (F) w' → Kp I w I74062 w' → Elems rp_T_api_Node I74062 w' A69380 p0 → X [(D74059.getD 0 undef), (D74059.getD 1 undef), .bool false, (D74059.getD 2 undef), (D74059.getD 3 undef), (D74059.getD 4 undef), (D74059.getD 5 undef), (D74059.getD 6 undef), (D74059.getD 7 undef), .slice A69380 p0.length c69381, .int .i64 (p0.length : Int), .int .i64 x74060, (D74059.getD 8 undef), (D74059.getD 9 undef), (D74059.getD 10 undef), (D74059.getD 11 undef), (D74059.getD 12 undef), (D74059.getD 13 undef), (D74059.getD 14 undef), (D74059.getD 15 undef), (D74059.getD 16 undef), (D74059.getD 17 undef), (D74059.getD 18 undef), (D74059.getD 19 undef), (D74059.getD 20 undef), (D74059.getD 21 undef), (D74059.getD 22 undef), (D74059.getD 23 undef), (D74059.getD 24 undef), (D74059.getD 25 undef), (D74059.getD 26 undef), (D74059.getD 27 undef), (D74059.getD 28 undef), (D74059.getD 29 undef), (D74059.getD 30 undef), (D74059.getD 31 undef), (D74059.getD 32 undef), (D74059.getD 33 undef), (D74059.getD 34 undef), (D74059.getD 35 undef), (D74059.getD 36 undef), (D74059.getD 37 undef), (D74059.getD 38 undef), (D74059.getD 39 undef), (D74059.getD 40 undef), (D74059.getD 41 undef), (D74059.getD 42 undef), (D74059.getD 43 undef), (D74059.getD 44 undef), (D74059.getD 45 undef), (D74059.getD 46 undef), (D74059.getD 47 undef), (D74059.getD 48 undef), (D74059.getD 49 undef), (D74059.getD 50 undef), (D74059.getD 51 undef), (D74059.getD 52 undef), (D74059.getD 53 undef), (D74059.getD 54 undef), (D74059.getD 55 undef), (D74059.getD 56 undef)] [] w') → X E ds wz) FUEL (fun X h => kc (by kernel_rfl) rfl (h I 0 [.slice A69380 p0.length c69381, undef, undef, undef, undef, undef, undef, undef, undef, undef, undef, undef, undef, undef, undef, undef, undef, undef, undef, undef, undef, undef, undef, undef, undef, undef, undef, undef, undef, undef, undef, undef, undef, undef, undef, undef, undef, undef, undef, undef, undef, undef, undef, undef, undef, undef, undef, undef, undef, undef, undef, undef, undef, undef, undef, undef, undef] _ hf s kk e69383)) (fun _ _ _ hJ => hJ (fun _ _ _ => False) (by intro I74062 x74060 D74059 w74061 hf s kk e69383; exact noneS hf)) ?_
  intro X76398 hX76399
  refine fun n75230 _ _ _ hJ => hJ (X76398 n75230) ?_
  clear s
  intro I74062 x74060 D74059 w74061 hf s kk e69383
  refine hX76399 _ _ _ _ ?_
  replace hf : g5_l1B p0 (g5_l1 p0 n75230) x74060 = some r := hf
  generalize hrec75231 : g5_l1 p0 n75230 = rec75229 at hf
  unfold g5_l1B at hf
  refine WPK.seq ?_
  refine WPK.region ?_
  refine RW.seg hT 1 [] [] [.bool (decide (x74060 < (p0.length : Int)))] [] (by kernel_rfl) (trivial) ?_
  refine RW.nil ?_
  refine WPK.seq ?_
  by_cases h75233 : x74060 < (p0.length : Int)
  · have hf := iteT h75233 hf
    refine WPK.condT (Eq.trans (b := .bool (decide (x74060 < (p0.length : Int)))) (by kernel_rfl) (bo_t h75233)) ?_
    refine WPK.skip ?_
    refine WPK.seq ?_
    refine WPK.block ?_
    refine WPK.seq ?_
    refine WPK.region ?_
    obtain ⟨x75816, hx75817, hf⟩ := bindS hf
    obtain ⟨h75818, hx75817⟩ := getS hx75817
    obtain ⟨b75819, o75820, rfl⟩ := Elems.opn e69383 hx75817
    obtain ⟨cs75821, hr75822, ha75823⟩ := Elems.get e69383 hx75817
    obtain ⟨cs75824, cs75825, rfl, hr75826, hr75827⟩ := hr75822
    obtain rfl : cs75824 = [.bool x75816.Leaf] := hr75826
    obtain ⟨cs75828, cs75829, rfl, hr75830, hr75831⟩ := hr75827
    obtain ⟨A75832, c75833, rfl, q75834, q75835, e75836⟩ := hr75830
    have hc75837 := And.intro q75834 q75835
    obtain ⟨cs75838, cs75839, rfl, hr75840, hr75841⟩ := hr75831
    obtain ⟨A75842, c75843, rfl, q75844, q75845, e75846⟩ := hr75840
    have hc75847 := And.intro q75844 q75845
    obtain ⟨A75848, c75849, rfl, q75850, q75851, e75852⟩ := hr75841
    have hc75853 := And.intro q75850 q75851
    refine RW.seg hT 2 [.agg #[.bool x75816.Leaf, .slice A75832 x75816.Pairs.length c75833, .slice A75842 x75816.Keys.length c75843, .slice A75848 x75816.Kids.length c75849]] [] [.pointer (some ⟨b75819, o75820 + x74060.toNat * 4, none⟩), .agg #[.bool x75816.Leaf, .slice A75832 x75816.Pairs.length c75833, .slice A75842 x75816.Keys.length c75843, .slice A75848 x75816.Kids.length c75849]] [.idx x74060 p0.length, .cells ⟨b75819, o75820 + x74060.toNat * 4, none⟩ [.bool x75816.Leaf, .slice A75832 x75816.Pairs.length c75833, .slice A75842 x75816.Keys.length c75843, .slice A75848 x75816.Kids.length c75849] 4] (by kernel_rfl) (⟨h75818, at_cells ha75823 (off := 0) rfl rfl⟩) ?_
    refine RW.op (by kernel_rfl) (OK.new hT (f := fun b => .pointer (some ⟨b, 0, none⟩)) (cs := [.bool false, .slice none 0 0, .slice none 0 0, .slice none 0 0]) (e := 26) (c := .tt) s (by kernel_rfl) trivial ?_)
    clear s
    rintro w75854 b75855 s k75856 -
    replace e69383 := e69383.st k75856
    replace e75836 := e75836.st k75856
    replace e75846 := e75846.st k75856
    replace e75852 := e75852.st k75856
    replace kk := kk.trans k75856
    refine RW.op (by kernel_rfl) (OK.store hT (i := 0) (b := b75855) (off := 0) (n := 4) (vs := [.bool x75816.Leaf, .slice A75832 x75816.Pairs.length c75833, .slice A75842 x75816.Keys.length c75843, .slice A75848 x75816.Kids.length c75849]) (cs := [.bool false, .slice none 0 0, .slice none 0 0, .slice none 0 0]) (e := 26) s (by kernel_rfl) rfl rfl (flat_ok rfl) (Nat.le_of_ble_eq_true rfl) ?_)
    clear s
    rintro w75857 s k75858 -
    replace e69383 := e69383.st k75858
    replace e75836 := e75836.st k75858
    replace e75846 := e75846.st k75858
    replace e75852 := e75852.st k75858
    replace kk := kk.trans k75858
    refine RW.nil ?_
    refine WPK.seq ?_
    refine WPK.seq ?_
    refine WPK.cut' (Kn fun E ds wz => ∀ X : Kont, (∀ (x75867 : Bool) (x75868 : Bool) (x75869 : Bool) (x75870 : Bool) (D75866 : List Value), g5_j2 x74060 rec75229 x75816 x75867 x75868 x75869 x75870 = some r → X [(D75866.getD 0 undef), (D75866.getD 1 undef), .bool false, (D75866.getD 2 undef), .pointer (some ⟨b75855, 0, none⟩), (D75866.getD 3 undef), (D74059.getD 5 undef), (D75866.getD 4 undef), (D74059.getD 7 undef), .slice (some ⟨b75819, o75820, none⟩) p0.length c69381, .int .i64 (p0.length : Int), .int .i64 x74060, .bool (decide (x74060 < (p0.length : Int))), .pointer (some ⟨b75819, o75820 + x74060.toNat * 4, none⟩), .agg #[.bool x75816.Leaf, .slice A75832 x75816.Pairs.length c75833, .slice A75842 x75816.Keys.length c75843, .slice A75848 x75816.Kids.length c75849], .pointer (some ⟨b75855, 1, none⟩), .slice A75832 x75816.Pairs.length c75833, .int .i64 (x75816.Pairs.length : Int), .bool (decide ((x75816.Pairs.length : Int) > 300)), .bool x75867, (D75866.getD 5 undef), (D75866.getD 6 undef), (D75866.getD 7 undef), (D75866.getD 8 undef), .bool x75868, .bool x75869, (D75866.getD 9 undef), (D75866.getD 10 undef), (D75866.getD 11 undef), (D75866.getD 12 undef), .bool x75870, (D74059.getD 27 undef), (D74059.getD 28 undef), (D74059.getD 29 undef), (D74059.getD 30 undef), (D74059.getD 31 undef), (D74059.getD 32 undef), (D74059.getD 33 undef), (D74059.getD 34 undef), (D74059.getD 35 undef), (D74059.getD 36 undef), (D74059.getD 37 undef), (D74059.getD 38 undef), (D74059.getD 39 undef), (D74059.getD 40 undef), (D74059.getD 41 undef), (D74059.getD 42 undef), (D74059.getD 43 undef), (D74059.getD 44 undef), (D74059.getD 45 undef), (D74059.getD 46 undef), (D74059.getD 47 undef), (D74059.getD 48 undef), (D74059.getD 49 undef), (D74059.getD 50 undef), (D74059.getD 51 undef), (D74059.getD 52 undef), (D74059.getD 53 undef), (D74059.getD 54 undef), (D74059.getD 55 undef), (D74059.getD 56 undef)] [] w75857) → X E ds wz) ?_ ?_
    · intro X76394 hX76395
      refine fun _ _ _ hJ => hJ X76394 ?_
      intro x75867 x75868 x75869 x75870 D75866 hf
      refine hX76395 _ _ _ ?_
      unfold g5_j2 at hf
      by_cases h75871 : x75870 = true
      · have hf := iteT h75871 hf
        refine WPK.condT (Eq.trans (b := .bool x75870) (by kernel_rfl) (b_t h75871)) ?_
        refine WPK.seq ?_
        refine WPK.region ?_
        refine RW.seg hT 1 [] [] [.bool false] [] (by kernel_rfl) (trivial) ?_
        refine RW.nil ?_
        refine WPK.ret (blockQ.ret (blockQ.ret (?_)))
        obtain rfl := someS hf
        refine Fin.of (rs := [.tmp 2]) hT [] (.bool false) [] rfl (by kernel_rfl) (trivial) ?_
        replace s := s.pick [] 1 rfl
        exact fun X h => vc rfl (h I74062 _ s kk)
      · have hf := iteF h75871 hf
        refine WPK.condF (Eq.trans (b := .bool x75870) (by kernel_rfl) (b_f h75871)) ?_
        refine WPK.skip ?_
        refine WPK.seq ?_
        refine WPK.seq ?_
        refine WPK.region ?_
        refine RW.seg hT 4 [.slice A75832 x75816.Pairs.length c75833] [] [.pointer (some ⟨b75855, 1, none⟩), .slice A75832 x75816.Pairs.length c75833, .int .i64 (x75816.Pairs.length : Int), .int .i64 0] [.cell ⟨b75855, 1, none⟩ (.slice A75832 x75816.Pairs.length c75833)] (by kernel_rfl) (s.cell (i := 0) (off := 1) rfl rfl) ?_
        refine RW.nil ?_
        refine WPK.block ?_
        refine WPK.loop' (J := fun n76220 E ds wz => ∀ X : Kont, (∀ (I76152 : Nat → Prop) (x76150 : Int) (D76148 : List Value) (d76149 : Value) (w' : World), g5_l3 x74060 rec75229 x75816 n76220 x76150 = some r → St w0 M I76152 ((.blk b75855 (.cells #[.bool x75816.Leaf, .slice A75832 x75816.Pairs.length c75833, .slice A75842 x75816.Keys.length c75843, .slice A75848 x75816.Kids.length c75849] 26 (0, 0))) :: F) w' → Kp I w I76152 w' → Elems rp_T_api_Node I76152 w' (some ⟨b75819, o75820, none⟩) p0 → Elems rp_T_api_Pair I76152 w' A75832 x75816.Pairs → Elems (Rp.slice (Rp.int .u8)) I76152 w' A75842 x75816.Keys → Elems (Rp.int .i64) I76152 w' A75848 x75816.Kids → X [(D76148.getD 0 undef), (D76148.getD 1 undef), .bool false, (D76148.getD 2 undef), .pointer (some ⟨b75855, 0, none⟩), (D76148.getD 3 undef), (D76148.getD 4 undef), (D76148.getD 5 undef), (D74059.getD 7 undef), .slice (some ⟨b75819, o75820, none⟩) p0.length c69381, .int .i64 (p0.length : Int), .int .i64 x74060, .bool (decide (x74060 < (p0.length : Int))), d76149, .agg #[.bool x75816.Leaf, .slice A75832 x75816.Pairs.length c75833, .slice A75842 x75816.Keys.length c75843, .slice A75848 x75816.Kids.length c75849], .pointer (some ⟨b75855, 1, none⟩), .slice A75832 x75816.Pairs.length c75833, .int .i64 (x75816.Pairs.length : Int), .bool (decide ((x75816.Pairs.length : Int) > 300)), .bool x75867, (D75866.getD 5 undef), (D75866.getD 6 undef), (D75866.getD 7 undef), (D75866.getD 8 undef), .bool x75868, .bool x75869, (D75866.getD 9 undef), (D75866.getD 10 undef), (D75866.getD 11 undef), (D75866.getD 12 undef), .bool x75870, .pointer (some ⟨b75855, 1, none⟩), .slice A75832 x75816.Pairs.length c75833, .int .i64 (x75816.Pairs.length : Int), .int .i64 x76150, (D76148.getD 6 undef), (D76148.getD 7 undef), (D76148.getD 8 undef), (D76148.getD 9 undef), (D76148.getD 10 undef), (D76148.getD 11 undef), (D76148.getD 12 undef), (D76148.getD 13 undef), (D76148.getD 14 undef), (D76148.getD 15 undef), (D76148.getD 16 undef), (D76148.getD 17 undef), (D76148.getD 18 undef), (D76148.getD 19 undef), (D74059.getD 45 undef), (D74059.getD 46 undef), (D74059.getD 47 undef), (D74059.getD 48 undef), (D74059.getD 49 undef), (D74059.getD 50 undef), (D74059.getD 51 undef), (D74059.getD 52 undef), (D74059.getD 53 undef), (D74059.getD 54 undef), (D74059.getD 55 undef), (D74059.getD 56 undef)] [] w') → X E ds wz) FUEL (fun X h => kc (by kernel_rfl) rfl (h I74062 0 [(D75866.getD 0 undef), (D75866.getD 1 undef), (D75866.getD 2 undef), (D75866.getD 3 undef), (D74059.getD 5 undef), (D75866.getD 4 undef), (D74059.getD 31 undef), (D74059.getD 32 undef), (D74059.getD 33 undef), (D74059.getD 34 undef), (D74059.getD 35 undef), (D74059.getD 36 undef), (D74059.getD 37 undef), (D74059.getD 38 undef), (D74059.getD 39 undef), (D74059.getD 40 undef), (D74059.getD 41 undef), (D74059.getD 42 undef), (D74059.getD 43 undef), (D74059.getD 44 undef)] (.pointer (some ⟨b75819, o75820 + x74060.toNat * 4, none⟩)) _ hf s kk e69383 e75836 e75846 e75852)) (fun _ _ _ hJ => hJ (fun _ _ _ => False) (by intro I76152 x76150 D76148 d76149 w76151 hf s kk e69383 e75836 e75846 e75852; exact noneS hf)) ?_
        intro X76392 hX76393
        refine fun n76220 _ _ _ hJ => hJ (X76392 n76220) ?_
        clear s
        intro I76152 x76150 D76148 d76149 w76151 hf s kk e69383 e75836 e75846 e75852
        refine hX76393 _ _ _ _ ?_
        replace hf : g5_l3B x74060 rec75229 x75816 (g5_l3 x74060 rec75229 x75816 n76220) x76150 = some r := hf
        generalize hrec76221 : g5_l3 x74060 rec75229 x75816 n76220 = rec76219 at hf
        unfold g5_l3B at hf
        refine WPK.seq ?_
        refine WPK.region ?_
        refine RW.seg hT 1 [] [] [.bool (decide (x76150 < (x75816.Pairs.length : Int)))] [] (by kernel_rfl) (trivial) ?_
        refine RW.nil ?_
        refine WPK.seq ?_
        by_cases h76223 : x76150 < (x75816.Pairs.length : Int)
        · have hf := iteT h76223 hf
          refine WPK.condT (Eq.trans (b := .bool (decide (x76150 < (x75816.Pairs.length : Int)))) (by kernel_rfl) (bo_t h76223)) ?_
          refine WPK.skip ?_
          refine WPK.seq ?_
          refine WPK.block ?_
          refine WPK.seq ?_
          refine WPK.region ?_
          obtain ⟨x76256, hx76257, hf⟩ := bindS hf
          obtain ⟨h76258, hx76257⟩ := getS hx76257
          obtain ⟨b76259, o76260, rfl⟩ := Elems.opn e75836 hx76257
          obtain ⟨cs76261, hr76262, ha76263⟩ := Elems.get e75836 hx76257
          obtain ⟨cs76264, cs76265, rfl, hr76266, hr76267⟩ := hr76262
          obtain ⟨A76268, c76269, rfl, q76270, q76271, e76272⟩ := hr76266
          have hc76273 := And.intro q76270 q76271
          obtain ⟨A76274, c76275, rfl, q76276, q76277, e76278⟩ := hr76267
          have hc76279 := And.intro q76276 q76277
          refine RW.seg hT 2 [.agg #[.slice A76268 x76256.Key.length c76269, .slice A76274 x76256.Val.length c76275]] [] [.pointer (some ⟨b76259, o76260 + x76150.toNat * 2, none⟩), .agg #[.slice A76268 x76256.Key.length c76269, .slice A76274 x76256.Val.length c76275]] [.idx x76150 x75816.Pairs.length, .cells ⟨b76259, o76260 + x76150.toNat * 2, none⟩ [.slice A76268 x76256.Key.length c76269, .slice A76274 x76256.Val.length c76275] 2] (by kernel_rfl) (⟨h76258, at_cells ha76263 (off := 0) rfl rfl⟩) ?_
          refine RW.op (by kernel_rfl) (OK.new hT (f := fun b => .pointer (some ⟨b, 0, none⟩)) (cs := [.slice none 0 0, .slice none 0 0]) (e := 41) (c := .tt) s (by kernel_rfl) trivial ?_)
          clear s
          rintro w76280 b76281 s k76282 -
          replace e69383 := e69383.st k76282
          replace e75836 := e75836.st k76282
          replace e75846 := e75846.st k76282
          replace e75852 := e75852.st k76282
          replace e76272 := e76272.st k76282
          replace e76278 := e76278.st k76282
          replace kk := kk.trans k76282
          refine RW.op (by kernel_rfl) (OK.store hT (i := 0) (b := b76281) (off := 0) (n := 2) (vs := [.slice A76268 x76256.Key.length c76269, .slice A76274 x76256.Val.length c76275]) (cs := [.slice none 0 0, .slice none 0 0]) (e := 41) s (by kernel_rfl) rfl rfl (flat_ok rfl) (Nat.le_of_ble_eq_true rfl) ?_)
          clear s
          rintro w76283 s k76284 -
          replace e69383 := e69383.st k76284
          replace e75836 := e75836.st k76284
          replace e75846 := e75846.st k76284
          replace e75852 := e75852.st k76284
          replace e76272 := e76272.st k76284
          replace e76278 := e76278.st k76284
          replace kk := kk.trans k76284
          refine RW.nil ?_
          refine WPK.seq ?_
          refine WPK.region ?_
          refine RW.seg hT 4 [.slice A76268 x76256.Key.length c76269] [] [.pointer (some ⟨b76281, 0, none⟩), .slice A76268 x76256.Key.length c76269, .int .i64 (x76256.Key.length : Int), .bool (decide ((x76256.Key.length : Int) > 300))] [.cell ⟨b76281, 0, none⟩ (.slice A76268 x76256.Key.length c76269)] (by kernel_rfl) (s.cell (i := 0) (off := 0) rfl rfl) ?_
          by_cases h76286 : (x76256.Key.length : Int) > 300
          · have hf := iteT h76286 hf
            refine RW.seg hT 6 [] [(42, .bool true)] [.bool true, undef, undef, undef, undef, .bool true] [.veq (.bool (decide ((x76256.Key.length : Int) > 300))) (.bool true)] (by kernel_rfl) (bo_t h76286) ?_
            refine RW.nil ?_
            refine WPK.condT (by kernel_rfl) ?_
            refine WPK.seq ?_
            refine WPK.region ?_
            refine RW.seg hT 1 [] [] [.bool false] [] (by kernel_rfl) (trivial) ?_
            refine RW.nil ?_
            refine WPK.ret (blockQ.ret (blockQ.ret (blockQ.ret (blockQ.ret (?_)))))
            obtain rfl := someS hf
            refine Fin.of (rs := [.tmp 2]) hT [] (.bool false) [] rfl (by kernel_rfl) (trivial) ?_
            replace s := s.pick [] 2 rfl
            exact fun X h => vc rfl (h I76152 _ s kk)
          · have hf := iteF h76286 hf
            refine RW.seg hT 6 [.slice A76274 x76256.Val.length c76275] [(42, .bool false)] [.bool false, .pointer (some ⟨b76281, 1, none⟩), .slice A76274 x76256.Val.length c76275, .int .i64 (x76256.Val.length : Int), .bool (decide ((x76256.Val.length : Int) > 300)), .bool (decide ((x76256.Val.length : Int) > 300))] [.veq (.bool (decide ((x76256.Key.length : Int) > 300))) (.bool false), .cell ⟨b76281, 1, none⟩ (.slice A76274 x76256.Val.length c76275)] (by kernel_rfl) (⟨bo_f h76286, s.cell (i := 0) (off := 1) rfl rfl⟩) ?_
            refine RW.nil ?_
            by_cases h76287 : (x76256.Val.length : Int) > 300
            · have hf := iteT h76287 hf
              refine WPK.condT (Eq.trans (b := .bool (decide ((x76256.Val.length : Int) > 300))) (by kernel_rfl) (bo_t h76287)) ?_
              refine WPK.seq ?_
              refine WPK.region ?_
              refine RW.seg hT 1 [] [] [.bool false] [] (by kernel_rfl) (trivial) ?_
              refine RW.nil ?_
              refine WPK.ret (blockQ.ret (blockQ.ret (blockQ.ret (blockQ.ret (?_)))))
              obtain rfl := someS hf
              refine Fin.of (rs := [.tmp 2]) hT [] (.bool false) [] rfl (by kernel_rfl) (trivial) ?_
              replace s := s.pick [] 2 rfl
              exact fun X h => vc rfl (h I76152 _ s kk)
            · have hf := iteF h76287 hf
              refine WPK.condF (Eq.trans (b := .bool (decide ((x76256.Val.length : Int) > 300))) (by kernel_rfl) (bo_f h76287)) ?_
              refine WPK.skip ?_
              refine WPK.region ?_
              refine RW.seg hT 2 [] [] [.int .i64 (IntKind.i64.wrap (x76150 + 1)), .int .i64 (IntKind.i64.wrap (x76150 + 1))] [] (by kernel_rfl) (trivial) ?_
              refine RW.nil ?_
              subst hrec76221
              replace s := s.pick [1] 2 rfl
              exact ⟨n76220, Nat.le_refl _, fun X h => kc (by kernel_rfl) rfl (h I76152 (IntKind.i64.wrap (x76150 + 1)) [(D76148.getD 0 undef), (D76148.getD 1 undef), (D76148.getD 2 undef), (D76148.getD 3 undef), .pointer (some ⟨b76281, 0, none⟩), (D76148.getD 5 undef), .bool (decide (x76150 < (x75816.Pairs.length : Int))), .pointer (some ⟨b76259, o76260 + x76150.toNat * 2, none⟩), .agg #[.slice A76268 x76256.Key.length c76269, .slice A76274 x76256.Val.length c76275], .pointer (some ⟨b76281, 0, none⟩), .slice A76268 x76256.Key.length c76269, .int .i64 (x76256.Key.length : Int), .bool (decide ((x76256.Key.length : Int) > 300)), .bool false, .pointer (some ⟨b76281, 1, none⟩), .slice A76274 x76256.Val.length c76275, .int .i64 (x76256.Val.length : Int), .bool (decide ((x76256.Val.length : Int) > 300)), .bool (decide ((x76256.Val.length : Int) > 300)), .int .i64 (IntKind.i64.wrap (x76150 + 1))] (d76149) _ hf s kk e69383 e75836 e75846 e75852)⟩
        · have hf := iteF h76223 hf
          refine WPK.condF (Eq.trans (b := .bool (decide (x76150 < (x75816.Pairs.length : Int)))) (by kernel_rfl) (bo_f h76223)) ?_
          refine WPK.exit (blockQ.same ?_)
          refine WPK.seq ?_
          refine WPK.region ?_
          refine RW.seg hT 4 [.slice A75842 x75816.Keys.length c75843] [] [.pointer (some ⟨b75855, 2, none⟩), .slice A75842 x75816.Keys.length c75843, .int .i64 (x75816.Keys.length : Int), .int .i64 0] [.cell ⟨b75855, 2, none⟩ (.slice A75842 x75816.Keys.length c75843)] (by kernel_rfl) (s.cell (i := 0) (off := 2) rfl rfl) ?_
          refine RW.nil ?_
          refine WPK.block ?_
          refine WPK.loop' (J := fun n76356 E ds wz => ∀ X : Kont, (∀ (x76322 : Int) (D76321 : List Value), g5_l4 x74060 rec75229 x75816 n76356 x76322 = some r → X [(D76321.getD 0 undef), (D76321.getD 1 undef), .bool false, (D76321.getD 2 undef), .pointer (some ⟨b75855, 0, none⟩), (D76321.getD 3 undef), (D76148.getD 4 undef), (D76321.getD 4 undef), (D76321.getD 5 undef), .slice (some ⟨b75819, o75820, none⟩) p0.length c69381, .int .i64 (p0.length : Int), .int .i64 x74060, .bool (decide (x74060 < (p0.length : Int))), d76149, .agg #[.bool x75816.Leaf, .slice A75832 x75816.Pairs.length c75833, .slice A75842 x75816.Keys.length c75843, .slice A75848 x75816.Kids.length c75849], .pointer (some ⟨b75855, 1, none⟩), .slice A75832 x75816.Pairs.length c75833, .int .i64 (x75816.Pairs.length : Int), .bool (decide ((x75816.Pairs.length : Int) > 300)), .bool x75867, (D75866.getD 5 undef), (D75866.getD 6 undef), (D75866.getD 7 undef), (D75866.getD 8 undef), .bool x75868, .bool x75869, (D75866.getD 9 undef), (D75866.getD 10 undef), (D75866.getD 11 undef), (D75866.getD 12 undef), .bool x75870, .pointer (some ⟨b75855, 1, none⟩), .slice A75832 x75816.Pairs.length c75833, .int .i64 (x75816.Pairs.length : Int), .int .i64 x76150, .bool (decide (x76150 < (x75816.Pairs.length : Int))), (D76148.getD 7 undef), (D76148.getD 8 undef), (D76148.getD 9 undef), (D76148.getD 10 undef), (D76148.getD 11 undef), (D76148.getD 12 undef), (D76148.getD 13 undef), (D76148.getD 14 undef), (D76148.getD 15 undef), (D76148.getD 16 undef), (D76148.getD 17 undef), (D76148.getD 18 undef), (D76148.getD 19 undef), .pointer (some ⟨b75855, 2, none⟩), .slice A75842 x75816.Keys.length c75843, .int .i64 (x75816.Keys.length : Int), .int .i64 x76322, (D76321.getD 6 undef), (D76321.getD 7 undef), (D76321.getD 8 undef), (D76321.getD 9 undef), (D76321.getD 10 undef), (D76321.getD 11 undef), (D76321.getD 12 undef), (D74059.getD 56 undef)] [] w76151) → X E ds wz) FUEL (fun X h => kc (by kernel_rfl) rfl (h 0 [(D76148.getD 0 undef), (D76148.getD 1 undef), (D76148.getD 2 undef), (D76148.getD 3 undef), (D76148.getD 5 undef), (D74059.getD 7 undef), (D74059.getD 49 undef), (D74059.getD 50 undef), (D74059.getD 51 undef), (D74059.getD 52 undef), (D74059.getD 53 undef), (D74059.getD 54 undef), (D74059.getD 55 undef)] hf)) (fun _ _ _ hJ => hJ (fun _ _ _ => False) (by intro x76322 D76321 hf; exact noneS hf)) ?_
          intro X76390 hX76391
          refine fun n76356 _ _ _ hJ => hJ (X76390 n76356) ?_
          intro x76322 D76321 hf
          refine hX76391 _ _ _ _ ?_
          replace hf : g5_l4B x74060 rec75229 x75816 (g5_l4 x74060 rec75229 x75816 n76356) x76322 = some r := hf
          generalize hrec76357 : g5_l4 x74060 rec75229 x75816 n76356 = rec76355 at hf
          unfold g5_l4B at hf
          refine WPK.seq ?_
          refine WPK.region ?_
          refine RW.seg hT 1 [] [] [.bool (decide (x76322 < (x75816.Keys.length : Int)))] [] (by kernel_rfl) (trivial) ?_
          refine RW.nil ?_
          refine WPK.seq ?_
          by_cases h76359 : x76322 < (x75816.Keys.length : Int)
          · have hf := iteT h76359 hf
            refine WPK.condT (Eq.trans (b := .bool (decide (x76322 < (x75816.Keys.length : Int)))) (by kernel_rfl) (bo_t h76359)) ?_
            refine WPK.skip ?_
            refine WPK.seq ?_
            refine WPK.block ?_
            refine WPK.seq ?_
            refine WPK.region ?_
            obtain ⟨x76375, hx76376, hf⟩ := bindS hf
            obtain ⟨h76377, hx76376⟩ := getS hx76376
            obtain ⟨b76378, o76379, rfl⟩ := Elems.opn e75846 hx76376
            obtain ⟨cs76380, hr76381, ha76382⟩ := Elems.get e75846 hx76376
            obtain ⟨A76383, c76384, rfl, q76385, q76386, e76387⟩ := hr76381
            have hc76388 := And.intro q76385 q76386
            refine RW.seg hT 3 [.slice A76383 x76375.length c76384] [] [.pointer (some ⟨b76378, o76379 + x76322.toNat * 1, none⟩), .slice A76383 x76375.length c76384, .slice A76383 x76375.length c76384] [.idx x76322 x75816.Keys.length, .cell ⟨b76378, o76379 + x76322.toNat * 1, none⟩ (.slice A76383 x76375.length c76384)] (by kernel_rfl) (⟨h76377, ha76382 0 _ rfl⟩) ?_
            refine RW.nil ?_
            refine WPK.seq ?_
            refine WPK.region ?_
            refine RW.seg hT 3 [] [] [.slice A76383 x76375.length c76384, .int .i64 (x76375.length : Int), .bool (decide ((x76375.length : Int) > 300))] [] (by kernel_rfl) (trivial) ?_
            refine RW.nil ?_
            by_cases h76389 : (x76375.length : Int) > 300
            · have hf := iteT h76389 hf
              refine WPK.condT (Eq.trans (b := .bool (decide ((x76375.length : Int) > 300))) (by kernel_rfl) (bo_t h76389)) ?_
              refine WPK.seq ?_
              refine WPK.region ?_
              refine RW.seg hT 1 [] [] [.bool false] [] (by kernel_rfl) (trivial) ?_
              refine RW.nil ?_
              refine WPK.ret (blockQ.ret (blockQ.ret (blockQ.ret (blockQ.ret (?_)))))
              obtain rfl := someS hf
              refine Fin.of (rs := [.tmp 2]) hT [] (.bool false) [] rfl (by kernel_rfl) (trivial) ?_
              replace s := s.pick [] 1 rfl
              exact fun X h => vc rfl (h I76152 _ s kk)
            · have hf := iteF h76389 hf
              refine WPK.condF (Eq.trans (b := .bool (decide ((x76375.length : Int) > 300))) (by kernel_rfl) (bo_f h76389)) ?_
              refine WPK.skip ?_
              refine WPK.region ?_
              refine RW.seg hT 2 [] [] [.int .i64 (IntKind.i64.wrap (x76322 + 1)), .int .i64 (IntKind.i64.wrap (x76322 + 1))] [] (by kernel_rfl) (trivial) ?_
              refine RW.nil ?_
              subst hrec76357
              exact ⟨n76356, Nat.le_refl _, fun X h => kc (by kernel_rfl) rfl (h (IntKind.i64.wrap (x76322 + 1)) [(D76321.getD 0 undef), (D76321.getD 1 undef), (D76321.getD 2 undef), (D76321.getD 3 undef), (D76321.getD 4 undef), .slice A76383 x76375.length c76384, .bool (decide (x76322 < (x75816.Keys.length : Int))), .pointer (some ⟨b76378, o76379 + x76322.toNat * 1, none⟩), .slice A76383 x76375.length c76384, .slice A76383 x76375.length c76384, .int .i64 (x76375.length : Int), .bool (decide ((x76375.length : Int) > 300)), .int .i64 (IntKind.i64.wrap (x76322 + 1))] hf)⟩
          · have hf := iteF h76359 hf
            refine WPK.condF (Eq.trans (b := .bool (decide (x76322 < (x75816.Keys.length : Int)))) (by kernel_rfl) (bo_f h76359)) ?_
            refine WPK.exit (blockQ.same ?_)
            refine WPK.region ?_
            refine RW.seg hT 2 [] [] [.int .i64 (IntKind.i64.wrap (x74060 + 1)), .int .i64 (IntKind.i64.wrap (x74060 + 1))] [] (by kernel_rfl) (trivial) ?_
            refine RW.nil ?_
            subst hrec75231
            replace s := s.pick [] 1 rfl
            exact ⟨n75230, Nat.le_refl _, fun X h => kc (by kernel_rfl) rfl (h I76152 (IntKind.i64.wrap (x74060 + 1)) [(D76321.getD 0 undef), (D76321.getD 1 undef), (D76321.getD 2 undef), .pointer (some ⟨b75855, 0, none⟩), (D76321.getD 3 undef), (D76148.getD 4 undef), (D76321.getD 4 undef), (D76321.getD 5 undef), .bool (decide (x74060 < (p0.length : Int))), d76149, .agg #[.bool x75816.Leaf, .slice A75832 x75816.Pairs.length c75833, .slice A75842 x75816.Keys.length c75843, .slice A75848 x75816.Kids.length c75849], .pointer (some ⟨b75855, 1, none⟩), .slice A75832 x75816.Pairs.length c75833, .int .i64 (x75816.Pairs.length : Int), .bool (decide ((x75816.Pairs.length : Int) > 300)), .bool x75867, (D75866.getD 5 undef), (D75866.getD 6 undef), (D75866.getD 7 undef), (D75866.getD 8 undef), .bool x75868, .bool x75869, (D75866.getD 9 undef), (D75866.getD 10 undef), (D75866.getD 11 undef), (D75866.getD 12 undef), .bool x75870, .pointer (some ⟨b75855, 1, none⟩), .slice A75832 x75816.Pairs.length c75833, .int .i64 (x75816.Pairs.length : Int), .int .i64 x76150, .bool (decide (x76150 < (x75816.Pairs.length : Int))), (D76148.getD 7 undef), (D76148.getD 8 undef), (D76148.getD 9 undef), (D76148.getD 10 undef), (D76148.getD 11 undef), (D76148.getD 12 undef), (D76148.getD 13 undef), (D76148.getD 14 undef), (D76148.getD 15 undef), (D76148.getD 16 undef), (D76148.getD 17 undef), (D76148.getD 18 undef), (D76148.getD 19 undef), .pointer (some ⟨b75855, 2, none⟩), .slice A75842 x75816.Keys.length c75843, .int .i64 (x75816.Keys.length : Int), .int .i64 x76322, .bool (decide (x76322 < (x75816.Keys.length : Int))), (D76321.getD 7 undef), (D76321.getD 8 undef), (D76321.getD 9 undef), (D76321.getD 10 undef), (D76321.getD 11 undef), (D76321.getD 12 undef), .int .i64 (IntKind.i64.wrap (x74060 + 1))] _ hf s kk e69383)⟩
    · refine WPK.region ?_
      refine RW.seg hT 4 [.slice A75832 x75816.Pairs.length c75833] [] [.pointer (some ⟨b75855, 1, none⟩), .slice A75832 x75816.Pairs.length c75833, .int .i64 (x75816.Pairs.length : Int), .bool (decide ((x75816.Pairs.length : Int) > 300))] [.cell ⟨b75855, 1, none⟩ (.slice A75832 x75816.Pairs.length c75833)] (by kernel_rfl) (s.cell (i := 0) (off := 1) rfl rfl) ?_
      by_cases h76396 : (x75816.Pairs.length : Int) > 300
      · have hf := iteT h76396 hf
        refine RW.seg hT 12 [] [(19, .bool true)] [.bool true, undef, undef, undef, undef, .bool true, .bool true, undef, undef, undef, undef, .bool true] [.veq (.bool (decide ((x75816.Pairs.length : Int) > 300))) (.bool true)] (by kernel_rfl) (bo_t h76396) ?_
        refine RW.nil ?_
        exact fun X h => kc (by kernel_rfl) rfl (h true true true true [(D74059.getD 0 undef), (D74059.getD 1 undef), (D74059.getD 2 undef), (D74059.getD 4 undef), (D74059.getD 6 undef), undef, undef, undef, undef, undef, undef, undef, undef] hf)
      · have hf := iteF h76396 hf
        refine RW.seg hT 6 [.slice A75842 x75816.Keys.length c75843] [(19, .bool false)] [.bool false, .pointer (some ⟨b75855, 2, none⟩), .slice A75842 x75816.Keys.length c75843, .int .i64 (x75816.Keys.length : Int), .bool (decide ((x75816.Keys.length : Int) > 300)), .bool (decide ((x75816.Keys.length : Int) > 300))] [.veq (.bool (decide ((x75816.Pairs.length : Int) > 300))) (.bool false), .cell ⟨b75855, 2, none⟩ (.slice A75842 x75816.Keys.length c75843)] (by kernel_rfl) (⟨bo_f h76396, s.cell (i := 0) (off := 2) rfl rfl⟩) ?_
        by_cases h76397 : (x75816.Keys.length : Int) > 300
        · have hf := iteT h76397 hf
          refine RW.seg hT 6 [] [(25, .bool true)] [.bool true, undef, undef, undef, undef, .bool true] [.veq (.bool (decide ((x75816.Keys.length : Int) > 300))) (.bool true)] (by kernel_rfl) (bo_t h76397) ?_
          refine RW.nil ?_
          exact fun X h => kc (by kernel_rfl) rfl (h false (decide ((x75816.Keys.length : Int) > 300)) true true [(D74059.getD 0 undef), (D74059.getD 1 undef), (D74059.getD 2 undef), (D74059.getD 4 undef), (D74059.getD 6 undef), .pointer (some ⟨b75855, 2, none⟩), .slice A75842 x75816.Keys.length c75843, .int .i64 (x75816.Keys.length : Int), .bool (decide ((x75816.Keys.length : Int) > 300)), undef, undef, undef, undef] hf)
        · have hf := iteF h76397 hf
          refine RW.seg hT 6 [.slice A75848 x75816.Kids.length c75849] [(25, .bool false)] [.bool false, .pointer (some ⟨b75855, 3, none⟩), .slice A75848 x75816.Kids.length c75849, .int .i64 (x75816.Kids.length : Int), .bool (decide ((x75816.Kids.length : Int) > 300)), .bool (decide ((x75816.Kids.length : Int) > 300))] [.veq (.bool (decide ((x75816.Keys.length : Int) > 300))) (.bool false), .cell ⟨b75855, 3, none⟩ (.slice A75848 x75816.Kids.length c75849)] (by kernel_rfl) (⟨bo_f h76397, s.cell (i := 0) (off := 3) rfl rfl⟩) ?_
          refine RW.nil ?_
          exact fun X h => kc (by kernel_rfl) rfl (h false (decide ((x75816.Keys.length : Int) > 300)) false (decide ((x75816.Kids.length : Int) > 300)) [(D74059.getD 0 undef), (D74059.getD 1 undef), (D74059.getD 2 undef), (D74059.getD 4 undef), (D74059.getD 6 undef), .pointer (some ⟨b75855, 2, none⟩), .slice A75842 x75816.Keys.length c75843, .int .i64 (x75816.Keys.length : Int), .bool (decide ((x75816.Keys.length : Int) > 300)), .pointer (some ⟨b75855, 3, none⟩), .slice A75848 x75816.Kids.length c75849, .int .i64 (x75816.Kids.length : Int), .bool (decide ((x75816.Kids.length : Int) > 300))] hf)
  · have hf := iteF h75233 hf
    refine WPK.condF (Eq.trans (b := .bool (decide (x74060 < (p0.length : Int)))) (by kernel_rfl) (bo_f h75233)) ?_
    refine WPK.exit (blockQ.same ?_)
    refine WPK.seq ?_
    refine WPK.region ?_
    refine RW.seg hT 1 [] [] [.bool true] [] (by kernel_rfl) (trivial) ?_
    refine RW.nil ?_
    refine WPK.ret (?_)
    obtain rfl := someS hf
    refine Fin.of (rs := [.tmp 2]) hT [] (.bool true) [] rfl (by kernel_rfl) (trivial) ?_
    exact fun X h => vc rfl (h I74062 _ s kk)
theorem c17 {w0 w : World} {M I : Nat → Prop} {F : List It} (p0 : (List Int)) (A76608 : Option Addr) (c76609 : Nat) (hc76610 : (p0.length ≤ c76609 ∧ c76609 ≤ 9223372036854775807)) (e76611 : Elems (Rp.int .u8) I w A76608 p0) (s : St w0 M I (F) w) {r : T_pack_Reader} (hf : g17 p0 = some r) :
    Ret Tryd.prog 17 [.slice A76608 p0.length c76609] w fun v wz => ∀ X : Value → World → Prop, (∀ (I' : Nat → Prop) (b76685 : Nat) (A76686 : Option Addr) (n76687 : Nat) (c76688 : Nat) (cl76689 : List Value) (w' : World), St w0 M I' ((.blk b76685 (.cells #[.slice A76686 n76687 c76688, .int .i64 r.err, .bool r.made] 72 (0, 0))) :: (.sl (.slice A76686 n76687 c76688) 5 1 n76687 cl76689) :: F) w' → Kp I w I' w' → n76687 = r.b.length → RepL (Rp.int .u8) I' w' cl76689 r.b → X (.pointer (some ⟨b76685, 0, none⟩)) w') → X v wz := by
  have kk : Kp I w I w := Kp.refl
  unfold g17 at hf
  refine Ret.of Tryd.func17 rfl ?_
  refine WPK.seq ?_
  refine WPK.region ?_
  refine RW.seg hT 1 [] [] [.pointer none] [] (by kernel_rfl) (trivial) ?_
  refine RW.nil ?_
  refine WPK.seq ?_
  refine WPK.region ?_
  refine RW.seg hT 1 [] [] [.slice A76608 p0.length c76609] [] (by kernel_rfl) (trivial) ?_
  refine RW.op (by kernel_rfl) (OK.inl (args := [.slice A76608 p0.length c76609, .int .i64 0]) en34 (by kernel_rfl) ?_)
  intro R76612 hR76613
  refine Ret.of Tryd.func34 rfl ?_
  refine WPK.seq ?_
  refine WPK.region ?_
  refine RW.seg hT 2 [] [] [.slice none 0 0, .slice none 0 0] [] (by kernel_rfl) (trivial) ?_
  refine RW.nil ?_
  refine WPK.seq ?_
  refine WPK.region ?_
  refine RW.seg hT 4 [] [] [.slice A76608 p0.length c76609, .int .i64 (p0.length : Int), .int .i64 0, .int .i64 (IntKind.i64.wrap ((p0.length : Int) + 0))] [] (by kernel_rfl) (trivial) ?_
  obtain ⟨x76648, hx76649, hf⟩ := bindS hf
  refine RW.op (by kernel_rfl) (OK.make hT (r := (Rp.int .u8)) (n := IntKind.i64.wrap ((p0.length : Int) + 0)) (z := .int .u8 0) (x := 0) (e := 5) (bytes := 1) s (by kernel_rfl) hx76649 (fun _ _ => rfl) ?_)
  clear s
  rintro w76650 b76651 cl76652 s k76653 rp76654
  replace e76611 := e76611.st k76653
  replace kk := kk.trans k76653
  refine RW.seg hT 1 [] [] [.slice (some ⟨b76651, 0, none⟩) x76648.length x76648.length] [] (by kernel_rfl) (trivial) ?_
  refine RW.nil ?_
  refine WPK.seq ?_
  refine WPK.region ?_
  refine RW.seg hT 2 [] [] [.slice (some ⟨b76651, 0, none⟩) x76648.length x76648.length, .slice A76608 p0.length c76609] [] (by kernel_rfl) (trivial) ?_
  have pt76656 : Pt 0 x76648.length x76648.length 1 0 (x76648.length : Int) x76648.length := by have h0 := Pt.whole (size := 1) (row_hc (s.at (i := 0) rfl)).1; exact h0
  obtain ⟨nw76657, hs76658, rq76659⟩ := Elems.src e76611
  obtain ⟨x76665, hx76666, hf⟩ := bindS hf
  replace hx76666 := someS hx76666
  refine RW.op (by kernel_rfl) (OK.copy hT (r := (Rp.int .u8)) (xs := x76648) (ys := p0) (i := 0) (c := x76648.length) (e := 5) (size := 1) (t := 27) (t' := 27) (et := 5) (l := 0) (h := (x76648.length : Int)) s (by kernel_rfl) rfl rfl rfl rfl rfl flat_int rfl rfl rfl rp76654 pt76656 rfl hs76658 rq76659 ?_)
  clear s
  rintro w76660 cl76661 s k76662 rp76663 hn76664
  replace e76611 := e76611.st k76662
  replace rp76654 := rp76654.st k76662
  replace kk := kk.trans k76662
  rw [hx76666] at rp76663 hn76664
  refine RW.nil ?_
  refine WPK.seq ?_
  have e76611S76667 := e76611
  have rp76663S76667 := rp76663
  have kS76671 : Kp I w76660 I w76660 := Kp.refl
  refine WPK.draw (fun w' => ∃ I' : Nat → Prop, St w0 M I' ((.sl (.slice (some ⟨b76651, 0, none⟩) x76648.length x76648.length) 5 1 x76648.length cl76661) :: F) w' ∧ Kp I w76660 I' w') 7 (by kernel_rfl) ?_
  intro w76668 hd76669
  have k76670 := Kp.dr s hd76669
  replace s := s.dr hd76669
  replace e76611 := e76611.st k76670
  replace rp76663 := rp76663.st k76670
  replace kk := kk.trans k76670
  replace kS76671 := kS76671.trans k76670
  obtain ⟨h76681, hf⟩ := iteS hf
  replace h76681 : (0 : Int) ≤ (p0.length : Int) ∧ (p0.length : Int) ≤ (x76665.length : Int) ∧ (x76665.length : Int) ≤ ((x76648.length : Nat) : Int) - 0 := by have hnn := hn76664; omega
  obtain ⟨o76672, n76673, c76674, q76675, q76676, q76677, q76678, q76679, pt76680⟩ := partS (b := b76651) (c := x76648.length) (Pt.whole (size := 1) (row_hc (s.at (i := 0) rfl)).1) (Nat.le_refl _) h76681
  rw [Int.zero_add, Int.zero_add] at pt76680
  replace q76676 : x76648.length - (p0.length : Int).toNat = n76673 := by rw [← q76676]; have hnn := hn76664; omega
  refine RD.seg hT (by kernel_rfl) [0, 1, 2, 3, 4, 5, 6] [] [(19, .slice (some ⟨b76651, o76672, none⟩) n76673 c76674)] [.slice (some ⟨b76651, 0, none⟩) x76648.length x76648.length, .slice (some ⟨b76651, 0, none⟩) x76648.length x76648.length, .slice A76608 p0.length c76609, .int .i64 (p0.length : Int), .slice (some ⟨b76651, o76672, none⟩) n76673 c76674, .slice (some ⟨b76651, 0, none⟩) x76648.length x76648.length, .slice (some ⟨b76651, o76672, none⟩) n76673 c76674] [.both (.cut (p0.length : Int) (x76648.length : Nat) x76648.length x76648.length) (.veq (.slice (cutA (some ⟨b76651, 0, none⟩) (p0.length : Int).toNat x76648.length 1) (x76648.length - (p0.length : Int).toNat) (x76648.length - (p0.length : Int).toNat)) (.slice (some ⟨b76651, o76672, none⟩) n76673 c76674))] (by kernel_rfl) (by rintro w' ⟨I', s, k⟩; have e76611 := e76611S76667.st k; have rp76663 := rp76663S76667.st k; exact ⟨⟨(q76679).1, by have h1 := (q76679).2.1; have h2 := (q76679).2.2.1; omega, by have := (q76679).2.2.2; omega, by omega⟩, sl_eq q76675 q76676 q76677⟩) ⟨_, s.pick [0] 1 rfl, kS76671⟩ ?_
  refine RD.done (by kernel_rfl) ?_
  refine WPK.ret (?_)
  refine Fin.of (rs := [.tmp 4, .tmp 5]) hT [] (.tuple #[.slice (some ⟨b76651, 0, none⟩) x76648.length x76648.length, .slice (some ⟨b76651, o76672, none⟩) n76673 c76674]) [] rfl (by kernel_rfl) (trivial) ?_
  refine hR76613 _ _ ?_
  refine RW.seg hT 5 [] [] [.tuple #[.slice (some ⟨b76651, 0, none⟩) x76648.length x76648.length, .slice (some ⟨b76651, o76672, none⟩) n76673 c76674], .slice (some ⟨b76651, 0, none⟩) x76648.length x76648.length, .slice (some ⟨b76651, o76672, none⟩) n76673 c76674, .slice (some ⟨b76651, 0, none⟩) x76648.length x76648.length, .slice (some ⟨b76651, o76672, none⟩) n76673 c76674] [] (by kernel_rfl) (trivial) ?_
  refine RW.nil ?_
  refine WPK.seq ?_
  refine WPK.region ?_
  refine RW.seg hT 2 [] [] [.slice (some ⟨b76651, 0, none⟩) x76648.length x76648.length, .agg #[.slice (some ⟨b76651, 0, none⟩) x76648.length x76648.length, .int .i64 0, .bool true]] [] (by kernel_rfl) (trivial) ?_
  refine RW.op (by kernel_rfl) (OK.new hT (f := fun b => .pointer (some ⟨b, 0, none⟩)) (cs := [.slice (some ⟨b76651, 0, none⟩) x76648.length x76648.length, .int .i64 0, .bool true]) (e := 72) (c := .tt) s (by kernel_rfl) trivial ?_)
  clear s
  rintro w76682 b76683 s k76684 -
  replace rp76663 := rp76663.st k76684
  replace kk := kk.trans k76684
  refine RW.seg hT 1 [] [] [.pointer (some ⟨b76683, 0, none⟩)] [] (by kernel_rfl) (trivial) ?_
  refine RW.nil ?_
  refine WPK.ret (?_)
  obtain rfl := someS hf
  refine Fin.of (rs := [.tmp 2]) hT [] (.pointer (some ⟨b76683, 0, none⟩)) [] rfl (by kernel_rfl) (trivial) ?_
  exact fun X h => vc rfl (h I b76683 (some ⟨b76651, 0, none⟩) x76648.length x76648.length cl76661 _ s kk hn76664 rp76663)
theorem c51 {w0 w : World} {M I : Nat → Prop} {F : List It} (p0 : T_pack_Reader) (b76759 : Nat) (A76760 : Option Addr) (n76761 : Nat) (c76762 : Nat) (cl76763 : List Value) (hn76764 : n76761 = p0.b.length) (rp76765 : RepL (Rp.int .u8) I w cl76763 p0.b) (s : St w0 M I ((.blk b76759 (.cells #[.slice A76760 n76761 c76762, .int .i64 p0.err, .bool p0.made] 72 (0, 0))) :: (.sl (.slice A76760 n76761 c76762) 5 1 n76761 cl76763) :: F) w) {r : Bool} (hf : g51 p0 = some r) :
    Ret Tryd.prog 51 [.pointer (some ⟨b76759, 0, none⟩)] w fun v wz => ∀ X : Value → World → Prop, (∀ (I' : Nat → Prop) (w' : World), St w0 M I' ((.blk b76759 (.cells #[.slice A76760 n76761 c76762, .int .i64 p0.err, .bool p0.made] 72 (0, 0))) :: (.sl (.slice A76760 n76761 c76762) 5 1 n76761 cl76763) :: F) w' → Kp I w I' w' → X (.bool r) w') → X v wz := by
  have kk : Kp I w I w := Kp.refl
  unfold g51 at hf
  refine Ret.of Tryd.func51 rfl ?_
  refine WPK.seq ?_
  refine WPK.region ?_
  refine RW.seg hT 1 [] [] [.bool false] [] (by kernel_rfl) (trivial) ?_
  refine RW.nil ?_
  refine WPK.seq ?_
  refine WPK.region ?_
  refine RW.seg hT 9 [.bool p0.made] [(10, .bool (decide (¬ (p0.made = true))))] [.pointer (some ⟨b76759, 0, none⟩), .bool false, .bool false, .pointer (some ⟨b76759, 0, none⟩), .pointer (some ⟨b76759, 0, none⟩), .pointer (some ⟨b76759, 2, none⟩), .bool p0.made, .bool (decide (¬ (p0.made = true))), .bool (decide (¬ (p0.made = true)))] [.cell ⟨b76759, 2, none⟩ (.bool p0.made), .veq (.bool (!p0.made)) (.bool (decide (¬ (p0.made = true))))] (by kernel_rfl) (⟨s.cell (i := 0) (off := 2) rfl rfl, not_b⟩) ?_
  by_cases h76768 : ¬ (p0.made = true)
  · have hf := iteT h76768 hf
    refine RW.seg hT 8 [] [(12, .bool true)] [.bool true, undef, undef, undef, undef, undef, .bool true, .bool true] [.veq (.bool (decide (¬ (p0.made = true)))) (.bool true)] (by kernel_rfl) (bo_t h76768) ?_
    refine RW.nil ?_
    refine WPK.ret (?_)
    obtain rfl := someS hf
    refine Fin.of (rs := [.tmp 2]) hT [] (.bool true) [] rfl (by kernel_rfl) (trivial) ?_
    exact fun X h => vc rfl (h I _ s kk)
  · have hf := iteF h76768 hf
    refine RW.seg hT 8 [.int .i64 p0.err] [(12, .bool false), (17, .bool (decide (p0.err ≠ 0)))] [.bool false, .pointer (some ⟨b76759, 0, none⟩), .pointer (some ⟨b76759, 0, none⟩), .pointer (some ⟨b76759, 1, none⟩), .int .i64 p0.err, .bool (decide (p0.err ≠ 0)), .bool (decide (p0.err ≠ 0)), .bool (decide (p0.err ≠ 0))] [.veq (.bool (decide (¬ (p0.made = true)))) (.bool false), .cell ⟨b76759, 1, none⟩ (.int .i64 p0.err), .veq (.bool (p0.err != 0)) (.bool (decide (p0.err ≠ 0)))] (by kernel_rfl) (⟨bo_f h76768, s.cell (i := 0) (off := 1) rfl rfl, ne_v⟩) ?_
    refine RW.nil ?_
    refine WPK.ret (?_)
    obtain rfl := someS hf
    refine Fin.of (rs := [.tmp 2]) hT [] (.bool (decide (p0.err ≠ 0))) [] rfl (by kernel_rfl) (trivial) ?_
    exact fun X h => vc rfl (h I _ s kk)
theorem c52 {w0 w : World} {M I : Nat → Prop} {F : List It} (p0 : T_pack_Reader) (p1 : Int) (b76796 : Nat) (A76797 : Option Addr) (n76798 : Nat) (c76799 : Nat) (cl76800 : List Value) (hn76801 : n76798 = p0.b.length) (rp76802 : RepL (Rp.int .u8) I w cl76800 p0.b) (s : St w0 M I ((.blk b76796 (.cells #[.slice A76797 n76798 c76799, .int .i64 p0.err, .bool p0.made] 72 (0, 0))) :: (.sl (.slice A76797 n76798 c76799) 5 1 n76798 cl76800) :: F) w) {r : T_pack_Reader} (hf : g52 p0 p1 = some r) :
    Ret Tryd.prog 52 [.pointer (some ⟨b76796, 0, none⟩), .int .i64 p1] w fun v wz => ∀ X : Value → World → Prop, (∀ (I' : Nat → Prop) (A76806 : Option Addr) (n76807 : Nat) (c76808 : Nat) (cl76809 : List Value) (w' : World), St w0 M I' ((.blk b76796 (.cells #[.slice A76806 n76807 c76808, .int .i64 r.err, .bool r.made] 72 (0, 0))) :: (.sl (.slice A76806 n76807 c76808) 5 1 n76807 cl76809) :: F) w' → Kp I w I' w' → n76807 = r.b.length → RepL (Rp.int .u8) I' w' cl76809 r.b → X (.tuple #[]) w') → X v wz := by
  have kk : Kp I w I w := Kp.refl
  unfold g52 at hf
  refine Ret.of Tryd.func52 rfl ?_
  refine WPK.region ?_
  refine RW.seg hT 4 [] [] [.pointer (some ⟨b76796, 0, none⟩), .int .i64 p1, .pointer (some ⟨b76796, 0, none⟩), .pointer (some ⟨b76796, 1, none⟩)] [] (by kernel_rfl) (trivial) ?_
  refine RW.op (by kernel_rfl) (OK.store hT (i := 0) (b := b76796) (off := 1) (n := 1) (vs := [.int .i64 p1]) (cs := [.slice A76797 n76798 c76799, .int .i64 p0.err, .bool p0.made]) (e := 72) s (by kernel_rfl) rfl rfl (flat_ok rfl) (Nat.le_of_ble_eq_true rfl) ?_)
  clear s
  rintro w76804 s k76805 -
  replace rp76802 := rp76802.st k76805
  replace kk := kk.trans k76805
  refine RW.nil ?_
  obtain rfl := someS hf
  refine Fin.of (rs := []) hT [] (.tuple #[]) [] rfl (by kernel_rfl) (trivial) ?_
  exact fun X h => vc rfl (h I A76797 n76798 c76799 cl76800 _ s kk hn76801 rp76802)
theorem c53 {w0 w : World} {M I : Nat → Prop} {F : List It} (p0 : T_pack_Reader) (p1 : Int) (b76869 : Nat) (A76870 : Option Addr) (n76871 : Nat) (c76872 : Nat) (cl76873 : List Value) (hn76874 : n76871 = p0.b.length) (rp76875 : RepL (Rp.int .u8) I w cl76873 p0.b) (s : St w0 M I ((.blk b76869 (.cells #[.slice A76870 n76871 c76872, .int .i64 p0.err, .bool p0.made] 72 (0, 0))) :: (.sl (.slice A76870 n76871 c76872) 5 1 n76871 cl76873) :: F) w) {r : ((List Int) × T_pack_Reader)} (hf : g53 p0 p1 = some r) :
    Ret Tryd.prog 53 [.pointer (some ⟨b76869, 0, none⟩), .int .i64 p1] w fun v wz => ∀ X : Value → World → Prop, (∀ (I' : Nat → Prop) (A76966 : Option Addr) (c76967 : Nat) (A76970 : Option Addr) (c76971 : Nat) (w' : World), St w0 M I' ((.blk b76869 (.cells #[.slice A76970 r.2.b.length c76971, .int .i64 r.2.err, .bool r.2.made] 72 (0, 0))) :: F) w' → Kp I w I' w' → (r.1.length ≤ c76967 ∧ c76967 ≤ 9223372036854775807) → Elems (Rp.int .u8) I' w' A76966 r.1 → (r.2.b.length ≤ c76971 ∧ c76971 ≤ 9223372036854775807) → Elems (Rp.int .u8) I' w' A76970 r.2.b → X (.slice A76966 r.1.length c76967) w') → X v wz := by
  have kk : Kp I w I w := Kp.refl
  unfold g53 at hf
  refine Ret.of Tryd.func53 rfl ?_
  refine WPK.seq ?_
  refine WPK.region ?_
  refine RW.seg hT 1 [] [] [.slice none 0 0] [] (by kernel_rfl) (trivial) ?_
  refine RW.nil ?_
  refine WPK.seq ?_
  refine WPK.seq ?_
  refine WPK.region ?_
  refine RW.seg hT 1 [] [] [.pointer (some ⟨b76869, 0, none⟩)] [] (by kernel_rfl) (trivial) ?_
  obtain ⟨x76889, hx76890, hf⟩ := bindS hf
  refine RW.op (by kernel_rfl) (OK.call' en51 (by kernel_rfl) (c51 (F := F) p0 b76869 A76870 n76871 c76872 cl76873 hn76874 rp76875 s hx76890) ?_)
  intro X76893 hX76894
  refine fun _ _ hJ => hJ X76893 ?_
  clear s
  intro I76895 w76891 s k76892
  refine hX76894 _ _ ?_
  replace rp76875 := rp76875.st k76892
  replace kk := kk.trans k76892
  refine RW.nil ?_
  by_cases h76896 : x76889 = true
  · have hf := iteT h76896 hf
    refine WPK.condT (Eq.trans (b := .bool x76889) (by kernel_rfl) (b_t h76896)) ?_
    refine WPK.seq ?_
    refine WPK.region ?_
    refine RW.seg hT 1 [] [] [.slice none 0 0] [] (by kernel_rfl) (trivial) ?_
    refine RW.nil ?_
    refine WPK.ret (?_)
    obtain rfl := someS hf
    refine Fin.of (rs := [.tmp 4]) hT [] (.slice none 0 0) [] rfl (by kernel_rfl) (trivial) ?_
    rw [hn76874] at s
    try rw [hn76874]
    obtain ⟨I76897, s', k76898, hc76899, e76900⟩ := St.give s (i := 1) rfl rfl rp76875
    replace s := s'; clear s'
    replace kk := kk.trans k76898
    exact fun X h => vc rfl (h I76897 none 0 A76870 c76872 _ s kk nil_hc Elems.nil hc76899 e76900)
  · have hf := iteF h76896 hf
    refine WPK.condF (Eq.trans (b := .bool x76889) (by kernel_rfl) (b_f h76896)) ?_
    refine WPK.skip ?_
    refine WPK.seq ?_
    refine WPK.seq ?_
    refine WPK.region ?_
    refine RW.seg hT 7 [.slice A76870 n76871 c76872] [(13, .int .i64 (p0.b.length : Int))] [.int .i64 p1, .pointer (some ⟨b76869, 0, none⟩), .pointer (some ⟨b76869, 0, none⟩), .pointer (some ⟨b76869, 0, none⟩), .slice A76870 n76871 c76872, .int .i64 (p0.b.length : Int), .bool (decide (p1 > (p0.b.length : Int)))] [.cell ⟨b76869, 0, none⟩ (.slice A76870 n76871 c76872), .veq (.int .i64 (n76871 : Nat)) (.int .i64 (p0.b.length : Int))] (by kernel_rfl) (⟨s.cell (i := 0) (off := 0) rfl rfl, len_v hn76874⟩) ?_
    refine RW.nil ?_
    by_cases h76920 : p1 > (p0.b.length : Int)
    · have hf := iteT h76920 hf
      refine WPK.condT (Eq.trans (b := .bool (decide (p1 > (p0.b.length : Int)))) (by kernel_rfl) (bo_t h76920)) ?_
      refine WPK.seq ?_
      refine WPK.region ?_
      refine RW.seg hT 1 [] [] [.pointer (some ⟨b76869, 0, none⟩)] [] (by kernel_rfl) (trivial) ?_
      obtain ⟨x76921, hx76922, hf⟩ := bindS hf
      refine RW.op (by kernel_rfl) (OK.call' en52 (by kernel_rfl) (c52 (F := F) p0 10 b76869 A76870 n76871 c76872 cl76873 hn76874 rp76875 s hx76922) ?_)
      intro X76925 hX76926
      refine fun _ _ hJ => hJ X76925 ?_
      clear s
      intro I76927 A76928 n76929 c76930 cl76931 w76923 s k76924 hn76932 rp76933
      refine hX76926 _ _ ?_
      replace rp76875 := rp76875.st k76924
      replace kk := kk.trans k76924
      refine RW.nil ?_
      refine WPK.seq ?_
      refine WPK.region ?_
      refine RW.seg hT 1 [] [] [.slice none 0 0] [] (by kernel_rfl) (trivial) ?_
      refine RW.nil ?_
      refine WPK.ret (?_)
      obtain rfl := someS hf
      refine Fin.of (rs := [.tmp 4]) hT [] (.slice none 0 0) [] rfl (by kernel_rfl) (trivial) ?_
      rw [hn76932] at s
      try rw [hn76932]
      obtain ⟨I76935, s', k76936, hc76937, e76938⟩ := St.give s (i := 1) rfl rfl rp76933
      replace s := s'; clear s'
      replace kk := kk.trans k76936
      exact fun X h => vc rfl (h I76935 none 0 A76928 c76930 _ s kk nil_hc Elems.nil hc76937 e76938)
    · have hf := iteF h76920 hf
      refine WPK.condF (Eq.trans (b := .bool (decide (p1 > (p0.b.length : Int)))) (by kernel_rfl) (bo_f h76920)) ?_
      refine WPK.skip ?_
      refine WPK.seq ?_
      refine WPK.region ?_
      refine RW.seg hT 6 [.slice A76870 n76871 c76872] [] [.pointer (some ⟨b76869, 0, none⟩), .pointer (some ⟨b76869, 0, none⟩), .pointer (some ⟨b76869, 0, none⟩), .slice A76870 n76871 c76872, .int .i64 p1, .int .i64 p1] [.cell ⟨b76869, 0, none⟩ (.slice A76870 n76871 c76872)] (by kernel_rfl) (s.cell (i := 0) (off := 0) rfl rfl) ?_
      rw [hn76874] at s
      try rw [hn76874]
      obtain ⟨I76939, s', k76940, hc76941, e76942⟩ := St.give s (i := 1) rfl rfl rp76875
      replace s := s'; clear s'
      replace kk := kk.trans k76940
      obtain ⟨h76945, hf⟩ := iteS hf
      obtain ⟨y76943, hy76944, hf⟩ := bindS hf
      obtain ⟨c76947, h76948, hc76949, e76950, q76951, q76952⟩ := slS0m hc76941 e76942 hy76944 h76945
      refine RW.seg hT 2 [] [(23, .slice A76870 y76943.length c76947)] [.slice A76870 y76943.length c76947, .slice A76870 y76943.length c76947] [.both (.cut 0 p1 p1 c76872) (.veq (.slice A76870 p1.toNat p1.toNat) (.slice A76870 y76943.length c76947))] (by kernel_rfl) (⟨⟨Int.le_refl _, h76948⟩, sl_eq rfl q76951 q76952⟩) ?_
      refine RW.nil ?_
      refine WPK.seq ?_
      refine WPK.region ?_
      obtain ⟨y76954, hy76955, hf⟩ := bindS hf
      obtain ⟨A76956, c76957, h76958, hc76959, e76960, q76961, q76962, q76963⟩ := slS (size := 1) rfl hc76941 e76942 hy76955
      refine RW.seg hT 9 [.slice A76870 p0.b.length c76872] [(30, .slice A76956 y76954.length c76957)] [.pointer (some ⟨b76869, 0, none⟩), .pointer (some ⟨b76869, 0, none⟩), .pointer (some ⟨b76869, 0, none⟩), .pointer (some ⟨b76869, 0, none⟩), .slice A76870 p0.b.length c76872, .int .i64 p1, .slice A76956 y76954.length c76957, .pointer (some ⟨b76869, 0, none⟩), .pointer (some ⟨b76869, 0, none⟩)] [.cell ⟨b76869, 0, none⟩ (.slice A76870 p0.b.length c76872), .both (.cut p1 (p0.b.length : Int) c76872 c76872) (.veq (.slice (cutA A76870 p1.toNat c76872 1) (p0.b.length - p1.toNat) (c76872 - p1.toNat)) (.slice A76956 y76954.length c76957))] (by kernel_rfl) (⟨s.cell (i := 0) (off := 0) rfl rfl, ⟨⟨by omega, by omega, by omega, by omega⟩, sl_eq q76961 q76962 q76963⟩⟩) ?_
      refine RW.op (by kernel_rfl) (OK.store hT (i := 0) (b := b76869) (off := 0) (n := 1) (vs := [.slice A76956 y76954.length c76957]) (cs := [.slice A76870 p0.b.length c76872, .int .i64 p0.err, .bool p0.made]) (e := 72) s (by kernel_rfl) rfl rfl (flat_ok rfl) (Nat.le_of_ble_eq_true rfl) ?_)
      clear s
      rintro w76964 s k76965 -
      replace e76950 := e76950.st k76965
      replace e76942 := e76942.st k76965
      replace e76960 := e76960.st k76965
      replace kk := kk.trans k76965
      refine RW.nil ?_
      refine WPK.seq ?_
      refine WPK.region ?_
      refine RW.seg hT 2 [] [] [.slice A76870 y76943.length c76947, .slice A76870 y76943.length c76947] [] (by kernel_rfl) (trivial) ?_
      refine RW.nil ?_
      refine WPK.ret (?_)
      obtain rfl := someS hf
      refine Fin.of (rs := [.tmp 4]) hT [] (.slice A76870 y76943.length c76947) [] rfl (by kernel_rfl) (trivial) ?_
      exact fun X h => vc rfl (h I76939 A76870 c76947 A76956 c76957 _ s kk hc76949 e76950 hc76959 e76960)
theorem c50 {w0 w : World} {M I : Nat → Prop} {F : List It} (p0 : T_pack_Reader) (p1 : Int) (b77082 : Nat) (A77083 : Option Addr) (n77084 : Nat) (c77085 : Nat) (cl77086 : List Value) (hn77087 : n77084 = p0.b.length) (rp77088 : RepL (Rp.int .u8) I w cl77086 p0.b) (s : St w0 M I ((.blk b77082 (.cells #[.slice A77083 n77084 c77085, .int .i64 p0.err, .bool p0.made] 72 (0, 0))) :: (.sl (.slice A77083 n77084 c77085) 5 1 n77084 cl77086) :: F) w) {r : (Int × T_pack_Reader)} (hf : g50 p0 p1 = some r) :
    Ret Tryd.prog 50 [.pointer (some ⟨b77082, 0, none⟩), .int .i64 p1] w fun v wz => ∀ X : Value → World → Prop, (∀ (I' : Nat → Prop) (A77198 : Option Addr) (c77199 : Nat) (w' : World), St w0 M I' ((.blk b77082 (.cells #[.slice A77198 r.2.b.length c77199, .int .i64 r.2.err, .bool r.2.made] 72 (0, 0))) :: F) w' → Kp I w I' w' → (r.2.b.length ≤ c77199 ∧ c77199 ≤ 9223372036854775807) → Elems (Rp.int .u8) I' w' A77198 r.2.b → X (.int .u64 r.1) w') → X v wz := by
  have kk : Kp I w I w := Kp.refl
  unfold g50 at hf
  refine Ret.of Tryd.func50 rfl ?_
  refine WPK.seq ?_
  refine WPK.region ?_
  refine RW.seg hT 1 [] [] [.int .u64 0] [] (by kernel_rfl) (trivial) ?_
  refine RW.nil ?_
  refine WPK.seq ?_
  refine WPK.region ?_
  refine RW.seg hT 1 [] [] [.int .u64 0] [] (by kernel_rfl) (trivial) ?_
  refine RW.nil ?_
  refine WPK.seq ?_
  refine WPK.seq ?_
  refine WPK.region ?_
  refine RW.seg hT 2 [] [] [.pointer (some ⟨b77082, 0, none⟩), .int .i64 p1] [] (by kernel_rfl) (trivial) ?_
  obtain ⟨x77144, hx77145, hf⟩ := bindS hf
  refine RW.op (by kernel_rfl) (OK.call' en53 (by kernel_rfl) (c53 (F := F) p0 p1 b77082 A77083 n77084 c77085 cl77086 hn77087 rp77088 s hx77145) ?_)
  intro X77148 hX77149
  refine fun _ _ hJ => hJ X77148 ?_
  clear s
  intro I77150 A77151 c77152 A77155 c77156 w77146 s k77147 hc77153 e77154 hc77157 e77158
  refine hX77149 _ _ ?_
  replace rp77088 := rp77088.st k77147
  replace kk := kk.trans k77147
  refine RW.seg hT 2 [] [] [.int .i64 (x77144.1.length : Int), .int .i64 0] [] (by kernel_rfl) (trivial) ?_
  refine RW.nil ?_
  refine WPK.block ?_
  refine WPK.loop' (J := fun n77184 E ds wz => ∀ X : Kont, (∀ (x77171 : Int) (x77172 : Int) (D77170 : List Value), g50_l1 x77144 n77184 x77171 x77172 = some r → X [(D77170.getD 0 undef), (D77170.getD 1 undef), (D77170.getD 2 undef), (D77170.getD 3 undef), .int .u64 0, .int .u64 x77171, (D77170.getD 4 undef), (D77170.getD 5 undef), (D77170.getD 6 undef), (D77170.getD 7 undef), .slice A77151 x77144.1.length c77152, .int .i64 (x77144.1.length : Int), .int .i64 x77172, (D77170.getD 8 undef), (D77170.getD 9 undef), (D77170.getD 10 undef), (D77170.getD 11 undef), (D77170.getD 12 undef), (D77170.getD 13 undef), (D77170.getD 14 undef), (D77170.getD 15 undef), (D77170.getD 16 undef), undef] [] w77146) → X E ds wz) FUEL (fun X h => kc (by kernel_rfl) rfl (h 0 0 [.pointer (some ⟨b77082, 0, none⟩), .int .i64 p1, undef, undef, undef, undef, .pointer (some ⟨b77082, 0, none⟩), .int .i64 p1, undef, undef, undef, undef, undef, undef, undef, undef, undef] hf)) (fun _ _ _ hJ => hJ (fun _ _ _ => False) (by intro x77171 x77172 D77170 hf; exact noneS hf)) ?_
  intro X77196 hX77197
  refine fun n77184 _ _ _ hJ => hJ (X77196 n77184) ?_
  intro x77171 x77172 D77170 hf
  refine hX77197 _ _ _ _ ?_
  replace hf : g50_l1B x77144 (g50_l1 x77144 n77184) x77171 x77172 = some r := hf
  generalize hrec77185 : g50_l1 x77144 n77184 = rec77183 at hf
  unfold g50_l1B at hf
  refine WPK.seq ?_
  refine WPK.region ?_
  refine RW.seg hT 1 [] [] [.bool (decide (x77172 < (x77144.1.length : Int)))] [] (by kernel_rfl) (trivial) ?_
  refine RW.nil ?_
  refine WPK.seq ?_
  by_cases h77187 : x77172 < (x77144.1.length : Int)
  · have hf := iteT h77187 hf
    refine WPK.condT (Eq.trans (b := .bool (decide (x77172 < (x77144.1.length : Int)))) (by kernel_rfl) (bo_t h77187)) ?_
    refine WPK.skip ?_
    refine WPK.seq ?_
    refine WPK.block ?_
    refine WPK.seq ?_
    refine WPK.region ?_
    obtain ⟨x77188, hx77189, hf⟩ := bindS hf
    obtain ⟨h77190, hx77189⟩ := getS hx77189
    obtain ⟨b77191, o77192, rfl⟩ := Elems.opn e77154 hx77189
    obtain ⟨cs77193, hr77194, ha77195⟩ := Elems.get e77154 hx77189
    obtain rfl : cs77193 = [.int .u8 x77188] := hr77194
    refine RW.seg hT 3 [.int .u8 x77188] [] [.pointer (some ⟨b77191, o77192 + x77172.toNat * 1, none⟩), .int .u8 x77188, .int .u8 x77188] [.idx x77172 x77144.1.length, .cell ⟨b77191, o77192 + x77172.toNat * 1, none⟩ (.int .u8 x77188)] (by kernel_rfl) (⟨h77190, ha77195 0 _ rfl⟩) ?_
    refine RW.nil ?_
    refine WPK.region ?_
    refine RW.seg hT 6 [undef] [] [.int .u64 x77171, .int .u64 (shlI .u64 x77171 8), .int .u8 x77188, .int .u64 (IntKind.u64.wrap x77188), .int .u64 (orI .u64 (shlI .u64 x77171 8) (IntKind.u64.wrap x77188)), .int .u64 (orI .u64 (shlI .u64 x77171 8) (IntKind.u64.wrap x77188))] [.nn 8] (by kernel_rfl) ((show (0 : Int) ≤ 8 by decide)) ?_
    refine RW.nil ?_
    refine WPK.region ?_
    refine RW.seg hT 2 [] [] [.int .i64 (IntKind.i64.wrap (x77172 + 1)), .int .i64 (IntKind.i64.wrap (x77172 + 1))] [] (by kernel_rfl) (trivial) ?_
    refine RW.nil ?_
    subst hrec77185
    exact ⟨n77184, Nat.le_refl _, fun X h => kc (by kernel_rfl) rfl (h (orI .u64 (shlI .u64 x77171 8) (IntKind.u64.wrap x77188)) (IntKind.i64.wrap (x77172 + 1)) [(D77170.getD 0 undef), (D77170.getD 1 undef), (D77170.getD 2 undef), (D77170.getD 3 undef), (D77170.getD 4 undef), .int .u8 x77188, (D77170.getD 6 undef), (D77170.getD 7 undef), .bool (decide (x77172 < (x77144.1.length : Int))), .pointer (some ⟨b77191, o77192 + x77172.toNat * 1, none⟩), .int .u8 x77188, .int .u64 x77171, .int .u64 (shlI .u64 x77171 8), .int .u8 x77188, .int .u64 (IntKind.u64.wrap x77188), .int .u64 (orI .u64 (shlI .u64 x77171 8) (IntKind.u64.wrap x77188)), .int .i64 (IntKind.i64.wrap (x77172 + 1))] hf)⟩
  · have hf := iteF h77187 hf
    refine WPK.condF (Eq.trans (b := .bool (decide (x77172 < (x77144.1.length : Int)))) (by kernel_rfl) (bo_f h77187)) ?_
    refine WPK.exit (blockQ.same ?_)
    refine WPK.seq ?_
    refine WPK.region ?_
    refine RW.seg hT 2 [] [] [.int .u64 x77171, .int .u64 x77171] [] (by kernel_rfl) (trivial) ?_
    refine RW.nil ?_
    refine WPK.ret (?_)
    obtain rfl := someS hf
    refine Fin.of (rs := [.tmp 4]) hT [] (.int .u64 x77171) [] rfl (by kernel_rfl) (trivial) ?_
    exact fun X h => vc rfl (h I77150 A77155 c77156 _ s kk hc77157 e77158)
theorem c35 {w0 w : World} {M I : Nat → Prop} {F : List It} (p0 : T_pack_Reader) (b77213 : Nat) (A77214 : Option Addr) (n77215 : Nat) (c77216 : Nat) (cl77217 : List Value) (hn77218 : n77215 = p0.b.length) (rp77219 : RepL (Rp.int .u8) I w cl77217 p0.b) (s : St w0 M I ((.blk b77213 (.cells #[.slice A77214 n77215 c77216, .int .i64 p0.err, .bool p0.made] 72 (0, 0))) :: (.sl (.slice A77214 n77215 c77216) 5 1 n77215 cl77217) :: F) w) {r : (Int × T_pack_Reader)} (hf : g35 p0 = some r) :
    Ret Tryd.prog 35 [.pointer (some ⟨b77213, 0, none⟩)] w fun v wz => ∀ X : Value → World → Prop, (∀ (I' : Nat → Prop) (A77232 : Option Addr) (c77233 : Nat) (w' : World), St w0 M I' ((.blk b77213 (.cells #[.slice A77232 r.2.b.length c77233, .int .i64 r.2.err, .bool r.2.made] 72 (0, 0))) :: F) w' → Kp I w I' w' → (r.2.b.length ≤ c77233 ∧ c77233 ≤ 9223372036854775807) → Elems (Rp.int .u8) I' w' A77232 r.2.b → X (.int .u8 r.1) w') → X v wz := by
  have kk : Kp I w I w := Kp.refl
  unfold g35 at hf
  refine Ret.of Tryd.func35 rfl ?_
  refine WPK.seq ?_
  refine WPK.region ?_
  refine RW.seg hT 1 [] [] [.int .u8 0] [] (by kernel_rfl) (trivial) ?_
  refine RW.nil ?_
  refine WPK.seq ?_
  refine WPK.region ?_
  refine RW.seg hT 1 [] [] [.pointer (some ⟨b77213, 0, none⟩)] [] (by kernel_rfl) (trivial) ?_
  obtain ⟨x77221, hx77222, hf⟩ := bindS hf
  refine RW.op (by kernel_rfl) (OK.call' en50 (by kernel_rfl) (c50 (F := F) p0 1 b77213 A77214 n77215 c77216 cl77217 hn77218 rp77219 s hx77222) ?_)
  intro X77225 hX77226
  refine fun _ _ hJ => hJ X77225 ?_
  clear s
  intro I77227 A77228 c77229 w77223 s k77224 hc77230 e77231
  refine hX77226 _ _ ?_
  replace rp77219 := rp77219.st k77224
  replace kk := kk.trans k77224
  refine RW.seg hT 2 [undef] [] [.int .u8 (IntKind.u8.wrap x77221.1), .int .u8 (IntKind.u8.wrap x77221.1)] [] (by kernel_rfl) (trivial) ?_
  refine RW.nil ?_
  refine WPK.ret (?_)
  obtain rfl := someS hf
  refine Fin.of (rs := [.tmp 2]) hT [] (.int .u8 (IntKind.u8.wrap x77221.1)) [] rfl (by kernel_rfl) (trivial) ?_
  exact fun X h => vc rfl (h I77227 A77228 c77229 _ s kk hc77230 e77231)
theorem c51_1 {w0 w : World} {M I : Nat → Prop} {F : List It} (p0 : T_pack_Reader) (b77262 : Nat) (A77263 : Option Addr) (c77264 : Nat) (hc77265 : (p0.b.length ≤ c77264 ∧ c77264 ≤ 9223372036854775807)) (e77266 : Elems (Rp.int .u8) I w A77263 p0.b) (s : St w0 M I ((.blk b77262 (.cells #[.slice A77263 p0.b.length c77264, .int .i64 p0.err, .bool p0.made] 72 (0, 0))) :: F) w) {r : Bool} (hf : g51_1 p0 = some r) :
    Ret Tryd.prog 51 [.pointer (some ⟨b77262, 0, none⟩)] w fun v wz => ∀ X : Value → World → Prop, (∀ (I' : Nat → Prop) (w' : World), St w0 M I' ((.blk b77262 (.cells #[.slice A77263 p0.b.length c77264, .int .i64 p0.err, .bool p0.made] 72 (0, 0))) :: F) w' → Kp I w I' w' → X (.bool r) w') → X v wz := by
  have kk : Kp I w I w := Kp.refl
  unfold g51_1 at hf
  refine Ret.of Tryd.func51 rfl ?_
  refine WPK.seq ?_
  refine WPK.region ?_
  refine RW.seg hT 1 [] [] [.bool false] [] (by kernel_rfl) (trivial) ?_
  refine RW.nil ?_
  refine WPK.seq ?_
  refine WPK.region ?_
  refine RW.seg hT 9 [.bool p0.made] [(10, .bool (decide (¬ (p0.made = true))))] [.pointer (some ⟨b77262, 0, none⟩), .bool false, .bool false, .pointer (some ⟨b77262, 0, none⟩), .pointer (some ⟨b77262, 0, none⟩), .pointer (some ⟨b77262, 2, none⟩), .bool p0.made, .bool (decide (¬ (p0.made = true))), .bool (decide (¬ (p0.made = true)))] [.cell ⟨b77262, 2, none⟩ (.bool p0.made), .veq (.bool (!p0.made)) (.bool (decide (¬ (p0.made = true))))] (by kernel_rfl) (⟨s.cell (i := 0) (off := 2) rfl rfl, not_b⟩) ?_
  by_cases h77268 : ¬ (p0.made = true)
  · have hf := iteT h77268 hf
    refine RW.seg hT 8 [] [(12, .bool true)] [.bool true, undef, undef, undef, undef, undef, .bool true, .bool true] [.veq (.bool (decide (¬ (p0.made = true)))) (.bool true)] (by kernel_rfl) (bo_t h77268) ?_
    refine RW.nil ?_
    refine WPK.ret (?_)
    obtain rfl := someS hf
    refine Fin.of (rs := [.tmp 2]) hT [] (.bool true) [] rfl (by kernel_rfl) (trivial) ?_
    exact fun X h => vc rfl (h I _ s kk)
  · have hf := iteF h77268 hf
    refine RW.seg hT 8 [.int .i64 p0.err] [(12, .bool false), (17, .bool (decide (p0.err ≠ 0)))] [.bool false, .pointer (some ⟨b77262, 0, none⟩), .pointer (some ⟨b77262, 0, none⟩), .pointer (some ⟨b77262, 1, none⟩), .int .i64 p0.err, .bool (decide (p0.err ≠ 0)), .bool (decide (p0.err ≠ 0)), .bool (decide (p0.err ≠ 0))] [.veq (.bool (decide (¬ (p0.made = true)))) (.bool false), .cell ⟨b77262, 1, none⟩ (.int .i64 p0.err), .veq (.bool (p0.err != 0)) (.bool (decide (p0.err ≠ 0)))] (by kernel_rfl) (⟨bo_f h77268, s.cell (i := 0) (off := 1) rfl rfl, ne_v⟩) ?_
    refine RW.nil ?_
    refine WPK.ret (?_)
    obtain rfl := someS hf
    refine Fin.of (rs := [.tmp 2]) hT [] (.bool (decide (p0.err ≠ 0))) [] rfl (by kernel_rfl) (trivial) ?_
    exact fun X h => vc rfl (h I _ s kk)
theorem c52_1 {w0 w : World} {M I : Nat → Prop} {F : List It} (p0 : T_pack_Reader) (p1 : Int) (b77323 : Nat) (A77324 : Option Addr) (c77325 : Nat) (hc77326 : (p0.b.length ≤ c77325 ∧ c77325 ≤ 9223372036854775807)) (e77327 : Elems (Rp.int .u8) I w A77324 p0.b) (s : St w0 M I ((.blk b77323 (.cells #[.slice A77324 p0.b.length c77325, .int .i64 p0.err, .bool p0.made] 72 (0, 0))) :: F) w) {r : T_pack_Reader} (hf : g52_1 p0 p1 = some r) :
    Ret Tryd.prog 52 [.pointer (some ⟨b77323, 0, none⟩), .int .i64 p1] w fun v wz => ∀ X : Value → World → Prop, (∀ (I' : Nat → Prop) (A77330 : Option Addr) (c77331 : Nat) (w' : World), St w0 M I' ((.blk b77323 (.cells #[.slice A77330 r.b.length c77331, .int .i64 r.err, .bool r.made] 72 (0, 0))) :: F) w' → Kp I w I' w' → (r.b.length ≤ c77331 ∧ c77331 ≤ 9223372036854775807) → Elems (Rp.int .u8) I' w' A77330 r.b → X (.tuple #[]) w') → X v wz := by
  have kk : Kp I w I w := Kp.refl
  unfold g52_1 at hf
  refine Ret.of Tryd.func52 rfl ?_
  refine WPK.region ?_
  refine RW.seg hT 4 [] [] [.pointer (some ⟨b77323, 0, none⟩), .int .i64 p1, .pointer (some ⟨b77323, 0, none⟩), .pointer (some ⟨b77323, 1, none⟩)] [] (by kernel_rfl) (trivial) ?_
  refine RW.op (by kernel_rfl) (OK.store hT (i := 0) (b := b77323) (off := 1) (n := 1) (vs := [.int .i64 p1]) (cs := [.slice A77324 p0.b.length c77325, .int .i64 p0.err, .bool p0.made]) (e := 72) s (by kernel_rfl) rfl rfl (flat_ok rfl) (Nat.le_of_ble_eq_true rfl) ?_)
  clear s
  rintro w77328 s k77329 -
  replace e77327 := e77327.st k77329
  replace kk := kk.trans k77329
  refine RW.nil ?_
  obtain rfl := someS hf
  refine Fin.of (rs := []) hT [] (.tuple #[]) [] rfl (by kernel_rfl) (trivial) ?_
  exact fun X h => vc rfl (h I A77324 c77325 _ s kk hc77326 e77327)
theorem c53_1 {w0 w : World} {M I : Nat → Prop} {F : List It} (p0 : T_pack_Reader) (p1 : Int) (b77433 : Nat) (A77434 : Option Addr) (c77435 : Nat) (hc77436 : (p0.b.length ≤ c77435 ∧ c77435 ≤ 9223372036854775807)) (e77437 : Elems (Rp.int .u8) I w A77434 p0.b) (s : St w0 M I ((.blk b77433 (.cells #[.slice A77434 p0.b.length c77435, .int .i64 p0.err, .bool p0.made] 72 (0, 0))) :: F) w) {r : ((List Int) × T_pack_Reader)} (hf : g53_1 p0 p1 = some r) :
    Ret Tryd.prog 53 [.pointer (some ⟨b77433, 0, none⟩), .int .i64 p1] w fun v wz => ∀ X : Value → World → Prop, (∀ (I' : Nat → Prop) (A77501 : Option Addr) (c77502 : Nat) (A77505 : Option Addr) (c77506 : Nat) (w' : World), St w0 M I' ((.blk b77433 (.cells #[.slice A77505 r.2.b.length c77506, .int .i64 r.2.err, .bool r.2.made] 72 (0, 0))) :: F) w' → Kp I w I' w' → (r.1.length ≤ c77502 ∧ c77502 ≤ 9223372036854775807) → Elems (Rp.int .u8) I' w' A77501 r.1 → (r.2.b.length ≤ c77506 ∧ c77506 ≤ 9223372036854775807) → Elems (Rp.int .u8) I' w' A77505 r.2.b → X (.slice A77501 r.1.length c77502) w') → X v wz := by
  have kk : Kp I w I w := Kp.refl
  unfold g53_1 at hf
  refine Ret.of Tryd.func53 rfl ?_
  refine WPK.seq ?_
  refine WPK.region ?_
  refine RW.seg hT 1 [] [] [.slice none 0 0] [] (by kernel_rfl) (trivial) ?_
  refine RW.nil ?_
  refine WPK.seq ?_
  refine WPK.seq ?_
  refine WPK.region ?_
  refine RW.seg hT 1 [] [] [.pointer (some ⟨b77433, 0, none⟩)] [] (by kernel_rfl) (trivial) ?_
  obtain ⟨x77446, hx77447, hf⟩ := bindS hf
  refine RW.op (by kernel_rfl) (OK.call' en51 (by kernel_rfl) (c51_1 (F := F) p0 b77433 A77434 c77435 hc77436 e77437 s hx77447) ?_)
  intro X77450 hX77451
  refine fun _ _ hJ => hJ X77450 ?_
  clear s
  intro I77452 w77448 s k77449
  refine hX77451 _ _ ?_
  replace e77437 := e77437.st k77449
  replace kk := kk.trans k77449
  refine RW.nil ?_
  by_cases h77453 : x77446 = true
  · have hf := iteT h77453 hf
    refine WPK.condT (Eq.trans (b := .bool x77446) (by kernel_rfl) (b_t h77453)) ?_
    refine WPK.seq ?_
    refine WPK.region ?_
    refine RW.seg hT 1 [] [] [.slice none 0 0] [] (by kernel_rfl) (trivial) ?_
    refine RW.nil ?_
    refine WPK.ret (?_)
    obtain rfl := someS hf
    refine Fin.of (rs := [.tmp 4]) hT [] (.slice none 0 0) [] rfl (by kernel_rfl) (trivial) ?_
    exact fun X h => vc rfl (h I77452 none 0 A77434 c77435 _ s kk nil_hc Elems.nil hc77436 e77437)
  · have hf := iteF h77453 hf
    refine WPK.condF (Eq.trans (b := .bool x77446) (by kernel_rfl) (b_f h77453)) ?_
    refine WPK.skip ?_
    refine WPK.seq ?_
    refine WPK.seq ?_
    refine WPK.region ?_
    refine RW.seg hT 7 [.slice A77434 p0.b.length c77435] [] [.int .i64 p1, .pointer (some ⟨b77433, 0, none⟩), .pointer (some ⟨b77433, 0, none⟩), .pointer (some ⟨b77433, 0, none⟩), .slice A77434 p0.b.length c77435, .int .i64 (p0.b.length : Int), .bool (decide (p1 > (p0.b.length : Int)))] [.cell ⟨b77433, 0, none⟩ (.slice A77434 p0.b.length c77435)] (by kernel_rfl) (s.cell (i := 0) (off := 0) rfl rfl) ?_
    refine RW.nil ?_
    by_cases h77466 : p1 > (p0.b.length : Int)
    · have hf := iteT h77466 hf
      refine WPK.condT (Eq.trans (b := .bool (decide (p1 > (p0.b.length : Int)))) (by kernel_rfl) (bo_t h77466)) ?_
      refine WPK.seq ?_
      refine WPK.region ?_
      refine RW.seg hT 1 [] [] [.pointer (some ⟨b77433, 0, none⟩)] [] (by kernel_rfl) (trivial) ?_
      obtain ⟨x77467, hx77468, hf⟩ := bindS hf
      refine RW.op (by kernel_rfl) (OK.call' en52 (by kernel_rfl) (c52_1 (F := F) p0 10 b77433 A77434 c77435 hc77436 e77437 s hx77468) ?_)
      intro X77471 hX77472
      refine fun _ _ hJ => hJ X77471 ?_
      clear s
      intro I77473 A77474 c77475 w77469 s k77470 hc77476 e77477
      refine hX77472 _ _ ?_
      replace e77437 := e77437.st k77470
      replace kk := kk.trans k77470
      refine RW.nil ?_
      refine WPK.seq ?_
      refine WPK.region ?_
      refine RW.seg hT 1 [] [] [.slice none 0 0] [] (by kernel_rfl) (trivial) ?_
      refine RW.nil ?_
      refine WPK.ret (?_)
      obtain rfl := someS hf
      refine Fin.of (rs := [.tmp 4]) hT [] (.slice none 0 0) [] rfl (by kernel_rfl) (trivial) ?_
      exact fun X h => vc rfl (h I77473 none 0 A77474 c77475 _ s kk nil_hc Elems.nil hc77476 e77477)
    · have hf := iteF h77466 hf
      refine WPK.condF (Eq.trans (b := .bool (decide (p1 > (p0.b.length : Int)))) (by kernel_rfl) (bo_f h77466)) ?_
      refine WPK.skip ?_
      refine WPK.seq ?_
      refine WPK.region ?_
      obtain ⟨h77480, hf⟩ := iteS hf
      obtain ⟨y77478, hy77479, hf⟩ := bindS hf
      obtain ⟨c77482, h77483, hc77484, e77485, q77486, q77487⟩ := slS0m hc77436 e77437 hy77479 h77480
      refine RW.seg hT 8 [.slice A77434 p0.b.length c77435] [(23, .slice A77434 y77478.length c77482)] [.pointer (some ⟨b77433, 0, none⟩), .pointer (some ⟨b77433, 0, none⟩), .pointer (some ⟨b77433, 0, none⟩), .slice A77434 p0.b.length c77435, .int .i64 p1, .int .i64 p1, .slice A77434 y77478.length c77482, .slice A77434 y77478.length c77482] [.cell ⟨b77433, 0, none⟩ (.slice A77434 p0.b.length c77435), .both (.cut 0 p1 p1 c77435) (.veq (.slice A77434 p1.toNat p1.toNat) (.slice A77434 y77478.length c77482))] (by kernel_rfl) (⟨s.cell (i := 0) (off := 0) rfl rfl, ⟨⟨Int.le_refl _, h77483⟩, sl_eq rfl q77486 q77487⟩⟩) ?_
      refine RW.nil ?_
      refine WPK.seq ?_
      refine WPK.region ?_
      obtain ⟨y77489, hy77490, hf⟩ := bindS hf
      obtain ⟨A77491, c77492, h77493, hc77494, e77495, q77496, q77497, q77498⟩ := slS (size := 1) rfl hc77436 e77437 hy77490
      refine RW.seg hT 9 [.slice A77434 p0.b.length c77435] [(30, .slice A77491 y77489.length c77492)] [.pointer (some ⟨b77433, 0, none⟩), .pointer (some ⟨b77433, 0, none⟩), .pointer (some ⟨b77433, 0, none⟩), .pointer (some ⟨b77433, 0, none⟩), .slice A77434 p0.b.length c77435, .int .i64 p1, .slice A77491 y77489.length c77492, .pointer (some ⟨b77433, 0, none⟩), .pointer (some ⟨b77433, 0, none⟩)] [.cell ⟨b77433, 0, none⟩ (.slice A77434 p0.b.length c77435), .both (.cut p1 (p0.b.length : Int) c77435 c77435) (.veq (.slice (cutA A77434 p1.toNat c77435 1) (p0.b.length - p1.toNat) (c77435 - p1.toNat)) (.slice A77491 y77489.length c77492))] (by kernel_rfl) (⟨s.cell (i := 0) (off := 0) rfl rfl, ⟨⟨by omega, by omega, by omega, by omega⟩, sl_eq q77496 q77497 q77498⟩⟩) ?_
      refine RW.op (by kernel_rfl) (OK.store hT (i := 0) (b := b77433) (off := 0) (n := 1) (vs := [.slice A77491 y77489.length c77492]) (cs := [.slice A77434 p0.b.length c77435, .int .i64 p0.err, .bool p0.made]) (e := 72) s (by kernel_rfl) rfl rfl (flat_ok rfl) (Nat.le_of_ble_eq_true rfl) ?_)
      clear s
      rintro w77499 s k77500 -
      replace e77485 := e77485.st k77500
      replace e77437 := e77437.st k77500
      replace e77495 := e77495.st k77500
      replace kk := kk.trans k77500
      refine RW.nil ?_
      refine WPK.seq ?_
      refine WPK.region ?_
      refine RW.seg hT 2 [] [] [.slice A77434 y77478.length c77482, .slice A77434 y77478.length c77482] [] (by kernel_rfl) (trivial) ?_
      refine RW.nil ?_
      refine WPK.ret (?_)
      obtain rfl := someS hf
      refine Fin.of (rs := [.tmp 4]) hT [] (.slice A77434 y77478.length c77482) [] rfl (by kernel_rfl) (trivial) ?_
      exact fun X h => vc rfl (h I77452 A77434 c77482 A77491 c77492 _ s kk hc77484 e77485 hc77494 e77495)
end Go.Proofs.YtefjbhogpgihaaaDoor
