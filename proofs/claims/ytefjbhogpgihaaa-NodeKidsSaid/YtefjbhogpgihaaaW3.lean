/- PRINTED BY sy.py: each call computes what the plain function of its number tells. -/
import Derived.Test.YtefjbhogpgihaaaW2
namespace Go.Proofs.Ytefjbhogpgihaaa
open Go Go.SX Go.RowKit
set_option maxRecDepth 100000
set_option linter.unusedVariables false
attribute [local irreducible] WPK RW RD Ret SX.Fin SX.Any opK RoundBeg RoundEnd RangeEnd Rounds
theorem c11 {w0 w : World} {M I : Nat → Prop} {F : List It}  (s : St w0 M I (F) w) {r : Bool} (hf : g11 = some r) :
    Ret Try.prog 11 [] w fun v wz => ∀ X : Value → World → Prop, (∀ (I' : Nat → Prop) (w' : World), St w0 M I' (F) w' → Kp I w I' w' → X (.bool r) w') → X v wz := by
  have kk : Kp I w I w := Kp.refl
  unfold g11 at hf
  refine Ret.of Try.func11 rfl ?_
  refine WPK.seq ?_
  refine WPK.region ?_
  refine RW.seg hT 1 [] [] [.bool false] [] (by kernel_rfl) (trivial) ?_
  refine RW.nil ?_
  refine WPK.seq ?_
  refine WPK.region ?_
  refine RW.op (by kernel_rfl) (OK.new hT (f := fun b => .slice (some ⟨b, 0, none⟩) 1 1) (cs := [.int .u8 97]) (e := 5) (c := .tt) s (by kernel_rfl) trivial ?_)
  clear s
  rintro w62080 b62081 s k62082 -
  replace kk := kk.trans k62082
  have rp62083 : RepL (Rp.int .u8) I w62080 [.int .u8 97] ([97] : List Int) := RepL.cons (c := [.int .u8 97]) (d := []) (rfl) (RepL.nil)
  replace s : St w0 M I ((.sl (.slice (some ⟨b62081, 0, none⟩) 1 1) 5 1 1 [.int .u8 97]) :: F) w62080 := s.blkSl (i := 0) (n := 1) (c := 1) (size := 1) rfl rfl (Nat.le_refl _) (by decide)
  refine RW.op (by kernel_rfl) (OK.mark hT (t := 27) (eT := 5) (i := 0) (b := b62081) (c := 1) (e := 5) (n := 1) (xs := ([97] : List Int)) s (by kernel_rfl) rfl rfl rfl rfl rfl rfl rp62083 ?_)
  clear s
  rintro I62085 w62086 s k62087 hc62088 e62089
  replace kk := kk.trans k62087
  refine RW.op (by kernel_rfl) (OK.new hT (f := fun b => .slice (some ⟨b, 0, none⟩) 1 1) (cs := [.int .u8 7]) (e := 5) (c := .tt) s (by kernel_rfl) trivial ?_)
  clear s
  rintro w62090 b62091 s k62092 -
  replace e62089 := e62089.st k62092
  replace kk := kk.trans k62092
  have rp62093 : RepL (Rp.int .u8) I62085 w62090 [.int .u8 7] ([7] : List Int) := RepL.cons (c := [.int .u8 7]) (d := []) (rfl) (RepL.nil)
  replace s : St w0 M I62085 ((.sl (.slice (some ⟨b62091, 0, none⟩) 1 1) 5 1 1 [.int .u8 7]) :: F) w62090 := s.blkSl (i := 0) (n := 1) (c := 1) (size := 1) rfl rfl (Nat.le_refl _) (by decide)
  refine RW.seg hT 1 [] [] [.agg #[.slice (some ⟨b62081, 0, none⟩) (([97] : List Int).length) 1, .slice (some ⟨b62091, 0, none⟩) 1 1]] [] (by kernel_rfl) (trivial) ?_
  refine RW.op (by kernel_rfl) (OK.new hT (f := fun b => .slice (some ⟨b, 0, none⟩) 1 1) (cs := [.int .u8 98]) (e := 5) (c := .tt) s (by kernel_rfl) trivial ?_)
  clear s
  rintro w62095 b62096 s k62097 -
  replace e62089 := e62089.st k62097
  replace rp62093 := rp62093.st k62097
  replace kk := kk.trans k62097
  have rp62098 : RepL (Rp.int .u8) I62085 w62095 [.int .u8 98] ([98] : List Int) := RepL.cons (c := [.int .u8 98]) (d := []) (rfl) (RepL.nil)
  replace s : St w0 M I62085 ((.sl (.slice (some ⟨b62096, 0, none⟩) 1 1) 5 1 1 [.int .u8 98]) :: (.sl (.slice (some ⟨b62091, 0, none⟩) 1 1) 5 1 1 [.int .u8 7]) :: F) w62095 := s.blkSl (i := 0) (n := 1) (c := 1) (size := 1) rfl rfl (Nat.le_refl _) (by decide)
  refine RW.op (by kernel_rfl) (OK.mark hT (t := 27) (eT := 5) (i := 0) (b := b62096) (c := 1) (e := 5) (n := 1) (xs := ([98] : List Int)) s (by kernel_rfl) rfl rfl rfl rfl rfl rfl rp62098 ?_)
  clear s
  rintro I62100 w62101 s k62102 hc62103 e62104
  replace e62089 := e62089.st k62102
  replace rp62093 := rp62093.st k62102
  replace kk := kk.trans k62102
  refine RW.seg hT 1 [] [] [.agg #[.slice (some ⟨b62096, 0, none⟩) (([98] : List Int).length) 1, .slice none 0 0]] [] (by kernel_rfl) (trivial) ?_
  obtain ⟨I62105, s', k62106, hc62107, e62108⟩ := St.give s (i := 0) rfl rfl rp62093
  replace s := s'; clear s'
  replace e62089 := e62089.st k62106
  replace e62104 := e62104.st k62106
  replace kk := kk.trans k62106
  refine RW.op (by kernel_rfl) (OK.new hT (f := fun b => .slice (some ⟨b, 0, none⟩) 2 2) (cs := [.slice (some ⟨b62081, 0, none⟩) (([97] : List Int).length) 1, .slice (some ⟨b62091, 0, none⟩) (([7] : List Int).length) 1, .slice (some ⟨b62096, 0, none⟩) (([98] : List Int).length) 1, .slice none 0 0]) (e := 48) (c := .tt) s (by kernel_rfl) trivial ?_)
  clear s
  rintro w62109 b62110 s k62111 -
  replace e62089 := e62089.st k62111
  replace e62108 := e62108.st k62111
  replace e62104 := e62104.st k62111
  replace kk := kk.trans k62111
  have rp62112 : RepL rp_T_api_Pair I62105 w62109 [.slice (some ⟨b62081, 0, none⟩) (([97] : List Int).length) 1, .slice (some ⟨b62091, 0, none⟩) (([7] : List Int).length) 1, .slice (some ⟨b62096, 0, none⟩) (([98] : List Int).length) 1, .slice none 0 0] ([(T_api_Pair.mk ([97] : List Int) ([7] : List Int)), (T_api_Pair.mk ([98] : List Int) [])] : List T_api_Pair) := RepL.cons (c := [.slice (some ⟨b62081, 0, none⟩) (([97] : List Int).length) 1, .slice (some ⟨b62091, 0, none⟩) (([7] : List Int).length) 1]) (d := [.slice (some ⟨b62096, 0, none⟩) (([98] : List Int).length) 1, .slice none 0 0]) (⟨[.slice (some ⟨b62081, 0, none⟩) (([97] : List Int).length) 1], [.slice (some ⟨b62091, 0, none⟩) (([7] : List Int).length) 1], rfl, ⟨_, _, rfl, hc62088.1, hc62088.2, e62089⟩, ⟨_, _, rfl, hc62107.1, hc62107.2, e62108⟩⟩) (RepL.cons (c := [.slice (some ⟨b62096, 0, none⟩) (([98] : List Int).length) 1, .slice none 0 0]) (d := []) (⟨[.slice (some ⟨b62096, 0, none⟩) (([98] : List Int).length) 1], [.slice none 0 0], rfl, ⟨_, _, rfl, hc62103.1, hc62103.2, e62104⟩, ⟨_, _, rfl, nil_hc.1, nil_hc.2, Elems.nil⟩⟩) (RepL.nil))
  replace s : St w0 M I62105 ((.sl (.slice (some ⟨b62110, 0, none⟩) 2 2) 48 2 2 [.slice (some ⟨b62081, 0, none⟩) (([97] : List Int).length) 1, .slice (some ⟨b62091, 0, none⟩) (([7] : List Int).length) 1, .slice (some ⟨b62096, 0, none⟩) (([98] : List Int).length) 1, .slice none 0 0]) :: F) w62109 := s.blkSl (i := 0) (n := 2) (c := 2) (size := 2) rfl rfl (Nat.le_refl _) (by decide)
  refine RW.seg hT 1 [] [] [.agg #[.bool true, .slice (some ⟨b62110, 0, none⟩) 2 2, .slice none 0 0, .slice none 0 0]] [] (by kernel_rfl) (trivial) ?_
  have sa62114 := s
  obtain ⟨hc62115, e62116⟩ := St.lend s (i := 0) rfl rfl rp62112
  have k62117 := Kp.shut (I := I62105) (w := w62109) (p := .sl (.slice (some ⟨b62110, 0, none⟩) 2 2) 48 2 2 [.slice (some ⟨b62081, 0, none⟩) (([97] : List Int).length) 1, .slice (some ⟨b62091, 0, none⟩) (([7] : List Int).length) 1, .slice (some ⟨b62096, 0, none⟩) (([98] : List Int).length) 1, .slice none 0 0])
  replace s := s.shut 0 rfl
  obtain ⟨x62118, hx62119, hf⟩ := bindS hf
  refine RW.op (by kernel_rfl) (OK.call' en30 (by kernel_rfl) (c30 (F := F) (T_api_Node.mk true ([(T_api_Pair.mk ([97] : List Int) ([7] : List Int)), (T_api_Pair.mk ([98] : List Int) [])] : List T_api_Pair) [] []) (some ⟨b62110, 0, none⟩) 2 none 0 none 0 hc62115 e62116 nil_hc Elems.nil nil_hc Elems.nil s hx62119) ?_)
  intro X62122 hX62123
  refine fun _ _ hJ => hJ X62122 ?_
  clear s
  intro I62124 A62125 n62126 c62127 cl62128 w62120 s k62121 hn62129 rp62130
  refine hX62123 _ _ ?_
  have s' := St.back sa62114 (i := 0) rfl s k62121
  replace k62121 := Kp.back sa62114 (i := 0) rfl k62121
  replace s := s'; clear s'
  obtain ⟨I62133, s, k62121⟩ : ∃ I : Nat → Prop, St w0 M I ((.sl (.slice (some ⟨b62110, 0, none⟩) 2 2) 48 2 2 [.slice (some ⟨b62081, 0, none⟩) (([97] : List Int).length) 1, .slice (some ⟨b62091, 0, none⟩) (([7] : List Int).length) 1, .slice (some ⟨b62096, 0, none⟩) (([98] : List Int).length) 1, .slice none 0 0]) :: (.sl (.slice A62125 n62126 c62127) 5 1 n62126 cl62128) :: F) w62120 ∧ Kp _ _ I _ := ⟨_, s, k62121⟩
  replace rp62130 := RepL.free (I' := I62133) (w' := w62120) free_int rp62130
  replace e62089 := e62089.st k62121
  replace e62108 := e62108.st k62121
  replace e62104 := e62104.st k62121
  replace rp62112 := rp62112.st k62121
  replace kk := kk.trans k62121
  rw [hn62129] at s
  try rw [hn62129]
  obtain ⟨I62134, s', k62135, hc62136, e62137⟩ := St.give s (i := 1) rfl rfl rp62130
  replace s := s'; clear s'
  replace e62089 := e62089.st k62135
  replace e62108 := e62108.st k62135
  replace e62104 := e62104.st k62135
  replace rp62112 := rp62112.st k62135
  replace kk := kk.trans k62135
  refine RW.seg hT 7 [] [] [.tuple #[.int .i64 x62118.1, .slice A62125 x62118.2.1.length c62127, .int .i64 x62118.2.2], .int .i64 x62118.1, .slice A62125 x62118.2.1.length c62127, .int .i64 x62118.2.2, .int .i64 x62118.1, .slice A62125 x62118.2.1.length c62127, .int .i64 x62118.2.2] [] (by kernel_rfl) (trivial) ?_
  refine RW.nil ?_
  refine WPK.seq ?_
  refine WPK.region ?_
  refine RW.op (by kernel_rfl) (OK.new hT (f := fun b => .slice (some ⟨b, 0, none⟩) 1 1) (cs := [.int .u8 98]) (e := 5) (c := .tt) s (by kernel_rfl) trivial ?_)
  clear s
  rintro w62138 b62139 s k62140 -
  replace e62137 := e62137.st k62140
  replace e62089 := e62089.st k62140
  replace e62108 := e62108.st k62140
  replace e62104 := e62104.st k62140
  replace rp62112 := rp62112.st k62140
  replace kk := kk.trans k62140
  have rp62141 : RepL (Rp.int .u8) I62134 w62138 [.int .u8 98] ([98] : List Int) := RepL.cons (c := [.int .u8 98]) (d := []) (rfl) (RepL.nil)
  replace s : St w0 M I62134 ((.sl (.slice (some ⟨b62139, 0, none⟩) 1 1) 5 1 1 [.int .u8 98]) :: (.sl (.slice (some ⟨b62110, 0, none⟩) 2 2) 48 2 2 [.slice (some ⟨b62081, 0, none⟩) (([97] : List Int).length) 1, .slice (some ⟨b62091, 0, none⟩) (([7] : List Int).length) 1, .slice (some ⟨b62096, 0, none⟩) (([98] : List Int).length) 1, .slice none 0 0]) :: F) w62138 := s.blkSl (i := 0) (n := 1) (c := 1) (size := 1) rfl rfl (Nat.le_refl _) (by decide)
  refine RW.op (by kernel_rfl) (OK.mark hT (t := 27) (eT := 5) (i := 0) (b := b62139) (c := 1) (e := 5) (n := 1) (xs := ([98] : List Int)) s (by kernel_rfl) rfl rfl rfl rfl rfl rfl rp62141 ?_)
  clear s
  rintro I62143 w62144 s k62145 hc62146 e62147
  replace e62137 := e62137.st k62145
  replace e62089 := e62089.st k62145
  replace e62108 := e62108.st k62145
  replace e62104 := e62104.st k62145
  replace rp62112 := rp62112.st k62145
  replace kk := kk.trans k62145
  refine RW.op (by kernel_rfl) (OK.new hT (f := fun b => .slice (some ⟨b, 0, none⟩) 1 1) (cs := [.slice (some ⟨b62139, 0, none⟩) (([98] : List Int).length) 1]) (e := 27) (c := .tt) s (by kernel_rfl) trivial ?_)
  clear s
  rintro w62148 b62149 s k62150 -
  replace e62137 := e62137.st k62150
  replace e62089 := e62089.st k62150
  replace e62108 := e62108.st k62150
  replace e62104 := e62104.st k62150
  replace e62147 := e62147.st k62150
  replace rp62112 := rp62112.st k62150
  replace kk := kk.trans k62150
  have rp62151 : RepL (Rp.slice (Rp.int .u8)) I62143 w62148 [.slice (some ⟨b62139, 0, none⟩) (([98] : List Int).length) 1] ([([98] : List Int)] : List (List Int)) := RepL.cons (c := [.slice (some ⟨b62139, 0, none⟩) (([98] : List Int).length) 1]) (d := []) (⟨_, _, rfl, hc62146.1, hc62146.2, e62147⟩) (RepL.nil)
  replace s : St w0 M I62143 ((.sl (.slice (some ⟨b62149, 0, none⟩) 1 1) 27 1 1 [.slice (some ⟨b62139, 0, none⟩) (([98] : List Int).length) 1]) :: (.sl (.slice (some ⟨b62110, 0, none⟩) 2 2) 48 2 2 [.slice (some ⟨b62081, 0, none⟩) (([97] : List Int).length) 1, .slice (some ⟨b62091, 0, none⟩) (([7] : List Int).length) 1, .slice (some ⟨b62096, 0, none⟩) (([98] : List Int).length) 1, .slice none 0 0]) :: F) w62148 := s.blkSl (i := 0) (n := 1) (c := 1) (size := 1) rfl rfl (Nat.le_refl _) (by decide)
  refine RW.op (by kernel_rfl) (OK.new hT (f := fun b => .slice (some ⟨b, 0, none⟩) 2 2) (cs := [.int .i64 5, .int .i64 6]) (e := 3) (c := .tt) s (by kernel_rfl) trivial ?_)
  clear s
  rintro w62153 b62154 s k62155 -
  replace e62137 := e62137.st k62155
  replace e62089 := e62089.st k62155
  replace e62108 := e62108.st k62155
  replace e62104 := e62104.st k62155
  replace e62147 := e62147.st k62155
  replace rp62151 := rp62151.st k62155
  replace rp62112 := rp62112.st k62155
  replace kk := kk.trans k62155
  have rp62156 : RepL (Rp.int .i64) I62143 w62153 [.int .i64 5, .int .i64 6] ([5, 6] : List Int) := RepL.cons (c := [.int .i64 5]) (d := [.int .i64 6]) (rfl) (RepL.cons (c := [.int .i64 6]) (d := []) (rfl) (RepL.nil))
  replace s : St w0 M I62143 ((.sl (.slice (some ⟨b62154, 0, none⟩) 2 2) 3 1 2 [.int .i64 5, .int .i64 6]) :: (.sl (.slice (some ⟨b62149, 0, none⟩) 1 1) 27 1 1 [.slice (some ⟨b62139, 0, none⟩) (([98] : List Int).length) 1]) :: (.sl (.slice (some ⟨b62110, 0, none⟩) 2 2) 48 2 2 [.slice (some ⟨b62081, 0, none⟩) (([97] : List Int).length) 1, .slice (some ⟨b62091, 0, none⟩) (([7] : List Int).length) 1, .slice (some ⟨b62096, 0, none⟩) (([98] : List Int).length) 1, .slice none 0 0]) :: F) w62153 := s.blkSl (i := 0) (n := 2) (c := 2) (size := 1) rfl rfl (Nat.le_refl _) (by decide)
  refine RW.seg hT 1 [] [] [.agg #[.bool false, .slice none 0 0, .slice (some ⟨b62149, 0, none⟩) 1 1, .slice (some ⟨b62154, 0, none⟩) 2 2]] [] (by kernel_rfl) (trivial) ?_
  refine RW.op (by kernel_rfl) (OK.new hT (f := fun b => .pointer (some ⟨b, 0, none⟩)) (cs := [.bool false, .slice none 0 0, .slice none 0 0, .slice none 0 0]) (e := 26) (c := .tt) s (by kernel_rfl) trivial ?_)
  clear s
  rintro w62158 b62159 s k62160 -
  replace e62137 := e62137.st k62160
  replace e62089 := e62089.st k62160
  replace e62108 := e62108.st k62160
  replace e62104 := e62104.st k62160
  replace e62147 := e62147.st k62160
  replace rp62156 := rp62156.st k62160
  replace rp62151 := rp62151.st k62160
  replace rp62112 := rp62112.st k62160
  replace kk := kk.trans k62160
  refine RW.op (by kernel_rfl) (OK.store hT (i := 0) (b := b62159) (off := 0) (n := 4) (vs := [.bool false, .slice none 0 0, .slice (some ⟨b62149, 0, none⟩) 1 1, .slice (some ⟨b62154, 0, none⟩) 2 2]) (cs := [.bool false, .slice none 0 0, .slice none 0 0, .slice none 0 0]) (e := 26) s (by kernel_rfl) rfl rfl (flat_ok rfl) (Nat.le_of_ble_eq_true rfl) ?_)
  clear s
  rintro w62161 s k62162 -
  replace e62137 := e62137.st k62162
  replace e62089 := e62089.st k62162
  replace e62108 := e62108.st k62162
  replace e62104 := e62104.st k62162
  replace e62147 := e62147.st k62162
  replace rp62156 := rp62156.st k62162
  replace rp62151 := rp62151.st k62162
  replace rp62112 := rp62112.st k62162
  replace kk := kk.trans k62162
  refine RW.nil ?_
  refine WPK.seq ?_
  refine WPK.cut' (Kn fun E ds wz => ∀ X : Kont, (∀ (I62255 : Nat → Prop) (x62253 : Bool) (D62252 : List Value) (w' : World), g11_j1 x62253 = some r → St w0 M I62255 (F) w' → Kp I w I62255 w' → X [.bool x62253, (D62252.getD 0 undef), (D62252.getD 1 undef), (D62252.getD 2 undef), (D62252.getD 3 undef), (D62252.getD 4 undef), (D62252.getD 5 undef), (D62252.getD 6 undef), (D62252.getD 7 undef), (D62252.getD 8 undef), (D62252.getD 9 undef), (D62252.getD 10 undef), (D62252.getD 11 undef), (D62252.getD 12 undef), (D62252.getD 13 undef), (D62252.getD 14 undef), (D62252.getD 15 undef), (D62252.getD 16 undef), (D62252.getD 17 undef), (D62252.getD 18 undef), (D62252.getD 19 undef), (D62252.getD 20 undef), (D62252.getD 21 undef), (D62252.getD 22 undef), (D62252.getD 23 undef), (D62252.getD 24 undef), (D62252.getD 25 undef), (D62252.getD 26 undef), (D62252.getD 27 undef), (D62252.getD 28 undef), (D62252.getD 29 undef), (D62252.getD 30 undef), (D62252.getD 31 undef), (D62252.getD 32 undef), (D62252.getD 33 undef), (D62252.getD 34 undef), (D62252.getD 35 undef), (D62252.getD 36 undef), (D62252.getD 37 undef), (D62252.getD 38 undef), (D62252.getD 39 undef), (D62252.getD 40 undef), (D62252.getD 41 undef), (D62252.getD 42 undef), (D62252.getD 43 undef), (D62252.getD 44 undef), (D62252.getD 45 undef), (D62252.getD 46 undef), (D62252.getD 47 undef), (D62252.getD 48 undef), (D62252.getD 49 undef), (D62252.getD 50 undef), (D62252.getD 51 undef), (D62252.getD 52 undef), (D62252.getD 53 undef)] [] w') → X E ds wz) ?_ ?_
  · intro X62256 hX62257
    refine fun _ _ _ hJ => hJ X62256 ?_
    clear s
    intro I62255 x62253 D62252 w62254 hf s kk
    refine hX62257 _ _ _ ?_
    unfold g11_j1 at hf
    refine WPK.ret (?_)
    obtain rfl := someS hf
    refine Fin.of (rs := [.tmp 0]) hT [] (.bool x62253) [] rfl (by kernel_rfl) (trivial) ?_
    exact fun X h => vc rfl (h I62255 _ s kk)
  · refine WPK.region ?_
    refine RW.seg hT 2 [] [(25, .bool (decide (x62118.2.2 = 0)))] [.int .i64 x62118.2.2, .bool (decide (x62118.2.2 = 0))] [.veq (.bool (x62118.2.2 == 0)) (.bool (decide (x62118.2.2 = 0)))] (by kernel_rfl) (eq_v) ?_
    by_cases h62258 : x62118.2.2 = 0
    · have hf := iteT h62258 hf
      refine RW.seg hT 4 [] [(26, .bool true), (28, .bool (decide (x62118.1 = 3)))] [.bool true, .int .i64 x62118.1, .bool (decide (x62118.1 = 3)), .bool (decide (x62118.1 = 3))] [.veq (.bool (decide (x62118.2.2 = 0))) (.bool true), .veq (.bool (x62118.1 == 3)) (.bool (decide (x62118.1 = 3)))] (by kernel_rfl) (⟨bo_t h62258, eq_v⟩) ?_
      by_cases h62259 : x62118.1 = 3
      · have hf := iteT h62259 hf
        refine RW.seg hT 5 [] [(30, .bool true), (33, .bool (decide ((x62118.2.1.length : Int) = 240)))] [.bool true, .slice A62125 x62118.2.1.length c62127, .int .i64 (x62118.2.1.length : Int), .bool (decide ((x62118.2.1.length : Int) = 240)), .bool (decide ((x62118.2.1.length : Int) = 240))] [.veq (.bool (decide (x62118.1 = 3))) (.bool true), .veq (.bool ((x62118.2.1.length : Int) == 240)) (.bool (decide ((x62118.2.1.length : Int) = 240)))] (by kernel_rfl) (⟨bo_t h62259, eq_v⟩) ?_
        by_cases h62260 : (x62118.2.1.length : Int) = 240
        · have hf := iteT h62260 hf
          obtain ⟨y62261, hy62262, hf⟩ := bindS hf
          obtain ⟨h62265, hc62266, e62267, q62268⟩ := slS0 hc62136 e62137 hy62262
          refine RW.seg hT 3 [] [(35, .bool true), (37, .slice A62125 y62261.length c62127)] [.bool true, .slice A62125 x62118.2.1.length c62127, .slice A62125 y62261.length c62127] [.veq (.bool (decide ((x62118.2.1.length : Int) = 240))) (.bool true), .both (.cut 0 9 c62127 c62127) (.veq (.slice A62125 (9 : Int).toNat c62127) (.slice A62125 y62261.length c62127))] (by kernel_rfl) (⟨bo_t h62260, ⟨⟨by omega, by omega, by omega, by omega⟩, sl_eq rfl q62268 rfl⟩⟩) ?_
          refine RW.op (by kernel_rfl) (OK.new hT (f := fun b => .slice (some ⟨b, 0, none⟩) 9 9) (cs := [.int .u8 2, .int .u8 1, .int .u8 97, .int .u8 1, .int .u8 7, .int .u8 1, .int .u8 98, .int .u8 0, .int .u8 0]) (e := 5) (c := .tt) s (by kernel_rfl) trivial ?_)
          clear s
          rintro w62271 b62272 s k62273 -
          replace e62137 := e62137.st k62273
          replace e62089 := e62089.st k62273
          replace e62108 := e62108.st k62273
          replace e62104 := e62104.st k62273
          replace e62147 := e62147.st k62273
          replace e62267 := e62267.st k62273
          replace rp62156 := rp62156.st k62273
          replace rp62151 := rp62151.st k62273
          replace rp62112 := rp62112.st k62273
          replace kk := kk.trans k62273
          have rp62274 : RepL (Rp.int .u8) I62143 w62271 [.int .u8 2, .int .u8 1, .int .u8 97, .int .u8 1, .int .u8 7, .int .u8 1, .int .u8 98, .int .u8 0, .int .u8 0] ([2, 1, 97, 1, 7, 1, 98, 0, 0] : List Int) := RepL.cons (c := [.int .u8 2]) (d := [.int .u8 1, .int .u8 97, .int .u8 1, .int .u8 7, .int .u8 1, .int .u8 98, .int .u8 0, .int .u8 0]) (rfl) (RepL.cons (c := [.int .u8 1]) (d := [.int .u8 97, .int .u8 1, .int .u8 7, .int .u8 1, .int .u8 98, .int .u8 0, .int .u8 0]) (rfl) (RepL.cons (c := [.int .u8 97]) (d := [.int .u8 1, .int .u8 7, .int .u8 1, .int .u8 98, .int .u8 0, .int .u8 0]) (rfl) (RepL.cons (c := [.int .u8 1]) (d := [.int .u8 7, .int .u8 1, .int .u8 98, .int .u8 0, .int .u8 0]) (rfl) (RepL.cons (c := [.int .u8 7]) (d := [.int .u8 1, .int .u8 98, .int .u8 0, .int .u8 0]) (rfl) (RepL.cons (c := [.int .u8 1]) (d := [.int .u8 98, .int .u8 0, .int .u8 0]) (rfl) (RepL.cons (c := [.int .u8 98]) (d := [.int .u8 0, .int .u8 0]) (rfl) (RepL.cons (c := [.int .u8 0]) (d := [.int .u8 0]) (rfl) (RepL.cons (c := [.int .u8 0]) (d := []) (rfl) (RepL.nil)))))))))
          replace s : St w0 M I62143 ((.sl (.slice (some ⟨b62272, 0, none⟩) 9 9) 5 1 9 [.int .u8 2, .int .u8 1, .int .u8 97, .int .u8 1, .int .u8 7, .int .u8 1, .int .u8 98, .int .u8 0, .int .u8 0]) :: (.blk b62159 (.cells #[.bool false, .slice none 0 0, .slice (some ⟨b62149, 0, none⟩) 1 1, .slice (some ⟨b62154, 0, none⟩) 2 2] 26 (0, 0))) :: (.sl (.slice (some ⟨b62154, 0, none⟩) 2 2) 3 1 2 [.int .i64 5, .int .i64 6]) :: (.sl (.slice (some ⟨b62149, 0, none⟩) 1 1) 27 1 1 [.slice (some ⟨b62139, 0, none⟩) (([98] : List Int).length) 1]) :: (.sl (.slice (some ⟨b62110, 0, none⟩) 2 2) 48 2 2 [.slice (some ⟨b62081, 0, none⟩) (([97] : List Int).length) 1, .slice (some ⟨b62091, 0, none⟩) (([7] : List Int).length) 1, .slice (some ⟨b62096, 0, none⟩) (([98] : List Int).length) 1, .slice none 0 0]) :: F) w62271 := s.blkSl (i := 0) (n := 9) (c := 9) (size := 1) rfl rfl (Nat.le_refl _) (by decide)
          have sa62276 := s
          obtain ⟨hc62277, e62278⟩ := St.lend s (i := 0) rfl rfl rp62274
          have k62279 := Kp.shut (I := I62143) (w := w62271) (p := .sl (.slice (some ⟨b62272, 0, none⟩) 9 9) 5 1 9 [.int .u8 2, .int .u8 1, .int .u8 97, .int .u8 1, .int .u8 7, .int .u8 1, .int .u8 98, .int .u8 0, .int .u8 0])
          replace s := s.shut 0 rfl
          obtain ⟨x62280, hx62281, hf⟩ := bindS hf
          refine RW.op (by kernel_rfl) (OK.call' en34 (by kernel_rfl) (c34 (F := (.blk b62159 (.cells #[.bool false, .slice none 0 0, .slice (some ⟨b62149, 0, none⟩) 1 1, .slice (some ⟨b62154, 0, none⟩) 2 2] 26 (0, 0))) :: (.sl (.slice (some ⟨b62154, 0, none⟩) 2 2) 3 1 2 [.int .i64 5, .int .i64 6]) :: (.sl (.slice (some ⟨b62149, 0, none⟩) 1 1) 27 1 1 [.slice (some ⟨b62139, 0, none⟩) (([98] : List Int).length) 1]) :: (.sl (.slice (some ⟨b62110, 0, none⟩) 2 2) 48 2 2 [.slice (some ⟨b62081, 0, none⟩) (([97] : List Int).length) 1, .slice (some ⟨b62091, 0, none⟩) (([7] : List Int).length) 1, .slice (some ⟨b62096, 0, none⟩) (([98] : List Int).length) 1, .slice none 0 0]) :: F) y62261 ([2, 1, 97, 1, 7, 1, 98, 0, 0] : List Int) A62125 c62127 (some ⟨b62272, 0, none⟩) 9 hc62266 (e62267.st k62279) hc62277 e62278 s hx62281) ?_)
          intro X62284 hX62285
          refine fun _ _ hJ => hJ X62284 ?_
          clear s
          intro I62286 w62282 s k62283
          refine hX62285 _ _ ?_
          have s' := St.back sa62276 (i := 0) rfl s k62283
          replace k62283 := Kp.back sa62276 (i := 0) rfl k62283
          replace s := s'; clear s'
          obtain ⟨I62288, s, k62283⟩ : ∃ I : Nat → Prop, St w0 M I ((.sl (.slice (some ⟨b62272, 0, none⟩) 9 9) 5 1 9 [.int .u8 2, .int .u8 1, .int .u8 97, .int .u8 1, .int .u8 7, .int .u8 1, .int .u8 98, .int .u8 0, .int .u8 0]) :: (.blk b62159 (.cells #[.bool false, .slice none 0 0, .slice (some ⟨b62149, 0, none⟩) 1 1, .slice (some ⟨b62154, 0, none⟩) 2 2] 26 (0, 0))) :: (.sl (.slice (some ⟨b62154, 0, none⟩) 2 2) 3 1 2 [.int .i64 5, .int .i64 6]) :: (.sl (.slice (some ⟨b62149, 0, none⟩) 1 1) 27 1 1 [.slice (some ⟨b62139, 0, none⟩) (([98] : List Int).length) 1]) :: (.sl (.slice (some ⟨b62110, 0, none⟩) 2 2) 48 2 2 [.slice (some ⟨b62081, 0, none⟩) (([97] : List Int).length) 1, .slice (some ⟨b62091, 0, none⟩) (([7] : List Int).length) 1, .slice (some ⟨b62096, 0, none⟩) (([98] : List Int).length) 1, .slice none 0 0]) :: F) w62282 ∧ Kp _ _ I _ := ⟨_, s, k62283⟩
          replace e62137 := e62137.st k62283
          replace e62089 := e62089.st k62283
          replace e62108 := e62108.st k62283
          replace e62104 := e62104.st k62283
          replace e62147 := e62147.st k62283
          replace e62267 := e62267.st k62283
          replace rp62156 := rp62156.st k62283
          replace rp62151 := rp62151.st k62283
          replace rp62112 := rp62112.st k62283
          replace rp62274 := rp62274.st k62283
          replace kk := kk.trans k62283
          refine RW.seg hT 1 [] [] [.bool x62280] [] (by kernel_rfl) (trivial) ?_
          by_cases h62289 : x62280 = true
          · have hf := iteT h62289 hf
            refine RW.seg hT 2 [.agg #[.bool false, .slice none 0 0, .slice (some ⟨b62149, 0, none⟩) 1 1, .slice (some ⟨b62154, 0, none⟩) 2 2]] [(41, .bool true)] [.bool true, .agg #[.bool false, .slice none 0 0, .slice (some ⟨b62149, 0, none⟩) 1 1, .slice (some ⟨b62154, 0, none⟩) 2 2]] [.veq (.bool (x62280)) (.bool true), .cells ⟨b62159, 0, none⟩ [.bool false, .slice none 0 0, .slice (some ⟨b62149, 0, none⟩) 1 1, .slice (some ⟨b62154, 0, none⟩) 2 2] 4] (by kernel_rfl) (⟨b_t h62289, s.cells (i := 1) rfl rfl rfl⟩) ?_
            refine RW.op (by kernel_rfl) (OK.new hT (f := fun b => .slice (some ⟨b, 0, none⟩) 1 1) (cs := [.int .u8 98]) (e := 5) (c := .tt) s (by kernel_rfl) trivial ?_)
            clear s
            rintro w62290 b62291 s k62292 -
            replace e62137 := e62137.st k62292
            replace e62089 := e62089.st k62292
            replace e62108 := e62108.st k62292
            replace e62104 := e62104.st k62292
            replace e62147 := e62147.st k62292
            replace e62267 := e62267.st k62292
            replace rp62274 := rp62274.st k62292
            replace rp62156 := rp62156.st k62292
            replace rp62151 := rp62151.st k62292
            replace rp62112 := rp62112.st k62292
            replace kk := kk.trans k62292
            have rp62293 : RepL (Rp.int .u8) I62288 w62290 [.int .u8 98] ([98] : List Int) := RepL.cons (c := [.int .u8 98]) (d := []) (rfl) (RepL.nil)
            replace s : St w0 M I62288 ((.sl (.slice (some ⟨b62291, 0, none⟩) 1 1) 5 1 1 [.int .u8 98]) :: (.sl (.slice (some ⟨b62272, 0, none⟩) 9 9) 5 1 9 [.int .u8 2, .int .u8 1, .int .u8 97, .int .u8 1, .int .u8 7, .int .u8 1, .int .u8 98, .int .u8 0, .int .u8 0]) :: (.blk b62159 (.cells #[.bool false, .slice none 0 0, .slice (some ⟨b62149, 0, none⟩) 1 1, .slice (some ⟨b62154, 0, none⟩) 2 2] 26 (0, 0))) :: (.sl (.slice (some ⟨b62154, 0, none⟩) 2 2) 3 1 2 [.int .i64 5, .int .i64 6]) :: (.sl (.slice (some ⟨b62149, 0, none⟩) 1 1) 27 1 1 [.slice (some ⟨b62139, 0, none⟩) (([98] : List Int).length) 1]) :: (.sl (.slice (some ⟨b62110, 0, none⟩) 2 2) 48 2 2 [.slice (some ⟨b62081, 0, none⟩) (([97] : List Int).length) 1, .slice (some ⟨b62091, 0, none⟩) (([7] : List Int).length) 1, .slice (some ⟨b62096, 0, none⟩) (([98] : List Int).length) 1, .slice none 0 0]) :: F) w62290 := s.blkSl (i := 0) (n := 1) (c := 1) (size := 1) rfl rfl (Nat.le_refl _) (by decide)
            refine RW.op (by kernel_rfl) (OK.mark hT (t := 27) (eT := 5) (i := 0) (b := b62291) (c := 1) (e := 5) (n := 1) (xs := ([98] : List Int)) s (by kernel_rfl) rfl rfl rfl rfl rfl rfl rp62293 ?_)
            clear s
            rintro I62295 w62296 s k62297 hc62298 e62299
            replace e62137 := e62137.st k62297
            replace e62089 := e62089.st k62297
            replace e62108 := e62108.st k62297
            replace e62104 := e62104.st k62297
            replace e62147 := e62147.st k62297
            replace e62267 := e62267.st k62297
            replace rp62274 := rp62274.st k62297
            replace rp62156 := rp62156.st k62297
            replace rp62151 := rp62151.st k62297
            replace rp62112 := rp62112.st k62297
            replace kk := kk.trans k62297
            have sa62300 := s
            obtain ⟨hc62301, e62302⟩ := St.lend s (i := 3) rfl rfl rp62151
            have k62303 := Kp.shut (I := I62295) (w := w62296) (p := .sl (.slice (some ⟨b62149, 0, none⟩) 1 1) 27 1 1 [.slice (some ⟨b62139, 0, none⟩) (([98] : List Int).length) 1])
            replace s := s.shut 3 rfl
            have sa62304 := s
            obtain ⟨hc62305, e62306⟩ := St.lend s (i := 2) rfl rfl (rp62156.st k62303)
            have k62307 := Kp.shut (I := (fun k => I62295 k ∨ (It.sl (.slice (some ⟨b62149, 0, none⟩) 1 1) 27 1 1 [.slice (some ⟨b62139, 0, none⟩) (([98] : List Int).length) 1]).foot = some k)) (w := w62296) (p := .sl (.slice (some ⟨b62154, 0, none⟩) 2 2) 3 1 2 [.int .i64 5, .int .i64 6])
            replace s := s.shut 2 rfl
            replace e62302 := e62302.st k62307
            obtain ⟨x62308, hx62309, hf⟩ := bindS hf
            refine RW.op (by kernel_rfl) (OK.call' en13 (by kernel_rfl) (c13 (F := (.sl (.slice (some ⟨b62272, 0, none⟩) 9 9) 5 1 9 [.int .u8 2, .int .u8 1, .int .u8 97, .int .u8 1, .int .u8 7, .int .u8 1, .int .u8 98, .int .u8 0, .int .u8 0]) :: (.blk b62159 (.cells #[.bool false, .slice none 0 0, .slice (some ⟨b62149, 0, none⟩) 1 1, .slice (some ⟨b62154, 0, none⟩) 2 2] 26 (0, 0))) :: (.sl (.slice (some ⟨b62110, 0, none⟩) 2 2) 48 2 2 [.slice (some ⟨b62081, 0, none⟩) (([97] : List Int).length) 1, .slice (some ⟨b62091, 0, none⟩) (([7] : List Int).length) 1, .slice (some ⟨b62096, 0, none⟩) (([98] : List Int).length) 1, .slice none 0 0]) :: F) (T_api_Node.mk false [] ([([98] : List Int)] : List (List Int)) ([5, 6] : List Int)) ([98] : List Int) none 0 (some ⟨b62149, 0, none⟩) 1 (some ⟨b62154, 0, none⟩) 2 (some ⟨b62291, 0, none⟩) 1 nil_hc Elems.nil hc62301 e62302 hc62305 e62306 hc62298 ((e62299.st k62303).st k62307) s hx62309) ?_)
            intro X62312 hX62313
            refine fun _ _ hJ => hJ X62312 ?_
            clear s
            intro I62314 w62310 s k62311
            refine hX62313 _ _ ?_
            have s' := St.back sa62304 (i := 2) rfl s k62311
            replace k62311 := Kp.back sa62304 (i := 2) rfl k62311
            replace s := s'; clear s'
            have s' := St.back sa62300 (i := 3) rfl s k62311
            replace k62311 := Kp.back sa62300 (i := 3) rfl k62311
            replace s := s'; clear s'
            obtain ⟨I62317, s, k62311⟩ : ∃ I : Nat → Prop, St w0 M I ((.sl (.slice (some ⟨b62149, 0, none⟩) 1 1) 27 1 1 [.slice (some ⟨b62139, 0, none⟩) (([98] : List Int).length) 1]) :: (.sl (.slice (some ⟨b62154, 0, none⟩) 2 2) 3 1 2 [.int .i64 5, .int .i64 6]) :: (.sl (.slice (some ⟨b62272, 0, none⟩) 9 9) 5 1 9 [.int .u8 2, .int .u8 1, .int .u8 97, .int .u8 1, .int .u8 7, .int .u8 1, .int .u8 98, .int .u8 0, .int .u8 0]) :: (.blk b62159 (.cells #[.bool false, .slice none 0 0, .slice (some ⟨b62149, 0, none⟩) 1 1, .slice (some ⟨b62154, 0, none⟩) 2 2] 26 (0, 0))) :: (.sl (.slice (some ⟨b62110, 0, none⟩) 2 2) 48 2 2 [.slice (some ⟨b62081, 0, none⟩) (([97] : List Int).length) 1, .slice (some ⟨b62091, 0, none⟩) (([7] : List Int).length) 1, .slice (some ⟨b62096, 0, none⟩) (([98] : List Int).length) 1, .slice none 0 0]) :: F) w62310 ∧ Kp _ _ I _ := ⟨_, s, k62311⟩
            replace e62137 := e62137.st k62311
            replace e62089 := e62089.st k62311
            replace e62108 := e62108.st k62311
            replace e62104 := e62104.st k62311
            replace e62147 := e62147.st k62311
            replace e62267 := e62267.st k62311
            replace e62299 := e62299.st k62311
            replace rp62274 := rp62274.st k62311
            replace rp62112 := rp62112.st k62311
            replace rp62151 := rp62151.st k62311
            replace rp62156 := rp62156.st k62311
            replace kk := kk.trans k62311
            refine RW.seg hT 2 [] [(46, .bool (decide (x62308 = 1)))] [.bool (decide (x62308 = 1)), .bool (decide (x62308 = 1))] [.veq (.bool (x62308 == 1)) (.bool (decide (x62308 = 1)))] (by kernel_rfl) (eq_v) ?_
            by_cases h62318 : x62308 = 1
            · have hf := iteT h62318 hf
              refine RW.seg hT 2 [.agg #[.bool false, .slice none 0 0, .slice (some ⟨b62149, 0, none⟩) 1 1, .slice (some ⟨b62154, 0, none⟩) 2 2]] [(48, .bool true)] [.bool true, .agg #[.bool false, .slice none 0 0, .slice (some ⟨b62149, 0, none⟩) 1 1, .slice (some ⟨b62154, 0, none⟩) 2 2]] [.veq (.bool (decide (x62308 = 1))) (.bool true), .cells ⟨b62159, 0, none⟩ [.bool false, .slice none 0 0, .slice (some ⟨b62149, 0, none⟩) 1 1, .slice (some ⟨b62154, 0, none⟩) 2 2] 4] (by kernel_rfl) (⟨bo_t h62318, s.cells (i := 3) rfl rfl rfl⟩) ?_
              refine RW.op (by kernel_rfl) (OK.new hT (f := fun b => .slice (some ⟨b, 0, none⟩) 3 3) (cs := [.int .u8 97, .int .u8 122, .int .u8 122]) (e := 5) (c := .tt) s (by kernel_rfl) trivial ?_)
              clear s
              rintro w62319 b62320 s k62321 -
              replace e62137 := e62137.st k62321
              replace e62089 := e62089.st k62321
              replace e62108 := e62108.st k62321
              replace e62104 := e62104.st k62321
              replace e62147 := e62147.st k62321
              replace e62267 := e62267.st k62321
              replace e62299 := e62299.st k62321
              replace rp62151 := rp62151.st k62321
              replace rp62156 := rp62156.st k62321
              replace rp62274 := rp62274.st k62321
              replace rp62112 := rp62112.st k62321
              replace kk := kk.trans k62321
              have rp62322 : RepL (Rp.int .u8) I62317 w62319 [.int .u8 97, .int .u8 122, .int .u8 122] ([97, 122, 122] : List Int) := RepL.cons (c := [.int .u8 97]) (d := [.int .u8 122, .int .u8 122]) (rfl) (RepL.cons (c := [.int .u8 122]) (d := [.int .u8 122]) (rfl) (RepL.cons (c := [.int .u8 122]) (d := []) (rfl) (RepL.nil)))
              replace s : St w0 M I62317 ((.sl (.slice (some ⟨b62320, 0, none⟩) 3 3) 5 1 3 [.int .u8 97, .int .u8 122, .int .u8 122]) :: (.sl (.slice (some ⟨b62149, 0, none⟩) 1 1) 27 1 1 [.slice (some ⟨b62139, 0, none⟩) (([98] : List Int).length) 1]) :: (.sl (.slice (some ⟨b62154, 0, none⟩) 2 2) 3 1 2 [.int .i64 5, .int .i64 6]) :: (.sl (.slice (some ⟨b62272, 0, none⟩) 9 9) 5 1 9 [.int .u8 2, .int .u8 1, .int .u8 97, .int .u8 1, .int .u8 7, .int .u8 1, .int .u8 98, .int .u8 0, .int .u8 0]) :: (.blk b62159 (.cells #[.bool false, .slice none 0 0, .slice (some ⟨b62149, 0, none⟩) 1 1, .slice (some ⟨b62154, 0, none⟩) 2 2] 26 (0, 0))) :: (.sl (.slice (some ⟨b62110, 0, none⟩) 2 2) 48 2 2 [.slice (some ⟨b62081, 0, none⟩) (([97] : List Int).length) 1, .slice (some ⟨b62091, 0, none⟩) (([7] : List Int).length) 1, .slice (some ⟨b62096, 0, none⟩) (([98] : List Int).length) 1, .slice none 0 0]) :: F) w62319 := s.blkSl (i := 0) (n := 3) (c := 3) (size := 1) rfl rfl (Nat.le_refl _) (by decide)
              refine RW.op (by kernel_rfl) (OK.mark hT (t := 27) (eT := 5) (i := 0) (b := b62320) (c := 3) (e := 5) (n := 3) (xs := ([97, 122, 122] : List Int)) s (by kernel_rfl) rfl rfl rfl rfl rfl rfl rp62322 ?_)
              clear s
              rintro I62324 w62325 s k62326 hc62327 e62328
              replace e62137 := e62137.st k62326
              replace e62089 := e62089.st k62326
              replace e62108 := e62108.st k62326
              replace e62104 := e62104.st k62326
              replace e62147 := e62147.st k62326
              replace e62267 := e62267.st k62326
              replace e62299 := e62299.st k62326
              replace rp62151 := rp62151.st k62326
              replace rp62156 := rp62156.st k62326
              replace rp62274 := rp62274.st k62326
              replace rp62112 := rp62112.st k62326
              replace kk := kk.trans k62326
              have sa62329 := s
              obtain ⟨hc62330, e62331⟩ := St.lend s (i := 0) rfl rfl rp62151
              have k62332 := Kp.shut (I := I62324) (w := w62325) (p := .sl (.slice (some ⟨b62149, 0, none⟩) 1 1) 27 1 1 [.slice (some ⟨b62139, 0, none⟩) (([98] : List Int).length) 1])
              replace s := s.shut 0 rfl
              have sa62333 := s
              obtain ⟨hc62334, e62335⟩ := St.lend s (i := 0) rfl rfl (rp62156.st k62332)
              have k62336 := Kp.shut (I := (fun k => I62324 k ∨ (It.sl (.slice (some ⟨b62149, 0, none⟩) 1 1) 27 1 1 [.slice (some ⟨b62139, 0, none⟩) (([98] : List Int).length) 1]).foot = some k)) (w := w62325) (p := .sl (.slice (some ⟨b62154, 0, none⟩) 2 2) 3 1 2 [.int .i64 5, .int .i64 6])
              replace s := s.shut 0 rfl
              replace e62331 := e62331.st k62336
              obtain ⟨x62337, hx62338, hf⟩ := bindS hf
              refine RW.op (by kernel_rfl) (OK.call' en13 (by kernel_rfl) (c13 (F := (.sl (.slice (some ⟨b62272, 0, none⟩) 9 9) 5 1 9 [.int .u8 2, .int .u8 1, .int .u8 97, .int .u8 1, .int .u8 7, .int .u8 1, .int .u8 98, .int .u8 0, .int .u8 0]) :: (.blk b62159 (.cells #[.bool false, .slice none 0 0, .slice (some ⟨b62149, 0, none⟩) 1 1, .slice (some ⟨b62154, 0, none⟩) 2 2] 26 (0, 0))) :: (.sl (.slice (some ⟨b62110, 0, none⟩) 2 2) 48 2 2 [.slice (some ⟨b62081, 0, none⟩) (([97] : List Int).length) 1, .slice (some ⟨b62091, 0, none⟩) (([7] : List Int).length) 1, .slice (some ⟨b62096, 0, none⟩) (([98] : List Int).length) 1, .slice none 0 0]) :: F) (T_api_Node.mk false [] ([([98] : List Int)] : List (List Int)) ([5, 6] : List Int)) ([97, 122, 122] : List Int) none 0 (some ⟨b62149, 0, none⟩) 1 (some ⟨b62154, 0, none⟩) 2 (some ⟨b62320, 0, none⟩) 3 nil_hc Elems.nil hc62330 e62331 hc62334 e62335 hc62327 ((e62328.st k62332).st k62336) s hx62338) ?_)
              intro X62341 hX62342
              refine fun _ _ hJ => hJ X62341 ?_
              clear s
              intro I62343 w62339 s k62340
              refine hX62342 _ _ ?_
              have s' := St.back sa62333 (i := 0) rfl s k62340
              replace k62340 := Kp.back sa62333 (i := 0) rfl k62340
              replace s := s'; clear s'
              have s' := St.back sa62329 (i := 0) rfl s k62340
              replace k62340 := Kp.back sa62329 (i := 0) rfl k62340
              replace s := s'; clear s'
              obtain ⟨I62346, s, k62340⟩ : ∃ I : Nat → Prop, St w0 M I ((.sl (.slice (some ⟨b62149, 0, none⟩) 1 1) 27 1 1 [.slice (some ⟨b62139, 0, none⟩) (([98] : List Int).length) 1]) :: (.sl (.slice (some ⟨b62154, 0, none⟩) 2 2) 3 1 2 [.int .i64 5, .int .i64 6]) :: (.sl (.slice (some ⟨b62272, 0, none⟩) 9 9) 5 1 9 [.int .u8 2, .int .u8 1, .int .u8 97, .int .u8 1, .int .u8 7, .int .u8 1, .int .u8 98, .int .u8 0, .int .u8 0]) :: (.blk b62159 (.cells #[.bool false, .slice none 0 0, .slice (some ⟨b62149, 0, none⟩) 1 1, .slice (some ⟨b62154, 0, none⟩) 2 2] 26 (0, 0))) :: (.sl (.slice (some ⟨b62110, 0, none⟩) 2 2) 48 2 2 [.slice (some ⟨b62081, 0, none⟩) (([97] : List Int).length) 1, .slice (some ⟨b62091, 0, none⟩) (([7] : List Int).length) 1, .slice (some ⟨b62096, 0, none⟩) (([98] : List Int).length) 1, .slice none 0 0]) :: F) w62339 ∧ Kp _ _ I _ := ⟨_, s, k62340⟩
              replace e62137 := e62137.st k62340
              replace e62089 := e62089.st k62340
              replace e62108 := e62108.st k62340
              replace e62104 := e62104.st k62340
              replace e62147 := e62147.st k62340
              replace e62267 := e62267.st k62340
              replace e62299 := e62299.st k62340
              replace e62328 := e62328.st k62340
              replace rp62274 := rp62274.st k62340
              replace rp62112 := rp62112.st k62340
              replace rp62151 := rp62151.st k62340
              replace rp62156 := rp62156.st k62340
              replace kk := kk.trans k62340
              refine RW.seg hT 3 [] [(53, .bool (decide (x62337 = 0)))] [.bool (decide (x62337 = 0)), .bool (decide (x62337 = 0)), .bool (decide (x62337 = 0))] [.veq (.bool (x62337 == 0)) (.bool (decide (x62337 = 0)))] (by kernel_rfl) (eq_v) ?_
              refine RW.nil ?_
              replace s := s.pick [] 5 rfl
              exact fun X h => kc (by kernel_rfl) rfl (h I62346 (decide (x62337 = 0)) [.int .i64 x62118.1, .slice A62125 x62118.2.1.length c62127, .int .i64 x62118.2.2, .pointer (some ⟨b62159, 0, none⟩), .tuple #[.int .i64 x62118.1, .slice A62125 x62118.2.1.length c62127, .int .i64 x62118.2.2], .slice (some ⟨b62081, 0, none⟩) (([97] : List Int).length) 1, .slice (some ⟨b62081, 0, none⟩) (([97] : List Int).length) 1, .slice (some ⟨b62091, 0, none⟩) (([7] : List Int).length) 1, .agg #[.slice (some ⟨b62081, 0, none⟩) (([97] : List Int).length) 1, .slice (some ⟨b62091, 0, none⟩) (([7] : List Int).length) 1], .slice (some ⟨b62096, 0, none⟩) (([98] : List Int).length) 1, .slice (some ⟨b62096, 0, none⟩) (([98] : List Int).length) 1, .agg #[.slice (some ⟨b62096, 0, none⟩) (([98] : List Int).length) 1, .slice none 0 0], .slice (some ⟨b62110, 0, none⟩) 2 2, .agg #[.bool true, .slice (some ⟨b62110, 0, none⟩) 2 2, .slice none 0 0, .slice none 0 0], .tuple #[.int .i64 x62118.1, .slice A62125 x62118.2.1.length c62127, .int .i64 x62118.2.2], .int .i64 x62118.1, .slice A62125 x62118.2.1.length c62127, .int .i64 x62118.2.2, .slice (some ⟨b62139, 0, none⟩) (([98] : List Int).length) 1, .slice (some ⟨b62139, 0, none⟩) (([98] : List Int).length) 1, .slice (some ⟨b62149, 0, none⟩) 1 1, .slice (some ⟨b62154, 0, none⟩) 2 2, .agg #[.bool false, .slice none 0 0, .slice (some ⟨b62149, 0, none⟩) 1 1, .slice (some ⟨b62154, 0, none⟩) 2 2], .int .i64 x62118.2.2, .bool (decide (x62118.2.2 = 0)), .bool true, .int .i64 x62118.1, .bool (decide (x62118.1 = 3)), .bool (decide (x62118.1 = 3)), .bool true, .slice A62125 x62118.2.1.length c62127, .int .i64 (x62118.2.1.length : Int), .bool (decide ((x62118.2.1.length : Int) = 240)), .bool (decide ((x62118.2.1.length : Int) = 240)), .bool true, .slice A62125 x62118.2.1.length c62127, .slice A62125 y62261.length c62127, .slice (some ⟨b62272, 0, none⟩) 9 9, .bool x62280, .bool x62280, .bool true, .agg #[.bool false, .slice none 0 0, .slice (some ⟨b62149, 0, none⟩) 1 1, .slice (some ⟨b62154, 0, none⟩) 2 2], .slice (some ⟨b62291, 0, none⟩) (([98] : List Int).length) 1, .slice (some ⟨b62291, 0, none⟩) (([98] : List Int).length) 1, .int .i64 x62308, .bool (decide (x62308 = 1)), .bool (decide (x62308 = 1)), .bool true, .agg #[.bool false, .slice none 0 0, .slice (some ⟨b62149, 0, none⟩) 1 1, .slice (some ⟨b62154, 0, none⟩) 2 2], .slice (some ⟨b62320, 0, none⟩) (([97, 122, 122] : List Int).length) 3, .slice (some ⟨b62320, 0, none⟩) (([97, 122, 122] : List Int).length) 3, .int .i64 x62337, .bool (decide (x62337 = 0)), .bool (decide (x62337 = 0))] _ hf s kk)
            · have hf := iteF h62318 hf
              refine RW.seg hT 8 [] [(48, .bool false)] [.bool false, undef, undef, undef, undef, undef, .bool false, .bool false] [.veq (.bool (decide (x62308 = 1))) (.bool false)] (by kernel_rfl) (bo_f h62318) ?_
              refine RW.nil ?_
              replace s := s.pick [] 5 rfl
              exact fun X h => kc (by kernel_rfl) rfl (h I62317 false [.int .i64 x62118.1, .slice A62125 x62118.2.1.length c62127, .int .i64 x62118.2.2, .pointer (some ⟨b62159, 0, none⟩), .tuple #[.int .i64 x62118.1, .slice A62125 x62118.2.1.length c62127, .int .i64 x62118.2.2], .slice (some ⟨b62081, 0, none⟩) (([97] : List Int).length) 1, .slice (some ⟨b62081, 0, none⟩) (([97] : List Int).length) 1, .slice (some ⟨b62091, 0, none⟩) (([7] : List Int).length) 1, .agg #[.slice (some ⟨b62081, 0, none⟩) (([97] : List Int).length) 1, .slice (some ⟨b62091, 0, none⟩) (([7] : List Int).length) 1], .slice (some ⟨b62096, 0, none⟩) (([98] : List Int).length) 1, .slice (some ⟨b62096, 0, none⟩) (([98] : List Int).length) 1, .agg #[.slice (some ⟨b62096, 0, none⟩) (([98] : List Int).length) 1, .slice none 0 0], .slice (some ⟨b62110, 0, none⟩) 2 2, .agg #[.bool true, .slice (some ⟨b62110, 0, none⟩) 2 2, .slice none 0 0, .slice none 0 0], .tuple #[.int .i64 x62118.1, .slice A62125 x62118.2.1.length c62127, .int .i64 x62118.2.2], .int .i64 x62118.1, .slice A62125 x62118.2.1.length c62127, .int .i64 x62118.2.2, .slice (some ⟨b62139, 0, none⟩) (([98] : List Int).length) 1, .slice (some ⟨b62139, 0, none⟩) (([98] : List Int).length) 1, .slice (some ⟨b62149, 0, none⟩) 1 1, .slice (some ⟨b62154, 0, none⟩) 2 2, .agg #[.bool false, .slice none 0 0, .slice (some ⟨b62149, 0, none⟩) 1 1, .slice (some ⟨b62154, 0, none⟩) 2 2], .int .i64 x62118.2.2, .bool (decide (x62118.2.2 = 0)), .bool true, .int .i64 x62118.1, .bool (decide (x62118.1 = 3)), .bool (decide (x62118.1 = 3)), .bool true, .slice A62125 x62118.2.1.length c62127, .int .i64 (x62118.2.1.length : Int), .bool (decide ((x62118.2.1.length : Int) = 240)), .bool (decide ((x62118.2.1.length : Int) = 240)), .bool true, .slice A62125 x62118.2.1.length c62127, .slice A62125 y62261.length c62127, .slice (some ⟨b62272, 0, none⟩) 9 9, .bool x62280, .bool x62280, .bool true, .agg #[.bool false, .slice none 0 0, .slice (some ⟨b62149, 0, none⟩) 1 1, .slice (some ⟨b62154, 0, none⟩) 2 2], .slice (some ⟨b62291, 0, none⟩) (([98] : List Int).length) 1, .slice (some ⟨b62291, 0, none⟩) (([98] : List Int).length) 1, .int .i64 x62308, .bool (decide (x62308 = 1)), .bool (decide (x62308 = 1)), .bool false, undef, undef, undef, undef, undef, .bool false] _ hf s kk)
          · have hf := iteF h62289 hf
            refine RW.seg hT 15 [] [(41, .bool false)] [.bool false, undef, undef, undef, undef, undef, .bool false, .bool false, undef, undef, undef, undef, undef, .bool false, .bool false] [.veq (.bool (x62280)) (.bool false)] (by kernel_rfl) (b_f h62289) ?_
            refine RW.nil ?_
            replace s := s.pick [] 5 rfl
            exact fun X h => kc (by kernel_rfl) rfl (h I62288 false [.int .i64 x62118.1, .slice A62125 x62118.2.1.length c62127, .int .i64 x62118.2.2, .pointer (some ⟨b62159, 0, none⟩), .tuple #[.int .i64 x62118.1, .slice A62125 x62118.2.1.length c62127, .int .i64 x62118.2.2], .slice (some ⟨b62081, 0, none⟩) (([97] : List Int).length) 1, .slice (some ⟨b62081, 0, none⟩) (([97] : List Int).length) 1, .slice (some ⟨b62091, 0, none⟩) (([7] : List Int).length) 1, .agg #[.slice (some ⟨b62081, 0, none⟩) (([97] : List Int).length) 1, .slice (some ⟨b62091, 0, none⟩) (([7] : List Int).length) 1], .slice (some ⟨b62096, 0, none⟩) (([98] : List Int).length) 1, .slice (some ⟨b62096, 0, none⟩) (([98] : List Int).length) 1, .agg #[.slice (some ⟨b62096, 0, none⟩) (([98] : List Int).length) 1, .slice none 0 0], .slice (some ⟨b62110, 0, none⟩) 2 2, .agg #[.bool true, .slice (some ⟨b62110, 0, none⟩) 2 2, .slice none 0 0, .slice none 0 0], .tuple #[.int .i64 x62118.1, .slice A62125 x62118.2.1.length c62127, .int .i64 x62118.2.2], .int .i64 x62118.1, .slice A62125 x62118.2.1.length c62127, .int .i64 x62118.2.2, .slice (some ⟨b62139, 0, none⟩) (([98] : List Int).length) 1, .slice (some ⟨b62139, 0, none⟩) (([98] : List Int).length) 1, .slice (some ⟨b62149, 0, none⟩) 1 1, .slice (some ⟨b62154, 0, none⟩) 2 2, .agg #[.bool false, .slice none 0 0, .slice (some ⟨b62149, 0, none⟩) 1 1, .slice (some ⟨b62154, 0, none⟩) 2 2], .int .i64 x62118.2.2, .bool (decide (x62118.2.2 = 0)), .bool true, .int .i64 x62118.1, .bool (decide (x62118.1 = 3)), .bool (decide (x62118.1 = 3)), .bool true, .slice A62125 x62118.2.1.length c62127, .int .i64 (x62118.2.1.length : Int), .bool (decide ((x62118.2.1.length : Int) = 240)), .bool (decide ((x62118.2.1.length : Int) = 240)), .bool true, .slice A62125 x62118.2.1.length c62127, .slice A62125 y62261.length c62127, .slice (some ⟨b62272, 0, none⟩) 9 9, .bool x62280, .bool x62280, .bool false, undef, undef, undef, undef, undef, .bool false, .bool false, undef, undef, undef, undef, undef, .bool false] _ hf s kk)
        · have hf := iteF h62260 hf
          refine RW.seg hT 21 [] [(35, .bool false)] [.bool false, undef, undef, undef, undef, .bool false, .bool false, undef, undef, undef, undef, undef, .bool false, .bool false, undef, undef, undef, undef, undef, .bool false, .bool false] [.veq (.bool (decide ((x62118.2.1.length : Int) = 240))) (.bool false)] (by kernel_rfl) (bo_f h62260) ?_
          refine RW.nil ?_
          replace s := s.pick [] 4 rfl
          exact fun X h => kc (by kernel_rfl) rfl (h I62143 false [.int .i64 x62118.1, .slice A62125 x62118.2.1.length c62127, .int .i64 x62118.2.2, .pointer (some ⟨b62159, 0, none⟩), .tuple #[.int .i64 x62118.1, .slice A62125 x62118.2.1.length c62127, .int .i64 x62118.2.2], .slice (some ⟨b62081, 0, none⟩) (([97] : List Int).length) 1, .slice (some ⟨b62081, 0, none⟩) (([97] : List Int).length) 1, .slice (some ⟨b62091, 0, none⟩) (([7] : List Int).length) 1, .agg #[.slice (some ⟨b62081, 0, none⟩) (([97] : List Int).length) 1, .slice (some ⟨b62091, 0, none⟩) (([7] : List Int).length) 1], .slice (some ⟨b62096, 0, none⟩) (([98] : List Int).length) 1, .slice (some ⟨b62096, 0, none⟩) (([98] : List Int).length) 1, .agg #[.slice (some ⟨b62096, 0, none⟩) (([98] : List Int).length) 1, .slice none 0 0], .slice (some ⟨b62110, 0, none⟩) 2 2, .agg #[.bool true, .slice (some ⟨b62110, 0, none⟩) 2 2, .slice none 0 0, .slice none 0 0], .tuple #[.int .i64 x62118.1, .slice A62125 x62118.2.1.length c62127, .int .i64 x62118.2.2], .int .i64 x62118.1, .slice A62125 x62118.2.1.length c62127, .int .i64 x62118.2.2, .slice (some ⟨b62139, 0, none⟩) (([98] : List Int).length) 1, .slice (some ⟨b62139, 0, none⟩) (([98] : List Int).length) 1, .slice (some ⟨b62149, 0, none⟩) 1 1, .slice (some ⟨b62154, 0, none⟩) 2 2, .agg #[.bool false, .slice none 0 0, .slice (some ⟨b62149, 0, none⟩) 1 1, .slice (some ⟨b62154, 0, none⟩) 2 2], .int .i64 x62118.2.2, .bool (decide (x62118.2.2 = 0)), .bool true, .int .i64 x62118.1, .bool (decide (x62118.1 = 3)), .bool (decide (x62118.1 = 3)), .bool true, .slice A62125 x62118.2.1.length c62127, .int .i64 (x62118.2.1.length : Int), .bool (decide ((x62118.2.1.length : Int) = 240)), .bool (decide ((x62118.2.1.length : Int) = 240)), .bool false, undef, undef, undef, undef, .bool false, .bool false, undef, undef, undef, undef, undef, .bool false, .bool false, undef, undef, undef, undef, undef, .bool false] _ hf s kk)
      · have hf := iteF h62259 hf
        refine RW.seg hT 26 [] [(30, .bool false)] [.bool false, undef, undef, undef, .bool false, .bool false, undef, undef, undef, undef, .bool false, .bool false, undef, undef, undef, undef, undef, .bool false, .bool false, undef, undef, undef, undef, undef, .bool false, .bool false] [.veq (.bool (decide (x62118.1 = 3))) (.bool false)] (by kernel_rfl) (bo_f h62259) ?_
        refine RW.nil ?_
        replace s := s.pick [] 4 rfl
        exact fun X h => kc (by kernel_rfl) rfl (h I62143 false [.int .i64 x62118.1, .slice A62125 x62118.2.1.length c62127, .int .i64 x62118.2.2, .pointer (some ⟨b62159, 0, none⟩), .tuple #[.int .i64 x62118.1, .slice A62125 x62118.2.1.length c62127, .int .i64 x62118.2.2], .slice (some ⟨b62081, 0, none⟩) (([97] : List Int).length) 1, .slice (some ⟨b62081, 0, none⟩) (([97] : List Int).length) 1, .slice (some ⟨b62091, 0, none⟩) (([7] : List Int).length) 1, .agg #[.slice (some ⟨b62081, 0, none⟩) (([97] : List Int).length) 1, .slice (some ⟨b62091, 0, none⟩) (([7] : List Int).length) 1], .slice (some ⟨b62096, 0, none⟩) (([98] : List Int).length) 1, .slice (some ⟨b62096, 0, none⟩) (([98] : List Int).length) 1, .agg #[.slice (some ⟨b62096, 0, none⟩) (([98] : List Int).length) 1, .slice none 0 0], .slice (some ⟨b62110, 0, none⟩) 2 2, .agg #[.bool true, .slice (some ⟨b62110, 0, none⟩) 2 2, .slice none 0 0, .slice none 0 0], .tuple #[.int .i64 x62118.1, .slice A62125 x62118.2.1.length c62127, .int .i64 x62118.2.2], .int .i64 x62118.1, .slice A62125 x62118.2.1.length c62127, .int .i64 x62118.2.2, .slice (some ⟨b62139, 0, none⟩) (([98] : List Int).length) 1, .slice (some ⟨b62139, 0, none⟩) (([98] : List Int).length) 1, .slice (some ⟨b62149, 0, none⟩) 1 1, .slice (some ⟨b62154, 0, none⟩) 2 2, .agg #[.bool false, .slice none 0 0, .slice (some ⟨b62149, 0, none⟩) 1 1, .slice (some ⟨b62154, 0, none⟩) 2 2], .int .i64 x62118.2.2, .bool (decide (x62118.2.2 = 0)), .bool true, .int .i64 x62118.1, .bool (decide (x62118.1 = 3)), .bool (decide (x62118.1 = 3)), .bool false, undef, undef, undef, .bool false, .bool false, undef, undef, undef, undef, .bool false, .bool false, undef, undef, undef, undef, undef, .bool false, .bool false, undef, undef, undef, undef, undef, .bool false] _ hf s kk)
    · have hf := iteF h62258 hf
      refine RW.seg hT 30 [] [(26, .bool false)] [.bool false, undef, undef, .bool false, .bool false, undef, undef, undef, .bool false, .bool false, undef, undef, undef, undef, .bool false, .bool false, undef, undef, undef, undef, undef, .bool false, .bool false, undef, undef, undef, undef, undef, .bool false, .bool false] [.veq (.bool (decide (x62118.2.2 = 0))) (.bool false)] (by kernel_rfl) (bo_f h62258) ?_
      refine RW.nil ?_
      replace s := s.pick [] 4 rfl
      exact fun X h => kc (by kernel_rfl) rfl (h I62143 false [.int .i64 x62118.1, .slice A62125 x62118.2.1.length c62127, .int .i64 x62118.2.2, .pointer (some ⟨b62159, 0, none⟩), .tuple #[.int .i64 x62118.1, .slice A62125 x62118.2.1.length c62127, .int .i64 x62118.2.2], .slice (some ⟨b62081, 0, none⟩) (([97] : List Int).length) 1, .slice (some ⟨b62081, 0, none⟩) (([97] : List Int).length) 1, .slice (some ⟨b62091, 0, none⟩) (([7] : List Int).length) 1, .agg #[.slice (some ⟨b62081, 0, none⟩) (([97] : List Int).length) 1, .slice (some ⟨b62091, 0, none⟩) (([7] : List Int).length) 1], .slice (some ⟨b62096, 0, none⟩) (([98] : List Int).length) 1, .slice (some ⟨b62096, 0, none⟩) (([98] : List Int).length) 1, .agg #[.slice (some ⟨b62096, 0, none⟩) (([98] : List Int).length) 1, .slice none 0 0], .slice (some ⟨b62110, 0, none⟩) 2 2, .agg #[.bool true, .slice (some ⟨b62110, 0, none⟩) 2 2, .slice none 0 0, .slice none 0 0], .tuple #[.int .i64 x62118.1, .slice A62125 x62118.2.1.length c62127, .int .i64 x62118.2.2], .int .i64 x62118.1, .slice A62125 x62118.2.1.length c62127, .int .i64 x62118.2.2, .slice (some ⟨b62139, 0, none⟩) (([98] : List Int).length) 1, .slice (some ⟨b62139, 0, none⟩) (([98] : List Int).length) 1, .slice (some ⟨b62149, 0, none⟩) 1 1, .slice (some ⟨b62154, 0, none⟩) 2 2, .agg #[.bool false, .slice none 0 0, .slice (some ⟨b62149, 0, none⟩) 1 1, .slice (some ⟨b62154, 0, none⟩) 2 2], .int .i64 x62118.2.2, .bool (decide (x62118.2.2 = 0)), .bool false, undef, undef, .bool false, .bool false, undef, undef, undef, .bool false, .bool false, undef, undef, undef, undef, .bool false, .bool false, undef, undef, undef, undef, undef, .bool false, .bool false, undef, undef, undef, undef, undef, .bool false] _ hf s kk)
theorem c12 {w0 w : World} {M I : Nat → Prop} {F : List It} (p0 : (List T_api_Node)) (A69380 : Option Addr) (c69381 : Nat) (hc69382 : (p0.length ≤ c69381 ∧ c69381 ≤ 9223372036854775807)) (e69383 : Elems rp_T_api_Node I w A69380 p0) (s : St w0 M I (F) w) {r : Bool} (hf : g12 p0 = some r) :
    Ret Try.prog 12 [.slice A69380 p0.length c69381] w fun v wz => ∀ X : Value → World → Prop, (∀ (I' : Nat → Prop) (w' : World), St w0 M I' (F) w' → Kp I w I' w' → X (.bool r) w') → X v wz := by
  have kk : Kp I w I w := Kp.refl
  unfold g12 at hf
  refine Ret.of Try.func12 rfl ?_
  refine WPK.seq ?_
  refine WPK.region ?_
  refine RW.seg hT 1 [] [] [.bool false] [] (by kernel_rfl) (trivial) ?_
  refine RW.nil ?_
  refine WPK.seq ?_
  refine WPK.seq ?_
  refine WPK.region ?_
  refine RW.seg hT 3 [] [] [.slice A69380 p0.length c69381, .int .i64 (p0.length : Int), .int .i64 0] [] (by kernel_rfl) (trivial) ?_
  refine RW.nil ?_
  refine WPK.block ?_
  refine WPK.loop' (J := fun n75230 E ds wz => ∀ X : Kont, (∀ (I74062 : Nat → Prop) (x74060 : Int) (D74059 : List Value) (w' : World), g12_l1 p0 n75230 x74060 = some r → St w0 M I74062 (F) w' → Kp I w I74062 w' → Elems rp_T_api_Node I74062 w' A69380 p0 → X [(D74059.getD 0 undef), (D74059.getD 1 undef), .bool false, (D74059.getD 2 undef), (D74059.getD 3 undef), (D74059.getD 4 undef), (D74059.getD 5 undef), (D74059.getD 6 undef), (D74059.getD 7 undef), .slice A69380 p0.length c69381, .int .i64 (p0.length : Int), .int .i64 x74060, (D74059.getD 8 undef), (D74059.getD 9 undef), (D74059.getD 10 undef), (D74059.getD 11 undef), (D74059.getD 12 undef), (D74059.getD 13 undef), (D74059.getD 14 undef), (D74059.getD 15 undef), (D74059.getD 16 undef), (D74059.getD 17 undef), (D74059.getD 18 undef), (D74059.getD 19 undef), (D74059.getD 20 undef), (D74059.getD 21 undef), (D74059.getD 22 undef), (D74059.getD 23 undef), (D74059.getD 24 undef), (D74059.getD 25 undef), (D74059.getD 26 undef), (D74059.getD 27 undef), (D74059.getD 28 undef), (D74059.getD 29 undef), (D74059.getD 30 undef), (D74059.getD 31 undef), (D74059.getD 32 undef), (D74059.getD 33 undef), (D74059.getD 34 undef), (D74059.getD 35 undef), (D74059.getD 36 undef), (D74059.getD 37 undef), (D74059.getD 38 undef), (D74059.getD 39 undef), (D74059.getD 40 undef), (D74059.getD 41 undef), (D74059.getD 42 undef), (D74059.getD 43 undef), (D74059.getD 44 undef), (D74059.getD 45 undef), (D74059.getD 46 undef), (D74059.getD 47 undef), (D74059.getD 48 undef), (D74059.getD 49 undef), (D74059.getD 50 undef), (D74059.getD 51 undef), (D74059.getD 52 undef), (D74059.getD 53 undef), (D74059.getD 54 undef), (D74059.getD 55 undef), (D74059.getD 56 undef)] [] w') → X E ds wz) FUEL (fun X h => kc (by kernel_rfl) rfl (h I 0 [.slice A69380 p0.length c69381, undef, undef, undef, undef, undef, undef, undef, undef, undef, undef, undef, undef, undef, undef, undef, undef, undef, undef, undef, undef, undef, undef, undef, undef, undef, undef, undef, undef, undef, undef, undef, undef, undef, undef, undef, undef, undef, undef, undef, undef, undef, undef, undef, undef, undef, undef, undef, undef, undef, undef, undef, undef, undef, undef, undef, undef] _ hf s kk e69383)) (fun _ _ _ hJ => hJ (fun _ _ _ => False) (by intro I74062 x74060 D74059 w74061 hf s kk e69383; exact noneS hf)) ?_
  intro X76398 hX76399
  refine fun n75230 _ _ _ hJ => hJ (X76398 n75230) ?_
  clear s
  intro I74062 x74060 D74059 w74061 hf s kk e69383
  refine hX76399 _ _ _ _ ?_
  replace hf : g12_l1B p0 (g12_l1 p0 n75230) x74060 = some r := hf
  generalize hrec75231 : g12_l1 p0 n75230 = rec75229 at hf
  unfold g12_l1B at hf
  refine WPK.seq ?_
  refine WPK.region ?_
  refine RW.seg hT 1 [] [] [.bool (decide (x74060 < (p0.length : Int)))] [] (by kernel_rfl) (trivial) ?_
  refine RW.nil ?_
  refine WPK.seq ?_
  by_cases h75233 : x74060 < (p0.length : Int)
  · have hf := iteT h75233 hf
    refine WPK.condT (Eq.trans (b := .bool (decide (x74060 < (p0.length : Int)))) (by kernel_rfl) (bo_t h75233)) ?_
    refine WPK.skip ?_
    refine WPK.seq ?_
    refine WPK.block ?_
    refine WPK.seq ?_
    refine WPK.region ?_
    obtain ⟨x75816, hx75817, hf⟩ := bindS hf
    obtain ⟨h75818, hx75817⟩ := getS hx75817
    obtain ⟨b75819, o75820, rfl⟩ := Elems.opn e69383 hx75817
    obtain ⟨cs75821, hr75822, ha75823⟩ := Elems.get e69383 hx75817
    obtain ⟨cs75824, cs75825, rfl, hr75826, hr75827⟩ := hr75822
    obtain rfl : cs75824 = [.bool x75816.Leaf] := hr75826
    obtain ⟨cs75828, cs75829, rfl, hr75830, hr75831⟩ := hr75827
    obtain ⟨A75832, c75833, rfl, q75834, q75835, e75836⟩ := hr75830
    have hc75837 := And.intro q75834 q75835
    obtain ⟨cs75838, cs75839, rfl, hr75840, hr75841⟩ := hr75831
    obtain ⟨A75842, c75843, rfl, q75844, q75845, e75846⟩ := hr75840
    have hc75847 := And.intro q75844 q75845
    obtain ⟨A75848, c75849, rfl, q75850, q75851, e75852⟩ := hr75841
    have hc75853 := And.intro q75850 q75851
    refine RW.seg hT 2 [.agg #[.bool x75816.Leaf, .slice A75832 x75816.Pairs.length c75833, .slice A75842 x75816.Keys.length c75843, .slice A75848 x75816.Kids.length c75849]] [] [.pointer (some ⟨b75819, o75820 + x74060.toNat * 4, none⟩), .agg #[.bool x75816.Leaf, .slice A75832 x75816.Pairs.length c75833, .slice A75842 x75816.Keys.length c75843, .slice A75848 x75816.Kids.length c75849]] [.idx x74060 p0.length, .cells ⟨b75819, o75820 + x74060.toNat * 4, none⟩ [.bool x75816.Leaf, .slice A75832 x75816.Pairs.length c75833, .slice A75842 x75816.Keys.length c75843, .slice A75848 x75816.Kids.length c75849] 4] (by kernel_rfl) (⟨h75818, at_cells ha75823 (off := 0) rfl rfl⟩) ?_
    refine RW.op (by kernel_rfl) (OK.new hT (f := fun b => .pointer (some ⟨b, 0, none⟩)) (cs := [.bool false, .slice none 0 0, .slice none 0 0, .slice none 0 0]) (e := 26) (c := .tt) s (by kernel_rfl) trivial ?_)
    clear s
    rintro w75854 b75855 s k75856 -
    replace e69383 := e69383.st k75856
    replace e75836 := e75836.st k75856
    replace e75846 := e75846.st k75856
    replace e75852 := e75852.st k75856
    replace kk := kk.trans k75856
    refine RW.op (by kernel_rfl) (OK.store hT (i := 0) (b := b75855) (off := 0) (n := 4) (vs := [.bool x75816.Leaf, .slice A75832 x75816.Pairs.length c75833, .slice A75842 x75816.Keys.length c75843, .slice A75848 x75816.Kids.length c75849]) (cs := [.bool false, .slice none 0 0, .slice none 0 0, .slice none 0 0]) (e := 26) s (by kernel_rfl) rfl rfl (flat_ok rfl) (Nat.le_of_ble_eq_true rfl) ?_)
    clear s
    rintro w75857 s k75858 -
    replace e69383 := e69383.st k75858
    replace e75836 := e75836.st k75858
    replace e75846 := e75846.st k75858
    replace e75852 := e75852.st k75858
    replace kk := kk.trans k75858
    refine RW.nil ?_
    refine WPK.seq ?_
    refine WPK.seq ?_
    refine WPK.cut' (Kn fun E ds wz => ∀ X : Kont, (∀ (x75867 : Bool) (x75868 : Bool) (x75869 : Bool) (x75870 : Bool) (D75866 : List Value), g12_j2 x74060 rec75229 x75816 x75867 x75868 x75869 x75870 = some r → X [(D75866.getD 0 undef), (D75866.getD 1 undef), .bool false, (D75866.getD 2 undef), .pointer (some ⟨b75855, 0, none⟩), (D75866.getD 3 undef), (D74059.getD 5 undef), (D75866.getD 4 undef), (D74059.getD 7 undef), .slice (some ⟨b75819, o75820, none⟩) p0.length c69381, .int .i64 (p0.length : Int), .int .i64 x74060, .bool (decide (x74060 < (p0.length : Int))), .pointer (some ⟨b75819, o75820 + x74060.toNat * 4, none⟩), .agg #[.bool x75816.Leaf, .slice A75832 x75816.Pairs.length c75833, .slice A75842 x75816.Keys.length c75843, .slice A75848 x75816.Kids.length c75849], .pointer (some ⟨b75855, 1, none⟩), .slice A75832 x75816.Pairs.length c75833, .int .i64 (x75816.Pairs.length : Int), .bool (decide ((x75816.Pairs.length : Int) > 300)), .bool x75867, (D75866.getD 5 undef), (D75866.getD 6 undef), (D75866.getD 7 undef), (D75866.getD 8 undef), .bool x75868, .bool x75869, (D75866.getD 9 undef), (D75866.getD 10 undef), (D75866.getD 11 undef), (D75866.getD 12 undef), .bool x75870, (D74059.getD 27 undef), (D74059.getD 28 undef), (D74059.getD 29 undef), (D74059.getD 30 undef), (D74059.getD 31 undef), (D74059.getD 32 undef), (D74059.getD 33 undef), (D74059.getD 34 undef), (D74059.getD 35 undef), (D74059.getD 36 undef), (D74059.getD 37 undef), (D74059.getD 38 undef), (D74059.getD 39 undef), (D74059.getD 40 undef), (D74059.getD 41 undef), (D74059.getD 42 undef), (D74059.getD 43 undef), (D74059.getD 44 undef), (D74059.getD 45 undef), (D74059.getD 46 undef), (D74059.getD 47 undef), (D74059.getD 48 undef), (D74059.getD 49 undef), (D74059.getD 50 undef), (D74059.getD 51 undef), (D74059.getD 52 undef), (D74059.getD 53 undef), (D74059.getD 54 undef), (D74059.getD 55 undef), (D74059.getD 56 undef)] [] w75857) → X E ds wz) ?_ ?_
    · intro X76394 hX76395
      refine fun _ _ _ hJ => hJ X76394 ?_
      intro x75867 x75868 x75869 x75870 D75866 hf
      refine hX76395 _ _ _ ?_
      unfold g12_j2 at hf
      by_cases h75871 : x75870 = true
      · have hf := iteT h75871 hf
        refine WPK.condT (Eq.trans (b := .bool x75870) (by kernel_rfl) (b_t h75871)) ?_
        refine WPK.seq ?_
        refine WPK.region ?_
        refine RW.seg hT 1 [] [] [.bool false] [] (by kernel_rfl) (trivial) ?_
        refine RW.nil ?_
        refine WPK.ret (blockQ.ret (blockQ.ret (?_)))
        obtain rfl := someS hf
        refine Fin.of (rs := [.tmp 2]) hT [] (.bool false) [] rfl (by kernel_rfl) (trivial) ?_
        replace s := s.pick [] 1 rfl
        exact fun X h => vc rfl (h I74062 _ s kk)
      · have hf := iteF h75871 hf
        refine WPK.condF (Eq.trans (b := .bool x75870) (by kernel_rfl) (b_f h75871)) ?_
        refine WPK.skip ?_
        refine WPK.seq ?_
        refine WPK.seq ?_
        refine WPK.region ?_
        refine RW.seg hT 4 [.slice A75832 x75816.Pairs.length c75833] [] [.pointer (some ⟨b75855, 1, none⟩), .slice A75832 x75816.Pairs.length c75833, .int .i64 (x75816.Pairs.length : Int), .int .i64 0] [.cell ⟨b75855, 1, none⟩ (.slice A75832 x75816.Pairs.length c75833)] (by kernel_rfl) (s.cell (i := 0) (off := 1) rfl rfl) ?_
        refine RW.nil ?_
        refine WPK.block ?_
        refine WPK.loop' (J := fun n76220 E ds wz => ∀ X : Kont, (∀ (I76152 : Nat → Prop) (x76150 : Int) (D76148 : List Value) (d76149 : Value) (w' : World), g12_l3 x74060 rec75229 x75816 n76220 x76150 = some r → St w0 M I76152 ((.blk b75855 (.cells #[.bool x75816.Leaf, .slice A75832 x75816.Pairs.length c75833, .slice A75842 x75816.Keys.length c75843, .slice A75848 x75816.Kids.length c75849] 26 (0, 0))) :: F) w' → Kp I w I76152 w' → Elems rp_T_api_Node I76152 w' (some ⟨b75819, o75820, none⟩) p0 → Elems rp_T_api_Pair I76152 w' A75832 x75816.Pairs → Elems (Rp.slice (Rp.int .u8)) I76152 w' A75842 x75816.Keys → Elems (Rp.int .i64) I76152 w' A75848 x75816.Kids → X [(D76148.getD 0 undef), (D76148.getD 1 undef), .bool false, (D76148.getD 2 undef), .pointer (some ⟨b75855, 0, none⟩), (D76148.getD 3 undef), (D76148.getD 4 undef), (D76148.getD 5 undef), (D74059.getD 7 undef), .slice (some ⟨b75819, o75820, none⟩) p0.length c69381, .int .i64 (p0.length : Int), .int .i64 x74060, .bool (decide (x74060 < (p0.length : Int))), d76149, .agg #[.bool x75816.Leaf, .slice A75832 x75816.Pairs.length c75833, .slice A75842 x75816.Keys.length c75843, .slice A75848 x75816.Kids.length c75849], .pointer (some ⟨b75855, 1, none⟩), .slice A75832 x75816.Pairs.length c75833, .int .i64 (x75816.Pairs.length : Int), .bool (decide ((x75816.Pairs.length : Int) > 300)), .bool x75867, (D75866.getD 5 undef), (D75866.getD 6 undef), (D75866.getD 7 undef), (D75866.getD 8 undef), .bool x75868, .bool x75869, (D75866.getD 9 undef), (D75866.getD 10 undef), (D75866.getD 11 undef), (D75866.getD 12 undef), .bool x75870, .pointer (some ⟨b75855, 1, none⟩), .slice A75832 x75816.Pairs.length c75833, .int .i64 (x75816.Pairs.length : Int), .int .i64 x76150, (D76148.getD 6 undef), (D76148.getD 7 undef), (D76148.getD 8 undef), (D76148.getD 9 undef), (D76148.getD 10 undef), (D76148.getD 11 undef), (D76148.getD 12 undef), (D76148.getD 13 undef), (D76148.getD 14 undef), (D76148.getD 15 undef), (D76148.getD 16 undef), (D76148.getD 17 undef), (D76148.getD 18 undef), (D76148.getD 19 undef), (D74059.getD 45 undef), (D74059.getD 46 undef), (D74059.getD 47 undef), (D74059.getD 48 undef), (D74059.getD 49 undef), (D74059.getD 50 undef), (D74059.getD 51 undef), (D74059.getD 52 undef), (D74059.getD 53 undef), (D74059.getD 54 undef), (D74059.getD 55 undef), (D74059.getD 56 undef)] [] w') → X E ds wz) FUEL (fun X h => kc (by kernel_rfl) rfl (h I74062 0 [(D75866.getD 0 undef), (D75866.getD 1 undef), (D75866.getD 2 undef), (D75866.getD 3 undef), (D74059.getD 5 undef), (D75866.getD 4 undef), (D74059.getD 31 undef), (D74059.getD 32 undef), (D74059.getD 33 undef), (D74059.getD 34 undef), (D74059.getD 35 undef), (D74059.getD 36 undef), (D74059.getD 37 undef), (D74059.getD 38 undef), (D74059.getD 39 undef), (D74059.getD 40 undef), (D74059.getD 41 undef), (D74059.getD 42 undef), (D74059.getD 43 undef), (D74059.getD 44 undef)] (.pointer (some ⟨b75819, o75820 + x74060.toNat * 4, none⟩)) _ hf s kk e69383 e75836 e75846 e75852)) (fun _ _ _ hJ => hJ (fun _ _ _ => False) (by intro I76152 x76150 D76148 d76149 w76151 hf s kk e69383 e75836 e75846 e75852; exact noneS hf)) ?_
        intro X76392 hX76393
        refine fun n76220 _ _ _ hJ => hJ (X76392 n76220) ?_
        clear s
        intro I76152 x76150 D76148 d76149 w76151 hf s kk e69383 e75836 e75846 e75852
        refine hX76393 _ _ _ _ ?_
        replace hf : g12_l3B x74060 rec75229 x75816 (g12_l3 x74060 rec75229 x75816 n76220) x76150 = some r := hf
        generalize hrec76221 : g12_l3 x74060 rec75229 x75816 n76220 = rec76219 at hf
        unfold g12_l3B at hf
        refine WPK.seq ?_
        refine WPK.region ?_
        refine RW.seg hT 1 [] [] [.bool (decide (x76150 < (x75816.Pairs.length : Int)))] [] (by kernel_rfl) (trivial) ?_
        refine RW.nil ?_
        refine WPK.seq ?_
        by_cases h76223 : x76150 < (x75816.Pairs.length : Int)
        · have hf := iteT h76223 hf
          refine WPK.condT (Eq.trans (b := .bool (decide (x76150 < (x75816.Pairs.length : Int)))) (by kernel_rfl) (bo_t h76223)) ?_
          refine WPK.skip ?_
          refine WPK.seq ?_
          refine WPK.block ?_
          refine WPK.seq ?_
          refine WPK.region ?_
          obtain ⟨x76256, hx76257, hf⟩ := bindS hf
          obtain ⟨h76258, hx76257⟩ := getS hx76257
          obtain ⟨b76259, o76260, rfl⟩ := Elems.opn e75836 hx76257
          obtain ⟨cs76261, hr76262, ha76263⟩ := Elems.get e75836 hx76257
          obtain ⟨cs76264, cs76265, rfl, hr76266, hr76267⟩ := hr76262
          obtain ⟨A76268, c76269, rfl, q76270, q76271, e76272⟩ := hr76266
          have hc76273 := And.intro q76270 q76271
          obtain ⟨A76274, c76275, rfl, q76276, q76277, e76278⟩ := hr76267
          have hc76279 := And.intro q76276 q76277
          refine RW.seg hT 2 [.agg #[.slice A76268 x76256.Key.length c76269, .slice A76274 x76256.Val.length c76275]] [] [.pointer (some ⟨b76259, o76260 + x76150.toNat * 2, none⟩), .agg #[.slice A76268 x76256.Key.length c76269, .slice A76274 x76256.Val.length c76275]] [.idx x76150 x75816.Pairs.length, .cells ⟨b76259, o76260 + x76150.toNat * 2, none⟩ [.slice A76268 x76256.Key.length c76269, .slice A76274 x76256.Val.length c76275] 2] (by kernel_rfl) (⟨h76258, at_cells ha76263 (off := 0) rfl rfl⟩) ?_
          refine RW.op (by kernel_rfl) (OK.new hT (f := fun b => .pointer (some ⟨b, 0, none⟩)) (cs := [.slice none 0 0, .slice none 0 0]) (e := 48) (c := .tt) s (by kernel_rfl) trivial ?_)
          clear s
          rintro w76280 b76281 s k76282 -
          replace e69383 := e69383.st k76282
          replace e75836 := e75836.st k76282
          replace e75846 := e75846.st k76282
          replace e75852 := e75852.st k76282
          replace e76272 := e76272.st k76282
          replace e76278 := e76278.st k76282
          replace kk := kk.trans k76282
          refine RW.op (by kernel_rfl) (OK.store hT (i := 0) (b := b76281) (off := 0) (n := 2) (vs := [.slice A76268 x76256.Key.length c76269, .slice A76274 x76256.Val.length c76275]) (cs := [.slice none 0 0, .slice none 0 0]) (e := 48) s (by kernel_rfl) rfl rfl (flat_ok rfl) (Nat.le_of_ble_eq_true rfl) ?_)
          clear s
          rintro w76283 s k76284 -
          replace e69383 := e69383.st k76284
          replace e75836 := e75836.st k76284
          replace e75846 := e75846.st k76284
          replace e75852 := e75852.st k76284
          replace e76272 := e76272.st k76284
          replace e76278 := e76278.st k76284
          replace kk := kk.trans k76284
          refine RW.nil ?_
          refine WPK.seq ?_
          refine WPK.region ?_
          refine RW.seg hT 4 [.slice A76268 x76256.Key.length c76269] [] [.pointer (some ⟨b76281, 0, none⟩), .slice A76268 x76256.Key.length c76269, .int .i64 (x76256.Key.length : Int), .bool (decide ((x76256.Key.length : Int) > 300))] [.cell ⟨b76281, 0, none⟩ (.slice A76268 x76256.Key.length c76269)] (by kernel_rfl) (s.cell (i := 0) (off := 0) rfl rfl) ?_
          by_cases h76286 : (x76256.Key.length : Int) > 300
          · have hf := iteT h76286 hf
            refine RW.seg hT 6 [] [(42, .bool true)] [.bool true, undef, undef, undef, undef, .bool true] [.veq (.bool (decide ((x76256.Key.length : Int) > 300))) (.bool true)] (by kernel_rfl) (bo_t h76286) ?_
            refine RW.nil ?_
            refine WPK.condT (by kernel_rfl) ?_
            refine WPK.seq ?_
            refine WPK.region ?_
            refine RW.seg hT 1 [] [] [.bool false] [] (by kernel_rfl) (trivial) ?_
            refine RW.nil ?_
            refine WPK.ret (blockQ.ret (blockQ.ret (blockQ.ret (blockQ.ret (?_)))))
            obtain rfl := someS hf
            refine Fin.of (rs := [.tmp 2]) hT [] (.bool false) [] rfl (by kernel_rfl) (trivial) ?_
            replace s := s.pick [] 2 rfl
            exact fun X h => vc rfl (h I76152 _ s kk)
          · have hf := iteF h76286 hf
            refine RW.seg hT 6 [.slice A76274 x76256.Val.length c76275] [(42, .bool false)] [.bool false, .pointer (some ⟨b76281, 1, none⟩), .slice A76274 x76256.Val.length c76275, .int .i64 (x76256.Val.length : Int), .bool (decide ((x76256.Val.length : Int) > 300)), .bool (decide ((x76256.Val.length : Int) > 300))] [.veq (.bool (decide ((x76256.Key.length : Int) > 300))) (.bool false), .cell ⟨b76281, 1, none⟩ (.slice A76274 x76256.Val.length c76275)] (by kernel_rfl) (⟨bo_f h76286, s.cell (i := 0) (off := 1) rfl rfl⟩) ?_
            refine RW.nil ?_
            by_cases h76287 : (x76256.Val.length : Int) > 300
            · have hf := iteT h76287 hf
              refine WPK.condT (Eq.trans (b := .bool (decide ((x76256.Val.length : Int) > 300))) (by kernel_rfl) (bo_t h76287)) ?_
              refine WPK.seq ?_
              refine WPK.region ?_
              refine RW.seg hT 1 [] [] [.bool false] [] (by kernel_rfl) (trivial) ?_
              refine RW.nil ?_
              refine WPK.ret (blockQ.ret (blockQ.ret (blockQ.ret (blockQ.ret (?_)))))
              obtain rfl := someS hf
              refine Fin.of (rs := [.tmp 2]) hT [] (.bool false) [] rfl (by kernel_rfl) (trivial) ?_
              replace s := s.pick [] 2 rfl
              exact fun X h => vc rfl (h I76152 _ s kk)
            · have hf := iteF h76287 hf
              refine WPK.condF (Eq.trans (b := .bool (decide ((x76256.Val.length : Int) > 300))) (by kernel_rfl) (bo_f h76287)) ?_
              refine WPK.skip ?_
              refine WPK.region ?_
              refine RW.seg hT 2 [] [] [.int .i64 (IntKind.i64.wrap (x76150 + 1)), .int .i64 (IntKind.i64.wrap (x76150 + 1))] [] (by kernel_rfl) (trivial) ?_
              refine RW.nil ?_
              subst hrec76221
              replace s := s.pick [1] 2 rfl
              exact ⟨n76220, Nat.le_refl _, fun X h => kc (by kernel_rfl) rfl (h I76152 (IntKind.i64.wrap (x76150 + 1)) [(D76148.getD 0 undef), (D76148.getD 1 undef), (D76148.getD 2 undef), (D76148.getD 3 undef), .pointer (some ⟨b76281, 0, none⟩), (D76148.getD 5 undef), .bool (decide (x76150 < (x75816.Pairs.length : Int))), .pointer (some ⟨b76259, o76260 + x76150.toNat * 2, none⟩), .agg #[.slice A76268 x76256.Key.length c76269, .slice A76274 x76256.Val.length c76275], .pointer (some ⟨b76281, 0, none⟩), .slice A76268 x76256.Key.length c76269, .int .i64 (x76256.Key.length : Int), .bool (decide ((x76256.Key.length : Int) > 300)), .bool false, .pointer (some ⟨b76281, 1, none⟩), .slice A76274 x76256.Val.length c76275, .int .i64 (x76256.Val.length : Int), .bool (decide ((x76256.Val.length : Int) > 300)), .bool (decide ((x76256.Val.length : Int) > 300)), .int .i64 (IntKind.i64.wrap (x76150 + 1))] (d76149) _ hf s kk e69383 e75836 e75846 e75852)⟩
        · have hf := iteF h76223 hf
          refine WPK.condF (Eq.trans (b := .bool (decide (x76150 < (x75816.Pairs.length : Int)))) (by kernel_rfl) (bo_f h76223)) ?_
          refine WPK.exit (blockQ.same ?_)
          refine WPK.seq ?_
          refine WPK.region ?_
          refine RW.seg hT 4 [.slice A75842 x75816.Keys.length c75843] [] [.pointer (some ⟨b75855, 2, none⟩), .slice A75842 x75816.Keys.length c75843, .int .i64 (x75816.Keys.length : Int), .int .i64 0] [.cell ⟨b75855, 2, none⟩ (.slice A75842 x75816.Keys.length c75843)] (by kernel_rfl) (s.cell (i := 0) (off := 2) rfl rfl) ?_
          refine RW.nil ?_
          refine WPK.block ?_
          refine WPK.loop' (J := fun n76356 E ds wz => ∀ X : Kont, (∀ (x76322 : Int) (D76321 : List Value), g12_l4 x74060 rec75229 x75816 n76356 x76322 = some r → X [(D76321.getD 0 undef), (D76321.getD 1 undef), .bool false, (D76321.getD 2 undef), .pointer (some ⟨b75855, 0, none⟩), (D76321.getD 3 undef), (D76148.getD 4 undef), (D76321.getD 4 undef), (D76321.getD 5 undef), .slice (some ⟨b75819, o75820, none⟩) p0.length c69381, .int .i64 (p0.length : Int), .int .i64 x74060, .bool (decide (x74060 < (p0.length : Int))), d76149, .agg #[.bool x75816.Leaf, .slice A75832 x75816.Pairs.length c75833, .slice A75842 x75816.Keys.length c75843, .slice A75848 x75816.Kids.length c75849], .pointer (some ⟨b75855, 1, none⟩), .slice A75832 x75816.Pairs.length c75833, .int .i64 (x75816.Pairs.length : Int), .bool (decide ((x75816.Pairs.length : Int) > 300)), .bool x75867, (D75866.getD 5 undef), (D75866.getD 6 undef), (D75866.getD 7 undef), (D75866.getD 8 undef), .bool x75868, .bool x75869, (D75866.getD 9 undef), (D75866.getD 10 undef), (D75866.getD 11 undef), (D75866.getD 12 undef), .bool x75870, .pointer (some ⟨b75855, 1, none⟩), .slice A75832 x75816.Pairs.length c75833, .int .i64 (x75816.Pairs.length : Int), .int .i64 x76150, .bool (decide (x76150 < (x75816.Pairs.length : Int))), (D76148.getD 7 undef), (D76148.getD 8 undef), (D76148.getD 9 undef), (D76148.getD 10 undef), (D76148.getD 11 undef), (D76148.getD 12 undef), (D76148.getD 13 undef), (D76148.getD 14 undef), (D76148.getD 15 undef), (D76148.getD 16 undef), (D76148.getD 17 undef), (D76148.getD 18 undef), (D76148.getD 19 undef), .pointer (some ⟨b75855, 2, none⟩), .slice A75842 x75816.Keys.length c75843, .int .i64 (x75816.Keys.length : Int), .int .i64 x76322, (D76321.getD 6 undef), (D76321.getD 7 undef), (D76321.getD 8 undef), (D76321.getD 9 undef), (D76321.getD 10 undef), (D76321.getD 11 undef), (D76321.getD 12 undef), (D74059.getD 56 undef)] [] w76151) → X E ds wz) FUEL (fun X h => kc (by kernel_rfl) rfl (h 0 [(D76148.getD 0 undef), (D76148.getD 1 undef), (D76148.getD 2 undef), (D76148.getD 3 undef), (D76148.getD 5 undef), (D74059.getD 7 undef), (D74059.getD 49 undef), (D74059.getD 50 undef), (D74059.getD 51 undef), (D74059.getD 52 undef), (D74059.getD 53 undef), (D74059.getD 54 undef), (D74059.getD 55 undef)] hf)) (fun _ _ _ hJ => hJ (fun _ _ _ => False) (by intro x76322 D76321 hf; exact noneS hf)) ?_
          intro X76390 hX76391
          refine fun n76356 _ _ _ hJ => hJ (X76390 n76356) ?_
          intro x76322 D76321 hf
          refine hX76391 _ _ _ _ ?_
          replace hf : g12_l4B x74060 rec75229 x75816 (g12_l4 x74060 rec75229 x75816 n76356) x76322 = some r := hf
          generalize hrec76357 : g12_l4 x74060 rec75229 x75816 n76356 = rec76355 at hf
          unfold g12_l4B at hf
          refine WPK.seq ?_
          refine WPK.region ?_
          refine RW.seg hT 1 [] [] [.bool (decide (x76322 < (x75816.Keys.length : Int)))] [] (by kernel_rfl) (trivial) ?_
          refine RW.nil ?_
          refine WPK.seq ?_
          by_cases h76359 : x76322 < (x75816.Keys.length : Int)
          · have hf := iteT h76359 hf
            refine WPK.condT (Eq.trans (b := .bool (decide (x76322 < (x75816.Keys.length : Int)))) (by kernel_rfl) (bo_t h76359)) ?_
            refine WPK.skip ?_
            refine WPK.seq ?_
            refine WPK.block ?_
            refine WPK.seq ?_
            refine WPK.region ?_
            obtain ⟨x76375, hx76376, hf⟩ := bindS hf
            obtain ⟨h76377, hx76376⟩ := getS hx76376
            obtain ⟨b76378, o76379, rfl⟩ := Elems.opn e75846 hx76376
            obtain ⟨cs76380, hr76381, ha76382⟩ := Elems.get e75846 hx76376
            obtain ⟨A76383, c76384, rfl, q76385, q76386, e76387⟩ := hr76381
            have hc76388 := And.intro q76385 q76386
            refine RW.seg hT 3 [.slice A76383 x76375.length c76384] [] [.pointer (some ⟨b76378, o76379 + x76322.toNat * 1, none⟩), .slice A76383 x76375.length c76384, .slice A76383 x76375.length c76384] [.idx x76322 x75816.Keys.length, .cell ⟨b76378, o76379 + x76322.toNat * 1, none⟩ (.slice A76383 x76375.length c76384)] (by kernel_rfl) (⟨h76377, ha76382 0 _ rfl⟩) ?_
            refine RW.nil ?_
            refine WPK.seq ?_
            refine WPK.region ?_
            refine RW.seg hT 3 [] [] [.slice A76383 x76375.length c76384, .int .i64 (x76375.length : Int), .bool (decide ((x76375.length : Int) > 300))] [] (by kernel_rfl) (trivial) ?_
            refine RW.nil ?_
            by_cases h76389 : (x76375.length : Int) > 300
            · have hf := iteT h76389 hf
              refine WPK.condT (Eq.trans (b := .bool (decide ((x76375.length : Int) > 300))) (by kernel_rfl) (bo_t h76389)) ?_
              refine WPK.seq ?_
              refine WPK.region ?_
              refine RW.seg hT 1 [] [] [.bool false] [] (by kernel_rfl) (trivial) ?_
              refine RW.nil ?_
              refine WPK.ret (blockQ.ret (blockQ.ret (blockQ.ret (blockQ.ret (?_)))))
              obtain rfl := someS hf
              refine Fin.of (rs := [.tmp 2]) hT [] (.bool false) [] rfl (by kernel_rfl) (trivial) ?_
              replace s := s.pick [] 1 rfl
              exact fun X h => vc rfl (h I76152 _ s kk)
            · have hf := iteF h76389 hf
              refine WPK.condF (Eq.trans (b := .bool (decide ((x76375.length : Int) > 300))) (by kernel_rfl) (bo_f h76389)) ?_
              refine WPK.skip ?_
              refine WPK.region ?_
              refine RW.seg hT 2 [] [] [.int .i64 (IntKind.i64.wrap (x76322 + 1)), .int .i64 (IntKind.i64.wrap (x76322 + 1))] [] (by kernel_rfl) (trivial) ?_
              refine RW.nil ?_
              subst hrec76357
              exact ⟨n76356, Nat.le_refl _, fun X h => kc (by kernel_rfl) rfl (h (IntKind.i64.wrap (x76322 + 1)) [(D76321.getD 0 undef), (D76321.getD 1 undef), (D76321.getD 2 undef), (D76321.getD 3 undef), (D76321.getD 4 undef), .slice A76383 x76375.length c76384, .bool (decide (x76322 < (x75816.Keys.length : Int))), .pointer (some ⟨b76378, o76379 + x76322.toNat * 1, none⟩), .slice A76383 x76375.length c76384, .slice A76383 x76375.length c76384, .int .i64 (x76375.length : Int), .bool (decide ((x76375.length : Int) > 300)), .int .i64 (IntKind.i64.wrap (x76322 + 1))] hf)⟩
          · have hf := iteF h76359 hf
            refine WPK.condF (Eq.trans (b := .bool (decide (x76322 < (x75816.Keys.length : Int)))) (by kernel_rfl) (bo_f h76359)) ?_
            refine WPK.exit (blockQ.same ?_)
            refine WPK.region ?_
            refine RW.seg hT 2 [] [] [.int .i64 (IntKind.i64.wrap (x74060 + 1)), .int .i64 (IntKind.i64.wrap (x74060 + 1))] [] (by kernel_rfl) (trivial) ?_
            refine RW.nil ?_
            subst hrec75231
            replace s := s.pick [] 1 rfl
            exact ⟨n75230, Nat.le_refl _, fun X h => kc (by kernel_rfl) rfl (h I76152 (IntKind.i64.wrap (x74060 + 1)) [(D76321.getD 0 undef), (D76321.getD 1 undef), (D76321.getD 2 undef), .pointer (some ⟨b75855, 0, none⟩), (D76321.getD 3 undef), (D76148.getD 4 undef), (D76321.getD 4 undef), (D76321.getD 5 undef), .bool (decide (x74060 < (p0.length : Int))), d76149, .agg #[.bool x75816.Leaf, .slice A75832 x75816.Pairs.length c75833, .slice A75842 x75816.Keys.length c75843, .slice A75848 x75816.Kids.length c75849], .pointer (some ⟨b75855, 1, none⟩), .slice A75832 x75816.Pairs.length c75833, .int .i64 (x75816.Pairs.length : Int), .bool (decide ((x75816.Pairs.length : Int) > 300)), .bool x75867, (D75866.getD 5 undef), (D75866.getD 6 undef), (D75866.getD 7 undef), (D75866.getD 8 undef), .bool x75868, .bool x75869, (D75866.getD 9 undef), (D75866.getD 10 undef), (D75866.getD 11 undef), (D75866.getD 12 undef), .bool x75870, .pointer (some ⟨b75855, 1, none⟩), .slice A75832 x75816.Pairs.length c75833, .int .i64 (x75816.Pairs.length : Int), .int .i64 x76150, .bool (decide (x76150 < (x75816.Pairs.length : Int))), (D76148.getD 7 undef), (D76148.getD 8 undef), (D76148.getD 9 undef), (D76148.getD 10 undef), (D76148.getD 11 undef), (D76148.getD 12 undef), (D76148.getD 13 undef), (D76148.getD 14 undef), (D76148.getD 15 undef), (D76148.getD 16 undef), (D76148.getD 17 undef), (D76148.getD 18 undef), (D76148.getD 19 undef), .pointer (some ⟨b75855, 2, none⟩), .slice A75842 x75816.Keys.length c75843, .int .i64 (x75816.Keys.length : Int), .int .i64 x76322, .bool (decide (x76322 < (x75816.Keys.length : Int))), (D76321.getD 7 undef), (D76321.getD 8 undef), (D76321.getD 9 undef), (D76321.getD 10 undef), (D76321.getD 11 undef), (D76321.getD 12 undef), .int .i64 (IntKind.i64.wrap (x74060 + 1))] _ hf s kk e69383)⟩
    · refine WPK.region ?_
      refine RW.seg hT 4 [.slice A75832 x75816.Pairs.length c75833] [] [.pointer (some ⟨b75855, 1, none⟩), .slice A75832 x75816.Pairs.length c75833, .int .i64 (x75816.Pairs.length : Int), .bool (decide ((x75816.Pairs.length : Int) > 300))] [.cell ⟨b75855, 1, none⟩ (.slice A75832 x75816.Pairs.length c75833)] (by kernel_rfl) (s.cell (i := 0) (off := 1) rfl rfl) ?_
      by_cases h76396 : (x75816.Pairs.length : Int) > 300
      · have hf := iteT h76396 hf
        refine RW.seg hT 12 [] [(19, .bool true)] [.bool true, undef, undef, undef, undef, .bool true, .bool true, undef, undef, undef, undef, .bool true] [.veq (.bool (decide ((x75816.Pairs.length : Int) > 300))) (.bool true)] (by kernel_rfl) (bo_t h76396) ?_
        refine RW.nil ?_
        exact fun X h => kc (by kernel_rfl) rfl (h true true true true [(D74059.getD 0 undef), (D74059.getD 1 undef), (D74059.getD 2 undef), (D74059.getD 4 undef), (D74059.getD 6 undef), undef, undef, undef, undef, undef, undef, undef, undef] hf)
      · have hf := iteF h76396 hf
        refine RW.seg hT 6 [.slice A75842 x75816.Keys.length c75843] [(19, .bool false)] [.bool false, .pointer (some ⟨b75855, 2, none⟩), .slice A75842 x75816.Keys.length c75843, .int .i64 (x75816.Keys.length : Int), .bool (decide ((x75816.Keys.length : Int) > 300)), .bool (decide ((x75816.Keys.length : Int) > 300))] [.veq (.bool (decide ((x75816.Pairs.length : Int) > 300))) (.bool false), .cell ⟨b75855, 2, none⟩ (.slice A75842 x75816.Keys.length c75843)] (by kernel_rfl) (⟨bo_f h76396, s.cell (i := 0) (off := 2) rfl rfl⟩) ?_
        by_cases h76397 : (x75816.Keys.length : Int) > 300
        · have hf := iteT h76397 hf
          refine RW.seg hT 6 [] [(25, .bool true)] [.bool true, undef, undef, undef, undef, .bool true] [.veq (.bool (decide ((x75816.Keys.length : Int) > 300))) (.bool true)] (by kernel_rfl) (bo_t h76397) ?_
          refine RW.nil ?_
          exact fun X h => kc (by kernel_rfl) rfl (h false (decide ((x75816.Keys.length : Int) > 300)) true true [(D74059.getD 0 undef), (D74059.getD 1 undef), (D74059.getD 2 undef), (D74059.getD 4 undef), (D74059.getD 6 undef), .pointer (some ⟨b75855, 2, none⟩), .slice A75842 x75816.Keys.length c75843, .int .i64 (x75816.Keys.length : Int), .bool (decide ((x75816.Keys.length : Int) > 300)), undef, undef, undef, undef] hf)
        · have hf := iteF h76397 hf
          refine RW.seg hT 6 [.slice A75848 x75816.Kids.length c75849] [(25, .bool false)] [.bool false, .pointer (some ⟨b75855, 3, none⟩), .slice A75848 x75816.Kids.length c75849, .int .i64 (x75816.Kids.length : Int), .bool (decide ((x75816.Kids.length : Int) > 300)), .bool (decide ((x75816.Kids.length : Int) > 300))] [.veq (.bool (decide ((x75816.Keys.length : Int) > 300))) (.bool false), .cell ⟨b75855, 3, none⟩ (.slice A75848 x75816.Kids.length c75849)] (by kernel_rfl) (⟨bo_f h76397, s.cell (i := 0) (off := 3) rfl rfl⟩) ?_
          refine RW.nil ?_
          exact fun X h => kc (by kernel_rfl) rfl (h false (decide ((x75816.Keys.length : Int) > 300)) false (decide ((x75816.Kids.length : Int) > 300)) [(D74059.getD 0 undef), (D74059.getD 1 undef), (D74059.getD 2 undef), (D74059.getD 4 undef), (D74059.getD 6 undef), .pointer (some ⟨b75855, 2, none⟩), .slice A75842 x75816.Keys.length c75843, .int .i64 (x75816.Keys.length : Int), .bool (decide ((x75816.Keys.length : Int) > 300)), .pointer (some ⟨b75855, 3, none⟩), .slice A75848 x75816.Kids.length c75849, .int .i64 (x75816.Kids.length : Int), .bool (decide ((x75816.Kids.length : Int) > 300))] hf)
  · have hf := iteF h75233 hf
    refine WPK.condF (Eq.trans (b := .bool (decide (x74060 < (p0.length : Int)))) (by kernel_rfl) (bo_f h75233)) ?_
    refine WPK.exit (blockQ.same ?_)
    refine WPK.seq ?_
    refine WPK.region ?_
    refine RW.seg hT 1 [] [] [.bool true] [] (by kernel_rfl) (trivial) ?_
    refine RW.nil ?_
    refine WPK.ret (?_)
    obtain rfl := someS hf
    refine Fin.of (rs := [.tmp 2]) hT [] (.bool true) [] rfl (by kernel_rfl) (trivial) ?_
    exact fun X h => vc rfl (h I74062 _ s kk)
theorem c14 {w0 w : World} {M I : Nat → Prop} {F : List It} (p0 : T_api_Node) (A76548 : Option Addr) (c76549 : Nat) (A76552 : Option Addr) (c76553 : Nat) (A76556 : Option Addr) (c76557 : Nat) (hc76550 : (p0.Pairs.length ≤ c76549 ∧ c76549 ≤ 9223372036854775807)) (e76551 : Elems rp_T_api_Pair I w A76548 p0.Pairs) (hc76554 : (p0.Keys.length ≤ c76553 ∧ c76553 ≤ 9223372036854775807)) (e76555 : Elems (Rp.slice (Rp.int .u8)) I w A76552 p0.Keys) (hc76558 : (p0.Kids.length ≤ c76557 ∧ c76557 ≤ 9223372036854775807)) (e76559 : Elems (Rp.int .i64) I w A76556 p0.Kids) (s : St w0 M I (F) w) {r : Int} (hf : g14 p0 = some r) :
    Ret Try.prog 14 [.agg #[.bool p0.Leaf, .slice A76548 p0.Pairs.length c76549, .slice A76552 p0.Keys.length c76553, .slice A76556 p0.Kids.length c76557]] w fun v wz => ∀ X : Value → World → Prop, (∀ (I' : Nat → Prop) (w' : World), St w0 M I' (F) w' → Kp I w I' w' → X (.int .i64 r) w') → X v wz := by
  have kk : Kp I w I w := Kp.refl
  unfold g14 at hf
  refine Ret.of Try.func14 rfl ?_
  refine WPK.seq ?_
  refine WPK.region ?_
  refine RW.op (by kernel_rfl) (OK.new hT (f := fun b => .pointer (some ⟨b, 0, none⟩)) (cs := [.bool p0.Leaf, .slice A76548 p0.Pairs.length c76549, .slice A76552 p0.Keys.length c76553, .slice A76556 p0.Kids.length c76557]) (e := 26) (c := .tt) s (by kernel_rfl) trivial ?_)
  clear s
  rintro w76560 b76561 s k76562 -
  replace e76551 := e76551.st k76562
  replace e76555 := e76555.st k76562
  replace e76559 := e76559.st k76562
  replace kk := kk.trans k76562
  refine RW.seg hT 1 [] [] [.int .i64 0] [] (by kernel_rfl) (trivial) ?_
  refine RW.nil ?_
  refine WPK.seq ?_
  refine WPK.seq ?_
  refine WPK.region ?_
  refine RW.seg hT 1 [.agg #[.bool p0.Leaf, .slice A76548 p0.Pairs.length c76549, .slice A76552 p0.Keys.length c76553, .slice A76556 p0.Kids.length c76557]] [] [.agg #[.bool p0.Leaf, .slice A76548 p0.Pairs.length c76549, .slice A76552 p0.Keys.length c76553, .slice A76556 p0.Kids.length c76557]] [.cells ⟨b76561, 0, none⟩ [.bool p0.Leaf, .slice A76548 p0.Pairs.length c76549, .slice A76552 p0.Keys.length c76553, .slice A76556 p0.Kids.length c76557] 4] (by kernel_rfl) (s.cells (i := 0) rfl rfl rfl) ?_
  obtain ⟨x76571, hx76572, hf⟩ := bindS hf
  refine RW.op (by kernel_rfl) (OK.call' en50 (by kernel_rfl) (c50 (F := (.blk b76561 (.cells #[.bool p0.Leaf, .slice A76548 p0.Pairs.length c76549, .slice A76552 p0.Keys.length c76553, .slice A76556 p0.Kids.length c76557] 26 (0, 0))) :: F) p0 A76548 c76549 A76552 c76553 A76556 c76557 hc76550 e76551 hc76554 e76555 hc76558 e76559 s hx76572) ?_)
  intro X76575 hX76576
  refine fun _ _ hJ => hJ X76575 ?_
  clear s
  intro I76577 w76573 s k76574
  refine hX76576 _ _ ?_
  replace e76551 := e76551.st k76574
  replace e76555 := e76555.st k76574
  replace e76559 := e76559.st k76574
  replace kk := kk.trans k76574
  refine RW.seg hT 1 [] [(5, .bool (decide (¬ (x76571 = true))))] [.bool (decide (¬ (x76571 = true)))] [.veq (.bool (!x76571)) (.bool (decide (¬ (x76571 = true))))] (by kernel_rfl) (not_b) ?_
  refine RW.nil ?_
  by_cases h76578 : ¬ (x76571 = true)
  · have hf := iteT h76578 hf
    refine WPK.condT (Eq.trans (b := .bool (decide (¬ (x76571 = true)))) (by kernel_rfl) (bo_t h76578)) ?_
    refine WPK.seq ?_
    refine WPK.region ?_
    refine RW.seg hT 1 [] [] [.int .i64 0] [] (by kernel_rfl) (trivial) ?_
    refine RW.nil ?_
    refine WPK.ret (?_)
    obtain rfl := someS hf
    refine Fin.of (rs := [.tmp 2]) hT [] (.int .i64 0) [] rfl (by kernel_rfl) (trivial) ?_
    replace s := s.pick [] 1 rfl
    exact fun X h => vc rfl (h I76577 _ s kk)
  · have hf := iteF h76578 hf
    refine WPK.condF (Eq.trans (b := .bool (decide (¬ (x76571 = true)))) (by kernel_rfl) (bo_f h76578)) ?_
    refine WPK.skip ?_
    refine WPK.seq ?_
    refine WPK.region ?_
    refine RW.seg hT 1 [.agg #[.bool p0.Leaf, .slice A76548 p0.Pairs.length c76549, .slice A76552 p0.Keys.length c76553, .slice A76556 p0.Kids.length c76557]] [] [.agg #[.bool p0.Leaf, .slice A76548 p0.Pairs.length c76549, .slice A76552 p0.Keys.length c76553, .slice A76556 p0.Kids.length c76557]] [.cells ⟨b76561, 0, none⟩ [.bool p0.Leaf, .slice A76548 p0.Pairs.length c76549, .slice A76552 p0.Keys.length c76553, .slice A76556 p0.Kids.length c76557] 4] (by kernel_rfl) (s.cells (i := 0) rfl rfl rfl) ?_
    obtain ⟨x76579, hx76580, hf⟩ := bindS hf
    refine RW.op (by kernel_rfl) (OK.call' en52 (by kernel_rfl) (c52 (F := (.blk b76561 (.cells #[.bool p0.Leaf, .slice A76548 p0.Pairs.length c76549, .slice A76552 p0.Keys.length c76553, .slice A76556 p0.Kids.length c76557] 26 (0, 0))) :: F) p0 A76548 c76549 A76552 c76553 A76556 c76557 hc76550 e76551 hc76554 e76555 hc76558 e76559 s hx76580) ?_)
    intro X76583 hX76584
    refine fun _ _ hJ => hJ X76583 ?_
    clear s
    intro I76585 w76581 s k76582
    refine hX76584 _ _ ?_
    replace e76551 := e76551.st k76582
    replace e76555 := e76555.st k76582
    replace e76559 := e76559.st k76582
    replace kk := kk.trans k76582
    refine RW.seg hT 1 [] [] [.int .i64 x76579] [] (by kernel_rfl) (trivial) ?_
    refine RW.nil ?_
    refine WPK.ret (?_)
    obtain rfl := someS hf
    refine Fin.of (rs := [.tmp 2]) hT [] (.int .i64 x76579) [] rfl (by kernel_rfl) (trivial) ?_
    replace s := s.pick [] 1 rfl
    exact fun X h => vc rfl (h I76585 _ s kk)
theorem c3 {w0 w : World} {M I : Nat → Prop} {F : List It} (p0 : T_api_Node) (p1 : (List Int)) (A76804 : Option Addr) (c76805 : Nat) (A76808 : Option Addr) (c76809 : Nat) (A76812 : Option Addr) (c76813 : Nat) (A76816 : Option Addr) (c76817 : Nat) (hc76806 : (p0.Pairs.length ≤ c76805 ∧ c76805 ≤ 9223372036854775807)) (e76807 : Elems rp_T_api_Pair I w A76804 p0.Pairs) (hc76810 : (p0.Keys.length ≤ c76809 ∧ c76809 ≤ 9223372036854775807)) (e76811 : Elems (Rp.slice (Rp.int .u8)) I w A76808 p0.Keys) (hc76814 : (p0.Kids.length ≤ c76813 ∧ c76813 ≤ 9223372036854775807)) (e76815 : Elems (Rp.int .i64) I w A76812 p0.Kids) (hc76818 : (p1.length ≤ c76817 ∧ c76817 ≤ 9223372036854775807)) (e76819 : Elems (Rp.int .u8) I w A76816 p1) (s : St w0 M I (F) w) {r : Bool} (hf : g3 p0 p1 = some r) :
    Ret Try.prog 3 [.agg #[.bool p0.Leaf, .slice A76804 p0.Pairs.length c76805, .slice A76808 p0.Keys.length c76809, .slice A76812 p0.Kids.length c76813], .slice A76816 p1.length c76817] w fun v wz => ∀ X : Value → World → Prop, (∀ (I' : Nat → Prop) (w' : World), St w0 M I' (F) w' → Kp I w I' w' → X (.bool r) w') → X v wz := by
  have kk : Kp I w I w := Kp.refl
  unfold g3 at hf
  refine Ret.of Try.func3 rfl ?_
  refine WPK.seq ?_
  refine WPK.region ?_
  refine RW.op (by kernel_rfl) (OK.new hT (f := fun b => .pointer (some ⟨b, 0, none⟩)) (cs := [.bool p0.Leaf, .slice A76804 p0.Pairs.length c76805, .slice A76808 p0.Keys.length c76809, .slice A76812 p0.Kids.length c76813]) (e := 26) (c := .tt) s (by kernel_rfl) trivial ?_)
  clear s
  rintro w76820 b76821 s k76822 -
  replace e76807 := e76807.st k76822
  replace e76811 := e76811.st k76822
  replace e76815 := e76815.st k76822
  replace e76819 := e76819.st k76822
  replace kk := kk.trans k76822
  refine RW.seg hT 1 [] [] [.bool false] [] (by kernel_rfl) (trivial) ?_
  refine RW.nil ?_
  refine WPK.seq ?_
  refine WPK.seq ?_
  refine WPK.cut' (Kn fun E ds wz => ∀ X : Kont, (∀ (I76929 : Nat → Prop) (x76927 : Bool) (D76926 : List Value) (w' : World), g3_j1 p0 p1 x76927 = some r → St w0 M I76929 ((.blk b76821 (.cells #[.bool p0.Leaf, .slice A76804 p0.Pairs.length c76805, .slice A76808 p0.Keys.length c76809, .slice A76812 p0.Kids.length c76813] 26 (0, 0))) :: F) w' → Kp I w I76929 w' → Elems (Rp.int .u8) I76929 w' A76816 p1 → Elems rp_T_api_Pair I76929 w' A76804 p0.Pairs → Elems (Rp.slice (Rp.int .u8)) I76929 w' A76808 p0.Keys → Elems (Rp.int .i64) I76929 w' A76812 p0.Kids → X [(D76926.getD 0 undef), .slice A76816 p1.length c76817, .pointer (some ⟨b76821, 0, none⟩), (D76926.getD 1 undef), .bool false, undef, (D76926.getD 2 undef), (D76926.getD 3 undef), (D76926.getD 4 undef), (D76926.getD 5 undef), (D76926.getD 6 undef), (D76926.getD 7 undef), (D76926.getD 8 undef), (D76926.getD 9 undef), (D76926.getD 10 undef), (D76926.getD 11 undef), (D76926.getD 12 undef), (D76926.getD 13 undef), .bool x76927, undef, undef, undef, undef, undef, undef, undef, undef, undef, undef, undef, undef, undef, undef, undef, undef, undef, undef, undef, undef, undef, undef, undef, undef, undef, undef, undef, undef, undef, undef, undef, undef, undef, undef, undef, undef, undef, undef, undef, undef, undef, undef, undef, undef, undef, undef, undef, undef, undef, undef, undef, undef] [] w') → X E ds wz) ?_ ?_
  · intro X77135 hX77136
    refine fun _ _ _ hJ => hJ X77135 ?_
    clear s
    intro I76929 x76927 D76926 w76928 hf s kk e76819 e76807 e76811 e76815
    refine hX77136 _ _ _ ?_
    unfold g3_j1 at hf
    by_cases h76930 : x76927 = true
    · have hf := iteT h76930 hf
      refine WPK.condT (Eq.trans (b := .bool x76927) (by kernel_rfl) (b_t h76930)) ?_
      refine WPK.seq ?_
      refine WPK.region ?_
      obtain ⟨x76931, hx76932, hf⟩ := bindS hf
      refine RW.op (by kernel_rfl) (OK.call' en11 (by kernel_rfl) (c11 (F := (.blk b76821 (.cells #[.bool p0.Leaf, .slice A76804 p0.Pairs.length c76805, .slice A76808 p0.Keys.length c76809, .slice A76812 p0.Kids.length c76813] 26 (0, 0))) :: F) s hx76932) ?_)
      intro X76935 hX76936
      refine fun _ _ hJ => hJ X76935 ?_
      clear s
      intro I76937 w76933 s k76934
      refine hX76936 _ _ ?_
      replace e76819 := e76819.st k76934
      replace e76807 := e76807.st k76934
      replace e76811 := e76811.st k76934
      replace e76815 := e76815.st k76934
      replace kk := kk.trans k76934
      refine RW.seg hT 1 [] [] [.bool x76931] [] (by kernel_rfl) (trivial) ?_
      refine RW.nil ?_
      refine WPK.ret (?_)
      obtain rfl := someS hf
      refine Fin.of (rs := [.tmp 4]) hT [] (.bool x76931) [] rfl (by kernel_rfl) (trivial) ?_
      replace s := s.pick [] 1 rfl
      exact fun X h => vc rfl (h I76937 _ s kk)
    · have hf := iteF h76930 hf
      refine WPK.condF (Eq.trans (b := .bool x76927) (by kernel_rfl) (b_f h76930)) ?_
      refine WPK.skip ?_
      refine WPK.seq ?_
      refine WPK.region ?_
      refine RW.seg hT 2 [.agg #[.bool p0.Leaf, .slice A76804 p0.Pairs.length c76805, .slice A76808 p0.Keys.length c76809, .slice A76812 p0.Kids.length c76813]] [] [.agg #[.bool p0.Leaf, .slice A76804 p0.Pairs.length c76805, .slice A76808 p0.Keys.length c76809, .slice A76812 p0.Kids.length c76813], .slice A76816 p1.length c76817] [.cells ⟨b76821, 0, none⟩ [.bool p0.Leaf, .slice A76804 p0.Pairs.length c76805, .slice A76808 p0.Keys.length c76809, .slice A76812 p0.Kids.length c76813] 4] (by kernel_rfl) (s.cells (i := 0) rfl rfl rfl) ?_
      obtain ⟨x76938, hx76939, hf⟩ := bindS hf
      refine RW.op (by kernel_rfl) (OK.call' en13 (by kernel_rfl) (c13 (F := (.blk b76821 (.cells #[.bool p0.Leaf, .slice A76804 p0.Pairs.length c76805, .slice A76808 p0.Keys.length c76809, .slice A76812 p0.Kids.length c76813] 26 (0, 0))) :: F) p0 p1 A76804 c76805 A76808 c76809 A76812 c76813 A76816 c76817 hc76806 e76807 hc76810 e76811 hc76814 e76815 hc76818 e76819 s hx76939) ?_)
      intro X76942 hX76943
      refine fun _ _ hJ => hJ X76942 ?_
      clear s
      intro I76944 w76940 s k76941
      refine hX76943 _ _ ?_
      replace e76819 := e76819.st k76941
      replace e76807 := e76807.st k76941
      replace e76811 := e76811.st k76941
      replace e76815 := e76815.st k76941
      replace kk := kk.trans k76941
      refine RW.seg hT 1 [] [] [.int .i64 x76938] [] (by kernel_rfl) (trivial) ?_
      refine RW.nil ?_
      refine WPK.seq ?_
      refine WPK.seq ?_
      refine WPK.cut' (Kn fun E ds wz => ∀ X : Kont, (∀ (I76973 : Nat → Prop) (x76971 : Bool) (D76970 : List Value) (w' : World), g3_j2 p0 p1 x76938 x76971 = some r → St w0 M I76973 ((.blk b76821 (.cells #[.bool p0.Leaf, .slice A76804 p0.Pairs.length c76805, .slice A76808 p0.Keys.length c76809, .slice A76812 p0.Kids.length c76813] 26 (0, 0))) :: F) w' → Kp I w I76973 w' → Elems (Rp.int .u8) I76973 w' A76816 p1 → Elems rp_T_api_Pair I76973 w' A76804 p0.Pairs → Elems (Rp.slice (Rp.int .u8)) I76973 w' A76808 p0.Keys → Elems (Rp.int .i64) I76973 w' A76812 p0.Kids → X [(D76970.getD 0 undef), .slice A76816 p1.length c76817, .pointer (some ⟨b76821, 0, none⟩), (D76970.getD 1 undef), .bool false, .int .i64 x76938, (D76970.getD 2 undef), (D76970.getD 3 undef), (D76970.getD 4 undef), (D76970.getD 5 undef), (D76970.getD 6 undef), (D76970.getD 7 undef), (D76970.getD 8 undef), (D76970.getD 9 undef), (D76970.getD 10 undef), (D76970.getD 11 undef), (D76970.getD 12 undef), (D76970.getD 13 undef), (D76970.getD 14 undef), (D76970.getD 15 undef), (D76970.getD 16 undef), (D76970.getD 17 undef), (D76970.getD 18 undef), (D76970.getD 19 undef), (D76970.getD 20 undef), (D76970.getD 21 undef), (D76970.getD 22 undef), (D76970.getD 23 undef), (D76970.getD 24 undef), .bool x76971, undef, undef, undef, undef, undef, undef, undef, undef, undef, undef, undef, undef, undef, undef, undef, undef, undef, undef, undef, undef, undef, undef, undef, undef, undef, undef, undef, undef, undef, undef, undef, undef, undef, undef, undef, undef, undef, undef, undef, undef, undef] [] w') → X E ds wz) ?_ ?_
      · intro X77125 hX77126
        refine fun _ _ _ hJ => hJ X77125 ?_
        clear s
        intro I76973 x76971 D76970 w76972 hf s kk e76819 e76807 e76811 e76815
        refine hX77126 _ _ _ ?_
        unfold g3_j2 at hf
        by_cases h76974 : x76971 = true
        · have hf := iteT h76974 hf
          refine WPK.condT (Eq.trans (b := .bool x76971) (by kernel_rfl) (b_t h76974)) ?_
          refine WPK.seq ?_
          refine WPK.region ?_
          refine RW.seg hT 3 [] [(31, .bool (decide (x76938 = 0)))] [.int .i64 x76938, .bool (decide (x76938 = 0)), .bool (decide (x76938 = 0))] [.veq (.bool (x76938 == 0)) (.bool (decide (x76938 = 0)))] (by kernel_rfl) (eq_v) ?_
          refine RW.nil ?_
          refine WPK.ret (?_)
          obtain rfl := someS hf
          refine Fin.of (rs := [.tmp 4]) hT [] (.bool (decide (x76938 = 0))) [] rfl (by kernel_rfl) (trivial) ?_
          replace s := s.pick [] 1 rfl
          exact fun X h => vc rfl (h I76973 _ s kk)
        · have hf := iteF h76974 hf
          refine WPK.condF (Eq.trans (b := .bool x76971) (by kernel_rfl) (b_f h76974)) ?_
          refine WPK.skip ?_
          refine WPK.seq ?_
          refine WPK.seq ?_
          refine WPK.cut' (Kn fun E ds wz => ∀ X : Kont, (∀ (x76980 : Bool) (D76979 : List Value), g3_j3 p0 p1 x76938 x76980 = some r → X [(D76979.getD 0 undef), .slice A76816 p1.length c76817, .pointer (some ⟨b76821, 0, none⟩), (D76979.getD 1 undef), .bool false, .int .i64 x76938, (D76979.getD 2 undef), (D76979.getD 3 undef), (D76979.getD 4 undef), (D76979.getD 5 undef), (D76979.getD 6 undef), (D76979.getD 7 undef), (D76979.getD 8 undef), (D76979.getD 9 undef), (D76979.getD 10 undef), (D76979.getD 11 undef), (D76979.getD 12 undef), (D76979.getD 13 undef), (D76979.getD 14 undef), (D76979.getD 15 undef), (D76979.getD 16 undef), (D76979.getD 17 undef), (D76979.getD 18 undef), (D76979.getD 19 undef), (D76979.getD 20 undef), (D76979.getD 21 undef), (D76979.getD 22 undef), (D76979.getD 23 undef), (D76979.getD 24 undef), (D76979.getD 25 undef), (D76979.getD 26 undef), (D76979.getD 27 undef), (D76979.getD 28 undef), (D76979.getD 29 undef), (D76979.getD 30 undef), (D76979.getD 31 undef), (D76979.getD 32 undef), (D76979.getD 33 undef), (D76979.getD 34 undef), (D76979.getD 35 undef), .bool x76980, undef, undef, undef, undef, undef, undef, undef, undef, undef, undef, undef, undef, undef, undef, undef, undef, undef, undef, undef, undef, undef, undef, undef, undef, undef, undef, undef, undef, undef, undef] [] w76972) → X E ds wz) ?_ ?_
          · intro X77122 hX77123
            refine fun _ _ _ hJ => hJ X77122 ?_
            intro x76980 D76979 hf
            refine hX77123 _ _ _ ?_
            unfold g3_j3 at hf
            by_cases h76981 : x76980 = true
            · have hf := iteT h76981 hf
              refine WPK.condT (Eq.trans (b := .bool x76980) (by kernel_rfl) (b_t h76981)) ?_
              refine WPK.seq ?_
              refine WPK.region ?_
              refine RW.seg hT 1 [] [] [.bool false] [] (by kernel_rfl) (trivial) ?_
              refine RW.nil ?_
              refine WPK.ret (?_)
              obtain rfl := someS hf
              refine Fin.of (rs := [.tmp 4]) hT [] (.bool false) [] rfl (by kernel_rfl) (trivial) ?_
              replace s := s.pick [] 1 rfl
              exact fun X h => vc rfl (h I76973 _ s kk)
            · have hf := iteF h76981 hf
              refine WPK.condF (Eq.trans (b := .bool x76980) (by kernel_rfl) (b_f h76981)) ?_
              refine WPK.skip ?_
              refine WPK.seq ?_
              refine WPK.cut' (Kn fun E ds wz => ∀ X : Kont, (∀ (I77052 : Nat → Prop) (x77050 : Bool) (D77049 : List Value) (w' : World), g3_j4 x77050 = some r → St w0 M I77052 (F) w' → Kp I w I77052 w' → X [(D77049.getD 0 undef), (D77049.getD 1 undef), (D77049.getD 2 undef), (D77049.getD 3 undef), .bool x77050, (D77049.getD 4 undef), (D77049.getD 5 undef), (D77049.getD 6 undef), (D77049.getD 7 undef), (D77049.getD 8 undef), (D77049.getD 9 undef), (D77049.getD 10 undef), (D77049.getD 11 undef), (D77049.getD 12 undef), (D77049.getD 13 undef), (D77049.getD 14 undef), (D77049.getD 15 undef), (D77049.getD 16 undef), (D77049.getD 17 undef), (D77049.getD 18 undef), (D77049.getD 19 undef), (D77049.getD 20 undef), (D77049.getD 21 undef), (D77049.getD 22 undef), (D77049.getD 23 undef), (D77049.getD 24 undef), (D77049.getD 25 undef), (D77049.getD 26 undef), (D77049.getD 27 undef), (D77049.getD 28 undef), (D77049.getD 29 undef), (D77049.getD 30 undef), (D77049.getD 31 undef), (D77049.getD 32 undef), (D77049.getD 33 undef), (D77049.getD 34 undef), (D77049.getD 35 undef), (D77049.getD 36 undef), (D77049.getD 37 undef), (D77049.getD 38 undef), (D77049.getD 39 undef), (D77049.getD 40 undef), (D77049.getD 41 undef), (D77049.getD 42 undef), (D77049.getD 43 undef), (D77049.getD 44 undef), (D77049.getD 45 undef), (D77049.getD 46 undef), (D77049.getD 47 undef), (D77049.getD 48 undef), (D77049.getD 49 undef), (D77049.getD 50 undef), (D77049.getD 51 undef), (D77049.getD 52 undef), (D77049.getD 53 undef), (D77049.getD 54 undef), (D77049.getD 55 undef), (D77049.getD 56 undef), (D77049.getD 57 undef), (D77049.getD 58 undef), (D77049.getD 59 undef), (D77049.getD 60 undef), (D77049.getD 61 undef), (D77049.getD 62 undef), (D77049.getD 63 undef), (D77049.getD 64 undef), (D77049.getD 65 undef), (D77049.getD 66 undef), (D77049.getD 67 undef), (D77049.getD 68 undef), (D77049.getD 69 undef)] [] w') → X E ds wz) ?_ ?_
              · intro X77053 hX77054
                refine fun _ _ _ hJ => hJ X77053 ?_
                clear s
                intro I77052 x77050 D77049 w77051 hf s kk
                refine hX77054 _ _ _ ?_
                unfold g3_j4 at hf
                refine WPK.ret (?_)
                obtain rfl := someS hf
                refine Fin.of (rs := [.tmp 4]) hT [] (.bool x77050) [] rfl (by kernel_rfl) (trivial) ?_
                exact fun X h => vc rfl (h I77052 _ s kk)
              · refine WPK.region ?_
                refine RW.seg hT 2 [] [(42, .bool (decide (x76938 = 0)))] [.int .i64 x76938, .bool (decide (x76938 = 0))] [.veq (.bool (x76938 == 0)) (.bool (decide (x76938 = 0)))] (by kernel_rfl) (eq_v) ?_
                by_cases h77055 : x76938 = 0
                · have hf := iteT h77055 hf
                  refine RW.seg hT 17 [.slice A76808 p0.Keys.length c76809] [(43, .bool true), (59, .bool (decide (x76938 = (p0.Keys.length : Int))))] [.bool true, undef, undef, undef, undef, undef, undef, undef, undef, undef, .bool true, .bool true, .int .i64 x76938, .pointer (some ⟨b76821, 2, none⟩), .slice A76808 p0.Keys.length c76809, .int .i64 (p0.Keys.length : Int), .bool (decide (x76938 = (p0.Keys.length : Int)))] [.veq (.bool (decide (x76938 = 0))) (.bool true), .cell ⟨b76821, 2, none⟩ (.slice A76808 p0.Keys.length c76809), .veq (.bool (x76938 == (p0.Keys.length : Int))) (.bool (decide (x76938 = (p0.Keys.length : Int))))] (by kernel_rfl) (⟨bo_t h77055, s.cell (i := 0) (off := 2) rfl rfl, eq_v⟩) ?_
                  by_cases h77056 : x76938 = (p0.Keys.length : Int)
                  · have hf := iteT h77056 hf
                    refine RW.seg hT 12 [] [(60, .bool true)] [.bool true, undef, undef, undef, undef, undef, undef, undef, undef, .bool true, .bool true, .bool true] [.veq (.bool (decide (x76938 = (p0.Keys.length : Int)))) (.bool true)] (by kernel_rfl) (bo_t h77056) ?_
                    refine RW.nil ?_
                    replace s := s.pick [] 1 rfl
                    exact fun X h => kc (by kernel_rfl) rfl (h I76973 true [(D76979.getD 0 undef), .slice A76816 p1.length c76817, .pointer (some ⟨b76821, 0, none⟩), (D76979.getD 1 undef), .int .i64 x76938, (D76979.getD 2 undef), (D76979.getD 3 undef), (D76979.getD 4 undef), (D76979.getD 5 undef), (D76979.getD 6 undef), (D76979.getD 7 undef), (D76979.getD 8 undef), (D76979.getD 9 undef), (D76979.getD 10 undef), (D76979.getD 11 undef), (D76979.getD 12 undef), (D76979.getD 13 undef), (D76979.getD 14 undef), (D76979.getD 15 undef), (D76979.getD 16 undef), (D76979.getD 17 undef), (D76979.getD 18 undef), (D76979.getD 19 undef), (D76979.getD 20 undef), (D76979.getD 21 undef), (D76979.getD 22 undef), (D76979.getD 23 undef), (D76979.getD 24 undef), (D76979.getD 25 undef), (D76979.getD 26 undef), (D76979.getD 27 undef), (D76979.getD 28 undef), (D76979.getD 29 undef), (D76979.getD 30 undef), (D76979.getD 31 undef), (D76979.getD 32 undef), (D76979.getD 33 undef), (D76979.getD 34 undef), (D76979.getD 35 undef), .bool x76980, .int .i64 x76938, .bool (decide (x76938 = 0)), .bool true, undef, undef, undef, undef, undef, undef, undef, undef, undef, .bool true, .bool true, .int .i64 x76938, .pointer (some ⟨b76821, 2, none⟩), .slice A76808 p0.Keys.length c76809, .int .i64 (p0.Keys.length : Int), .bool (decide (x76938 = (p0.Keys.length : Int))), .bool true, undef, undef, undef, undef, undef, undef, undef, undef, .bool true, .bool true] _ hf s kk)
                  · have hf := iteF h77056 hf
                    obtain ⟨x77057, hx77058, hf⟩ := bindS hf
                    obtain ⟨h77059, hx77058⟩ := getS hx77058
                    obtain ⟨b77060, o77061, rfl⟩ := Elems.opn e76811 hx77058
                    obtain ⟨cs77062, hr77063, ha77064⟩ := Elems.get e76811 hx77058
                    obtain ⟨A77065, c77066, rfl, q77067, q77068, e77069⟩ := hr77063
                    have hc77070 := And.intro q77067 q77068
                    refine RW.seg hT 7 [.slice (some ⟨b77060, o77061, none⟩) p0.Keys.length c76809, .slice A77065 x77057.length c77066] [(60, .bool false)] [.bool false, .pointer (some ⟨b76821, 2, none⟩), .slice (some ⟨b77060, o77061, none⟩) p0.Keys.length c76809, .int .i64 x76938, .pointer (some ⟨b77060, o77061 + x76938.toNat * 1, none⟩), .slice A77065 x77057.length c77066, .slice A76816 p1.length c76817] [.veq (.bool (decide (x76938 = (p0.Keys.length : Int)))) (.bool false), .cell ⟨b76821, 2, none⟩ (.slice (some ⟨b77060, o77061, none⟩) p0.Keys.length c76809), .idx x76938 p0.Keys.length, .cell ⟨b77060, o77061 + x76938.toNat * 1, none⟩ (.slice A77065 x77057.length c77066)] (by kernel_rfl) (⟨bo_f h77056, s.cell (i := 0) (off := 2) rfl rfl, h77059, ha77064 0 _ rfl⟩) ?_
                    obtain ⟨x77071, hx77072, hf⟩ := bindS hf
                    refine RW.op (by kernel_rfl) (OK.call' en15 (by kernel_rfl) (c15 (F := (.blk b76821 (.cells #[.bool p0.Leaf, .slice A76804 p0.Pairs.length c76805, .slice (some ⟨b77060, o77061, none⟩) p0.Keys.length c76809, .slice A76812 p0.Kids.length c76813] 26 (0, 0))) :: F) x77057 p1 A77065 c77066 A76816 c76817 hc77070 e77069 hc76818 e76819 s hx77072) ?_)
                    intro X77075 hX77076
                    refine fun _ _ hJ => hJ X77075 ?_
                    clear s
                    intro I77077 w77073 s k77074
                    refine hX77076 _ _ ?_
                    replace e76819 := e76819.st k77074
                    replace e76811 := e76811.st k77074
                    replace e77069 := e77069.st k77074
                    replace e76807 := e76807.st k77074
                    replace e76815 := e76815.st k77074
                    replace kk := kk.trans k77074
                    refine RW.seg hT 4 [] [] [.bool (decide (x77071 > 0)), .bool (decide (x77071 > 0)), .bool (decide (x77071 > 0)), .bool (decide (x77071 > 0))] [] (by kernel_rfl) (trivial) ?_
                    refine RW.nil ?_
                    replace s := s.pick [] 1 rfl
                    exact fun X h => kc (by kernel_rfl) rfl (h I77077 (decide (x77071 > 0)) [(D76979.getD 0 undef), .slice A76816 p1.length c76817, .pointer (some ⟨b76821, 0, none⟩), (D76979.getD 1 undef), .int .i64 x76938, (D76979.getD 2 undef), (D76979.getD 3 undef), (D76979.getD 4 undef), (D76979.getD 5 undef), (D76979.getD 6 undef), (D76979.getD 7 undef), (D76979.getD 8 undef), (D76979.getD 9 undef), (D76979.getD 10 undef), (D76979.getD 11 undef), (D76979.getD 12 undef), (D76979.getD 13 undef), (D76979.getD 14 undef), (D76979.getD 15 undef), (D76979.getD 16 undef), (D76979.getD 17 undef), (D76979.getD 18 undef), (D76979.getD 19 undef), (D76979.getD 20 undef), (D76979.getD 21 undef), (D76979.getD 22 undef), (D76979.getD 23 undef), (D76979.getD 24 undef), (D76979.getD 25 undef), (D76979.getD 26 undef), (D76979.getD 27 undef), (D76979.getD 28 undef), (D76979.getD 29 undef), (D76979.getD 30 undef), (D76979.getD 31 undef), (D76979.getD 32 undef), (D76979.getD 33 undef), (D76979.getD 34 undef), (D76979.getD 35 undef), .bool x76980, .int .i64 x76938, .bool (decide (x76938 = 0)), .bool true, undef, undef, undef, undef, undef, undef, undef, undef, undef, .bool true, .bool true, .int .i64 x76938, .pointer (some ⟨b76821, 2, none⟩), .slice (some ⟨b77060, o77061, none⟩) p0.Keys.length c76809, .int .i64 (p0.Keys.length : Int), .bool (decide (x76938 = (p0.Keys.length : Int))), .bool false, .pointer (some ⟨b76821, 2, none⟩), .slice (some ⟨b77060, o77061, none⟩) p0.Keys.length c76809, .int .i64 x76938, .pointer (some ⟨b77060, o77061 + x76938.toNat * 1, none⟩), .slice A77065 x77057.length c77066, .slice A76816 p1.length c76817, .int .i64 x77071, .bool (decide (x77071 > 0)), .bool (decide (x77071 > 0)), .bool (decide (x77071 > 0))] _ hf s kk)
                · have hf := iteF h77055 hf
                  obtain ⟨x77078, hx77079, hf⟩ := bindS hf
                  obtain ⟨h77080, hx77079⟩ := getS hx77079
                  obtain ⟨b77081, o77082, rfl⟩ := Elems.opn e76811 hx77079
                  obtain ⟨cs77083, hr77084, ha77085⟩ := Elems.get e76811 hx77079
                  obtain ⟨A77086, c77087, rfl, q77088, q77089, e77090⟩ := hr77084
                  have hc77091 := And.intro q77088 q77089
                  refine RW.seg hT 8 [.slice (some ⟨b77081, o77082, none⟩) p0.Keys.length c76809, .slice A77086 x77078.length c77087] [(43, .bool false)] [.bool false, .pointer (some ⟨b76821, 2, none⟩), .slice (some ⟨b77081, o77082, none⟩) p0.Keys.length c76809, .int .i64 x76938, .int .i64 (IntKind.i64.wrap (x76938 - 1)), .pointer (some ⟨b77081, o77082 + (IntKind.i64.wrap (x76938 - 1)).toNat * 1, none⟩), .slice A77086 x77078.length c77087, .slice A76816 p1.length c76817] [.veq (.bool (decide (x76938 = 0))) (.bool false), .cell ⟨b76821, 2, none⟩ (.slice (some ⟨b77081, o77082, none⟩) p0.Keys.length c76809), .idx (IntKind.i64.wrap (x76938 - 1)) p0.Keys.length, .cell ⟨b77081, o77082 + (IntKind.i64.wrap (x76938 - 1)).toNat * 1, none⟩ (.slice A77086 x77078.length c77087)] (by kernel_rfl) (⟨bo_f h77055, s.cell (i := 0) (off := 2) rfl rfl, h77080, ha77085 0 _ rfl⟩) ?_
                  obtain ⟨x77092, hx77093, hf⟩ := bindS hf
                  refine RW.op (by kernel_rfl) (OK.call' en15 (by kernel_rfl) (c15 (F := (.blk b76821 (.cells #[.bool p0.Leaf, .slice A76804 p0.Pairs.length c76805, .slice (some ⟨b77081, o77082, none⟩) p0.Keys.length c76809, .slice A76812 p0.Kids.length c76813] 26 (0, 0))) :: F) x77078 p1 A77086 c77087 A76816 c76817 hc77091 e77090 hc76818 e76819 s hx77093) ?_)
                  intro X77096 hX77097
                  refine fun _ _ hJ => hJ X77096 ?_
                  clear s
                  intro I77098 w77094 s k77095
                  refine hX77097 _ _ ?_
                  replace e76819 := e76819.st k77095
                  replace e76811 := e76811.st k77095
                  replace e77090 := e77090.st k77095
                  replace e76807 := e76807.st k77095
                  replace e76815 := e76815.st k77095
                  replace kk := kk.trans k77095
                  refine RW.seg hT 2 [] [] [.bool (decide (x77092 ≤ 0)), .bool (decide (x77092 ≤ 0))] [] (by kernel_rfl) (trivial) ?_
                  by_cases h77099 : x77092 ≤ 0
                  · have hf := iteT h77099 hf
                    refine RW.seg hT 6 [.slice (some ⟨b77081, o77082, none⟩) p0.Keys.length c76809] [(54, .bool true), (59, .bool (decide (x76938 = (p0.Keys.length : Int))))] [.bool true, .int .i64 x76938, .pointer (some ⟨b76821, 2, none⟩), .slice (some ⟨b77081, o77082, none⟩) p0.Keys.length c76809, .int .i64 (p0.Keys.length : Int), .bool (decide (x76938 = (p0.Keys.length : Int)))] [.veq (.bool (decide (x77092 ≤ 0))) (.bool true), .cell ⟨b76821, 2, none⟩ (.slice (some ⟨b77081, o77082, none⟩) p0.Keys.length c76809), .veq (.bool (x76938 == (p0.Keys.length : Int))) (.bool (decide (x76938 = (p0.Keys.length : Int))))] (by kernel_rfl) (⟨bo_t h77099, s.cell (i := 0) (off := 2) rfl rfl, eq_v⟩) ?_
                    by_cases h77100 : x76938 = (p0.Keys.length : Int)
                    · have hf := iteT h77100 hf
                      refine RW.seg hT 12 [] [(60, .bool true)] [.bool true, undef, undef, undef, undef, undef, undef, undef, undef, .bool true, .bool true, .bool true] [.veq (.bool (decide (x76938 = (p0.Keys.length : Int)))) (.bool true)] (by kernel_rfl) (bo_t h77100) ?_
                      refine RW.nil ?_
                      replace s := s.pick [] 1 rfl
                      exact fun X h => kc (by kernel_rfl) rfl (h I77098 true [(D76979.getD 0 undef), .slice A76816 p1.length c76817, .pointer (some ⟨b76821, 0, none⟩), (D76979.getD 1 undef), .int .i64 x76938, (D76979.getD 2 undef), (D76979.getD 3 undef), (D76979.getD 4 undef), (D76979.getD 5 undef), (D76979.getD 6 undef), (D76979.getD 7 undef), (D76979.getD 8 undef), (D76979.getD 9 undef), (D76979.getD 10 undef), (D76979.getD 11 undef), (D76979.getD 12 undef), (D76979.getD 13 undef), (D76979.getD 14 undef), (D76979.getD 15 undef), (D76979.getD 16 undef), (D76979.getD 17 undef), (D76979.getD 18 undef), (D76979.getD 19 undef), (D76979.getD 20 undef), (D76979.getD 21 undef), (D76979.getD 22 undef), (D76979.getD 23 undef), (D76979.getD 24 undef), (D76979.getD 25 undef), (D76979.getD 26 undef), (D76979.getD 27 undef), (D76979.getD 28 undef), (D76979.getD 29 undef), (D76979.getD 30 undef), (D76979.getD 31 undef), (D76979.getD 32 undef), (D76979.getD 33 undef), (D76979.getD 34 undef), (D76979.getD 35 undef), .bool x76980, .int .i64 x76938, .bool (decide (x76938 = 0)), .bool false, .pointer (some ⟨b76821, 2, none⟩), .slice (some ⟨b77081, o77082, none⟩) p0.Keys.length c76809, .int .i64 x76938, .int .i64 (IntKind.i64.wrap (x76938 - 1)), .pointer (some ⟨b77081, o77082 + (IntKind.i64.wrap (x76938 - 1)).toNat * 1, none⟩), .slice A77086 x77078.length c77087, .slice A76816 p1.length c76817, .int .i64 x77092, .bool (decide (x77092 ≤ 0)), .bool (decide (x77092 ≤ 0)), .bool true, .int .i64 x76938, .pointer (some ⟨b76821, 2, none⟩), .slice (some ⟨b77081, o77082, none⟩) p0.Keys.length c76809, .int .i64 (p0.Keys.length : Int), .bool (decide (x76938 = (p0.Keys.length : Int))), .bool true, undef, undef, undef, undef, undef, undef, undef, undef, .bool true, .bool true] _ hf s kk)
                    · have hf := iteF h77100 hf
                      obtain ⟨x77101, hx77102, hf⟩ := bindS hf
                      obtain ⟨h77103, hx77102⟩ := getS hx77102
                      obtain ⟨cs77106, hr77107, ha77108⟩ := Elems.get e76811 hx77102
                      obtain ⟨A77109, c77110, rfl, q77111, q77112, e77113⟩ := hr77107
                      have hc77114 := And.intro q77111 q77112
                      refine RW.seg hT 7 [.slice (some ⟨b77081, o77082, none⟩) p0.Keys.length c76809, .slice A77109 x77101.length c77110] [(60, .bool false)] [.bool false, .pointer (some ⟨b76821, 2, none⟩), .slice (some ⟨b77081, o77082, none⟩) p0.Keys.length c76809, .int .i64 x76938, .pointer (some ⟨b77081, o77082 + x76938.toNat * 1, none⟩), .slice A77109 x77101.length c77110, .slice A76816 p1.length c76817] [.veq (.bool (decide (x76938 = (p0.Keys.length : Int)))) (.bool false), .cell ⟨b76821, 2, none⟩ (.slice (some ⟨b77081, o77082, none⟩) p0.Keys.length c76809), .idx x76938 p0.Keys.length, .cell ⟨b77081, o77082 + x76938.toNat * 1, none⟩ (.slice A77109 x77101.length c77110)] (by kernel_rfl) (⟨bo_f h77100, s.cell (i := 0) (off := 2) rfl rfl, h77103, ha77108 0 _ rfl⟩) ?_
                      obtain ⟨x77115, hx77116, hf⟩ := bindS hf
                      refine RW.op (by kernel_rfl) (OK.call' en15 (by kernel_rfl) (c15 (F := (.blk b76821 (.cells #[.bool p0.Leaf, .slice A76804 p0.Pairs.length c76805, .slice (some ⟨b77081, o77082, none⟩) p0.Keys.length c76809, .slice A76812 p0.Kids.length c76813] 26 (0, 0))) :: F) x77101 p1 A77109 c77110 A76816 c76817 hc77114 e77113 hc76818 e76819 s hx77116) ?_)
                      intro X77119 hX77120
                      refine fun _ _ hJ => hJ X77119 ?_
                      clear s
                      intro I77121 w77117 s k77118
                      refine hX77120 _ _ ?_
                      replace e76819 := e76819.st k77118
                      replace e76811 := e76811.st k77118
                      replace e77090 := e77090.st k77118
                      replace e77113 := e77113.st k77118
                      replace e76807 := e76807.st k77118
                      replace e76815 := e76815.st k77118
                      replace kk := kk.trans k77118
                      refine RW.seg hT 4 [] [] [.bool (decide (x77115 > 0)), .bool (decide (x77115 > 0)), .bool (decide (x77115 > 0)), .bool (decide (x77115 > 0))] [] (by kernel_rfl) (trivial) ?_
                      refine RW.nil ?_
                      replace s := s.pick [] 1 rfl
                      exact fun X h => kc (by kernel_rfl) rfl (h I77121 (decide (x77115 > 0)) [(D76979.getD 0 undef), .slice A76816 p1.length c76817, .pointer (some ⟨b76821, 0, none⟩), (D76979.getD 1 undef), .int .i64 x76938, (D76979.getD 2 undef), (D76979.getD 3 undef), (D76979.getD 4 undef), (D76979.getD 5 undef), (D76979.getD 6 undef), (D76979.getD 7 undef), (D76979.getD 8 undef), (D76979.getD 9 undef), (D76979.getD 10 undef), (D76979.getD 11 undef), (D76979.getD 12 undef), (D76979.getD 13 undef), (D76979.getD 14 undef), (D76979.getD 15 undef), (D76979.getD 16 undef), (D76979.getD 17 undef), (D76979.getD 18 undef), (D76979.getD 19 undef), (D76979.getD 20 undef), (D76979.getD 21 undef), (D76979.getD 22 undef), (D76979.getD 23 undef), (D76979.getD 24 undef), (D76979.getD 25 undef), (D76979.getD 26 undef), (D76979.getD 27 undef), (D76979.getD 28 undef), (D76979.getD 29 undef), (D76979.getD 30 undef), (D76979.getD 31 undef), (D76979.getD 32 undef), (D76979.getD 33 undef), (D76979.getD 34 undef), (D76979.getD 35 undef), .bool x76980, .int .i64 x76938, .bool (decide (x76938 = 0)), .bool false, .pointer (some ⟨b76821, 2, none⟩), .slice (some ⟨b77081, o77082, none⟩) p0.Keys.length c76809, .int .i64 x76938, .int .i64 (IntKind.i64.wrap (x76938 - 1)), .pointer (some ⟨b77081, o77082 + (IntKind.i64.wrap (x76938 - 1)).toNat * 1, none⟩), .slice A77086 x77078.length c77087, .slice A76816 p1.length c76817, .int .i64 x77092, .bool (decide (x77092 ≤ 0)), .bool (decide (x77092 ≤ 0)), .bool true, .int .i64 x76938, .pointer (some ⟨b76821, 2, none⟩), .slice (some ⟨b77081, o77082, none⟩) p0.Keys.length c76809, .int .i64 (p0.Keys.length : Int), .bool (decide (x76938 = (p0.Keys.length : Int))), .bool false, .pointer (some ⟨b76821, 2, none⟩), .slice (some ⟨b77081, o77082, none⟩) p0.Keys.length c76809, .int .i64 x76938, .pointer (some ⟨b77081, o77082 + x76938.toNat * 1, none⟩), .slice A77109 x77101.length c77110, .slice A76816 p1.length c76817, .int .i64 x77115, .bool (decide (x77115 > 0)), .bool (decide (x77115 > 0)), .bool (decide (x77115 > 0))] _ hf s kk)
                  · have hf := iteF h77099 hf
                    refine RW.seg hT 18 [] [(54, .bool false)] [.bool false, undef, undef, undef, undef, undef, undef, undef, undef, undef, undef, undef, undef, undef, undef, undef, .bool false, .bool false] [.veq (.bool (decide (x77092 ≤ 0))) (.bool false)] (by kernel_rfl) (bo_f h77099) ?_
                    refine RW.nil ?_
                    replace s := s.pick [] 1 rfl
                    exact fun X h => kc (by kernel_rfl) rfl (h I77098 false [(D76979.getD 0 undef), .slice A76816 p1.length c76817, .pointer (some ⟨b76821, 0, none⟩), (D76979.getD 1 undef), .int .i64 x76938, (D76979.getD 2 undef), (D76979.getD 3 undef), (D76979.getD 4 undef), (D76979.getD 5 undef), (D76979.getD 6 undef), (D76979.getD 7 undef), (D76979.getD 8 undef), (D76979.getD 9 undef), (D76979.getD 10 undef), (D76979.getD 11 undef), (D76979.getD 12 undef), (D76979.getD 13 undef), (D76979.getD 14 undef), (D76979.getD 15 undef), (D76979.getD 16 undef), (D76979.getD 17 undef), (D76979.getD 18 undef), (D76979.getD 19 undef), (D76979.getD 20 undef), (D76979.getD 21 undef), (D76979.getD 22 undef), (D76979.getD 23 undef), (D76979.getD 24 undef), (D76979.getD 25 undef), (D76979.getD 26 undef), (D76979.getD 27 undef), (D76979.getD 28 undef), (D76979.getD 29 undef), (D76979.getD 30 undef), (D76979.getD 31 undef), (D76979.getD 32 undef), (D76979.getD 33 undef), (D76979.getD 34 undef), (D76979.getD 35 undef), .bool x76980, .int .i64 x76938, .bool (decide (x76938 = 0)), .bool false, .pointer (some ⟨b76821, 2, none⟩), .slice (some ⟨b77081, o77082, none⟩) p0.Keys.length c76809, .int .i64 x76938, .int .i64 (IntKind.i64.wrap (x76938 - 1)), .pointer (some ⟨b77081, o77082 + (IntKind.i64.wrap (x76938 - 1)).toNat * 1, none⟩), .slice A77086 x77078.length c77087, .slice A76816 p1.length c76817, .int .i64 x77092, .bool (decide (x77092 ≤ 0)), .bool (decide (x77092 ≤ 0)), .bool false, undef, undef, undef, undef, undef, undef, undef, undef, undef, undef, undef, undef, undef, undef, undef, .bool false] _ hf s kk)
          · refine WPK.region ?_
            refine RW.seg hT 2 [] [] [.int .i64 x76938, .bool (decide (x76938 < 0))] [] (by kernel_rfl) (trivial) ?_
            by_cases h77124 : x76938 < 0
            · have hf := iteT h77124 hf
              refine RW.seg hT 7 [] [(34, .bool true)] [.bool true, undef, undef, undef, undef, undef, .bool true] [.veq (.bool (decide (x76938 < 0))) (.bool true)] (by kernel_rfl) (bo_t h77124) ?_
              refine RW.nil ?_
              exact fun X h => kc (by kernel_rfl) rfl (h true [(D76970.getD 0 undef), (D76970.getD 1 undef), (D76970.getD 2 undef), (D76970.getD 3 undef), (D76970.getD 4 undef), (D76970.getD 5 undef), (D76970.getD 6 undef), (D76970.getD 7 undef), (D76970.getD 8 undef), (D76970.getD 9 undef), (D76970.getD 10 undef), (D76970.getD 11 undef), (D76970.getD 12 undef), (D76970.getD 13 undef), (D76970.getD 14 undef), (D76970.getD 15 undef), (D76970.getD 16 undef), (D76970.getD 17 undef), (D76970.getD 18 undef), (D76970.getD 19 undef), (D76970.getD 20 undef), (D76970.getD 21 undef), (D76970.getD 22 undef), (D76970.getD 23 undef), (D76970.getD 24 undef), .bool x76971, undef, undef, .int .i64 x76938, .bool (decide (x76938 < 0)), .bool true, undef, undef, undef, undef, undef] hf)
            · have hf := iteF h77124 hf
              refine RW.seg hT 7 [.slice A76812 p0.Kids.length c76813] [(34, .bool false)] [.bool false, .int .i64 x76938, .pointer (some ⟨b76821, 3, none⟩), .slice A76812 p0.Kids.length c76813, .int .i64 (p0.Kids.length : Int), .bool (decide (x76938 ≥ (p0.Kids.length : Int))), .bool (decide (x76938 ≥ (p0.Kids.length : Int)))] [.veq (.bool (decide (x76938 < 0))) (.bool false), .cell ⟨b76821, 3, none⟩ (.slice A76812 p0.Kids.length c76813)] (by kernel_rfl) (⟨bo_f h77124, s.cell (i := 0) (off := 3) rfl rfl⟩) ?_
              refine RW.nil ?_
              exact fun X h => kc (by kernel_rfl) rfl (h (decide (x76938 ≥ (p0.Kids.length : Int))) [(D76970.getD 0 undef), (D76970.getD 1 undef), (D76970.getD 2 undef), (D76970.getD 3 undef), (D76970.getD 4 undef), (D76970.getD 5 undef), (D76970.getD 6 undef), (D76970.getD 7 undef), (D76970.getD 8 undef), (D76970.getD 9 undef), (D76970.getD 10 undef), (D76970.getD 11 undef), (D76970.getD 12 undef), (D76970.getD 13 undef), (D76970.getD 14 undef), (D76970.getD 15 undef), (D76970.getD 16 undef), (D76970.getD 17 undef), (D76970.getD 18 undef), (D76970.getD 19 undef), (D76970.getD 20 undef), (D76970.getD 21 undef), (D76970.getD 22 undef), (D76970.getD 23 undef), (D76970.getD 24 undef), .bool x76971, undef, undef, .int .i64 x76938, .bool (decide (x76938 < 0)), .bool false, .int .i64 x76938, .pointer (some ⟨b76821, 3, none⟩), .slice A76812 p0.Kids.length c76813, .int .i64 (p0.Kids.length : Int), .bool (decide (x76938 ≥ (p0.Kids.length : Int)))] hf)
      · refine WPK.region ?_
        refine RW.seg hT 2 [.bool p0.Leaf] [] [.pointer (some ⟨b76821, 0, none⟩), .bool p0.Leaf] [.cell ⟨b76821, 0, none⟩ (.bool p0.Leaf)] (by kernel_rfl) (s.cell (i := 0) (off := 0) rfl rfl) ?_
        by_cases h77127 : p0.Leaf = true
        · have hf := iteT h77127 hf
          refine RW.seg hT 5 [] [(25, .bool true)] [.bool true, undef, undef, undef, .bool true] [.veq (.bool (p0.Leaf)) (.bool true)] (by kernel_rfl) (b_t h77127) ?_
          refine RW.nil ?_
          exact fun X h => kc (by kernel_rfl) rfl (h I76944 true [(D76926.getD 0 undef), (D76926.getD 1 undef), (D76926.getD 2 undef), (D76926.getD 3 undef), (D76926.getD 4 undef), (D76926.getD 5 undef), (D76926.getD 6 undef), (D76926.getD 7 undef), (D76926.getD 8 undef), (D76926.getD 9 undef), (D76926.getD 10 undef), (D76926.getD 11 undef), (D76926.getD 12 undef), (D76926.getD 13 undef), .bool x76927, undef, .agg #[.bool p0.Leaf, .slice A76804 p0.Pairs.length c76805, .slice A76808 p0.Keys.length c76809, .slice A76812 p0.Kids.length c76813], .slice A76816 p1.length c76817, .int .i64 x76938, .pointer (some ⟨b76821, 0, none⟩), .bool p0.Leaf, .bool true, undef, undef, undef] _ hf s kk e76819 e76807 e76811 e76815)
        · have hf := iteF h77127 hf
          refine RW.seg hT 2 [.agg #[.bool p0.Leaf, .slice A76804 p0.Pairs.length c76805, .slice A76808 p0.Keys.length c76809, .slice A76812 p0.Kids.length c76813]] [(25, .bool false)] [.bool false, .agg #[.bool p0.Leaf, .slice A76804 p0.Pairs.length c76805, .slice A76808 p0.Keys.length c76809, .slice A76812 p0.Kids.length c76813]] [.veq (.bool (p0.Leaf)) (.bool false), .cells ⟨b76821, 0, none⟩ [.bool p0.Leaf, .slice A76804 p0.Pairs.length c76805, .slice A76808 p0.Keys.length c76809, .slice A76812 p0.Kids.length c76813] 4] (by kernel_rfl) (⟨b_f h77127, s.cells (i := 0) rfl rfl rfl⟩) ?_
          obtain ⟨x77128, hx77129, hf⟩ := bindS hf
          refine RW.op (by kernel_rfl) (OK.call' en14 (by kernel_rfl) (c14 (F := (.blk b76821 (.cells #[.bool p0.Leaf, .slice A76804 p0.Pairs.length c76805, .slice A76808 p0.Keys.length c76809, .slice A76812 p0.Kids.length c76813] 26 (0, 0))) :: F) p0 A76804 c76805 A76808 c76809 A76812 c76813 hc76806 e76807 hc76810 e76811 hc76814 e76815 s hx77129) ?_)
          intro X77132 hX77133
          refine fun _ _ hJ => hJ X77132 ?_
          clear s
          intro I77134 w77130 s k77131
          refine hX77133 _ _ ?_
          replace e76819 := e76819.st k77131
          replace e76807 := e76807.st k77131
          replace e76811 := e76811.st k77131
          replace e76815 := e76815.st k77131
          replace kk := kk.trans k77131
          refine RW.seg hT 2 [] [(28, .bool (decide (x77128 = 0)))] [.bool (decide (x77128 = 0)), .bool (decide (x77128 = 0))] [.veq (.bool (x77128 == 0)) (.bool (decide (x77128 = 0)))] (by kernel_rfl) (eq_v) ?_
          refine RW.nil ?_
          exact fun X h => kc (by kernel_rfl) rfl (h I77134 (decide (x77128 = 0)) [(D76926.getD 0 undef), (D76926.getD 1 undef), (D76926.getD 2 undef), (D76926.getD 3 undef), (D76926.getD 4 undef), (D76926.getD 5 undef), (D76926.getD 6 undef), (D76926.getD 7 undef), (D76926.getD 8 undef), (D76926.getD 9 undef), (D76926.getD 10 undef), (D76926.getD 11 undef), (D76926.getD 12 undef), (D76926.getD 13 undef), .bool x76927, undef, .agg #[.bool p0.Leaf, .slice A76804 p0.Pairs.length c76805, .slice A76808 p0.Keys.length c76809, .slice A76812 p0.Kids.length c76813], .slice A76816 p1.length c76817, .int .i64 x76938, .pointer (some ⟨b76821, 0, none⟩), .bool p0.Leaf, .bool false, .agg #[.bool p0.Leaf, .slice A76804 p0.Pairs.length c76805, .slice A76808 p0.Keys.length c76809, .slice A76812 p0.Kids.length c76813], .int .i64 x77128, .bool (decide (x77128 = 0))] _ hf s kk e76819 e76807 e76811 e76815)
  · refine WPK.region ?_
    obtain ⟨x77137, hx77138, hf⟩ := bindS hf
    refine RW.op (by kernel_rfl) (OK.call' en11 (by kernel_rfl) (c11 (F := (.blk b76821 (.cells #[.bool p0.Leaf, .slice A76804 p0.Pairs.length c76805, .slice A76808 p0.Keys.length c76809, .slice A76812 p0.Kids.length c76813] 26 (0, 0))) :: F) s hx77138) ?_)
    intro X77141 hX77142
    refine fun _ _ hJ => hJ X77141 ?_
    clear s
    intro I77143 w77139 s k77140
    refine hX77142 _ _ ?_
    replace e76807 := e76807.st k77140
    replace e76811 := e76811.st k77140
    replace e76815 := e76815.st k77140
    replace e76819 := e76819.st k77140
    replace kk := kk.trans k77140
    refine RW.seg hT 1 [] [(7, .bool (decide (¬ (x77137 = true))))] [.bool (decide (¬ (x77137 = true)))] [.veq (.bool (!x77137)) (.bool (decide (¬ (x77137 = true))))] (by kernel_rfl) (not_b) ?_
    by_cases h77144 : ¬ (x77137 = true)
    · have hf := iteT h77144 hf
      refine RW.seg hT 11 [] [(8, .bool true)] [.bool true, undef, undef, undef, undef, .bool true, .bool true, undef, undef, undef, .bool true] [.veq (.bool (decide (¬ (x77137 = true)))) (.bool true)] (by kernel_rfl) (bo_t h77144) ?_
      refine RW.nil ?_
      exact fun X h => kc (by kernel_rfl) rfl (h I77143 true [.agg #[.bool p0.Leaf, .slice A76804 p0.Pairs.length c76805, .slice A76808 p0.Keys.length c76809, .slice A76812 p0.Kids.length c76813], undef, .bool x77137, .bool (decide (¬ (x77137 = true))), .bool true, undef, undef, undef, undef, .bool true, .bool true, undef, undef, undef] _ hf s kk e76819 e76807 e76811 e76815)
    · have hf := iteF h77144 hf
      refine RW.seg hT 2 [.agg #[.bool p0.Leaf, .slice A76804 p0.Pairs.length c76805, .slice A76808 p0.Keys.length c76809, .slice A76812 p0.Kids.length c76813]] [(8, .bool false)] [.bool false, .agg #[.bool p0.Leaf, .slice A76804 p0.Pairs.length c76805, .slice A76808 p0.Keys.length c76809, .slice A76812 p0.Kids.length c76813]] [.veq (.bool (decide (¬ (x77137 = true)))) (.bool false), .cells ⟨b76821, 0, none⟩ [.bool p0.Leaf, .slice A76804 p0.Pairs.length c76805, .slice A76808 p0.Keys.length c76809, .slice A76812 p0.Kids.length c76813] 4] (by kernel_rfl) (⟨bo_f h77144, s.cells (i := 0) rfl rfl rfl⟩) ?_
      refine RW.op (by kernel_rfl) (OK.new hT (f := fun b => .slice (some ⟨b, 0, none⟩) 1 1) (cs := [.bool p0.Leaf, .slice A76804 p0.Pairs.length c76805, .slice A76808 p0.Keys.length c76809, .slice A76812 p0.Kids.length c76813]) (e := 26) (c := .tt) s (by kernel_rfl) trivial ?_)
      clear s
      rintro w77145 b77146 s k77147 -
      replace e76807 := e76807.st k77147
      replace e76811 := e76811.st k77147
      replace e76815 := e76815.st k77147
      replace e76819 := e76819.st k77147
      replace kk := kk.trans k77147
      have rp77148 : RepL rp_T_api_Node I77143 w77145 [.bool p0.Leaf, .slice A76804 p0.Pairs.length c76805, .slice A76808 p0.Keys.length c76809, .slice A76812 p0.Kids.length c76813] ([p0] : List T_api_Node) := RepL.cons (c := [.bool p0.Leaf, .slice A76804 p0.Pairs.length c76805, .slice A76808 p0.Keys.length c76809, .slice A76812 p0.Kids.length c76813]) (d := []) (⟨[.bool p0.Leaf], [.slice A76804 p0.Pairs.length c76805, .slice A76808 p0.Keys.length c76809, .slice A76812 p0.Kids.length c76813], rfl, rfl, ⟨[.slice A76804 p0.Pairs.length c76805], [.slice A76808 p0.Keys.length c76809, .slice A76812 p0.Kids.length c76813], rfl, ⟨_, _, rfl, hc76806.1, hc76806.2, e76807⟩, ⟨[.slice A76808 p0.Keys.length c76809], [.slice A76812 p0.Kids.length c76813], rfl, ⟨_, _, rfl, hc76810.1, hc76810.2, e76811⟩, ⟨_, _, rfl, hc76814.1, hc76814.2, e76815⟩⟩⟩⟩) (RepL.nil)
      replace s : St w0 M I77143 ((.sl (.slice (some ⟨b77146, 0, none⟩) 1 1) 26 4 1 [.bool p0.Leaf, .slice A76804 p0.Pairs.length c76805, .slice A76808 p0.Keys.length c76809, .slice A76812 p0.Kids.length c76813]) :: (.blk b76821 (.cells #[.bool p0.Leaf, .slice A76804 p0.Pairs.length c76805, .slice A76808 p0.Keys.length c76809, .slice A76812 p0.Kids.length c76813] 26 (0, 0))) :: F) w77145 := s.blkSl (i := 0) (n := 1) (c := 1) (size := 4) rfl rfl (Nat.le_refl _) (by decide)
      have sa77150 := s
      obtain ⟨hc77151, e77152⟩ := St.lend s (i := 0) rfl rfl rp77148
      have k77153 := Kp.shut (I := I77143) (w := w77145) (p := .sl (.slice (some ⟨b77146, 0, none⟩) 1 1) 26 4 1 [.bool p0.Leaf, .slice A76804 p0.Pairs.length c76805, .slice A76808 p0.Keys.length c76809, .slice A76812 p0.Kids.length c76813])
      replace s := s.shut 0 rfl
      obtain ⟨x77154, hx77155, hf⟩ := bindS hf
      refine RW.op (by kernel_rfl) (OK.call' en12 (by kernel_rfl) (c12 (F := (.blk b76821 (.cells #[.bool p0.Leaf, .slice A76804 p0.Pairs.length c76805, .slice A76808 p0.Keys.length c76809, .slice A76812 p0.Kids.length c76813] 26 (0, 0))) :: F) ([p0] : List T_api_Node) (some ⟨b77146, 0, none⟩) 1 hc77151 e77152 s hx77155) ?_)
      intro X77158 hX77159
      refine fun _ _ hJ => hJ X77158 ?_
      clear s
      intro I77160 w77156 s k77157
      refine hX77159 _ _ ?_
      have s' := St.back sa77150 (i := 0) rfl s k77157
      replace k77157 := Kp.back sa77150 (i := 0) rfl k77157
      replace s := s'; clear s'
      obtain ⟨I77162, s, k77157⟩ : ∃ I : Nat → Prop, St w0 M I ((.sl (.slice (some ⟨b77146, 0, none⟩) 1 1) 26 4 1 [.bool p0.Leaf, .slice A76804 p0.Pairs.length c76805, .slice A76808 p0.Keys.length c76809, .slice A76812 p0.Kids.length c76813]) :: (.blk b76821 (.cells #[.bool p0.Leaf, .slice A76804 p0.Pairs.length c76805, .slice A76808 p0.Keys.length c76809, .slice A76812 p0.Kids.length c76813] 26 (0, 0))) :: F) w77156 ∧ Kp _ _ I _ := ⟨_, s, k77157⟩
      replace e76807 := e76807.st k77157
      replace e76811 := e76811.st k77157
      replace e76815 := e76815.st k77157
      replace e76819 := e76819.st k77157
      replace rp77148 := rp77148.st k77157
      replace kk := kk.trans k77157
      refine RW.seg hT 2 [] [(12, .bool (decide (¬ (x77154 = true))))] [.bool (decide (¬ (x77154 = true))), .bool (decide (¬ (x77154 = true)))] [.veq (.bool (!x77154)) (.bool (decide (¬ (x77154 = true))))] (by kernel_rfl) (not_b) ?_
      by_cases h77163 : ¬ (x77154 = true)
      · have hf := iteT h77163 hf
        refine RW.seg hT 5 [] [(14, .bool true)] [.bool true, undef, undef, undef, .bool true] [.veq (.bool (decide (¬ (x77154 = true)))) (.bool true)] (by kernel_rfl) (bo_t h77163) ?_
        refine RW.nil ?_
        replace s := s.pick [1] 2 rfl
        exact fun X h => kc (by kernel_rfl) rfl (h I77162 true [.agg #[.bool p0.Leaf, .slice A76804 p0.Pairs.length c76805, .slice A76808 p0.Keys.length c76809, .slice A76812 p0.Kids.length c76813], undef, .bool x77137, .bool (decide (¬ (x77137 = true))), .bool false, .agg #[.bool p0.Leaf, .slice A76804 p0.Pairs.length c76805, .slice A76808 p0.Keys.length c76809, .slice A76812 p0.Kids.length c76813], .slice (some ⟨b77146, 0, none⟩) 1 1, .bool x77154, .bool (decide (¬ (x77154 = true))), .bool (decide (¬ (x77154 = true))), .bool true, undef, undef, undef] _ hf s kk e76819 e76807 e76811 e76815)
      · have hf := iteF h77163 hf
        refine RW.seg hT 5 [] [(14, .bool false)] [.bool false, .slice A76816 p1.length c76817, .int .i64 (p1.length : Int), .bool (decide ((p1.length : Int) > 300)), .bool (decide ((p1.length : Int) > 300))] [.veq (.bool (decide (¬ (x77154 = true)))) (.bool false)] (by kernel_rfl) (bo_f h77163) ?_
        refine RW.nil ?_
        replace s := s.pick [1] 2 rfl
        exact fun X h => kc (by kernel_rfl) rfl (h I77162 (decide ((p1.length : Int) > 300)) [.agg #[.bool p0.Leaf, .slice A76804 p0.Pairs.length c76805, .slice A76808 p0.Keys.length c76809, .slice A76812 p0.Kids.length c76813], undef, .bool x77137, .bool (decide (¬ (x77137 = true))), .bool false, .agg #[.bool p0.Leaf, .slice A76804 p0.Pairs.length c76805, .slice A76808 p0.Keys.length c76809, .slice A76812 p0.Kids.length c76813], .slice (some ⟨b77146, 0, none⟩) 1 1, .bool x77154, .bool (decide (¬ (x77154 = true))), .bool (decide (¬ (x77154 = true))), .bool false, .slice A76816 p1.length c76817, .int .i64 (p1.length : Int), .bool (decide ((p1.length : Int) > 300))] _ hf s kk e76819 e76807 e76811 e76815)
end Go.Proofs.Ytefjbhogpgihaaa
