/- The law HeadSector: for every input that can be read the call returns true, and what was handed in reads as it did; under no condition but the row's own. -/
import Derived.Test.YtclnddebhjjpfaaDoorRows
import Derived.Test.YtclnddebhjjpfaaDoorTie
import Derived.Test.YtclnddebhjjpfaaDoorCards
import Derived.Test.YtclnddebhjjpfaaDoorW4
import Derived.Test.YtclnddebhjjpfaaDoorHSc
import Derived.WalkKit
import Derived.ProofKit
import Derived.OpenShut
import Derived.ShutString
import Derived.ChangeOld
import Derived.Below
import Derived.SizedLaws
import Derived.LaidLaws
import Derived.LaidHandle
import Derived.SevenTiedAt
namespace Go.Proofs.YtclnddebhjjpfaaDoor.headSector
open Go Go.SX Go.ChangeShapes Go.WideShapes Go.ChangeAt Go.RowKit
open Go.ChangeMaps (open_string shut_string)
set_option linter.unusedVariables false
set_option maxRecDepth 100000
theorem own : ownKnob Tryd.prog.godebug = none := by kernel_rfl
theorem laidOut : laidOutB Tryd.prog = true := by kernel_rfl
/-- A world that meets the condition. -/
noncomputable def laidWorld (os : Os) : World :=
  let w0 := World.holding Tryd.prog os ⟨#[], #[], []⟩
  { ({ ({ (w0) with heap := (w0).heap.modify 2 fun | .cells _ t frozen => .cells #[.int .u32 0, .int .u32 274646895, .int .u32 549293790, .int .u32 820201905, .int .u32 1098587580, .int .u32 1361435347, .int .u32 1640403810, .int .u32 1905808397, .int .u32 2197175160, .int .u32 2460548119, .int .u32 2722870694, .int .u32 2987750089, .int .u32 3280807620, .int .u32 3553878443, .int .u32 3811616794, .int .u32 4084100981] t frozen | o => o }) with heap := ({ (w0) with heap := (w0).heap.modify 2 fun | .cells _ t frozen => .cells #[.int .u32 0, .int .u32 274646895, .int .u32 549293790, .int .u32 820201905, .int .u32 1098587580, .int .u32 1361435347, .int .u32 1640403810, .int .u32 1905808397, .int .u32 2197175160, .int .u32 2460548119, .int .u32 2722870694, .int .u32 2987750089, .int .u32 3280807620, .int .u32 3553878443, .int .u32 3811616794, .int .u32 4084100981] t frozen | o => o }).heap.modify 1 fun | .cells _ t frozen => .cells #[.int .u8 128, .int .u8 191, .int .u8 160, .int .u8 191, .int .u8 128, .int .u8 159, .int .u8 144, .int .u8 191, .int .u8 128, .int .u8 143, .int .u8 0, .int .u8 0, .int .u8 0, .int .u8 0, .int .u8 0, .int .u8 0, .int .u8 0, .int .u8 0, .int .u8 0, .int .u8 0, .int .u8 0, .int .u8 0, .int .u8 0, .int .u8 0, .int .u8 0, .int .u8 0, .int .u8 0, .int .u8 0, .int .u8 0, .int .u8 0, .int .u8 0, .int .u8 0] t frozen | o => o }) with heap := ({ ({ (w0) with heap := (w0).heap.modify 2 fun | .cells _ t frozen => .cells #[.int .u32 0, .int .u32 274646895, .int .u32 549293790, .int .u32 820201905, .int .u32 1098587580, .int .u32 1361435347, .int .u32 1640403810, .int .u32 1905808397, .int .u32 2197175160, .int .u32 2460548119, .int .u32 2722870694, .int .u32 2987750089, .int .u32 3280807620, .int .u32 3553878443, .int .u32 3811616794, .int .u32 4084100981] t frozen | o => o }) with heap := ({ (w0) with heap := (w0).heap.modify 2 fun | .cells _ t frozen => .cells #[.int .u32 0, .int .u32 274646895, .int .u32 549293790, .int .u32 820201905, .int .u32 1098587580, .int .u32 1361435347, .int .u32 1640403810, .int .u32 1905808397, .int .u32 2197175160, .int .u32 2460548119, .int .u32 2722870694, .int .u32 2987750089, .int .u32 3280807620, .int .u32 3553878443, .int .u32 3811616794, .int .u32 4084100981] t frozen | o => o }).heap.modify 1 fun | .cells _ t frozen => .cells #[.int .u8 128, .int .u8 191, .int .u8 160, .int .u8 191, .int .u8 128, .int .u8 159, .int .u8 144, .int .u8 191, .int .u8 128, .int .u8 143, .int .u8 0, .int .u8 0, .int .u8 0, .int .u8 0, .int .u8 0, .int .u8 0, .int .u8 0, .int .u8 0, .int .u8 0, .int .u8 0, .int .u8 0, .int .u8 0, .int .u8 0, .int .u8 0, .int .u8 0, .int .u8 0, .int .u8 0, .int .u8 0, .int .u8 0, .int .u8 0, .int .u8 0, .int .u8 0] t frozen | o => o }).heap.modify 0 fun | .cells _ t frozen => .cells (List.map (fun n : Int => Value.int .u8 n) ([240, 240, 240, 240, 240, 240, 240, 240, 240, 240, 240, 240, 240, 240, 240, 240, 240, 240, 240, 240, 240, 240, 240, 240, 240, 240, 240, 240, 240, 240, 240, 240, 240, 240, 240, 240, 240, 240, 240, 240, 240, 240, 240, 240, 240, 240, 240, 240, 240, 240, 240, 240, 240, 240, 240, 240, 240, 240, 240, 240, 240, 240, 240, 240, 240, 240, 240, 240, 240, 240, 240, 240, 240, 240, 240, 240, 240, 240, 240, 240, 240, 240, 240, 240, 240, 240, 240, 240, 240, 240, 240, 240, 240, 240, 240, 240, 240, 240, 240, 240, 240, 240, 240, 240, 240, 240, 240, 240, 240, 240, 240, 240, 240, 240, 240, 240, 240, 240, 240, 240, 240, 240, 240, 240, 240, 240, 240, 240, 241, 241, 241, 241, 241, 241, 241, 241, 241, 241, 241, 241, 241, 241, 241, 241, 241, 241, 241, 241, 241, 241, 241, 241, 241, 241, 241, 241, 241, 241, 241, 241, 241, 241, 241, 241, 241, 241, 241, 241, 241, 241, 241, 241, 241, 241, 241, 241, 241, 241, 241, 241, 241, 241, 241, 241, 241, 241, 241, 241, 241, 241, 241, 241, 241, 241, 2, 2, 2, 2, 2, 2, 2, 2, 2, 2, 2, 2, 2, 2, 2, 2, 2, 2, 2, 2, 2, 2, 2, 2, 2, 2, 2, 2, 2, 2, 19, 3, 3, 3, 3, 3, 3, 3, 3, 3, 3, 3, 3, 35, 3, 3, 52, 4, 4, 4, 68, 241, 241, 241, 241, 241, 241, 241, 241, 241, 241, 241] : List Int)).toArray t frozen | o => o }
theorem laidWorld_met (os : Os) (args : Array Value) : laidMetH Tryd.prog Rows.headSectorRow.laid ((laidWorld os).forCall (fun _ _ => 0) ⟨#[], args, []⟩).memory := by
  rw [laidH _ _ _ (by kernel_rfl)]
  exact laidMet_of_run' 8 (by kernel_rfl) (by kernel_rfl)
set_option maxHeartbeats 2000000 in
theorem lifted (os : Os) (started : os.Started) (H : Type) (enc : TypeId × Value → H) :
    ReturnsInHanded {} Tryd.checked os 8 .any (fun w args => (Rows.headSectorSpec.pre enc Tryd.prog Tryd.f8 [] false w args ∧ laidMetH Tryd.prog Rows.headSectorRow.laid w) ∧ sizedMet enc Tryd.prog Tryd.f8 (OpenSpec.ofChange Rows.headSectorSpec) false w args)
      (Rows.headSectorSpec.post enc Tryd.prog Tryd.f8 false true false false) := by
  refine returnsInHanded_of_change_and (C := Tryd.checked) (X := fun w _ => laidMetH Tryd.prog Rows.headSectorRow.laid w) (fun _ _ _ hh h => by have h' := (laidH _ _ _ (by kernel_rfl)).mp h; exact (laidH _ _ _ (by kernel_rfl)).mpr (h'.of_heap hh)) own started (by kernel_rfl) Tryd.func8
    (ChangeSpec.witness_at (enc := enc) (C := Tryd.checked) (os := os) (X := fun w _ => laidMetH Tryd.prog Rows.headSectorRow.laid w) false (laidWorld os) #[(.agg #[(.int .u64 0), (.int .i64 0), (.slice none 0 0), (.slice none 0 0)]), (.agg #[(.int .u64 0), (.int .i64 0), (.slice none 0 0), (.slice none 0 0)]), .int .u8 0] 8 rfl (by kernel_rfl) (by kernel_rfl) (by kernel_rfl) (by kernel_rfl) (by kernel_rfl) (laidWorld_met os _)) ?_
  intro W base args ds gs before hval0 hW _ hsz0 hL _
  have hval : ∀ (j : Nat) t v, Tryd.f8.params[j]? = some t → args[j]? = some v → Value.okWide Tryd.prog W .any base t v := hval0
  have hW' := hW
  obtain ⟨p, q, hA0, hV, rfl, hfz, hnd⟩ := hW
  have hA : DataW.TrodAll enc Tryd.prog W 0 (fun _ => true) true Tryd.f8.params.toList args.toList ds p := hA0
  rw [Tryd.params8] at hA
  obtain ⟨v0, vs0, d0, ds0, p0, q0, hargs, rfl, rfl, h0, r0⟩ := trodAll_cons hA
  obtain ⟨v1, vs1, d1, ds1, p1, q1, rfl, rfl, rfl, h1, r1⟩ := trodAll_cons r0
  obtain ⟨v2, vs2, d2, ds2, p2, q2, rfl, rfl, rfl, h2, r2⟩ := trodAll_cons r1
  obtain ⟨rfl, rfl, rfl⟩ := trodAll_nil r2
  obtain rfl : args = #[v0, v1, v2] := by cases args; simp_all
  obtain ⟨rfl, rfl⟩ := trodVars_none hV
  have k0 := h0
  have lt0 : ∀ x ∈ p0, x.block < W.heap.size := by obtain ⟨m, hm⟩ := k0; exact DataW.trod_lt m _ _ _ hm
  obtain ⟨x0, y0, ok0⟩ := Opens.arg (Opens.struct (fun x : T_api_Head => (x.Epoch, x.Pages, x.Maps, x.User)) (fun x => ⟨x.1, x.2.1, x.2.2.1, x.2.2.2⟩) (fun _ => rfl) (fs := [(0, 25), (1, 3), (2, 26), (3, 24)]) (by kernel_rfl) (by kernel_rfl) (OpensF.cons (m := 1) (by kernel_rfl) (Opens.int (k := .u64) (by kernel_rfl)) rfl (OpensF.cons (m := 2) (by kernel_rfl) (Opens.int (k := .i64) (by kernel_rfl)) rfl (OpensF.cons (m := 3) (by kernel_rfl) (Opens.slice (e := 3) (by kernel_rfl) (by kernel_rfl) (by decide) (Opens.int (k := .i64) (by kernel_rfl))) rfl (OpensF.one (by kernel_rfl) (Opens.slice (e := 5) (by kernel_rfl) (by kernel_rfl) (by decide) (Opens.int (k := .u8) (by kernel_rfl)))))))) k0
  obtain ⟨ca0, rfl, -⟩ := okWide_struct Tryd.underlying28 (hval 0 28 v0 rfl rfl)
  obtain ⟨l0, hl0⟩ : ∃ l, ca0.toList = l := ⟨_, rfl⟩
  have y0 : rp_T_api_Head.rep (All W) W l0 x0 := by rw [← hl0]; exact y0
  obtain ⟨cs0_1, cs0_2, rfl, h0_3, h0_4⟩ := y0
  obtain rfl : cs0_1 = [.int .u64 x0.Epoch] := h0_3
  obtain ⟨cs0_5, cs0_6, rfl, h0_7, h0_8⟩ := h0_4
  obtain rfl : cs0_5 = [.int .i64 x0.Pages] := h0_7
  obtain ⟨cs0_9, cs0_10, rfl, h0_11, h0_12⟩ := h0_8
  obtain ⟨A0_13, C0_14, rfl, hc0_15, hm0_16, el0_17⟩ := h0_11
  obtain ⟨A0_18, C0_19, rfl, hc0_20, hm0_21, el0_22⟩ := h0_12
  obtain rfl : ca0 = #[.int .u64 x0.Epoch, .int .i64 x0.Pages, .slice A0_13 x0.Maps.length C0_14, .slice A0_18 x0.User.length C0_19] := Array.ext' hl0
  have k1 := h1
  have lt1 : ∀ x ∈ p1, x.block < W.heap.size := by obtain ⟨m, hm⟩ := k1; exact DataW.trod_lt m _ _ _ hm
  obtain ⟨x1, y1, ok1⟩ := Opens.arg (Opens.struct (fun x : T_api_Head => (x.Epoch, x.Pages, x.Maps, x.User)) (fun x => ⟨x.1, x.2.1, x.2.2.1, x.2.2.2⟩) (fun _ => rfl) (fs := [(0, 25), (1, 3), (2, 26), (3, 24)]) (by kernel_rfl) (by kernel_rfl) (OpensF.cons (m := 1) (by kernel_rfl) (Opens.int (k := .u64) (by kernel_rfl)) rfl (OpensF.cons (m := 2) (by kernel_rfl) (Opens.int (k := .i64) (by kernel_rfl)) rfl (OpensF.cons (m := 3) (by kernel_rfl) (Opens.slice (e := 3) (by kernel_rfl) (by kernel_rfl) (by decide) (Opens.int (k := .i64) (by kernel_rfl))) rfl (OpensF.one (by kernel_rfl) (Opens.slice (e := 5) (by kernel_rfl) (by kernel_rfl) (by decide) (Opens.int (k := .u8) (by kernel_rfl)))))))) k1
  obtain ⟨ca1, rfl, -⟩ := okWide_struct Tryd.underlying28 (hval 1 28 v1 rfl rfl)
  obtain ⟨l1, hl1⟩ : ∃ l, ca1.toList = l := ⟨_, rfl⟩
  have y1 : rp_T_api_Head.rep (All W) W l1 x1 := by rw [← hl1]; exact y1
  obtain ⟨cs1_1, cs1_2, rfl, h1_3, h1_4⟩ := y1
  obtain rfl : cs1_1 = [.int .u64 x1.Epoch] := h1_3
  obtain ⟨cs1_5, cs1_6, rfl, h1_7, h1_8⟩ := h1_4
  obtain rfl : cs1_5 = [.int .i64 x1.Pages] := h1_7
  obtain ⟨cs1_9, cs1_10, rfl, h1_11, h1_12⟩ := h1_8
  obtain ⟨A1_13, C1_14, rfl, hc1_15, hm1_16, el1_17⟩ := h1_11
  obtain ⟨A1_18, C1_19, rfl, hc1_20, hm1_21, el1_22⟩ := h1_12
  obtain rfl : ca1 = #[.int .u64 x1.Epoch, .int .i64 x1.Pages, .slice A1_13 x1.Maps.length C1_14, .slice A1_18 x1.User.length C1_19] := Array.ext' hl1
  have k2 := h2
  have lt2 : ∀ x ∈ p2, x.block < W.heap.size := by obtain ⟨m, hm⟩ := k2; exact DataW.trod_lt m _ _ _ hm
  obtain ⟨x2, y2, ok2⟩ := Opens.arg (Opens.int (k := .u8) (by kernel_rfl)) k2
  obtain ⟨b2, rfl, rfl, rfl, _⟩ := open_int Tryd.underlying5 (hval 2 5 v2 rfl rfl) h2
  obtain rfl : b2 = x2 := by have e : [Value.int .u8 b2] = [Value.int .u8 x2] := y2; cases e; rfl
  have s0 : St W (fun _ => False) (All W) [] W := St.start fun b hb => hb
  replace hL := (laidH _ _ _ (by kernel_rfl)).mp hL
  have eg2 : Elems (Rp.int .u32) (All W) W (some ⟨2, 0, none⟩) TAB2 := laid_tab (name := "incipit/crc.table") (t := 122) (e := 103) (N := 16) hL (List.mem_of_getElem? (i := 0) (by kernel_rfl)) (by kernel_rfl) (by kernel_rfl) (by kernel_rfl) (by kernel_rfl) (by kernel_rfl) (by kernel_rfl)
  have pure := Pure.HeadSector x0 x1 b2 ok0 ok1 ok2
  refine (Ret.law (c8 (F := []) x0 x1 b2 _ _ _ _ _ _ _ _ ⟨hc0_15, hm0_16⟩ el0_17 ⟨hc0_20, hm0_21⟩ el0_22 ⟨hc1_15, hm1_16⟩ el1_17 ⟨hc1_20, hm1_21⟩ el1_22 eg2 s0 pure)).mono fun e W' ⟨he, bel⟩ => ?_
  subst he
  exact ⟨_, rfl, _, _, _, [], _, [], hW', trodAll_mk1 (shut_bool Tryd.underlying4 _), (trodAll_cons_mk (Below.trod laidOut (by kernel_rfl) (of_decide_eq_true (by kernel_rfl)) k0 bel lt0) (trodAll_cons_mk (Below.trod laidOut (by kernel_rfl) (of_decide_eq_true (by kernel_rfl)) k1 bel lt1) (trodAll_cons_mk (Below.trod laidOut (by kernel_rfl) (of_decide_eq_true (by kernel_rfl)) k2 bel lt2) trodAll_mk0))), rfl, bel.frame _, fun h => by cases h⟩
theorem over : Rows.headSectorRow.holds Tryd.pinned (OpenSpec.ofChange Rows.headSectorSpec) :=
  OpenClaim.holds_of_wide 8 Tryd.f8 rfl rfl rfl rfl rfl rfl rfl ⟨rfl, rfl, rfl, rfl, rfl⟩ rfl rfl rfl rfl rfl (by kernel_rfl) Tryd.func8 (by kernel_rfl)
    (of_decide_eq_true (by kernel_rfl)) (by unfold Func.isWrapper; first | (rw [if_pos (by decide +kernel)]; kernel_rfl) | (rw [if_neg (by decide +kernel)]; exact ⟨rfl, rfl⟩))
    (fun os started H enc _ => lifted os started H enc)
theorem card_holds : Rows.HeadSectorCardSaid :=
  Claim7.holds_tied_plain_at .later [] [.data, .data, .pinned] true (true, "17decc210ad5e0ac3b203bf3b7e0953658b7bfb04dc4c5df98f52c216562629a") false
    over (fun _ h => by cases h) (by kernel_rfl) (fun _ h => by cases h) headSector_row_tie rfl ⟨rfl, rfl⟩ (by kernel_rfl) rfl
    (fun f fn hf hfn => by
      obtain rfl : f = 8 := Option.some.inj ((show Tryd.prog.funcNamed "incipit/incipitlaw06.HeadSector" = some 8 by kernel_rfl).symm.trans hf) |>.symm
      obtain rfl : fn = Tryd.f8 := (Option.some.inj (Tryd.func8.symm.trans hfn)).symm
      exact ⟨by kernel_rfl, fun j t ht => by
        rw [Tryd.params8] at ht
        have : t ∈ ([28, 28, 5] : List Nat) := by
          have := List.mem_of_getElem? (by simpa using ht : ([28, 28, 5] : List Nat)[j]? = some t)
          exact this
        have all : ∀ u ∈ ([28, 28, 5] : List Nat), Tryd.prog.wantsStandIn u = false := by
          intro u hu
          simp only [List.mem_cons, List.not_mem_nil, or_false] at hu
          rcases hu with rfl | rfl | rfl
          all_goals kernel_rfl
        exact all t this⟩)
    (by kernel_rfl)
#print axioms card_holds
end Go.Proofs.YtclnddebhjjpfaaDoor.headSector
namespace Go.Proofs.YtclnddebhjjpfaaDoor
theorem headSector_holds : Rows.HeadSectorCardSaid := headSector.card_holds
end Go.Proofs.YtclnddebhjjpfaaDoor
