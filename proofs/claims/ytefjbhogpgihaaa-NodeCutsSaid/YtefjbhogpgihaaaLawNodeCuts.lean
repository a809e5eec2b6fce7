/- The law NodeCuts: for every input that can be read the call returns true, and what was handed in reads as it did; under no condition but the row's own. -/
import Derived.Test.YtefjbhogpgihaaaRows
import Derived.Test.YtefjbhogpgihaaaW8
import Derived.Test.YtefjbhogpgihaaaNodeCuts
import Derived.WalkKit
import Derived.ProofKit
import Derived.OpenShut
import Derived.ShutString
import Derived.ChangeOld
import Derived.Below
import Derived.SizedLaws
import Derived.LaidLaws
import Derived.LaidHandle
namespace Go.Proofs.Ytefjbhogpgihaaa.nodeCuts
open Go Go.SX Go.ChangeShapes Go.WideShapes Go.ChangeAt Go.RowKit
open Go.ChangeMaps (open_string shut_string)
set_option linter.unusedVariables false
set_option maxRecDepth 100000
theorem own : ownKnob Try.prog.godebug = none := by kernel_rfl
theorem laidOut : laidOutB Try.prog = true := by kernel_rfl
set_option maxHeartbeats 2000000 in
theorem lifted (os : Os) (started : os.Started) (H : Type) (enc : TypeId × Value → H) :
    ReturnsInHanded {} Try.checked os 7 .any (Rows.nodeCutsSpec.pre6 enc Try.prog Try.f7 Rows.nodeCutsRow.domain false) (Rows.nodeCutsSpec.post enc Try.prog Try.f7 false true false false) := by
  refine returnsInHanded_of_change_sized (C := Try.checked) own started (by kernel_rfl) Try.func7
    (ChangeSpec.witness6 (enc := enc) (C := Try.checked) false ⟨#[], #[(.agg #[(.bool false), (.slice none 0 0), (.slice none 0 0), (.slice none 0 0)]), (.agg #[(.bool false), (.slice none 0 0), (.slice none 0 0), (.slice none 0 0)]), (.agg #[(.bool false), (.slice none 0 0), (.slice none 0 0), (.slice none 0 0)]), .slice none 0 0], []⟩ 8 (by kernel_rfl) (by kernel_rfl) (by kernel_rfl) (by kernel_rfl)) ?_
  intro W base args ds gs before hval0 hW hcnd hsz0 _
  have hval : ∀ (j : Nat) t v, Try.f7.params[j]? = some t → args[j]? = some v → Value.okWide Try.prog W .any base t v := hval0
  have hW' := hW
  obtain ⟨p, q, hA0, hV, rfl, hfz, hnd⟩ := hW
  have hA : DataW.TrodAll enc Try.prog W 0 (fun _ => true) true Try.f7.params.toList args.toList ds p := hA0
  rw [Try.params7] at hA
  obtain ⟨v0, vs0, d0, ds0, p0, q0, hargs, rfl, rfl, h0, r0⟩ := trodAll_cons hA
  obtain ⟨v1, vs1, d1, ds1, p1, q1, rfl, rfl, rfl, h1, r1⟩ := trodAll_cons r0
  obtain ⟨v2, vs2, d2, ds2, p2, q2, rfl, rfl, rfl, h2, r2⟩ := trodAll_cons r1
  obtain ⟨v3, vs3, d3, ds3, p3, q3, rfl, rfl, rfl, h3, r3⟩ := trodAll_cons r2
  obtain ⟨rfl, rfl, rfl⟩ := trodAll_nil r3
  obtain rfl : args = #[v0, v1, v2, v3] := by cases args; simp_all
  obtain ⟨rfl, rfl⟩ := trodVars_none hV
  have k0 := h0
  have lt0 : ∀ x ∈ p0, x.block < W.heap.size := by obtain ⟨m, hm⟩ := k0; exact DataW.trod_lt m _ _ _ hm
  obtain ⟨x0, y0, ok0⟩ := Opens.arg (Opens.struct (fun x : T_api_Node => (x.Leaf, x.Pairs, x.Keys, x.Kids)) (fun x => ⟨x.1, x.2.1, x.2.2.1, x.2.2.2⟩) (fun _ => rfl) (fs := [(0, 4), (1, 22), (2, 23), (3, 24)]) (by kernel_rfl) (by kernel_rfl) (OpensF.cons (m := 1) (by kernel_rfl) (Opens.bool (by kernel_rfl)) rfl (OpensF.cons (m := 2) (by kernel_rfl) (Opens.slice (e := 48) (by kernel_rfl) (by kernel_rfl) (by decide) (Opens.struct (fun x : T_api_Pair => (x.Key, x.Val)) (fun x => ⟨x.1, x.2⟩) (fun _ => rfl) (fs := [(0, 27), (1, 27)]) (by kernel_rfl) (by kernel_rfl) (OpensF.cons (m := 1) (by kernel_rfl) (Opens.slice (e := 5) (by kernel_rfl) (by kernel_rfl) (by decide) (Opens.int (k := .u8) (by kernel_rfl))) rfl (OpensF.one (by kernel_rfl) (Opens.slice (e := 5) (by kernel_rfl) (by kernel_rfl) (by decide) (Opens.int (k := .u8) (by kernel_rfl))))))) rfl (OpensF.cons (m := 3) (by kernel_rfl) (Opens.slice (e := 27) (by kernel_rfl) (by kernel_rfl) (by decide) (Opens.slice (e := 5) (by kernel_rfl) (by kernel_rfl) (by decide) (Opens.int (k := .u8) (by kernel_rfl)))) rfl (OpensF.one (by kernel_rfl) (Opens.slice (e := 3) (by kernel_rfl) (by kernel_rfl) (by decide) (Opens.int (k := .i64) (by kernel_rfl)))))))) k0
  obtain ⟨ca0, rfl, -⟩ := okWide_struct Try.underlying26 (hval 0 26 v0 rfl rfl)
  obtain ⟨l0, hl0⟩ : ∃ l, ca0.toList = l := ⟨_, rfl⟩
  have y0 : rp_T_api_Node.rep (All W) W l0 x0 := by rw [← hl0]; exact y0
  obtain ⟨cs0_1, cs0_2, rfl, h0_3, h0_4⟩ := y0
  obtain rfl : cs0_1 = [.bool x0.Leaf] := h0_3
  obtain ⟨cs0_5, cs0_6, rfl, h0_7, h0_8⟩ := h0_4
  obtain ⟨A0_9, C0_10, rfl, hc0_11, hm0_12, el0_13⟩ := h0_7
  obtain ⟨cs0_14, cs0_15, rfl, h0_16, h0_17⟩ := h0_8
  obtain ⟨A0_18, C0_19, rfl, hc0_20, hm0_21, el0_22⟩ := h0_16
  obtain ⟨A0_23, C0_24, rfl, hc0_25, hm0_26, el0_27⟩ := h0_17
  obtain rfl : ca0 = #[.bool x0.Leaf, .slice A0_9 x0.Pairs.length C0_10, .slice A0_18 x0.Keys.length C0_19, .slice A0_23 x0.Kids.length C0_24] := Array.ext' hl0
  have k1 := h1
  have lt1 : ∀ x ∈ p1, x.block < W.heap.size := by obtain ⟨m, hm⟩ := k1; exact DataW.trod_lt m _ _ _ hm
  obtain ⟨x1, y1, ok1⟩ := Opens.arg (Opens.struct (fun x : T_api_Node => (x.Leaf, x.Pairs, x.Keys, x.Kids)) (fun x => ⟨x.1, x.2.1, x.2.2.1, x.2.2.2⟩) (fun _ => rfl) (fs := [(0, 4), (1, 22), (2, 23), (3, 24)]) (by kernel_rfl) (by kernel_rfl) (OpensF.cons (m := 1) (by kernel_rfl) (Opens.bool (by kernel_rfl)) rfl (OpensF.cons (m := 2) (by kernel_rfl) (Opens.slice (e := 48) (by kernel_rfl) (by kernel_rfl) (by decide) (Opens.struct (fun x : T_api_Pair => (x.Key, x.Val)) (fun x => ⟨x.1, x.2⟩) (fun _ => rfl) (fs := [(0, 27), (1, 27)]) (by kernel_rfl) (by kernel_rfl) (OpensF.cons (m := 1) (by kernel_rfl) (Opens.slice (e := 5) (by kernel_rfl) (by kernel_rfl) (by decide) (Opens.int (k := .u8) (by kernel_rfl))) rfl (OpensF.one (by kernel_rfl) (Opens.slice (e := 5) (by kernel_rfl) (by kernel_rfl) (by decide) (Opens.int (k := .u8) (by kernel_rfl))))))) rfl (OpensF.cons (m := 3) (by kernel_rfl) (Opens.slice (e := 27) (by kernel_rfl) (by kernel_rfl) (by decide) (Opens.slice (e := 5) (by kernel_rfl) (by kernel_rfl) (by decide) (Opens.int (k := .u8) (by kernel_rfl)))) rfl (OpensF.one (by kernel_rfl) (Opens.slice (e := 3) (by kernel_rfl) (by kernel_rfl) (by decide) (Opens.int (k := .i64) (by kernel_rfl)))))))) k1
  obtain ⟨ca1, rfl, -⟩ := okWide_struct Try.underlying26 (hval 1 26 v1 rfl rfl)
  obtain ⟨l1, hl1⟩ : ∃ l, ca1.toList = l := ⟨_, rfl⟩
  have y1 : rp_T_api_Node.rep (All W) W l1 x1 := by rw [← hl1]; exact y1
  obtain ⟨cs1_1, cs1_2, rfl, h1_3, h1_4⟩ := y1
  obtain rfl : cs1_1 = [.bool x1.Leaf] := h1_3
  obtain ⟨cs1_5, cs1_6, rfl, h1_7, h1_8⟩ := h1_4
  obtain ⟨A1_9, C1_10, rfl, hc1_11, hm1_12, el1_13⟩ := h1_7
  obtain ⟨cs1_14, cs1_15, rfl, h1_16, h1_17⟩ := h1_8
  obtain ⟨A1_18, C1_19, rfl, hc1_20, hm1_21, el1_22⟩ := h1_16
  obtain ⟨A1_23, C1_24, rfl, hc1_25, hm1_26, el1_27⟩ := h1_17
  obtain rfl : ca1 = #[.bool x1.Leaf, .slice A1_9 x1.Pairs.length C1_10, .slice A1_18 x1.Keys.length C1_19, .slice A1_23 x1.Kids.length C1_24] := Array.ext' hl1
  have k2 := h2
  have lt2 : ∀ x ∈ p2, x.block < W.heap.size := by obtain ⟨m, hm⟩ := k2; exact DataW.trod_lt m _ _ _ hm
  obtain ⟨x2, y2, ok2⟩ := Opens.arg (Opens.struct (fun x : T_api_Node => (x.Leaf, x.Pairs, x.Keys, x.Kids)) (fun x => ⟨x.1, x.2.1, x.2.2.1, x.2.2.2⟩) (fun _ => rfl) (fs := [(0, 4), (1, 22), (2, 23), (3, 24)]) (by kernel_rfl) (by kernel_rfl) (OpensF.cons (m := 1) (by kernel_rfl) (Opens.bool (by kernel_rfl)) rfl (OpensF.cons (m := 2) (by kernel_rfl) (Opens.slice (e := 48) (by kernel_rfl) (by kernel_rfl) (by decide) (Opens.struct (fun x : T_api_Pair => (x.Key, x.Val)) (fun x => ⟨x.1, x.2⟩) (fun _ => rfl) (fs := [(0, 27), (1, 27)]) (by kernel_rfl) (by kernel_rfl) (OpensF.cons (m := 1) (by kernel_rfl) (Opens.slice (e := 5) (by kernel_rfl) (by kernel_rfl) (by decide) (Opens.int (k := .u8) (by kernel_rfl))) rfl (OpensF.one (by kernel_rfl) (Opens.slice (e := 5) (by kernel_rfl) (by kernel_rfl) (by decide) (Opens.int (k := .u8) (by kernel_rfl))))))) rfl (OpensF.cons (m := 3) (by kernel_rfl) (Opens.slice (e := 27) (by kernel_rfl) (by kernel_rfl) (by decide) (Opens.slice (e := 5) (by kernel_rfl) (by kernel_rfl) (by decide) (Opens.int (k := .u8) (by kernel_rfl)))) rfl (OpensF.one (by kernel_rfl) (Opens.slice (e := 3) (by kernel_rfl) (by kernel_rfl) (by decide) (Opens.int (k := .i64) (by kernel_rfl)))))))) k2
  obtain ⟨ca2, rfl, -⟩ := okWide_struct Try.underlying26 (hval 2 26 v2 rfl rfl)
  obtain ⟨l2, hl2⟩ : ∃ l, ca2.toList = l := ⟨_, rfl⟩
  have y2 : rp_T_api_Node.rep (All W) W l2 x2 := by rw [← hl2]; exact y2
  obtain ⟨cs2_1, cs2_2, rfl, h2_3, h2_4⟩ := y2
  obtain rfl : cs2_1 = [.bool x2.Leaf] := h2_3
  obtain ⟨cs2_5, cs2_6, rfl, h2_7, h2_8⟩ := h2_4
  obtain ⟨A2_9, C2_10, rfl, hc2_11, hm2_12, el2_13⟩ := h2_7
  obtain ⟨cs2_14, cs2_15, rfl, h2_16, h2_17⟩ := h2_8
  obtain ⟨A2_18, C2_19, rfl, hc2_20, hm2_21, el2_22⟩ := h2_16
  obtain ⟨A2_23, C2_24, rfl, hc2_25, hm2_26, el2_27⟩ := h2_17
  obtain rfl : ca2 = #[.bool x2.Leaf, .slice A2_9 x2.Pairs.length C2_10, .slice A2_18 x2.Keys.length C2_19, .slice A2_23 x2.Kids.length C2_24] := Array.ext' hl2
  have k3 := h3
  have lt3 : ∀ x ∈ p3, x.block < W.heap.size := by obtain ⟨m, hm⟩ := k3; exact DataW.trod_lt m _ _ _ hm
  obtain ⟨x3, y3, ok3⟩ := Opens.arg (Opens.slice (e := 5) (by kernel_rfl) (by kernel_rfl) (by decide) (Opens.int (k := .u8) (by kernel_rfl))) k3
  obtain ⟨a3, n3, c3, rfl⟩ := okWide_slice Try.underlying27 (hval 3 27 v3 rfl rfl)
  obtain ⟨A3, C3, e3, hc3, hm3, el3⟩ := y3
  simp only [Value.cells, List.cons.injEq, and_true, Value.slice.injEq] at e3
  obtain ⟨rfl, rfl, rfl⟩ := e3
  have s0 : St W (fun _ => False) (All W) [] W := St.start fun b hb => hb
  have pure := Pure.NodeCuts x0 x1 x2 x3 ok0 ok1 ok2 ok3
  refine (Ret.law (c7 (F := []) x0 x1 x2 x3 _ _ _ _ _ _ _ _ _ _ _ _ _ _ _ _ _ _ _ _ ⟨hc0_11, hm0_12⟩ el0_13 ⟨hc0_20, hm0_21⟩ el0_22 ⟨hc0_25, hm0_26⟩ el0_27 ⟨hc1_11, hm1_12⟩ el1_13 ⟨hc1_20, hm1_21⟩ el1_22 ⟨hc1_25, hm1_26⟩ el1_27 ⟨hc2_11, hm2_12⟩ el2_13 ⟨hc2_20, hm2_21⟩ el2_22 ⟨hc2_25, hm2_26⟩ el2_27 ⟨hc3, hm3⟩ el3 s0 pure)).mono fun e W' ⟨he, bel⟩ => ?_
  subst he
  exact ⟨_, rfl, _, _, _, [], _, [], hW', trodAll_mk1 (shut_bool Try.underlying4 _), (trodAll_cons_mk (Below.trod laidOut (by kernel_rfl) (of_decide_eq_true (by kernel_rfl)) k0 bel lt0) (trodAll_cons_mk (Below.trod laidOut (by kernel_rfl) (of_decide_eq_true (by kernel_rfl)) k1 bel lt1) (trodAll_cons_mk (Below.trod laidOut (by kernel_rfl) (of_decide_eq_true (by kernel_rfl)) k2 bel lt2) (trodAll_cons_mk (Below.trod laidOut (by kernel_rfl) (of_decide_eq_true (by kernel_rfl)) k3 bel lt3) trodAll_mk0)))), rfl, bel.frame _, fun h => by cases h⟩
theorem over : Rows.nodeCutsRow.holds Try.pinned (OpenSpec.ofChange Rows.nodeCutsSpec) :=
  OpenClaim.holds_of_wide 7 Try.f7 rfl rfl rfl rfl rfl rfl rfl ⟨rfl, rfl, rfl, rfl, rfl⟩ rfl rfl rfl rfl rfl (by kernel_rfl) Try.func7 (by kernel_rfl)
    (of_decide_eq_true (by kernel_rfl)) (by unfold Func.isWrapper; first | (rw [if_pos (by decide +kernel)]; kernel_rfl) | (rw [if_neg (by decide +kernel)]; exact ⟨rfl, rfl⟩))
    (fun os started H enc _ => lifted os started H enc)
theorem proved : Rows.NodeCutsSaid := over
#print axioms proved
end Go.Proofs.Ytefjbhogpgihaaa.nodeCuts
namespace Go.Proofs.Ytefjbhogpgihaaa
theorem nodeCuts_holds : Rows.NodeCutsSaid := nodeCuts.proved
end Go.Proofs.Ytefjbhogpgihaaa
