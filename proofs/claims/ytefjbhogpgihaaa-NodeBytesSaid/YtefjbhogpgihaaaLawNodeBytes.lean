/- The law NodeBytes: for every input that can be read the call returns true, and what was handed in reads as it did; under no condition but the row's own. -/
import Derived.Test.YtefjbhogpgihaaaRows
import Derived.Test.YtefjbhogpgihaaaW6
import Derived.Test.YtefjbhogpgihaaaNodeBytes
import Derived.WalkKit
import Derived.ProofKit
import Derived.OpenShut
import Derived.ShutString
import Derived.ChangeOld
import Derived.Below
import Derived.SizedLaws
import Derived.LaidLaws
import Derived.LaidHandle
namespace Go.Proofs.Ytefjbhogpgihaaa.nodeBytes
open Go Go.SX Go.ChangeShapes Go.WideShapes Go.ChangeAt Go.RowKit
open Go.ChangeMaps (open_string shut_string)
set_option linter.unusedVariables false
set_option maxRecDepth 100000
theorem own : ownKnob Try.prog.godebug = none := by kernel_rfl
theorem laidOut : laidOutB Try.prog = true := by kernel_rfl
set_option maxHeartbeats 2000000 in
theorem lifted (os : Os) (started : os.Started) (H : Type) (enc : TypeId × Value → H) :
    ReturnsInHanded {} Try.checked os 6 .any (Rows.nodeBytesSpec.pre6 enc Try.prog Try.f6 Rows.nodeBytesRow.domain false) (Rows.nodeBytesSpec.post enc Try.prog Try.f6 false true false false) := by
  refine returnsInHanded_of_change_sized (C := Try.checked) own started (by kernel_rfl) Try.func6
    (ChangeSpec.witness6 (enc := enc) (C := Try.checked) false ⟨#[], #[(.agg #[(.bool false), (.slice none 0 0), (.slice none 0 0), (.slice none 0 0)]), .int .i64 0, .slice none 0 0], []⟩ 8 (by kernel_rfl) (by kernel_rfl) (by kernel_rfl) (by kernel_rfl)) ?_
  intro W base args ds gs before hval0 hW hcnd hsz0 _
  have hval : ∀ (j : Nat) t v, Try.f6.params[j]? = some t → args[j]? = some v → Value.okWide Try.prog W .any base t v := hval0
  have hW' := hW
  obtain ⟨p, q, hA0, hV, rfl, hfz, hnd⟩ := hW
  have hA : DataW.TrodAll enc Try.prog W 0 (fun _ => true) true Try.f6.params.toList args.toList ds p := hA0
  rw [Try.params6] at hA
  obtain ⟨v0, vs0, d0, ds0, p0, q0, hargs, rfl, rfl, h0, r0⟩ := trodAll_cons hA
  obtain ⟨v1, vs1, d1, ds1, p1, q1, rfl, rfl, rfl, h1, r1⟩ := trodAll_cons r0
  obtain ⟨v2, vs2, d2, ds2, p2, q2, rfl, rfl, rfl, h2, r2⟩ := trodAll_cons r1
  obtain ⟨rfl, rfl, rfl⟩ := trodAll_nil r2
  obtain rfl : args = #[v0, v1, v2] := by cases args; simp_all
  obtain ⟨rfl, rfl⟩ := trodVars_none hV
  have k0 := h0
  have lt0 : ∀ x ∈ p0, x.block < W.heap.size := by obtain ⟨m, hm⟩ := k0; exact DataW.trod_lt m _ _ _ hm
  obtain ⟨x0, y0, ok0⟩ := Opens.arg (Opens.struct (fun x : T_api_Node => (x.Leaf, x.Pairs, x.Keys, x.Kids)) (fun x => ⟨x.1, x.2.1, x.2.2.1, x.2.2.2⟩) (fun _ => rfl) (fs := [(0, 4), (1, 22), (2, 23), (3, 24)]) (by kernel_rfl) (by kernel_rfl) (OpensF.cons (m := 1) (by kernel_rfl) (Opens.bool (by kernel_rfl)) rfl (OpensF.cons (m := 2) (by kernel_rfl) (Opens.slice (e := 48) (by kernel_rfl) (by kernel_rfl) (by decide) (Opens.struct (fun x : T_api_Pair => (x.Key, x.Val)) (fun x => ⟨x.1, x.2⟩) (fun _ => rfl) (fs := [(0, 27), (1, 27)]) (by kernel_rfl) (by kernel_rfl) (OpensF.cons (m := 1) (by kernel_rfl) (Opens.slice (e := 5) (by kernel_rfl) (by kernel_rfl) (by decide) (Opens.int (k := .u8) (by kernel_rfl))) rfl (OpensF.one (by kernel_rfl) (Opens.slice (e := 5) (by kernel_rfl) (by kernel_rfl) (by decide) (Opens.int (k := .u8) (by kernel_rfl))))))) rfl (OpensF.cons (m := 3) (by kernel_rfl) (Opens.slice (e := 27) (by kernel_rfl) (by kernel_rfl) (by decide) (Opens.slice (e := 5) (by kernel_rfl) (by kernel_rfl) (by decide) (Opens.int (k := .u8) (by kernel_rfl)))) rfl (OpensF.one (by kernel_rfl) (Opens.slice (e := 3) (by kernel_rfl) (by kernel_rfl) (by decide) (Opens.int (k := .i64) (by kernel_rfl)))))))) k0
  obtain ⟨ca0, rfl, -⟩ := okWide_struct Try.underlying26 (hval 0 26 v0 rfl rfl)
  obtain ⟨l0, hl0⟩ : ∃ l, ca0.toList = l := ⟨_, rfl⟩
  have y0 : rp_T_api_Node.rep (All W) W l0 x0 := by rw [← hl0]; exact y0
  obtain ⟨cs0_1, cs0_2, rfl, h0_3, h0_4⟩ := y0
  obtain rfl : cs0_1 = [.bool x0.Leaf] := h0_3
  obtain ⟨cs0_5, cs0_6, rfl, h0_7, h0_8⟩ := h0_4
  obtain ⟨A0_9, C0_10, rfl, hc0_11, hm0_12, el0_13⟩ := h0_7
  obtain ⟨cs0_14, cs0_15, rfl, h0_16, h0_17⟩ := h0_8
  obtain ⟨A0_18, C0_19, rfl, hc0_20, hm0_21, el0_22⟩ := h0_16
  obtain ⟨A0_23, C0_24, rfl, hc0_25, hm0_26, el0_27⟩ := h0_17
  obtain rfl : ca0 = #[.bool x0.Leaf, .slice A0_9 x0.Pairs.length C0_10, .slice A0_18 x0.Keys.length C0_19, .slice A0_23 x0.Kids.length C0_24] := Array.ext' hl0
  have k1 := h1
  have lt1 : ∀ x ∈ p1, x.block < W.heap.size := by obtain ⟨m, hm⟩ := k1; exact DataW.trod_lt m _ _ _ hm
  obtain ⟨x1, y1, ok1⟩ := Opens.arg (Opens.int (k := .i64) (by kernel_rfl)) k1
  obtain ⟨b1, rfl, rfl, rfl, _⟩ := open_int Try.underlying3 (hval 1 3 v1 rfl rfl) h1
  obtain rfl : b1 = x1 := by have e : [Value.int .i64 b1] = [Value.int .i64 x1] := y1; cases e; rfl
  have k2 := h2
  have lt2 : ∀ x ∈ p2, x.block < W.heap.size := by obtain ⟨m, hm⟩ := k2; exact DataW.trod_lt m _ _ _ hm
  obtain ⟨x2, y2, ok2⟩ := Opens.arg (Opens.slice (e := 5) (by kernel_rfl) (by kernel_rfl) (by decide) (Opens.int (k := .u8) (by kernel_rfl))) k2
  obtain ⟨a2, n2, c2, rfl⟩ := okWide_slice Try.underlying27 (hval 2 27 v2 rfl rfl)
  obtain ⟨A2, C2, e2, hc2, hm2, el2⟩ := y2
  simp only [Value.cells, List.cons.injEq, and_true, Value.slice.injEq] at e2
  obtain ⟨rfl, rfl, rfl⟩ := e2
  have s0 : St W (fun _ => False) (All W) [] W := St.start fun b hb => hb
  have pure := Pure.NodeBytes x0 b1 x2 ok0 ok1 ok2
  refine (Ret.law (c6 (F := []) x0 b1 x2 _ _ _ _ _ _ _ _ ⟨hc0_11, hm0_12⟩ el0_13 ⟨hc0_20, hm0_21⟩ el0_22 ⟨hc0_25, hm0_26⟩ el0_27 ⟨hc2, hm2⟩ el2 s0 pure)).mono fun e W' ⟨he, bel⟩ => ?_
  subst he
  exact ⟨_, rfl, _, _, _, [], _, [], hW', trodAll_mk1 (shut_bool Try.underlying4 _), (trodAll_cons_mk (Below.trod laidOut (by kernel_rfl) (of_decide_eq_true (by kernel_rfl)) k0 bel lt0) (trodAll_cons_mk (Below.trod laidOut (by kernel_rfl) (of_decide_eq_true (by kernel_rfl)) k1 bel lt1) (trodAll_cons_mk (Below.trod laidOut (by kernel_rfl) (of_decide_eq_true (by kernel_rfl)) k2 bel lt2) trodAll_mk0))), rfl, bel.frame _, fun h => by cases h⟩
theorem over : Rows.nodeBytesRow.holds Try.pinned (OpenSpec.ofChange Rows.nodeBytesSpec) :=
  OpenClaim.holds_of_wide 6 Try.f6 rfl rfl rfl rfl rfl rfl rfl ⟨rfl, rfl, rfl, rfl, rfl⟩ rfl rfl rfl rfl rfl (by kernel_rfl) Try.func6 (by kernel_rfl)
    (of_decide_eq_true (by kernel_rfl)) (by unfold Func.isWrapper; first | (rw [if_pos (by decide +kernel)]; kernel_rfl) | (rw [if_neg (by decide +kernel)]; exact ⟨rfl, rfl⟩))
    (fun os started H enc _ => lifted os started H enc)
theorem proved : Rows.NodeBytesSaid := over
#print axioms proved
end Go.Proofs.Ytefjbhogpgihaaa.nodeBytes
namespace Go.Proofs.Ytefjbhogpgihaaa
theorem nodeBytes_holds : Rows.NodeBytesSaid := nodeBytes.proved
end Go.Proofs.Ytefjbhogpgihaaa
