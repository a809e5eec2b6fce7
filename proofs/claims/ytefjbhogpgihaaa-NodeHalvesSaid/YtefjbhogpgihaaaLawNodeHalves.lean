/- The law NodeHalves: for every input that can be read the call returns true, and what was handed in reads as it did; under no condition but the row's own. -/
import Derived.Test.YtefjbhogpgihaaaRows
import Derived.Test.YtefjbhogpgihaaaW
import Derived.Test.YtefjbhogpgihaaaPureHalves
import Derived.Test.YtefjbhogpgihaaaVXB
import Derived.WalkKit
import Derived.ProofKit
import Derived.OpenShut
import Derived.ShutString
import Derived.ChangeOld
import Derived.Below
import Derived.SizedLaws
import Derived.LaidLaws
import Derived.LaidHandle
namespace Go.Proofs.Ytefjbhogpgihaaa.nodeHalves
open Go Go.SX Go.VX Go.ChangeShapes Go.WideShapes Go.ChangeAt Go.RowKit
open Go.ChangeMaps (open_string shut_string)
set_option linter.unusedVariables false
set_option maxRecDepth 100000
theorem own : ownKnob Try.prog.godebug = none := by kernel_rfl
theorem laidOut : laidOutB Try.prog = true := by kernel_rfl
set_option maxHeartbeats 2000000 in
theorem lifted (os : Os) (started : os.Started) (H : Type) (enc : TypeId × Value → H) :
    ReturnsInHanded {} Try.checked os 8 .any (Rows.nodeHalvesSpec.pre6 enc Try.prog Try.f8 Rows.nodeHalvesRow.domain false) (Rows.nodeHalvesSpec.post enc Try.prog Try.f8 false true false false) := by
  refine returnsInHanded_of_change_sized (C := Try.checked) own started (by kernel_rfl) Try.func8
    (ChangeSpec.witness6 (enc := enc) (C := Try.checked) false ⟨#[], #[(.agg #[(.bool false), (.slice none 0 0), (.slice none 0 0), (.slice none 0 0)]), .int .u8 0], []⟩ 8 (by kernel_rfl) (by kernel_rfl) (by kernel_rfl) (by kernel_rfl)) ?_
  intro W base args ds gs before hval0 hW hcnd hsz0 _
  have hval : ∀ (j : Nat) t v, Try.f8.params[j]? = some t → args[j]? = some v → Value.okWide Try.prog W .any base t v := hval0
  have hW' := hW
  obtain ⟨p, q, hA0, hV, rfl, hfz, hnd⟩ := hW
  have hA : DataW.TrodAll enc Try.prog W 0 (fun _ => true) true Try.f8.params.toList args.toList ds p := hA0
  rw [Try.params8] at hA
  obtain ⟨v0, vs0, d0, ds0, p0, q0, hargs, rfl, rfl, h0, r0⟩ := trodAll_cons hA
  obtain ⟨v1, vs1, d1, ds1, p1, q1, rfl, rfl, rfl, h1, r1⟩ := trodAll_cons r0
  obtain ⟨rfl, rfl, rfl⟩ := trodAll_nil r1
  obtain rfl : args = #[v0, v1] := by cases args; simp_all
  obtain ⟨rfl, rfl⟩ := trodVars_none hV
  have k0 := h0
  have lt0 : ∀ x ∈ p0, x.block < W.heap.size := by obtain ⟨m, hm⟩ := k0; exact DataW.trod_lt m _ _ _ hm
  obtain ⟨x0, y0, ok0⟩ := Opens.arg (Opens.struct (fun x : T_api_Node => (x.Leaf, x.Pairs, x.Keys, x.Kids)) (fun x => ⟨x.1, x.2.1, x.2.2.1, x.2.2.2⟩) (fun _ => rfl) (fs := [(0, 4), (1, 22), (2, 23), (3, 24)]) (by kernel_rfl) (by kernel_rfl) (OpensF.cons (m := 1) (by kernel_rfl) (Opens.bool (by kernel_rfl)) rfl (OpensF.cons (m := 2) (by kernel_rfl) (Opens.sl (e := 48) (by kernel_rfl) (by kernel_rfl) (by decide) (Opens.struct (fun x : T_api_Pair => (x.Key, x.Val)) (fun x => ⟨x.1, x.2⟩) (fun _ => rfl) (fs := [(0, 27), (1, 27)]) (by kernel_rfl) (by kernel_rfl) (OpensF.cons (m := 1) (by kernel_rfl) (Opens.sl (e := 5) (by kernel_rfl) (by kernel_rfl) (by decide) (Opens.int (k := .u8) (by kernel_rfl))) rfl (OpensF.one (by kernel_rfl) (Opens.sl (e := 5) (by kernel_rfl) (by kernel_rfl) (by decide) (Opens.int (k := .u8) (by kernel_rfl))))))) rfl (OpensF.cons (m := 3) (by kernel_rfl) (Opens.sl (e := 27) (by kernel_rfl) (by kernel_rfl) (by decide) (Opens.sl (e := 5) (by kernel_rfl) (by kernel_rfl) (by decide) (Opens.int (k := .u8) (by kernel_rfl)))) rfl (OpensF.one (by kernel_rfl) (Opens.sl (e := 3) (by kernel_rfl) (by kernel_rfl) (by decide) (Opens.int (k := .i64) (by kernel_rfl)))))))) k0
  obtain ⟨ca0, rfl, -⟩ := okWide_struct Try.underlying26 (hval 0 26 v0 rfl rfl)
  have k1 := h1
  have lt1 : ∀ x ∈ p1, x.block < W.heap.size := by obtain ⟨m, hm⟩ := k1; exact DataW.trod_lt m _ _ _ hm
  obtain ⟨x1, y1, ok1⟩ := Opens.arg (Opens.int (k := .u8) (by kernel_rfl)) k1
  obtain ⟨b1, rfl, rfl, rfl, _⟩ := open_int Try.underlying5 (hval 1 5 v1 rfl rfl) h1
  obtain rfl : b1 = x1 := by have e : [Value.int .u8 b1] = [Value.int .u8 x1] := y1; cases e; rfl
  have s0 : St W (fun _ => False) (All W) [] W := St.start fun b hb => hb
  have hgl : GLF rs0 (All W) W := by
    intro g i xs h
    have h' : (none) = some (i, xs) := h
    cases h'
  have pure := Pure.NodeHalves x0 b1 ok0 ok1
  have law := Deal.law cs8 (x := (x0, b1)) (ra := true) (W := W) (vs := [(.agg ca0), (.int .u8 b1)]) pure (fun ρ => ⟨_, _, rfl, ⟨ca0.toList, by simp, (okc.rep 1 _ _ _ _ _).1 y0⟩, ⟨_, _, rfl, rfl, rfl⟩⟩) hgl (fun _ _ _ _ h => h)
  refine law.mono fun e W' ⟨he, bel⟩ => ?_
  subst he
  exact ⟨_, rfl, _, _, _, [], _, [], hW', trodAll_mk1 (shut_bool Try.underlying4 _), (trodAll_cons_mk (Below.trod laidOut (by kernel_rfl) (of_decide_eq_true (by kernel_rfl)) k0 bel lt0) (trodAll_cons_mk (Below.trod laidOut (by kernel_rfl) (of_decide_eq_true (by kernel_rfl)) k1 bel lt1) trodAll_mk0)), rfl, bel.frame _, fun h => by cases h⟩
theorem over : Rows.nodeHalvesRow.holds Try.pinned (OpenSpec.ofChange Rows.nodeHalvesSpec) :=
  OpenClaim.holds_of_wide 8 Try.f8 rfl rfl rfl rfl rfl rfl rfl ⟨rfl, rfl, rfl, rfl, rfl⟩ rfl rfl rfl rfl rfl (by kernel_rfl) Try.func8 (by kernel_rfl)
    (of_decide_eq_true (by kernel_rfl)) (by unfold Func.isWrapper; first | (rw [if_pos (by decide +kernel)]; kernel_rfl) | (rw [if_neg (by decide +kernel)]; exact ⟨rfl, rfl⟩))
    (fun os started H enc _ => lifted os started H enc)
theorem proved : Rows.NodeHalvesSaid := over
#print axioms proved
end Go.Proofs.Ytefjbhogpgihaaa.nodeHalves
namespace Go.Proofs.Ytefjbhogpgihaaa
theorem nodeHalves_holds : Rows.NodeHalvesSaid := nodeHalves.proved
end Go.Proofs.Ytefjbhogpgihaaa
