/- The law FreemapDoes: for every input that can be read the call returns true, and what was handed in reads as it did; under no condition but the row's own. -/
import Derived.Test.YtofhmhbffdoiaaaDoorRows
import Derived.Test.YtofhmhbffdoiaaaDoorTie
import Derived.Test.YtofhmhbffdoiaaaDoorCards
import Derived.Test.YtofhmhbffdoiaaaDoorW
import Derived.Test.YtofhmhbffdoiaaaDoorPureDoes
import Derived.Test.YtofhmhbffdoiaaaDoorVXB
import Derived.WalkKit
import Derived.ProofKit
import Derived.OpenShut
import Derived.ShutString
import Derived.ChangeOld
import Derived.Below
import Derived.SizedLaws
import Derived.LaidLaws
import Derived.LaidHandle
import Derived.SevenTiedAt
namespace Go.Proofs.YtofhmhbffdoiaaaDoor.freemapDoes
open Go Go.SX Go.VX Go.ChangeShapes Go.WideShapes Go.ChangeAt Go.RowKit
open Go.ChangeMaps (open_string shut_string)
set_option linter.unusedVariables false
set_option maxRecDepth 100000
theorem own : ownKnob Tryd.prog.godebug = none := by kernel_rfl
theorem laidOut : laidOutB Tryd.prog = true := by kernel_rfl
/-- A world that meets the condition. -/
noncomputable def laidWorld (os : Os) : World :=
  let w0 := World.holding Tryd.prog os ⟨#[], #[], []⟩
  { (w0) with heap := (w0).heap.modify 0 fun | .cells _ t frozen => .cells (List.map (fun n : Int => Value.int .u8 n) ([0, 1, 56, 2, 57, 49, 28, 3, 61, 58, 42, 50, 38, 29, 17, 4, 62, 47, 59, 36, 45, 43, 51, 22, 53, 39, 33, 30, 24, 18, 12, 5, 63, 55, 48, 27, 60, 41, 37, 16, 46, 35, 44, 21, 52, 32, 23, 11, 54, 26, 40, 15, 34, 20, 31, 10, 25, 14, 19, 9, 13, 8, 7, 6] : List Int)).toArray t frozen | o => o }
theorem laidWorld_met (os : Os) (args : Array Value) : laidMetH Tryd.prog Rows.freemapDoesRow.laid ((laidWorld os).forCall (fun _ _ => 0) ⟨#[], args, []⟩).memory := by
  rw [laidH _ _ _ (by kernel_rfl)]
  exact laidMet_of_run' 8 (by kernel_rfl) (by kernel_rfl)
set_option maxHeartbeats 2000000 in
theorem lifted (os : Os) (started : os.Started) (H : Type) (enc : TypeId × Value → H) :
    ReturnsInHanded {} Tryd.checked os 7 .any (fun w args => (Rows.freemapDoesSpec.pre enc Tryd.prog Tryd.f7 [] false w args ∧ laidMetH Tryd.prog Rows.freemapDoesRow.laid w) ∧ sizedMet enc Tryd.prog Tryd.f7 (OpenSpec.ofChange Rows.freemapDoesSpec) false w args)
      (Rows.freemapDoesSpec.post enc Tryd.prog Tryd.f7 false true false false) := by
  refine returnsInHanded_of_change_and (C := Tryd.checked) (X := fun w _ => laidMetH Tryd.prog Rows.freemapDoesRow.laid w) (fun _ _ _ hh h => by have h' := (laidH _ _ _ (by kernel_rfl)).mp h; exact (laidH _ _ _ (by kernel_rfl)).mpr (h'.of_heap hh)) own started (by kernel_rfl) Tryd.func7
    (ChangeSpec.witness_at (enc := enc) (C := Tryd.checked) (os := os) (X := fun w _ => laidMetH Tryd.prog Rows.freemapDoesRow.laid w) false (laidWorld os) #[.int .i64 0, .slice none 0 0, .slice none 0 0] 8 rfl (by kernel_rfl) (by kernel_rfl) (by kernel_rfl) (by kernel_rfl) (by kernel_rfl) (laidWorld_met os _)) ?_
  intro W base args ds gs before hval0 hW _ hsz0 hL _
  have hval : ∀ (j : Nat) t v, Tryd.f7.params[j]? = some t → args[j]? = some v → Value.okWide Tryd.prog W .any base t v := hval0
  have hW' := hW
  obtain ⟨p, q, hA0, hV, rfl, hfz, hnd⟩ := hW
  have hA : DataW.TrodAll enc Tryd.prog W 0 (fun _ => true) true Tryd.f7.params.toList args.toList ds p := hA0
  rw [Tryd.params7] at hA
  obtain ⟨v0, vs0, d0, ds0, p0, q0, hargs, rfl, rfl, h0, r0⟩ := trodAll_cons hA
  obtain ⟨v1, vs1, d1, ds1, p1, q1, rfl, rfl, rfl, h1, r1⟩ := trodAll_cons r0
  obtain ⟨v2, vs2, d2, ds2, p2, q2, rfl, rfl, rfl, h2, r2⟩ := trodAll_cons r1
  obtain ⟨rfl, rfl, rfl⟩ := trodAll_nil r2
  obtain rfl : args = #[v0, v1, v2] := by cases args; simp_all
  obtain ⟨rfl, rfl⟩ := trodVars_none hV
  have k0 := h0
  have lt0 : ∀ x ∈ p0, x.block < W.heap.size := by obtain ⟨m, hm⟩ := k0; exact DataW.trod_lt m _ _ _ hm
  obtain ⟨x0, y0, ok0⟩ := Opens.arg (Opens.int (k := .i64) (by kernel_rfl)) k0
  obtain ⟨b0, rfl, rfl, rfl, _⟩ := open_int Tryd.underlying3 (hval 0 3 v0 rfl rfl) h0
  obtain rfl : b0 = x0 := by have e : [Value.int .i64 b0] = [Value.int .i64 x0] := y0; cases e; rfl
  have k1 := h1
  have lt1 : ∀ x ∈ p1, x.block < W.heap.size := by obtain ⟨m, hm⟩ := k1; exact DataW.trod_lt m _ _ _ hm
  obtain ⟨x1, y1, ok1⟩ := Opens.arg (Opens.sl (e := 3) (by kernel_rfl) (by kernel_rfl) (by decide) (Opens.int (k := .i64) (by kernel_rfl))) k1
  obtain ⟨a1, n1, c1, rfl⟩ := okWide_slice Tryd.underlying22 (hval 1 22 v1 rfl rfl)
  obtain ⟨A1, C1, e1, hm1, el1, en1⟩ := y1
  simp only [Value.cells, List.cons.injEq, and_true, Value.slice.injEq] at e1
  obtain ⟨rfl, rfl, rfl⟩ := e1
  have k2 := h2
  have lt2 : ∀ x ∈ p2, x.block < W.heap.size := by obtain ⟨m, hm⟩ := k2; exact DataW.trod_lt m _ _ _ hm
  obtain ⟨x2, y2, ok2⟩ := Opens.arg (Opens.sl (e := 31) (by kernel_rfl) (by kernel_rfl) (by decide) (Opens.struct (fun x : T_incipitlaw08_Op => (x.Do, x.N)) (fun x => ⟨x.1, x.2⟩) (fun _ => rfl) (fs := [(0, 3), (1, 3)]) (by kernel_rfl) (by kernel_rfl) (OpensF.cons (m := 1) (by kernel_rfl) (Opens.int (k := .i64) (by kernel_rfl)) rfl (OpensF.one (by kernel_rfl) (Opens.int (k := .i64) (by kernel_rfl)))))) k2
  obtain ⟨a2, n2, c2, rfl⟩ := okWide_slice Tryd.underlying23 (hval 2 23 v2 rfl rfl)
  obtain ⟨A2, C2, e2, hm2, el2, en2⟩ := y2
  simp only [Value.cells, List.cons.injEq, and_true, Value.slice.injEq] at e2
  obtain ⟨rfl, rfl, rfl⟩ := e2
  have s0 : St W (fun _ => False) (All W) [] W := St.start fun b hb => hb
  replace hL := (laidH _ _ _ (by kernel_rfl)).mp hL
  have eg0 : Elems (Rp.int .u8) (All W) W (some ⟨0, 0, none⟩) TAB0 := laid_tab (name := "math/bits.deBruijn64tab") (t := 89) (e := 5) (N := 64) hL (List.mem_of_getElem? (i := 0) (by kernel_rfl)) (by kernel_rfl) (by kernel_rfl) (by kernel_rfl) (by kernel_rfl) (by kernel_rfl) (by kernel_rfl)
  have hgl : GLF rs0 (All W) W := by
    intro g i xs h
    have h' : (bif Nat.beq g 0 then some (IntKind.u8, TAB0) else none) = some (i, xs) := h
    cases e0 : Nat.beq g 0 with
    | true =>
      rw [e0] at h'
      obtain rfl := Nat.eq_of_beq_eq_true e0
      cases h'
      exact eg0
    | false =>
    rw [e0] at h'
    simp only [cond_false] at h'
    cases h'
  have pure := Pure.FreemapDoes b0 x1 x2 ok0 ok1 ok2
  have law := Deal.law cs7 (x := (b0, x1, x2)) (ra := true) (W := W) (vs := [(.int .i64 b0), (.slice a1 x1.length c1), (.slice a2 x2.length c2)]) pure (fun ρ => ⟨_, _, rfl, rfl, ⟨_, _, rfl, ⟨a1, c1, rfl, hm1, el1, trivial, en1⟩, ⟨_, _, rfl, ⟨a2, c2, rfl, hm2, el2, trivial, en2⟩, rfl⟩⟩⟩) hgl (fun _ _ _ _ h => h)
  refine law.mono fun e W' ⟨he, bel⟩ => ?_
  subst he
  exact ⟨_, rfl, _, _, _, [], _, [], hW', trodAll_mk1 (shut_bool Tryd.underlying4 _), (trodAll_cons_mk (Below.trod laidOut (by kernel_rfl) (of_decide_eq_true (by kernel_rfl)) k0 bel lt0) (trodAll_cons_mk (Below.trod laidOut (by kernel_rfl) (of_decide_eq_true (by kernel_rfl)) k1 bel lt1) (trodAll_cons_mk (Below.trod laidOut (by kernel_rfl) (of_decide_eq_true (by kernel_rfl)) k2 bel lt2) trodAll_mk0))), rfl, bel.frame _, fun h => by cases h⟩
theorem over : Rows.freemapDoesRow.holds Tryd.pinned (OpenSpec.ofChange Rows.freemapDoesSpec) :=
  OpenClaim.holds_of_wide 7 Tryd.f7 rfl rfl rfl rfl rfl rfl rfl ⟨rfl, rfl, rfl, rfl, rfl⟩ rfl rfl rfl rfl rfl (by kernel_rfl) Tryd.func7 (by kernel_rfl)
    (of_decide_eq_true (by kernel_rfl)) (by unfold Func.isWrapper; first | (rw [if_pos (by decide +kernel)]; kernel_rfl) | (rw [if_neg (by decide +kernel)]; exact ⟨rfl, rfl⟩))
    (fun os started H enc _ => lifted os started H enc)
theorem card_holds : Rows.FreemapDoesCardSaid :=
  Claim7.holds_tied_plain_at .later [] [.data] true (true, "e429793b134be7339726af26978b977bd3f63d83bfac809bfe1f371cf0914a81") false
    over (fun _ h => by cases h) (by kernel_rfl) (fun _ h => by cases h) freemapDoes_row_tie rfl ⟨rfl, rfl⟩ (by kernel_rfl) rfl
    (fun f fn hf hfn => by
      obtain rfl : f = 7 := Option.some.inj ((show Tryd.prog.funcNamed "incipit/incipitlaw08.FreemapDoes" = some 7 by kernel_rfl).symm.trans hf) |>.symm
      obtain rfl : fn = Tryd.f7 := (Option.some.inj (Tryd.func7.symm.trans hfn)).symm
      exact ⟨by kernel_rfl, fun j t ht => by
        rw [Tryd.params7] at ht
        have : t ∈ ([3, 22, 23] : List Nat) := by
          have := List.mem_of_getElem? (by simpa using ht : ([3, 22, 23] : List Nat)[j]? = some t)
          exact this
        have all : ∀ u ∈ ([3, 22, 23] : List Nat), Tryd.prog.wantsStandIn u = false := by
          intro u hu
          simp only [List.mem_cons, List.not_mem_nil, or_false] at hu
          rcases hu with rfl | rfl | rfl
          all_goals kernel_rfl
        exact all t this⟩)
    (by kernel_rfl)
#print axioms card_holds
end Go.Proofs.YtofhmhbffdoiaaaDoor.freemapDoes
namespace Go.Proofs.YtofhmhbffdoiaaaDoor
theorem freemapDoes_holds : Rows.FreemapDoesCardSaid := freemapDoes.card_holds
end Go.Proofs.YtofhmhbffdoiaaaDoor
