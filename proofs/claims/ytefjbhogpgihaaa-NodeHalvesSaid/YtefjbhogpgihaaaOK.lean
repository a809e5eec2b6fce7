/- The shapes are those of the program. -/
import Derived.Test.YtefjbhogpgihaaaH
namespace Go.Proofs.Ytefjbhogpgihaaa
noncomputable section
open Go Go.SX Go.VX
set_option maxRecDepth 100000
set_option linter.unusedVariables false
theorem okc : CxOK Try.prog cx rs0 := ⟨hT,
  (fun n => match n with | 0 => fun ρ I w cs x => rep_cons (S := SS) (p := (rpSl (Rp.int .u8))) (q := (rpSl (Rp.int .u8))) (s := (.ro (.int .u8))) (t := (.ro (.int .u8))) (l := []) (x := x.Key) (y := x.Val) (f := fun y => y) (g := fun y => y) (fun _ => rep_ro (S := SS) (rs := rs0) (c := (.int .u8))) (fun _ => rep_ro (S := SS) (rs := rs0) (c := (.int .u8))) | 1 => fun ρ I w cs x => rep_cons (S := SS) (p := Rp.bool) (q := (Rp.pair (rpSl rp_T_api_Pair) (Rp.pair (rpSl (rpSl (Rp.int .u8))) (rpSl (Rp.int .i64))))) (s := .bl) (t := (.ro (.st 0))) (l := [(.ro (.sl (.int .u8))), (.ro (.int .i64))]) (x := x.Leaf) (y := (x.Pairs, x.Keys, x.Kids)) (f := fun y => y) (g := fun y => y) (fun _ => rep_bool (S := SS)) (fun _ => rep_cons (S := SS) (p := (rpSl rp_T_api_Pair)) (q := (Rp.pair (rpSl (rpSl (Rp.int .u8))) (rpSl (Rp.int .i64)))) (s := (.ro (.st 0))) (t := (.ro (.sl (.int .u8)))) (l := [(.ro (.int .i64))]) (x := x.Pairs) (y := (x.Keys, x.Kids)) (f := fun y => y) (g := fun y => y) (fun _ => rep_ro (S := SS) (rs := rs0) (c := (.st 0))) (fun _ => rep_cons (S := SS) (p := (rpSl (rpSl (Rp.int .u8)))) (q := (rpSl (Rp.int .i64))) (s := (.ro (.sl (.int .u8)))) (t := (.ro (.int .i64))) (l := []) (x := x.Keys) (y := x.Kids) (f := fun y => y) (g := fun y => y) (fun _ => rep_ro (S := SS) (rs := rs0) (c := (.sl (.int .u8)))) (fun _ => rep_ro (S := SS) (rs := rs0) (c := (.int .i64))))) | _ + 2 => fun ρ I w cs x => Iff.rfl),
  (fun n => match n with | 0 => fun y => rfl | 1 => fun y => rfl | _ + 2 => fun y => rfl),
  (fun n => match n with | 0 => rfl | 1 => rfl | _ + 2 => rfl),
  (fun n => match n with | 0 => flat_iso (flat_pair flat_sl flat_sl) | 1 => flat_iso (flat_pair flat_bool (flat_pair flat_sl (flat_pair flat_sl flat_sl))) | _ + 2 => fun I w cs x h => by rw [show cs = [] from h]; simp [flatv]),
  rfl,
  fun f h => by have := Nat.eq_of_beq_eq_true h; subst this; exact ⟨_, Try.func53, by kernel_rfl, by kernel_rfl, by kernel_rfl, by kernel_rfl⟩⟩
end
end Go.Proofs.Ytefjbhogpgihaaa
