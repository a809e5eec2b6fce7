/- The shapes are those of the program. -/
import Derived.Test.YtofhmhbffdoiaaaDoorH
namespace Go.Proofs.YtofhmhbffdoiaaaDoor
noncomputable section
open Go Go.SX Go.VX
set_option maxRecDepth 100000
set_option linter.unusedVariables false
theorem okc : CxOK Tryd.prog cx rs0 := ⟨hT,
  (fun n => match n with | 0 => fun ρ I w cs x => rep_cons (S := SS) (p := (Rp.int .i64)) (q := (Rp.int .i64)) (s := (.int .i64)) (t := (.int .i64)) (l := []) (x := x.Do) (y := x.N) (f := fun y => y) (g := fun y => y) (fun _ => rep_int (S := SS)) (fun _ => rep_int (S := SS)) | _ + 1 => fun ρ I w cs x => Iff.rfl),
  (fun n => match n with | 0 => fun y => rfl | _ + 1 => fun y => rfl),
  (fun n => match n with | 0 => rfl | _ + 1 => rfl),
  (fun n => match n with | 0 => flat_iso (flat_pair flat_int flat_int) | _ + 1 => fun I w cs x h => by rw [show cs = [] from h]; simp [flatv]),
  rfl,
  fun f h => by cases h⟩
end
end Go.Proofs.YtofhmhbffdoiaaaDoor
