/- The shapes are those of the program. -/
import Derived.Test.YtofhmhbffdoiaaaDoorH
namespace Go.Proofs.YtofhmhbffdoiaaaDoor
noncomputable section
open Go Go.SX Go.VX
set_option maxRecDepth 100000
set_option linter.unusedVariables false
theorem okc : CxOK Tryd.prog cx rs0 := ⟨hT,
  (fun n => match n with | _ => fun ρ I w cs x => Iff.rfl),
  (fun n => match n with | _ => fun y => rfl),
  (fun n => match n with | _ => rfl),
  (fun n => match n with | _ => fun I w cs x h => by rw [show cs = [] from h]; simp [flatv]),
  rfl,
  fun f h => by cases h⟩
end
end Go.Proofs.YtofhmhbffdoiaaaDoor
