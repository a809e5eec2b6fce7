/- FreemapNone, the plain law: a map that is nil does nothing and says so, whatever number is asked. -/
import Derived.Test.YtofhmhbffdoiaaaDoorG
namespace Go.Proofs.YtofhmhbffdoiaaaDoor
open Go Go.SX Go.VX
set_option maxRecDepth 100000
set_option linter.unusedVariables false
theorem Pure.FreemapNone (n : Int) (h : (Lit.int .i64 n).wf = true) : s8 n = some true := by kernel_rfl
end Go.Proofs.YtofhmhbffdoiaaaDoor
