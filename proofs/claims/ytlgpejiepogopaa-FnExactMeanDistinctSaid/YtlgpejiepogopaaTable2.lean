/- Contracts of functions of this program, used by the laws of this seat. No condition beyond what each theorem states. -/
import Derived.Test.YtlgpejiepogopaaTable
set_option linter.unusedVariables false
set_option linter.unusedSimpArgs false
set_option linter.unusedSectionVars false
namespace Go.Proofs.Ytlgpejiepogopaa
open Go.RowKit
theorem built121_1 : Try.prog.built 41 [(0, .int .i64 1)] = some (row 121 (I fun i => if i = 0 then 1 else 0)) := by kernel_rfl
end Go.Proofs.Ytlgpejiepogopaa
