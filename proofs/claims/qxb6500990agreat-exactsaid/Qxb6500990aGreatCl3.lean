/- the row's closed facts, more -/
import Derived.Test.Qxb6500990aGreatRows
import Derived.ProofKit
set_option linter.unusedVariables false
set_option linter.unusedSimpArgs false
namespace Go.Proofs.Qxb6500990aGreat
set_option maxRecDepth 100000
theorem jf12 : (Rows.exactRow.recurses == Tryz.prog.recurses 3) = true := by kernel_rfl
theorem jf13 : (Rows.exactRow.named == Tryz.prog.varsNamed 3) = true := by kernel_rfl
end Go.Proofs.Qxb6500990aGreat
