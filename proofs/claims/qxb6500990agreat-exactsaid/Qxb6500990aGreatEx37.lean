/- e2e/towerexact.Exact: the statement -/
import Derived.Test.Qxb6500990aGreatCl4
import Derived.Test.Qxb6500990aGreatEx35
import Derived.Test.Qxb6500990aGreatEx36
set_option linter.unusedVariables false
set_option linter.unusedSimpArgs false
namespace Go.Proofs.Qxb6500990aGreat
open Go Go.Tw
theorem exact_holds : Rows.ExactSaid :=
  OpenClaim.holds_of_wide 3 Tryz.f3 rfl rfl rfl rfl rfl rfl rfl ⟨rfl, rfl, rfl, rfl, rfl⟩ rfl rfl rfl rfl rfl jfn Tryz.func3 jfacts jfi jfw
    (fun os started H enc _ => exact_lifted (fun _ _ _ _ h wf => c3_of stepOk h wf) os started H enc)
end Go.Proofs.Qxb6500990aGreat
