/- the row's closed facts, together -/
import Derived.Test.Qxb6500990aGreatCl1
import Derived.Test.Qxb6500990aGreatCl2
import Derived.Test.Qxb6500990aGreatCl3
set_option linter.unusedVariables false
set_option linter.unusedSimpArgs false
namespace Go.Proofs.Qxb6500990aGreat
set_option maxRecDepth 100000
theorem jfacts : joinedFacts Tryz.prog 3 Tryz.f3 Rows.exactSpec Rows.exactRow = true := by
  unfold joinedFacts
  simp only [Bool.and_eq_true]
  exact ⟨⟨⟨⟨⟨⟨⟨⟨⟨⟨⟨⟨⟨⟨⟨⟨⟨⟨⟨⟨⟨⟨⟨⟨⟨⟨⟨⟨⟨⟨⟨jf1, jf2⟩, jf3⟩, jf4⟩, jf5⟩, jf6⟩, jf7⟩, jf8⟩, jf9⟩, jf10⟩, jf11⟩, jf12⟩, jf13⟩, jf14⟩, jf15⟩, jf16⟩, jf17⟩, jf18⟩, jf19⟩, jf20⟩, jf21⟩, jf22⟩, jf23⟩, jf24⟩, jf25⟩, jf26⟩, jf27⟩, jf28⟩, jf29⟩, jf30⟩, jf31⟩, jf32⟩
end Go.Proofs.Qxb6500990aGreat
