/- package towerexact: owner, whole -/
import Derived.Test.Qxb6500990aGreatEx16
import Derived.Test.Qxb6500990aGreatEx20
import Derived.Test.Qxb6500990aGreatEx21
import Derived.Test.Qxb6500990aGreatEx23
import Derived.Test.Qxb6500990aGreatEx24
import Derived.Test.Qxb6500990aGreatEx25
set_option linter.unusedVariables false
set_option linter.unusedSimpArgs false
namespace Go.Tw
open Go Go.Proofs Go.Proofs.Qxb6500990aGreat Go.RowKit
section
variable {B bw S : Nat} {W : World} {own : Own} {c : Conf} {vb vo vr vv : Value}
theorem ownR_up {r : Ending} {w' : World} (h : OwnR B W bw S r w') (hz : S + 1 ≤ 1073741824) : OwnR B W bw (S + 1) r w' := by
  obtain ⟨e, own', c', vb', vo', vr', vv', wi, m⟩ := h
  exact ⟨e, own', c', vb', vo', vr', vv', wi.up (by omega) hz, m⟩
end
end Go.Tw
namespace Go.Proofs.Qxb6500990aGreat
open Go Go.RowKit Go.Tw
section
variable {B bw S : Nat} {W : World} {own : Own} {c : Conf} {vb vo vr vv : Value}
theorem c8 (h : WI B W bw own c vb vo vr vv S) (hz : S + 1 ≤ 1073741824) (o : OpR) (hw : OpWf o) (hk : 101 ≤ o.kind ∧ o.kind ≤ 110) : Calls Tryz.prog 8 #[vp bw, .agg o.cells] W (OwnR B W bw (S + 1)) := by
  have up : Calls Tryz.prog 8 #[vp bw, .agg o.cells] W (OwnR B W bw S) → Calls Tryz.prog 8 #[vp bw, .agg o.cells] W (OwnR B W bw (S + 1)) := fun q => q.mono (fun _ _ x => ownR_up x hz)
  rcases (by omega : o.kind = 101 ∨ o.kind = 102 ∨ o.kind = 103 ∨ o.kind = 104 ∨ o.kind = 105 ∨ o.kind = 106 ∨ o.kind = 107 ∨ o.kind = 108 ∨ o.kind = 109 ∨ o.kind = 110) with e | e | e | e | e | e | e | e | e | e
  · exact c8_node h hz o e
  · exact up (c8_name h o hw e)
  · exact up (c8_regs h o e)
  · by_cases q : c.os.length = 0
    · exact up (c8_none_104 h o e q)
    · exact up (c8_out h o hw e q)
  · by_cases q : c.rs.length = 0
    · exact up (c8_none_105 h o e q)
    · exact up (c8_rep h o hw e q)
  · by_cases q : c.vs.length = 0
    · exact up (c8_none_106 h o e q)
    · exact up (c8_put h o hw e q)
  · by_cases q : c.vs.length = 0
    · exact up (c8_none_107 h o e q)
    · exact up (c8_text h o hw e q)
  · by_cases q : c.vs.length = 0
    · exact up (c8_none_108 h o e q)
    · exact up (c8_flag h o hw e q)
  · by_cases q : c.vs.length = 0
    · exact up (c8_none_109 h o e q)
    · exact up (c8_sync h o hw e q)
  · exact up (c8_old h o e)
end
end Go.Proofs.Qxb6500990aGreat
