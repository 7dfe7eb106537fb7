/- package towerexact: owner, where there is nothing to write -/
import Derived.Test.Qxb6500990aGreatEx13
set_option linter.unusedVariables false
set_option linter.unusedSimpArgs false
namespace Go.Proofs.Qxb6500990aGreat
open Go Go.RowKit Go.Tw
attribute [local go_sem] World.cell?_put_same World.cell?_put_ne World.cell?_put_ne' World.frozen?_put_same World.frozen?_put_ne World.frozen?_put_ne' World.setCell_put_same World.setCell_put_ne World.setCell_put_ne' World.inB_put World.inB_alloc World.inB_drew World.inB_drewN World.inB_new World.inB_setCell World.put_drew World.put_drewN World.q_setCell_drew World.q_setCell_drewN World.q_alloc_drew World.q_alloc_drewN World.put_put_same World.put_put_2 World.size_put World.q_cell?_alloc_old World.q_frozen?_alloc_old World.cell?_alloc_new' World.frozen?_alloc_new' World.q_setCell_alloc_old World.q_setCell_alloc_new World.q_put_alloc_old World.cell?_force_same World.frozen?_force_same World.cell?_force2_fst World.cell?_force2_snd OpR.g0 OpR.s0 OpR.g1 OpR.s1 OpR.g2 OpR.s2 OpR.g3 OpR.s3 OpR.g4 OpR.s4 OpR.g5 OpR.s5 WorldR.g0 WorldR.s0 WorldR.g1 WorldR.s1 WorldR.g2 WorldR.s2 WorldR.g3 WorldR.s3 WorldR.g4 WorldR.s4 WorldR.g5 WorldR.s5 WorldR.g6 WorldR.s6 WorldR.g7 WorldR.s7 WorldR.g8 WorldR.s8
attribute [local go_sem] ba_get ba_eq ba_beq
set_option maxHeartbeats 4000000
set_option maxRecDepth 100000
section
variable {B bw S : Nat} {W : World} {own : Own} {c : Conf} {vb vo vr vv : Value}
theorem c8_none_104 (h : WI B W bw own c vb vo vr vv S) (o : OpR) (hk : o.kind = 104) (h0 : c.os.length = 0) : Calls Tryz.prog 8 #[vp bw, .agg o.cells] W (OwnR B W bw S) := by
  obtain ⟨k, a, b, cc, s, t⟩ := o
  simp only [] at hk
  subst hk
  obtain ⟨adb, capb, rfl, -⟩ := ownsRow_form h.rb.1
  obtain ⟨ado, capo, rfl, -⟩ := ownsRow_form h.ro.1
  obtain ⟨adr, capr, rfl, -⟩ := ownsRow_form h.rr.1
  obtain ⟨adv, capv, rfl, -⟩ := ownsRow_form h.rv.1
  have H := hidIt h
  have d0 : decide (0 < c.os.length) = false := decide_eq_false (by omega)
  have d00 : decide ((0 : Int) < c.os.length) = false := decide_eq_false (by omega)
  have hc0 := h.hw.cell
  have ic0 := h.hw.inB
  clear h h0
  go_enter Tryz.func8, Tryz.ntmps8
  go_wp2_with fail
  go_ret
  have h := H.out
  have m : ModP (fun _ => False) W (W.alloc (.cells (OpR.cells ⟨104, a, b, cc, s, t⟩) 26)) := (ModP.refl _ _).alloc _
  exact ⟨rfl, own, _, _, _, _, _, h.frame m, m.mono (fun _ f => f.elim)⟩
theorem c8_none_105 (h : WI B W bw own c vb vo vr vv S) (o : OpR) (hk : o.kind = 105) (h0 : c.rs.length = 0) : Calls Tryz.prog 8 #[vp bw, .agg o.cells] W (OwnR B W bw S) := by
  obtain ⟨k, a, b, cc, s, t⟩ := o
  simp only [] at hk
  subst hk
  obtain ⟨adb, capb, rfl, -⟩ := ownsRow_form h.rb.1
  obtain ⟨ado, capo, rfl, -⟩ := ownsRow_form h.ro.1
  obtain ⟨adr, capr, rfl, -⟩ := ownsRow_form h.rr.1
  obtain ⟨adv, capv, rfl, -⟩ := ownsRow_form h.rv.1
  have H := hidIt h
  have d0 : decide (0 < c.rs.length) = false := decide_eq_false (by omega)
  have d00 : decide ((0 : Int) < c.rs.length) = false := decide_eq_false (by omega)
  have hc0 := h.hw.cell
  have ic0 := h.hw.inB
  clear h h0
  go_enter Tryz.func8, Tryz.ntmps8
  go_wp2_with fail
  go_ret
  have h := H.out
  have m : ModP (fun _ => False) W (W.alloc (.cells (OpR.cells ⟨105, a, b, cc, s, t⟩) 26)) := (ModP.refl _ _).alloc _
  exact ⟨rfl, own, _, _, _, _, _, h.frame m, m.mono (fun _ f => f.elim)⟩
theorem c8_none_106 (h : WI B W bw own c vb vo vr vv S) (o : OpR) (hk : o.kind = 106) (h0 : c.vs.length = 0) : Calls Tryz.prog 8 #[vp bw, .agg o.cells] W (OwnR B W bw S) := by
  obtain ⟨k, a, b, cc, s, t⟩ := o
  simp only [] at hk
  subst hk
  obtain ⟨adb, capb, rfl, -⟩ := ownsRow_form h.rb.1
  obtain ⟨ado, capo, rfl, -⟩ := ownsRow_form h.ro.1
  obtain ⟨adr, capr, rfl, -⟩ := ownsRow_form h.rr.1
  obtain ⟨adv, capv, rfl, -⟩ := ownsRow_form h.rv.1
  have H := hidIt h
  have d0 : decide (0 < c.vs.length) = false := decide_eq_false (by omega)
  have d00 : decide ((0 : Int) < c.vs.length) = false := decide_eq_false (by omega)
  have hc0 := h.hw.cell
  have ic0 := h.hw.inB
  clear h h0
  go_enter Tryz.func8, Tryz.ntmps8
  go_wp2_with fail
  go_ret
  have h := H.out
  have m : ModP (fun _ => False) W (W.alloc (.cells (OpR.cells ⟨106, a, b, cc, s, t⟩) 26)) := (ModP.refl _ _).alloc _
  exact ⟨rfl, own, _, _, _, _, _, h.frame m, m.mono (fun _ f => f.elim)⟩
theorem c8_none_107 (h : WI B W bw own c vb vo vr vv S) (o : OpR) (hk : o.kind = 107) (h0 : c.vs.length = 0) : Calls Tryz.prog 8 #[vp bw, .agg o.cells] W (OwnR B W bw S) := by
  obtain ⟨k, a, b, cc, s, t⟩ := o
  simp only [] at hk
  subst hk
  obtain ⟨adb, capb, rfl, -⟩ := ownsRow_form h.rb.1
  obtain ⟨ado, capo, rfl, -⟩ := ownsRow_form h.ro.1
  obtain ⟨adr, capr, rfl, -⟩ := ownsRow_form h.rr.1
  obtain ⟨adv, capv, rfl, -⟩ := ownsRow_form h.rv.1
  have H := hidIt h
  have d0 : decide (0 < c.vs.length) = false := decide_eq_false (by omega)
  have d00 : decide ((0 : Int) < c.vs.length) = false := decide_eq_false (by omega)
  have hc0 := h.hw.cell
  have ic0 := h.hw.inB
  clear h h0
  go_enter Tryz.func8, Tryz.ntmps8
  go_wp2_with fail
  go_ret
  have h := H.out
  have m : ModP (fun _ => False) W (W.alloc (.cells (OpR.cells ⟨107, a, b, cc, s, t⟩) 26)) := (ModP.refl _ _).alloc _
  exact ⟨rfl, own, _, _, _, _, _, h.frame m, m.mono (fun _ f => f.elim)⟩
theorem c8_none_108 (h : WI B W bw own c vb vo vr vv S) (o : OpR) (hk : o.kind = 108) (h0 : c.vs.length = 0) : Calls Tryz.prog 8 #[vp bw, .agg o.cells] W (OwnR B W bw S) := by
  obtain ⟨k, a, b, cc, s, t⟩ := o
  simp only [] at hk
  subst hk
  obtain ⟨adb, capb, rfl, -⟩ := ownsRow_form h.rb.1
  obtain ⟨ado, capo, rfl, -⟩ := ownsRow_form h.ro.1
  obtain ⟨adr, capr, rfl, -⟩ := ownsRow_form h.rr.1
  obtain ⟨adv, capv, rfl, -⟩ := ownsRow_form h.rv.1
  have H := hidIt h
  have d0 : decide (0 < c.vs.length) = false := decide_eq_false (by omega)
  have d00 : decide ((0 : Int) < c.vs.length) = false := decide_eq_false (by omega)
  have hc0 := h.hw.cell
  have ic0 := h.hw.inB
  clear h h0
  go_enter Tryz.func8, Tryz.ntmps8
  go_wp2_with fail
  go_ret
  have h := H.out
  have m : ModP (fun _ => False) W (W.alloc (.cells (OpR.cells ⟨108, a, b, cc, s, t⟩) 26)) := (ModP.refl _ _).alloc _
  exact ⟨rfl, own, _, _, _, _, _, h.frame m, m.mono (fun _ f => f.elim)⟩
theorem c8_none_109 (h : WI B W bw own c vb vo vr vv S) (o : OpR) (hk : o.kind = 109) (h0 : c.vs.length = 0) : Calls Tryz.prog 8 #[vp bw, .agg o.cells] W (OwnR B W bw S) := by
  obtain ⟨k, a, b, cc, s, t⟩ := o
  simp only [] at hk
  subst hk
  obtain ⟨adb, capb, rfl, -⟩ := ownsRow_form h.rb.1
  obtain ⟨ado, capo, rfl, -⟩ := ownsRow_form h.ro.1
  obtain ⟨adr, capr, rfl, -⟩ := ownsRow_form h.rr.1
  obtain ⟨adv, capv, rfl, -⟩ := ownsRow_form h.rv.1
  have H := hidIt h
  have d0 : decide (0 < c.vs.length) = false := decide_eq_false (by omega)
  have d00 : decide ((0 : Int) < c.vs.length) = false := decide_eq_false (by omega)
  have hc0 := h.hw.cell
  have ic0 := h.hw.inB
  clear h h0
  go_enter Tryz.func8, Tryz.ntmps8
  go_wp2_with fail
  go_ret
  have h := H.out
  have m : ModP (fun _ => False) W (W.alloc (.cells (OpR.cells ⟨109, a, b, cc, s, t⟩) 26)) := (ModP.refl _ _).alloc _
  exact ⟨rfl, own, _, _, _, _, _, h.frame m, m.mono (fun _ f => f.elim)⟩
end
end Go.Proofs.Qxb6500990aGreat
