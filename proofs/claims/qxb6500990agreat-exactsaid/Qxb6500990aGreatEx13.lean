/- package towerexact: owner, the plain kinds -/
import Derived.Test.Qxb6500990aGreatEx11
import Derived.Test.Qxb6500990aGreatEx12
set_option linter.unusedVariables false
set_option linter.unusedSimpArgs false
namespace Go.Tw
open Go Go.Proofs Go.Proofs.Qxb6500990aGreat Go.RowKit
section
variable {B bw S : Nat} {w w' : World} {own : Own} {c : Conf} {vb vo vr vv : Value}
/-- the plain fields of the law's world -/
theorem WI.plain (h : WI B w bw own c vb vo vr vv S) {k ra rb : Int} {old : Bs} (m : ModP (fun x => x = bw) w w') (ha : w'.At bw (WorldR.cells ⟨vb, k, ra, rb, old, vo, vr, vv, false⟩) 33) (hk : c.bs ≠ [] → 0 ≤ k ∧ k < c.bs.length) :
    WI B w' bw own { c with k := k, ra := ra, rb := rb, old := old } vb vo vr vv S := by
  have sm : Same w own own := .refl _ _
  have fr : ∀ t : Tag, t ≠ .law → ∀ x, x = bw → own x ≠ t := fun t n x e q => by rw [e, h.tw] at q; exact n q.symm
  obtain ⟨p1, p2, p3, p4⟩ := h.parts (S' := S) m (fun x e => by rw [e, h.tw]; trivial) sm (Nat.le_refl _)
  exact ⟨ha, h.tw, h.rb.frame m (fr _ nofun) sm, h.ro.frame m (fr _ nofun) sm, h.rr.frame m (fr _ nofun) sm, h.rv.frame m (fr _ nofun) sm, fun x hx => ⟨(h.lo x hx).1, Nat.lt_of_lt_of_le (h.lo x hx).2 m.size⟩, hk, p1, p2, p3, p4, h.ln, h.sz⟩
end
end Go.Tw
namespace Go.Proofs.Qxb6500990aGreat
open Go Go.RowKit Go.Tw
attribute [local go_sem] World.cell?_put_same World.cell?_put_ne World.cell?_put_ne' World.frozen?_put_same World.frozen?_put_ne World.frozen?_put_ne' World.setCell_put_same World.setCell_put_ne World.setCell_put_ne' World.inB_put World.inB_alloc World.inB_drew World.inB_drewN World.inB_new World.inB_setCell World.put_drew World.put_drewN World.q_setCell_drew World.q_setCell_drewN World.q_alloc_drew World.q_alloc_drewN World.put_put_same World.put_put_2 World.size_put World.q_cell?_alloc_old World.q_frozen?_alloc_old World.cell?_alloc_new' World.frozen?_alloc_new' World.q_setCell_alloc_old World.q_setCell_alloc_new World.q_put_alloc_old World.cell?_force_same World.frozen?_force_same World.cell?_force2_fst World.cell?_force2_snd OpR.g0 OpR.s0 OpR.g1 OpR.s1 OpR.g2 OpR.s2 OpR.g3 OpR.s3 OpR.g4 OpR.s4 OpR.g5 OpR.s5 WorldR.g0 WorldR.s0 WorldR.g1 WorldR.s1 WorldR.g2 WorldR.s2 WorldR.g3 WorldR.s3 WorldR.g4 WorldR.s4 WorldR.g5 WorldR.s5 WorldR.g6 WorldR.s6 WorldR.g7 WorldR.s7 WorldR.g8 WorldR.s8
attribute [local go_sem] ba_get ba_eq ba_beq
set_option maxHeartbeats 4000000
set_option maxRecDepth 100000
section
variable {B bw S : Nat} {W : World} {own : Own} {c : Conf} {vb vo vr vv : Value}
theorem c8_no (W : World) (bw : Nat) (o : OpR) (hk : o.kind < 101 ∨ 110 < o.kind) : Calls Tryz.prog 8 #[vp bw, .agg o.cells] W fun r w' => r = .returned (.bool false) ∧ ModP (fun _ => False) W w' := by
  obtain ⟨k, a, b, cc, s, t⟩ := o
  simp only [] at hk
  have d1 : (k == 101) = false := by simp; omega
  have d2 : (k == 102) = false := by simp; omega
  have d3 : (k == 103) = false := by simp; omega
  have d4 : (k == 104) = false := by simp; omega
  have d5 : (k == 105) = false := by simp; omega
  have d6 : (k == 106) = false := by simp; omega
  have d7 : (k == 107) = false := by simp; omega
  have d8 : (k == 108) = false := by simp; omega
  have d9 : (k == 109) = false := by simp; omega
  have d10 : (k == 110) = false := by simp; omega
  clear hk
  go_enter Tryz.func8, Tryz.ntmps8
  go_wp2_with fail
  go_ret
  exact ⟨rfl, (ModP.refl _ _).alloc _⟩
/-- what owner gives -/
def OwnR (B : Nat) (W : World) (bw S : Nat) (r : Ending) (w' : World) : Prop := r = .returned (.bool true) ∧ ∃ own' c' vb' vo' vr' vv', WI B w' bw own' c' vb' vo' vr' vv' S ∧ ModP (fun k => B ≤ k) W w'
theorem c8_regs (h : WI B W bw own c vb vo vr vv S) (o : OpR) (hk : o.kind = 103) : Calls Tryz.prog 8 #[vp bw, .agg o.cells] W (OwnR B W bw S) := by
  obtain ⟨k, a, b, cc, s, t⟩ := o
  simp only [] at hk
  subst hk
  obtain ⟨adb, capb, rfl, -⟩ := ownsRow_form h.rb.1
  obtain ⟨ado, capo, rfl, -⟩ := ownsRow_form h.ro.1
  obtain ⟨adr, capr, rfl, -⟩ := ownsRow_form h.rr.1
  obtain ⟨adv, capv, rfl, -⟩ := ownsRow_form h.rv.1
  have H := hidIt h
  obtain ⟨y, hy, iy⟩ := h.hw.door
  subst hy
  clear h
  go_enter Tryz.func8, Tryz.ntmps8
  go_wp2_with fail
  go_ret
  have h := H.out
  have m : ModP (fun x => x = bw) _ ((y.put bw (WorldR.cells ⟨.slice adb c.bs.length capb, c.k, a, b, c.old, .slice ado c.os.length capo, .slice adr c.rs.length capr, .slice adv c.vs.length capv, false⟩) 33).alloc (.cells (OpR.cells ⟨103, a, b, cc, s, t⟩) 26)) := (put_re y bw (WorldR.cells ⟨.slice adb c.bs.length capb, c.k, c.ra, c.rb, c.old, .slice ado c.os.length capo, .slice adr c.rs.length capr, .slice adv c.vs.length capv, false⟩) _ 33).alloc _
  exact ⟨rfl, own, _, _, _, _, _, h.plain m (World.At.alloc (World.At_put_same iy) _) h.kb, m.mono (fun k e => by rw [e]; exact (h.lo bw (by rw [h.tw]; exact nofun)).1)⟩
theorem c8_old (h : WI B W bw own c vb vo vr vv S) (o : OpR) (hk : o.kind = 110) : Calls Tryz.prog 8 #[vp bw, .agg o.cells] W (OwnR B W bw S) := by
  obtain ⟨k, a, b, cc, s, t⟩ := o
  simp only [] at hk
  subst hk
  obtain ⟨adb, capb, rfl, -⟩ := ownsRow_form h.rb.1
  obtain ⟨ado, capo, rfl, -⟩ := ownsRow_form h.ro.1
  obtain ⟨adr, capr, rfl, -⟩ := ownsRow_form h.rr.1
  obtain ⟨adv, capv, rfl, -⟩ := ownsRow_form h.rv.1
  have H := hidIt h
  obtain ⟨y, hy, iy⟩ := h.hw.door
  subst hy
  clear h
  go_enter Tryz.func8, Tryz.ntmps8
  go_wp2_with fail
  go_ret
  have h := H.out
  have m : ModP (fun x => x = bw) _ ((y.put bw (WorldR.cells ⟨.slice adb c.bs.length capb, c.k, c.ra, c.rb, s, .slice ado c.os.length capo, .slice adr c.rs.length capr, .slice adv c.vs.length capv, false⟩) 33).alloc (.cells (OpR.cells ⟨110, a, b, cc, s, t⟩) 26)) := (put_re y bw (WorldR.cells ⟨.slice adb c.bs.length capb, c.k, c.ra, c.rb, c.old, .slice ado c.os.length capo, .slice adr c.rs.length capr, .slice adv c.vs.length capv, false⟩) _ 33).alloc _
  exact ⟨rfl, own, _, _, _, _, _, h.plain m (World.At.alloc (World.At_put_same iy) _) h.kb, m.mono (fun k e => by rw [e]; exact (h.lo bw (by rw [h.tw]; exact nofun)).1)⟩
end
end Go.Proofs.Qxb6500990aGreat
