/- package towerexact: owner, KName -/
import Derived.Test.Qxb6500990aGreatEx13
set_option linter.unusedVariables false
set_option linter.unusedSimpArgs false
namespace Go.Proofs.Qxb6500990aGreat
open Go Go.RowKit Go.Tw
attribute [local go_sem] World.cell?_put_same World.cell?_put_ne World.cell?_put_ne' World.frozen?_put_same World.frozen?_put_ne World.frozen?_put_ne' World.setCell_put_same World.setCell_put_ne World.setCell_put_ne' World.inB_put World.inB_alloc World.inB_drew World.inB_drewN World.inB_new World.inB_setCell World.put_drew World.put_drewN World.q_setCell_drew World.q_setCell_drewN World.q_alloc_drew World.q_alloc_drewN World.put_put_same World.put_put_2 World.size_put World.q_cell?_alloc_old World.q_frozen?_alloc_old World.cell?_alloc_new' World.frozen?_alloc_new' World.q_setCell_alloc_old World.q_setCell_alloc_new World.q_put_alloc_old World.cell?_force_same World.frozen?_force_same World.cell?_force2_fst World.cell?_force2_snd OpR.g0 OpR.s0 OpR.g1 OpR.s1 OpR.g2 OpR.s2 OpR.g3 OpR.s3 OpR.g4 OpR.s4 OpR.g5 OpR.s5 WorldR.g0 WorldR.s0 WorldR.g1 WorldR.s1 WorldR.g2 WorldR.s2 WorldR.g3 WorldR.s3 WorldR.g4 WorldR.s4 WorldR.g5 WorldR.s5 WorldR.g6 WorldR.s6 WorldR.g7 WorldR.s7 WorldR.g8 WorldR.s8
attribute [local go_sem] ba_get ba_eq ba_beq
set_option maxHeartbeats 4000000
set_option maxRecDepth 100000
section
variable {B bw S : Nat} {W : World} {own : Own} {c : Conf} {vb vo vr vv : Value}
theorem c8_name (h : WI B W bw own c vb vo vr vv S) (o : OpR) (hw : OpWf o) (hk : o.kind = 102) : Calls Tryz.prog 8 #[vp bw, .agg o.cells] W (OwnR B W bw S) := by
  obtain ⟨k, a, b, cc, s, t⟩ := o
  have ha := hw.a
  simp only [] at hk ha
  subst hk
  obtain ⟨adb, capb, rfl, -⟩ := ownsRow_form h.rb.1
  obtain ⟨ado, capo, rfl, -⟩ := ownsRow_form h.ro.1
  obtain ⟨adr, capr, rfl, -⟩ := ownsRow_form h.rr.1
  obtain ⟨adv, capv, rfl, -⟩ := ownsRow_form h.rv.1
  have H := hidIt h
  have lb : c.bs.length ≤ 1073741824 := by have := h.ln; have := h.sz; omega
  obtain ⟨y, hy, iy⟩ := h.hw.door
  subst hy
  clear h hw
  obtain ⟨nb, hnb⟩ : ∃ x, c.bs.length = x := ⟨_, rfl⟩
  rw [hnb] at lb
  by_cases h0 : nb = 0
  · have d0 : decide (0 < nb) = false := by simp; omega
    have d00 : decide ((0 : Int) < nb) = false := by simp; omega
    rw [hnb] at H
    simp only [hnb]
    have HNB := hidIt hnb
    clear hnb h0
    go_enter Tryz.func8, Tryz.ntmps8
    go_wp2_with fail
    go_ret
    have h := H.out
    have m : ModP (fun _ => False) (y.put bw (WorldR.cells ⟨.slice adb nb capb, c.k, c.ra, c.rb, c.old, .slice ado c.os.length capo, .slice adr c.rs.length capr, .slice adv c.vs.length capv, false⟩) 33) ((y.put bw (WorldR.cells ⟨.slice adb nb capb, c.k, c.ra, c.rb, c.old, .slice ado c.os.length capo, .slice adr c.rs.length capr, .slice adv c.vs.length capv, false⟩) 33).alloc (.cells (OpR.cells ⟨102, a, b, cc, s, t⟩) 26)) := (ModP.refl _ _).alloc _
    exact ⟨rfl, own, _, _, _, _, _, h.frame m, m.mono (fun _ f => f.elim)⟩
  · have d0 : decide (0 < nb) = true := by simp; omega
    have d00 : decide ((0 : Int) < nb) = true := by simp; omega
    have hp := pickF_lt a (n := nb) (by omega)
    have q25 := hidIt (fun w => c25 w a nb (by omega) (by omega) ha.1 ha.2)
    rw [hnb] at H
    simp only [hnb]
    have HNB := hidIt hnb
    have HP := hidIt hp
    clear hnb h0 hp
    go_enter Tryz.func8, Tryz.ntmps8
    go_wp2_with fail
    refine Ord.region1 [0] [1, 2, 3, 4, 5, 6, 7] [8, 9, 10, 11] (by kernel_rfl) (by kernel_rfl) (fun _ _ d _ _ h => by cases d <;> exact h) ?_
    simp only [Ord.pickO, Ord.nth]
    repeat (go_big_quiet_step (fail))
    refine wpQuiet_nil ?_
    repeat (go_big_quiet_step (fail))
    refine wpQuiet_nil ?_
    go_wp2_with (first
      | (go_at_call 25; refine (q25.out _).mono ?_; rintro _ w1 ⟨rfl, e⟩; obtain rfl := e.symm))
    go_ret
    have h := H.out
    have m : ∀ kk, ModP (fun x => x = bw) (y.put bw (WorldR.cells ⟨.slice adb nb capb, c.k, c.ra, c.rb, c.old, .slice ado c.os.length capo, .slice adr c.rs.length capr, .slice adv c.vs.length capv, false⟩) 33) ((y.put bw (WorldR.cells ⟨.slice adb nb capb, kk, c.ra, c.rb, c.old, .slice ado c.os.length capo, .slice adr c.rs.length capr, .slice adv c.vs.length capv, false⟩) 33).alloc (.cells (OpR.cells ⟨102, a, b, cc, s, t⟩) 26)).drew := fun kk => ((put_re y bw _ _ 33).alloc _).drew
    refine ⟨rfl, own, _, _, _, _, _, h.plain (m _) (World.At_drew.2 (World.At.alloc (World.At_put_same iy) _)) (fun _ => ?_), (m _).mono (fun k e => by rw [e]; exact (h.lo bw (by rw [h.tw]; exact nofun)).1)⟩
    have h1 := HP.out
    have h2 := HNB.out
    exact ⟨by omega, by rw [h2]; omega⟩
end
end Go.Proofs.Qxb6500990aGreat
