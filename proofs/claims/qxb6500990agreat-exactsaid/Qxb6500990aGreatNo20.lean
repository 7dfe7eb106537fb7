/- package node: Check -/
import Derived.Test.Qxb6500990aGreatNo19
import Derived.Test.Qxb6500990aGreatInv
set_option linter.unusedVariables false
set_option linter.unusedSimpArgs false
namespace Go.Proofs.Qxb6500990aGreat
open Go Go.RowKit Go.Tw
attribute [local go_sem] World.cell?_put_same World.cell?_put_ne World.cell?_put_ne' World.frozen?_put_same World.frozen?_put_ne World.frozen?_put_ne' World.setCell_put_same World.setCell_put_ne World.setCell_put_ne' World.inB_put World.inB_alloc World.inB_drew World.inB_drewN World.inB_new World.inB_setCell World.put_drew World.put_drewN World.q_setCell_drew World.q_setCell_drewN World.q_alloc_drew World.q_alloc_drewN World.put_put_same World.put_put_2 World.size_put World.q_cell?_alloc_old World.q_frozen?_alloc_old World.cell?_alloc_new' World.frozen?_alloc_new' World.q_setCell_alloc_old World.q_setCell_alloc_new World.q_put_alloc_old World.cell?_force_same World.frozen?_force_same World.cell?_force2_fst World.cell?_force2_snd NodeR.g0 NodeR.s0 NodeR.g1 NodeR.s1 NodeR.g2 NodeR.s2 NodeR.g3 NodeR.s3 NodeR.g4 NodeR.s4 NodeR.g5 NodeR.s5 NodeR.g6 NodeR.s6 NodeR.g7 NodeR.s7 NodeR.g8 NodeR.s8 NodeR.g9 NodeR.s9 NodeR.g10 NodeR.s10 NodeR.g11 NodeR.s11 NodeR.g12 NodeR.s12 NodeR.g13 NodeR.s13 NodeR.g14 NodeR.s14 NodeR.g15 NodeR.s15 NodeR.g16 NodeR.s16 NodeR.g17 NodeR.s17 NodeR.g18 NodeR.s18 NodeR.g19 NodeR.s19 NodeR.g20 NodeR.s20 NodeR.g21 NodeR.s21 NodeR.g22 NodeR.s22 NodeR.g23 NodeR.s23 NodeR.g24 NodeR.s24 NodeR.g25 NodeR.s25 NodeR.g26 NodeR.s26 NodeR.gi_used_0 NodeR.si_used_0 NodeR.gi_seq_0 NodeR.si_seq_0 NodeR.gi_idx_0 NodeR.si_idx_0 NodeR.gi_reps_0 NodeR.si_reps_0 NodeR.gi_reps_1 NodeR.si_reps_1 NodeR.gi_reps_2 NodeR.si_reps_2 NodeR.gi_reps_3 NodeR.si_reps_3 SyncV.g0 SyncV.s0 SyncV.g1 SyncV.s1 SyncV.g2 SyncV.s2 SyncV.g3 SyncV.s3 SyncV.g4 SyncV.s4 SyncV.g5 SyncV.s5 SyncV.g6 SyncV.s6 SyncV.g7 SyncV.s7 SyncV.g8 SyncV.s8 SyncV.g9 SyncV.s9 SyncV.g10 SyncV.s10 SyncV.g11 SyncV.s11 SyncV.g12 SyncV.s12 SyncV.g13 SyncV.s13 SyncV.g14 SyncV.s14 SyncV.g15 SyncV.s15 SyncV.g16 SyncV.s16 SyncV.g17 SyncV.s17 SyncV.g18 SyncV.s18 SyncV.g19 SyncV.s19 SyncV.gi_got_0 SyncV.si_got_0 SyncV.gi_next_0 SyncV.si_next_0 SyncV.gi_mtch_0 SyncV.si_mtch_0
attribute [local go_sem] ba_get upd_same upd_upd encC_n encC_s
set_option maxHeartbeats 4000000
set_option maxRecDepth 100000
section
variable {W w : World} {G : Nat → Prop} {q : NoP} {n : AN} {R : List Reply}
theorem c14 (h : RNp W G q n R) (ok : n.Ok) (hi : n.In) : Calls Tryz.prog 14 #[vp q.b] W fun r w' => r = .returned (vs []) ∧ ModP (fun _ => False) W w' := by
  obtain ⟨rs, hb0, -, hR⟩ := h.hb
  unfold RNo at hb0
  obtain ⟨nr, hnr⟩ : ∃ x : Nat, R.length = x := ⟨_, rfl⟩
  rw [hnr] at hb0 hR
  clear hnr
  have hc := hb0.cell
  have ib := hb0.inB
  have hb := hidIt hb0
  obtain ⟨f, en, es, he0, e0, e1, e2, e3⟩ := h.hw
  have hce := he0.cell
  have ie := he0.inB
  have HE := hidIt he0
  have hM := hidIt (by obtain ⟨G1, bx, g1, -⟩ := h.hs; exact c40 g1.rs ok.sy.el)
  unfold AS.view at hM
  have da : decide (n.applied < n.sy.lg.now.base) = false := by have := hi.b; simp; omega
  have db : decide (n.sy.commit < n.applied) = false := by have := hi.c; simp; omega
  have d0 : decide (en < 0) = false := by simp; omega
  have d1 : decide (234 < en) = false := by simp; omega
  have d2 : decide (es < 0) = false := by simp; omega
  have d3 : decide (65535 < es) = false := by simp; omega
  have d5 : decide (3 < nr) = false := by simp; omega
  have d6 : decide ((3 : Int) < nr) = false := by simp; omega
  have HU := hidIt hi.u
  have HZ := hidIt hi.z
  clear h ok hi hb0 he0 e0 e1 e2 e3 hR
  generalize n.sy.lg.now.base = vb at *
  generalize n.sy.commit = vc at *
  generalize n.sy.lg.now.last = vl at *
  generalize n.sy.el.role = vr at *
  generalize n.sy.el.id = vid at *
  go_enter Tryz.func14, Tryz.ntmps14
  go_wp2_with (first
    | (go_at_call 40; refine hM.out.mono ?_; rintro _ w1 ⟨bv, rfl, lv, hv, m1⟩; have hb1 := m1.at hb.out (fun x => x); have he1 := m1.at HE.out (fun x => x); have hcv := hv.cell; have iv := hv.inB; have hc1 := hb1.cell; have ib1 := hb1.inB; have hce1 := he1.cell; have ie1 := he1.inB; have M1 := hidIt m1; have Hv := hidIt hv; have Hb := hidIt hb1; have He := hidIt he1; clear m1 hv hb1 he1 hc hce ib ie hb HE hM))
  refine Ord.region1 [] [0, 1, 2, 3, 4, 5, 6, 7] [8] (by kernel_rfl) (by kernel_rfl) (fun _ _ d _ _ h => by cases d <;> exact h) ?_
  simp only [Ord.pickO, Ord.nth]
  refine wpQuiet_nil ?_
  repeat (go_big_quiet_step (fail))
  refine wpQuiet_nil ?_
  go_wp2_with fail
  refine Ord.region1 [] [0, 1, 2, 3, 4, 5, 6, 7] [8] (by kernel_rfl) (by kernel_rfl) (fun _ _ d _ _ h => by cases d <;> exact h) ?_
  simp only [Ord.pickO, Ord.nth]
  refine wpQuiet_nil ?_
  repeat (go_big_quiet_step (fail))
  refine wpQuiet_nil ?_
  go_wp2_with fail
  refine Ord.region1 [] [0, 1, 2, 3, 4, 5, 6, 7] [8] (by kernel_rfl) (by kernel_rfl) (fun _ _ d _ _ h => by cases d <;> exact h) ?_
  simp only [Ord.pickO, Ord.nth]
  refine wpQuiet_nil ?_
  repeat (go_big_quiet_step (fail))
  refine wpQuiet_nil ?_
  go_wp2_with fail
  go_loopw [4] (fun cv u => ∃ c : Nat, c ≤ 3 ∧ cv = vi c ∧ Hid (ModP (fun _ => False) w1 u)) (fun cv _ => 3 - (intOf cv).toNat)
  case atStart => exact ⟨0, by omega, rfl, (by repeat (first | assumption | exact ModP.refl _ _ | refine ModP.fromPut ?_ (by assumption) | apply ModP.alloc | apply ModP.drew | apply ModP.drewN | refine ModP.put ?_ (by first | (left; assumption) | (left; rfl) | (right; simp only [World.inB, World.size_put] at *; omega)) _ _))⟩
  case round =>
    obtain ⟨c, hc3, rfl, M⟩ := hrel
    have a1 := M.out.at Hv.out (fun f => f)
    have a2 := M.out.at Hb.out (fun f => f)
    have a3 := M.out.at He.out (fun f => f)
    clear hcv iv hc1 ib1 hce1 ie1
    have hcv := a1.cell
    have iv := a1.inB
    have hc1 := a2.cell
    have ib1 := a2.inB
    have hce1 := a3.cell
    have ie1 := a3.inB
    clear a1 a2 a3
    by_cases hcn : c < 3
    · have c4 : (c : Int) < 3 := by omega
      rcases hu : n.used c with _ | _
      · obtain ⟨z1, z2⟩ := HZ.out c hcn hu
        have z3 : (n.seq c != 0) = false := by simpa using z1
        have z4 : (n.idx c != 0) = false := by simpa using z2
        clear z1 z2
        go_wp2_with fail
        go_roundw
        case rel => exact ⟨c + 1, by omega, by go_num, M⟩
        case measure => simp [intOf]; omega
      · obtain ⟨z1, z2, z3, z4, z5⟩ := HU.out c hcn hu
        have y1 : (vr != 2) = false := by simpa using z1
        have y2 : decide (n.idx c ≤ n.applied) = false := by simp; omega
        have y3 : decide (vl < n.idx c) = false := by simp; omega
        have y4 : decide (n.seq c < 1) = false := by simp; omega
        have y5 : decide (72057594037927936 < n.seq c) = false := by unfold maxT at z5; simp; omega
        clear z1 z2 z3 z4 z5
        go_wp2_with fail
        refine Ord.region1 [] [0, 1, 2, 3, 4, 5, 6, 7, 8, 9, 10, 11, 12, 13, 14, 15, 16, 17, 18, 19, 20, 21, 22] [23] (by kernel_rfl) (by kernel_rfl) (fun _ _ d _ _ h => by cases d <;> exact h) ?_
        simp only [Ord.pickO, Ord.nth]
        refine wpQuiet_nil ?_
        repeat (go_big_quiet_step (fail))
        refine wpQuiet_nil ?_
        go_wp2_with fail
        go_roundw
        case rel => exact ⟨c + 1, by omega, by go_num, M.out.drew⟩
        case measure => simp [intOf]; omega
    · have d3 : decide ((c : Int) < 3) = false := by simp; omega
      have hc' : c = 3 := by omega
      have Hc := hidIt hc'
      clear hc'
      go_wp2_with fail
      go_ret
      exact ⟨rfl, M1.out.trans M.out⟩
end
end Go.Proofs.Qxb6500990aGreat
