/- package towerexact: play, the events -/
import Derived.Test.Qxb6500990aGreatEx29
set_option linter.unusedVariables false
set_option linter.unusedSimpArgs false
namespace Go.Proofs.Qxb6500990aGreat
open Go Go.RowKit Go.Tw
attribute [local go_sem] World.cell?_put_same World.cell?_put_ne World.cell?_put_ne' World.frozen?_put_same World.frozen?_put_ne World.frozen?_put_ne' World.setCell_put_same World.setCell_put_ne World.setCell_put_ne' World.inB_put World.inB_alloc World.inB_drew World.inB_drewN World.inB_new World.inB_setCell World.put_drew World.put_drewN World.q_setCell_drew World.q_setCell_drewN World.q_alloc_drew World.q_alloc_drewN World.put_put_same World.put_put_2 World.size_put World.q_cell?_alloc_old World.q_frozen?_alloc_old World.cell?_alloc_new' World.frozen?_alloc_new' World.q_setCell_alloc_old World.q_setCell_alloc_new World.q_put_alloc_old World.cell?_force_same World.frozen?_force_same World.cell?_force2_fst World.cell?_force2_snd OpR.g0 OpR.s0 OpR.g1 OpR.s1 OpR.g2 OpR.s2 OpR.g3 OpR.s3 OpR.g4 OpR.s4 OpR.g5 OpR.s5 DidR.g0 DidR.s0 DidR.g1 DidR.s1 DidR.g2 DidR.s2
attribute [local go_sem] ba_get ba_eq ba_beq
set_option maxHeartbeats 4000000
set_option maxRecDepth 100000
section
variable {B bw S i g : Nat} {W : World} {own : Own} {c : Conf} {b : BC} {vb vo vr vv : Value}
theorem c17_ev1 (h : WI B W bw own c vb vo vr vv S) (hz : S + 1 ≤ 1073741824) (hb : c.bs[i]? = some b) (hg : vb.ownBlock = some g) (hh : b.n.sy.lg.hist.length = 0) (o : OpR) (hw : OpWf o) (hk : o.kind = 1) :
    Calls Tryz.prog 17 #[vp bw, .pointer (some ⟨g, i * 4, none⟩), .agg o.cells] W (PlayR B W bw i b vb S) := by
  obtain ⟨k, oa, ob, oc, os, ot⟩ := o
  have hot := hw.t
  simp only [] at hk hot
  subst hk
  have hlt := (List.getElem?_eq_some_iff.1 hb).1
  obtain ⟨g', capb, cur, hv, ac, hcur⟩ := row_arr h.rb.1 (by omega)
  have hgg : g' = g := by rw [hv] at hg; simpa [Value.ownBlock] using hg
  subst hgg
  have hx := flat_get BC.cells 4 (fun _ => rfl) c.bs i b hb
  have k2 : cur[i * 4 + 2]? = some (vp b.q.b) := hcur _ _ (hx 2 (by omega))
  have k3 : cur[i * 4 + 3]? = some (vp b.p.b) := hcur _ _ (hx 3 (by omega))
  have gd := (h.bs i b hb).gd
  have ex := AN.event_ex gd ⟨1, oa, ob, oc, os, ot⟩
  have sm := AN.event_small b.n ⟨1, oa, ob, oc, os, ot⟩
  obtain ⟨WB, hWB⟩ : ∃ x, Hid (x = W.alloc (.cells (OpR.cells ⟨1, oa, ob, oc, os, ot⟩) 26)) := ⟨_, rfl⟩
  have mWB : ModP (fun _ => False) W WB := by rw [hWB.out]; exact (ModP.refl _ _).alloc _
  have EV : Hid (∃ G G2 P, Ev2 B WB own bw i g' b vb S 42 43 (.agg (OpR.cells ⟨1, oa, ob, oc, os, ot⟩)) (b.n.event ⟨1, oa, ob, oc, os, ot⟩).1 G G2 P) :=
    Ev2.make (n' := (b.n.event ⟨1, oa, ob, oc, os, ot⟩).2) (h.frame mWB) hz hb hg hh sm.1 sm.2 ex.1 ex.2.1 (by have := ex.2.2; omega) (fun G R u hr => c42 hr gd.ok gd.t1 (by omega) _ hot (by simp)) (fun G u hm => c43 hm gd.ok (by omega) _ hot (by simp))
  generalize (b.n.event ⟨1, oa, ob, oc, os, ot⟩).1 = D at EV
  have bxA : WB.At W.heap.size (OpR.cells ⟨1, oa, ob, oc, os, ot⟩) 26 := by rw [hWB.out]; exact World.At_alloc_new
  have acB : WB.At g' cur 41 := mWB.at ac (fun f => f)
  have nob : own W.heap.size = .no := by
    rcases e : own W.heap.size with _ | _ | _ | _ | _ | _ | _ | _ | _ | _ | _ | _ | _ | _
    · rfl
    all_goals (have := (h.lo W.heap.size (by rw [e]; exact nofun)).2; omega)
  have nxg : W.heap.size ≠ g' := fun e => by have h1 : g' < W.heap.size := ac.inB; omega
  have MWB := hidIt mWB
  clear h hw hz hb hg hh hlt hv ac hcur hx gd ex sm mWB hot
  go_enter Tryz.func17, Tryz.ntmps17
  go_upto_region 5 with fail
  rw [← hWB.out]
  clear hWB
  obtain ⟨G, G2, P, ev⟩ := EV.out
  clear EV
  generalize hbx : W.heap.size = bx at *
  clear hbx
  obtain ⟨de, dos, drs⟩ := D
  have EE := hidIt ev
  have ngx := (ev.no bx nob).1
  have ngx2 := hidIt (ev.no bx nob).2
  have CX : Hid (∀ u, ModP G WB u → ∃ z : World, u = z.force2 bx (OpR.cells ⟨1, oa, ob, oc, os, ot⟩) 26 g' cur 41) := fun u m => ca_of2 (m.at bxA ngx) (m.at acB EE.out.ng)
  have CX0 : Hid (∀ u, ModP (fun _ => False) WB u → ∃ z : World, u = z.force2 bx (OpR.cells ⟨1, oa, ob, oc, os, ot⟩) 26 g' cur 41) := fun u m => CX.out u (m.mono fun _ f => f.elim)
  have QE : Hid (EvC 42 #[vp b.q.b, .agg (OpR.cells ⟨1, oa, ob, oc, os, ot⟩)] WB G de P) := ev.e1
  have BXA := hidIt bxA
  have ACB := hidIt acB
  have hcb := bxA.cell
  have icb := bxA.inB
  have hcg := acB.cell
  have icg := acB.inB
  generalize b.q.b = qb at *
  have NGX := hidIt ngx
  clear ev ngx bxA acB nob
  go_cut [7] from 12 (fun vd wc => ∃ d a1 l1 c1 a2 l2 c2, vd = vp d ∧ Hid (WB.heap.size ≤ d) ∧ Hid (wc.At d #[vi de, .slice a1 l1 c1, .slice a2 l2 c2] 117) ∧ Hid (P a1 l1 c1 a2 l2 c2 wc))
  case first =>
    refine Ord.region3 (fun w' => ∃ u : World, w' = u.force2 bx (OpR.cells ⟨1, oa, ob, oc, os, ot⟩) 26 g' cur 41) [0, 1, 2, 3, 4] [] (.two 5 false (.one 6 true (.one 7 false .fin)) 6 true (.one 5 false (.one 7 false .fin))) false (fun h => by cases h) (by kernel_rfl) (Ord.in3q_3 (by kernel_rfl)) (fun _ _ d _ _ h => by cases d <;> exact h) ?ca5_1 ?_
    rotate_left
    simp only [Ord.pickO, Ord.nth]
    repeat (go_big_quiet_step (fail))
    refine wpQuiet_nil ?_
    refine wpQuiet_nil ?_
    -- steps: [['N5', 'L6', 'N7'], ['L6', 'N5', 'N7']]
    rotate_left
    · exact CX0.out _ (ModP.refl _ _).drew
    refine Ord.wpS_two ?_ ?_
    · skip
      refine Ord.wpS_next rfl ?_
      intro K hK
      dsimp only [Ord.nth]
      go_wp2_with (first
        | (go_at_call 42; refine (QE.out.1 _ (ModP.refl _ _).drew).mono ?_; rintro _ w5 ⟨a5, l5, c5, a6, l6, c6, rfl, p5, m5⟩; have P5 := hidIt p5; have M5 := hidIt m5; clear p5 m5))
      refine Ord.wpS_loose rfl ?_
      intro K hK
      dsimp only [Ord.nth]
      go_wp2_with fail
      refine hK _ _ (CX.out _ (M5.out.alloc _)) ?_
      clear hK K
      refine Ord.wpS_next rfl ?_
      intro K hK
      dsimp only [Ord.nth]
      go_wp2_with fail
      refine Ord.wpS_fin ?_
      go_wp2_with fail
      go_meet
      case rel => exact ⟨_, _, _, _, _, _, _, rfl, M5.out.size, World.At_alloc_new, QE.out.2.1 _ _ _ _ _ _ _ _ P5.out ((ModP.refl _ _).alloc _)⟩
    · skip
      refine Ord.wpS_loose rfl ?_
      intro K hK
      dsimp only [Ord.nth]
      go_wp2_with fail
      refine hK _ _ (CX0.out _ ((ModP.refl _ _).drew.alloc _)) ?_
      clear hK K
      refine Ord.wpS_next rfl ?_
      intro K hK
      dsimp only [Ord.nth]
      go_wp2_with (first
        | (go_at_call 42; refine (QE.out.2.2 _ _ _ ((ModP.refl _ _).alloc _).drew (World.At_drew.2 World.At_alloc_new) (Nat.le_refl _)).mono ?_; rintro _ w5 ⟨a5, l5, c5, a6, l6, c6, y5, rfl, rfl, iy5, p5⟩; have P5 := hidIt p5; clear p5))
      refine Ord.wpS_next rfl ?_
      intro K hK
      dsimp only [Ord.nth]
      go_wp2_with fail
      refine Ord.wpS_fin ?_
      go_wp2_with fail
      go_meet
      case rel => exact ⟨_, _, _, _, _, _, _, rfl, Nat.le_refl _, World.At_put_same iy5, P5.out⟩
  case rest =>
    obtain ⟨d, a1, l1, c1, a2, l2, c2, rfl, ld, ad, pd⟩ := hcut
    obtain ⟨w1, hw1⟩ : ∃ x, x = wc := ⟨_, rfl⟩
    subst hw1
    have m1 := EE.out.pm _ _ _ _ _ _ _ pd.out
    obtain ⟨e1, e2, rd1, rd2, ng2, lm2, nx1, nx2, P2, ev2, fin⟩ := EE.out.e2 _ _ _ _ _ _ _ pd.out
    simp only [] at e1 e2
    subst e1 e2
    have RD1 := hidIt rd1
    have RD2 := hidIt rd2
    have NX1 := hidIt nx1
    have NX2 := hidIt nx2
    have FIN := hidIt fin
    have LE := hidIt EE.out.l1
    have LE2 := hidIt EE.out.l2
    have nd2 : Hid (¬ G2 d) := fun f => by have h1 := lm2 _ f; have h2 := ld.out; omega
    have bxA := m1.at BXA.out NGX.out
    have acB := m1.at ACB.out EE.out.ng
    have nxg1 := nxg
    have CXn : Hid (∀ u, ModP G2 w1 u → ∃ z : World, u = z.force2 bx (OpR.cells ⟨1, oa, ob, oc, os, ot⟩) 26 g' cur 41) := fun u m => ca_of2 (m.at bxA ngx2.out) (m.at acB ng2)
    have CXn0 : Hid (∀ u, ModP (fun _ => False) w1 u → ∃ z : World, u = z.force2 bx (OpR.cells ⟨1, oa, ob, oc, os, ot⟩) 26 g' cur 41) := fun u m => CXn.out u (m.mono fun _ f => f.elim)
    clear CX CX0 QE hcb icb hcg icg
    have CX := CXn
    have CX0 := CXn0
    have QE : Hid (EvC 43 #[vp b.p.b, .agg (OpR.cells ⟨1, oa, ob, oc, os, ot⟩)] w1 G2 de P2) := ev2
    have hcb := bxA.cell
    have icb := bxA.inB
    have hcg := acB.cell
    have icg := acB.inB
    generalize b.p.b = pb at *
    clear CXn CXn0 rd1 rd2 nx1 nx2 fin ev2 bxA acB m1 lm2 ng2 EE
    go_upto_region 6 with fail
    go_cut [8] from 12 (fun vd wc => ∃ d a1 l1 c1 a2 l2 c2, vd = vp d ∧ Hid (w1.heap.size ≤ d) ∧ Hid (wc.At d #[vi de, .slice a1 l1 c1, .slice a2 l2 c2] 117) ∧ Hid (P2 a1 l1 c1 a2 l2 c2 wc))
    case first =>
      refine Ord.region3 (fun w' => ∃ u : World, w' = u.force2 bx (OpR.cells ⟨1, oa, ob, oc, os, ot⟩) 26 g' cur 41) [0, 1, 2, 3, 4] [] (.two 5 false (.one 6 true (.one 7 false .fin)) 6 true (.one 5 false (.one 7 false .fin))) false (fun h => by cases h) (by kernel_rfl) (Ord.in3q_3 (by kernel_rfl)) (fun _ _ d _ _ h => by cases d <;> exact h) ?ca6_2 ?_
      rotate_left
      simp only [Ord.pickO, Ord.nth]
      repeat (go_big_quiet_step (fail))
      refine wpQuiet_nil ?_
      refine wpQuiet_nil ?_
      -- steps: [['N5', 'L6', 'N7'], ['L6', 'N5', 'N7']]
      rotate_left
      · exact CX0.out _ (ModP.refl _ _).drew
      refine Ord.wpS_two ?_ ?_
      · skip
        refine Ord.wpS_next rfl ?_
        intro K hK
        dsimp only [Ord.nth]
        go_wp2_with (first
          | (go_at_call 43; refine (QE.out.1 _ (ModP.refl _ _).drew).mono ?_; rintro _ w5 ⟨a5, l5, c5, a6, l6, c6, rfl, p5, m5⟩; have P5 := hidIt p5; have M5 := hidIt m5; clear p5 m5))
        refine Ord.wpS_loose rfl ?_
        intro K hK
        dsimp only [Ord.nth]
        go_wp2_with fail
        refine hK _ _ (CX.out _ (M5.out.alloc _)) ?_
        clear hK K
        refine Ord.wpS_next rfl ?_
        intro K hK
        dsimp only [Ord.nth]
        go_wp2_with fail
        refine Ord.wpS_fin ?_
        go_wp2_with fail
        go_meet
        case rel => exact ⟨_, _, _, _, _, _, _, rfl, M5.out.size, World.At_alloc_new, QE.out.2.1 _ _ _ _ _ _ _ _ P5.out ((ModP.refl _ _).alloc _)⟩
      · skip
        refine Ord.wpS_loose rfl ?_
        intro K hK
        dsimp only [Ord.nth]
        go_wp2_with fail
        refine hK _ _ (CX0.out _ ((ModP.refl _ _).drew.alloc _)) ?_
        clear hK K
        refine Ord.wpS_next rfl ?_
        intro K hK
        dsimp only [Ord.nth]
        go_wp2_with (first
          | (go_at_call 43; refine (QE.out.2.2 _ _ _ ((ModP.refl _ _).alloc _).drew (World.At_drew.2 World.At_alloc_new) (Nat.le_refl _)).mono ?_; rintro _ w5 ⟨a5, l5, c5, a6, l6, c6, y5, rfl, rfl, iy5, p5⟩; have P5 := hidIt p5; clear p5))
        refine Ord.wpS_next rfl ?_
        intro K hK
        dsimp only [Ord.nth]
        go_wp2_with fail
        refine Ord.wpS_fin ?_
        go_wp2_with fail
        go_meet
        case rel => exact ⟨_, _, _, _, _, _, _, rfl, Nat.le_refl _, World.At_put_same iy5, P5.out⟩
    case rest =>
      obtain ⟨e, b1, k1, f1, b2, k2, f2, rfl, le, ae, pe⟩ := hcut
      obtain ⟨w2, hw2⟩ : ∃ x, x = wc := ⟨_, rfl⟩
      subst hw2
      obtain ⟨mb, e1, e2, rd3, rd4, q45⟩ := FIN.out _ _ _ _ _ _ _ pe.out
      simp only [] at e1 e2
      subst e1 e2
      have ad2 := mb.at ad.out nd2.out
      have cd := ad2.cell
      have id := ad2.inB
      have ce := ae.out.cell
      have ie := ae.out.inB
      have q44 := hidIt (c44 ⟨de, dos, drs⟩ (RD1.out.mod mb NX1.out) (RD2.out.mod mb NX2.out) rd3 rd4 (by have := LE.out; simp only [] at this ⊢; omega) (by have := LE2.out; simp only [] at this ⊢; omega))
      have Q45 := hidIt q45
      have AD := hidIt ad2
      clear rd3 rd4 q45 ad2 CX CX0 QE hcb icb hcg icg mb
      unfold Tw.DidR.cells at *
      go_wp2_with (first
        | (go_at_call 44; refine q44.out.mono ?_; rintro _ w3 ⟨rfl, m3⟩; have M3 := hidIt m3; have cd2 := (m3.at AD.out (fun f => f)).cell; have id2 := (m3.at AD.out (fun f => f)).inB; clear m3 cd ce id ie)
        | (go_at_call 45; refine (Q45.out _ M3.out).mono ?_; rintro _ w4 ⟨rfl, p4⟩; have P4 := hidIt p4; clear p4))
      go_ret
      obtain ⟨-, own', c', vo', vr', vv', b', x1, x2, x3, x4, x5⟩ := P4.out
      exact ⟨rfl, own', c', vo', vr', vv', b', x1, x2, x3, x4, (MWB.out.mono fun _ f => f.elim).trans x5⟩
theorem c17_ev2 (h : WI B W bw own c vb vo vr vv S) (hz : S + 1 ≤ 1073741824) (hb : c.bs[i]? = some b) (hg : vb.ownBlock = some g) (hh : b.n.sy.lg.hist.length = 0) (o : OpR) (hw : OpWf o) (hk : o.kind = 2) :
    Calls Tryz.prog 17 #[vp bw, .pointer (some ⟨g, i * 4, none⟩), .agg o.cells] W (PlayR B W bw i b vb S) := by
  obtain ⟨k, oa, ob, oc, os, ot⟩ := o
  have hot := hw.t
  simp only [] at hk hot
  subst hk
  have hlt := (List.getElem?_eq_some_iff.1 hb).1
  obtain ⟨g', capb, cur, hv, ac, hcur⟩ := row_arr h.rb.1 (by omega)
  have hgg : g' = g := by rw [hv] at hg; simpa [Value.ownBlock] using hg
  subst hgg
  have hx := flat_get BC.cells 4 (fun _ => rfl) c.bs i b hb
  have k2 : cur[i * 4 + 2]? = some (vp b.q.b) := hcur _ _ (hx 2 (by omega))
  have k3 : cur[i * 4 + 3]? = some (vp b.p.b) := hcur _ _ (hx 3 (by omega))
  have gd := (h.bs i b hb).gd
  have ex := AN.event_ex gd ⟨2, oa, ob, oc, os, ot⟩
  have sm := AN.event_small b.n ⟨2, oa, ob, oc, os, ot⟩
  obtain ⟨WB, hWB⟩ : ∃ x, Hid (x = W.alloc (.cells (OpR.cells ⟨2, oa, ob, oc, os, ot⟩) 26)) := ⟨_, rfl⟩
  have mWB : ModP (fun _ => False) W WB := by rw [hWB.out]; exact (ModP.refl _ _).alloc _
  have EV : Hid (∃ G G2 P, Ev2 B WB own bw i g' b vb S 42 43 (.agg (OpR.cells ⟨2, oa, ob, oc, os, ot⟩)) (b.n.event ⟨2, oa, ob, oc, os, ot⟩).1 G G2 P) :=
    Ev2.make (n' := (b.n.event ⟨2, oa, ob, oc, os, ot⟩).2) (h.frame mWB) hz hb hg hh sm.1 sm.2 ex.1 ex.2.1 (by have := ex.2.2; omega) (fun G R u hr => c42 hr gd.ok gd.t1 (by omega) _ hot (by simp)) (fun G u hm => c43 hm gd.ok (by omega) _ hot (by simp))
  generalize (b.n.event ⟨2, oa, ob, oc, os, ot⟩).1 = D at EV
  have bxA : WB.At W.heap.size (OpR.cells ⟨2, oa, ob, oc, os, ot⟩) 26 := by rw [hWB.out]; exact World.At_alloc_new
  have acB : WB.At g' cur 41 := mWB.at ac (fun f => f)
  have nob : own W.heap.size = .no := by
    rcases e : own W.heap.size with _ | _ | _ | _ | _ | _ | _ | _ | _ | _ | _ | _ | _ | _
    · rfl
    all_goals (have := (h.lo W.heap.size (by rw [e]; exact nofun)).2; omega)
  have nxg : W.heap.size ≠ g' := fun e => by have h1 : g' < W.heap.size := ac.inB; omega
  have MWB := hidIt mWB
  clear h hw hz hb hg hh hlt hv ac hcur hx gd ex sm mWB hot
  go_enter Tryz.func17, Tryz.ntmps17
  go_upto_region 5 with fail
  rw [← hWB.out]
  clear hWB
  obtain ⟨G, G2, P, ev⟩ := EV.out
  clear EV
  generalize hbx : W.heap.size = bx at *
  clear hbx
  obtain ⟨de, dos, drs⟩ := D
  have EE := hidIt ev
  have ngx := (ev.no bx nob).1
  have ngx2 := hidIt (ev.no bx nob).2
  have CX : Hid (∀ u, ModP G WB u → ∃ z : World, u = z.force2 bx (OpR.cells ⟨2, oa, ob, oc, os, ot⟩) 26 g' cur 41) := fun u m => ca_of2 (m.at bxA ngx) (m.at acB EE.out.ng)
  have CX0 : Hid (∀ u, ModP (fun _ => False) WB u → ∃ z : World, u = z.force2 bx (OpR.cells ⟨2, oa, ob, oc, os, ot⟩) 26 g' cur 41) := fun u m => CX.out u (m.mono fun _ f => f.elim)
  have QE : Hid (EvC 42 #[vp b.q.b, .agg (OpR.cells ⟨2, oa, ob, oc, os, ot⟩)] WB G de P) := ev.e1
  have BXA := hidIt bxA
  have ACB := hidIt acB
  have hcb := bxA.cell
  have icb := bxA.inB
  have hcg := acB.cell
  have icg := acB.inB
  generalize b.q.b = qb at *
  have NGX := hidIt ngx
  clear ev ngx bxA acB nob
  go_cut [7] from 12 (fun vd wc => ∃ d a1 l1 c1 a2 l2 c2, vd = vp d ∧ Hid (WB.heap.size ≤ d) ∧ Hid (wc.At d #[vi de, .slice a1 l1 c1, .slice a2 l2 c2] 117) ∧ Hid (P a1 l1 c1 a2 l2 c2 wc))
  case first =>
    refine Ord.region3 (fun w' => ∃ u : World, w' = u.force2 bx (OpR.cells ⟨2, oa, ob, oc, os, ot⟩) 26 g' cur 41) [0, 1, 2, 3, 4] [] (.two 5 false (.one 6 true (.one 7 false .fin)) 6 true (.one 5 false (.one 7 false .fin))) false (fun h => by cases h) (by kernel_rfl) (Ord.in3q_3 (by kernel_rfl)) (fun _ _ d _ _ h => by cases d <;> exact h) ?ca5_3 ?_
    rotate_left
    simp only [Ord.pickO, Ord.nth]
    repeat (go_big_quiet_step (fail))
    refine wpQuiet_nil ?_
    refine wpQuiet_nil ?_
    -- steps: [['N5', 'L6', 'N7'], ['L6', 'N5', 'N7']]
    rotate_left
    · exact CX0.out _ (ModP.refl _ _).drew
    refine Ord.wpS_two ?_ ?_
    · skip
      refine Ord.wpS_next rfl ?_
      intro K hK
      dsimp only [Ord.nth]
      go_wp2_with (first
        | (go_at_call 42; refine (QE.out.1 _ (ModP.refl _ _).drew).mono ?_; rintro _ w5 ⟨a5, l5, c5, a6, l6, c6, rfl, p5, m5⟩; have P5 := hidIt p5; have M5 := hidIt m5; clear p5 m5))
      refine Ord.wpS_loose rfl ?_
      intro K hK
      dsimp only [Ord.nth]
      go_wp2_with fail
      refine hK _ _ (CX.out _ (M5.out.alloc _)) ?_
      clear hK K
      refine Ord.wpS_next rfl ?_
      intro K hK
      dsimp only [Ord.nth]
      go_wp2_with fail
      refine Ord.wpS_fin ?_
      go_wp2_with fail
      go_meet
      case rel => exact ⟨_, _, _, _, _, _, _, rfl, M5.out.size, World.At_alloc_new, QE.out.2.1 _ _ _ _ _ _ _ _ P5.out ((ModP.refl _ _).alloc _)⟩
    · skip
      refine Ord.wpS_loose rfl ?_
      intro K hK
      dsimp only [Ord.nth]
      go_wp2_with fail
      refine hK _ _ (CX0.out _ ((ModP.refl _ _).drew.alloc _)) ?_
      clear hK K
      refine Ord.wpS_next rfl ?_
      intro K hK
      dsimp only [Ord.nth]
      go_wp2_with (first
        | (go_at_call 42; refine (QE.out.2.2 _ _ _ ((ModP.refl _ _).alloc _).drew (World.At_drew.2 World.At_alloc_new) (Nat.le_refl _)).mono ?_; rintro _ w5 ⟨a5, l5, c5, a6, l6, c6, y5, rfl, rfl, iy5, p5⟩; have P5 := hidIt p5; clear p5))
      refine Ord.wpS_next rfl ?_
      intro K hK
      dsimp only [Ord.nth]
      go_wp2_with fail
      refine Ord.wpS_fin ?_
      go_wp2_with fail
      go_meet
      case rel => exact ⟨_, _, _, _, _, _, _, rfl, Nat.le_refl _, World.At_put_same iy5, P5.out⟩
  case rest =>
    obtain ⟨d, a1, l1, c1, a2, l2, c2, rfl, ld, ad, pd⟩ := hcut
    obtain ⟨w1, hw1⟩ : ∃ x, x = wc := ⟨_, rfl⟩
    subst hw1
    have m1 := EE.out.pm _ _ _ _ _ _ _ pd.out
    obtain ⟨e1, e2, rd1, rd2, ng2, lm2, nx1, nx2, P2, ev2, fin⟩ := EE.out.e2 _ _ _ _ _ _ _ pd.out
    simp only [] at e1 e2
    subst e1 e2
    have RD1 := hidIt rd1
    have RD2 := hidIt rd2
    have NX1 := hidIt nx1
    have NX2 := hidIt nx2
    have FIN := hidIt fin
    have LE := hidIt EE.out.l1
    have LE2 := hidIt EE.out.l2
    have nd2 : Hid (¬ G2 d) := fun f => by have h1 := lm2 _ f; have h2 := ld.out; omega
    have bxA := m1.at BXA.out NGX.out
    have acB := m1.at ACB.out EE.out.ng
    have nxg1 := nxg
    have CXn : Hid (∀ u, ModP G2 w1 u → ∃ z : World, u = z.force2 bx (OpR.cells ⟨2, oa, ob, oc, os, ot⟩) 26 g' cur 41) := fun u m => ca_of2 (m.at bxA ngx2.out) (m.at acB ng2)
    have CXn0 : Hid (∀ u, ModP (fun _ => False) w1 u → ∃ z : World, u = z.force2 bx (OpR.cells ⟨2, oa, ob, oc, os, ot⟩) 26 g' cur 41) := fun u m => CXn.out u (m.mono fun _ f => f.elim)
    clear CX CX0 QE hcb icb hcg icg
    have CX := CXn
    have CX0 := CXn0
    have QE : Hid (EvC 43 #[vp b.p.b, .agg (OpR.cells ⟨2, oa, ob, oc, os, ot⟩)] w1 G2 de P2) := ev2
    have hcb := bxA.cell
    have icb := bxA.inB
    have hcg := acB.cell
    have icg := acB.inB
    generalize b.p.b = pb at *
    clear CXn CXn0 rd1 rd2 nx1 nx2 fin ev2 bxA acB m1 lm2 ng2 EE
    go_upto_region 6 with fail
    go_cut [8] from 12 (fun vd wc => ∃ d a1 l1 c1 a2 l2 c2, vd = vp d ∧ Hid (w1.heap.size ≤ d) ∧ Hid (wc.At d #[vi de, .slice a1 l1 c1, .slice a2 l2 c2] 117) ∧ Hid (P2 a1 l1 c1 a2 l2 c2 wc))
    case first =>
      refine Ord.region3 (fun w' => ∃ u : World, w' = u.force2 bx (OpR.cells ⟨2, oa, ob, oc, os, ot⟩) 26 g' cur 41) [0, 1, 2, 3, 4] [] (.two 5 false (.one 6 true (.one 7 false .fin)) 6 true (.one 5 false (.one 7 false .fin))) false (fun h => by cases h) (by kernel_rfl) (Ord.in3q_3 (by kernel_rfl)) (fun _ _ d _ _ h => by cases d <;> exact h) ?ca6_4 ?_
      rotate_left
      simp only [Ord.pickO, Ord.nth]
      repeat (go_big_quiet_step (fail))
      refine wpQuiet_nil ?_
      refine wpQuiet_nil ?_
      -- steps: [['N5', 'L6', 'N7'], ['L6', 'N5', 'N7']]
      rotate_left
      · exact CX0.out _ (ModP.refl _ _).drew
      refine Ord.wpS_two ?_ ?_
      · skip
        refine Ord.wpS_next rfl ?_
        intro K hK
        dsimp only [Ord.nth]
        go_wp2_with (first
          | (go_at_call 43; refine (QE.out.1 _ (ModP.refl _ _).drew).mono ?_; rintro _ w5 ⟨a5, l5, c5, a6, l6, c6, rfl, p5, m5⟩; have P5 := hidIt p5; have M5 := hidIt m5; clear p5 m5))
        refine Ord.wpS_loose rfl ?_
        intro K hK
        dsimp only [Ord.nth]
        go_wp2_with fail
        refine hK _ _ (CX.out _ (M5.out.alloc _)) ?_
        clear hK K
        refine Ord.wpS_next rfl ?_
        intro K hK
        dsimp only [Ord.nth]
        go_wp2_with fail
        refine Ord.wpS_fin ?_
        go_wp2_with fail
        go_meet
        case rel => exact ⟨_, _, _, _, _, _, _, rfl, M5.out.size, World.At_alloc_new, QE.out.2.1 _ _ _ _ _ _ _ _ P5.out ((ModP.refl _ _).alloc _)⟩
      · skip
        refine Ord.wpS_loose rfl ?_
        intro K hK
        dsimp only [Ord.nth]
        go_wp2_with fail
        refine hK _ _ (CX0.out _ ((ModP.refl _ _).drew.alloc _)) ?_
        clear hK K
        refine Ord.wpS_next rfl ?_
        intro K hK
        dsimp only [Ord.nth]
        go_wp2_with (first
          | (go_at_call 43; refine (QE.out.2.2 _ _ _ ((ModP.refl _ _).alloc _).drew (World.At_drew.2 World.At_alloc_new) (Nat.le_refl _)).mono ?_; rintro _ w5 ⟨a5, l5, c5, a6, l6, c6, y5, rfl, rfl, iy5, p5⟩; have P5 := hidIt p5; clear p5))
        refine Ord.wpS_next rfl ?_
        intro K hK
        dsimp only [Ord.nth]
        go_wp2_with fail
        refine Ord.wpS_fin ?_
        go_wp2_with fail
        go_meet
        case rel => exact ⟨_, _, _, _, _, _, _, rfl, Nat.le_refl _, World.At_put_same iy5, P5.out⟩
    case rest =>
      obtain ⟨e, b1, k1, f1, b2, k2, f2, rfl, le, ae, pe⟩ := hcut
      obtain ⟨w2, hw2⟩ : ∃ x, x = wc := ⟨_, rfl⟩
      subst hw2
      obtain ⟨mb, e1, e2, rd3, rd4, q45⟩ := FIN.out _ _ _ _ _ _ _ pe.out
      simp only [] at e1 e2
      subst e1 e2
      have ad2 := mb.at ad.out nd2.out
      have cd := ad2.cell
      have id := ad2.inB
      have ce := ae.out.cell
      have ie := ae.out.inB
      have q44 := hidIt (c44 ⟨de, dos, drs⟩ (RD1.out.mod mb NX1.out) (RD2.out.mod mb NX2.out) rd3 rd4 (by have := LE.out; simp only [] at this ⊢; omega) (by have := LE2.out; simp only [] at this ⊢; omega))
      have Q45 := hidIt q45
      have AD := hidIt ad2
      clear rd3 rd4 q45 ad2 CX CX0 QE hcb icb hcg icg mb
      unfold Tw.DidR.cells at *
      go_wp2_with (first
        | (go_at_call 44; refine q44.out.mono ?_; rintro _ w3 ⟨rfl, m3⟩; have M3 := hidIt m3; have cd2 := (m3.at AD.out (fun f => f)).cell; have id2 := (m3.at AD.out (fun f => f)).inB; clear m3 cd ce id ie)
        | (go_at_call 45; refine (Q45.out _ M3.out).mono ?_; rintro _ w4 ⟨rfl, p4⟩; have P4 := hidIt p4; clear p4))
      go_ret
      obtain ⟨-, own', c', vo', vr', vv', b', x1, x2, x3, x4, x5⟩ := P4.out
      exact ⟨rfl, own', c', vo', vr', vv', b', x1, x2, x3, x4, (MWB.out.mono fun _ f => f.elim).trans x5⟩
theorem c17_ev3 (h : WI B W bw own c vb vo vr vv S) (hz : S + 1 ≤ 1073741824) (hb : c.bs[i]? = some b) (hg : vb.ownBlock = some g) (hh : b.n.sy.lg.hist.length = 0) (o : OpR) (hw : OpWf o) (hk : o.kind = 3) :
    Calls Tryz.prog 17 #[vp bw, .pointer (some ⟨g, i * 4, none⟩), .agg o.cells] W (PlayR B W bw i b vb S) := by
  obtain ⟨k, oa, ob, oc, os, ot⟩ := o
  have hot := hw.t
  simp only [] at hk hot
  subst hk
  have hlt := (List.getElem?_eq_some_iff.1 hb).1
  obtain ⟨g', capb, cur, hv, ac, hcur⟩ := row_arr h.rb.1 (by omega)
  have hgg : g' = g := by rw [hv] at hg; simpa [Value.ownBlock] using hg
  subst hgg
  have hx := flat_get BC.cells 4 (fun _ => rfl) c.bs i b hb
  have k2 : cur[i * 4 + 2]? = some (vp b.q.b) := hcur _ _ (hx 2 (by omega))
  have k3 : cur[i * 4 + 3]? = some (vp b.p.b) := hcur _ _ (hx 3 (by omega))
  have gd := (h.bs i b hb).gd
  have ex := AN.event_ex gd ⟨3, oa, ob, oc, os, ot⟩
  have sm := AN.event_small b.n ⟨3, oa, ob, oc, os, ot⟩
  obtain ⟨WB, hWB⟩ : ∃ x, Hid (x = W.alloc (.cells (OpR.cells ⟨3, oa, ob, oc, os, ot⟩) 26)) := ⟨_, rfl⟩
  have mWB : ModP (fun _ => False) W WB := by rw [hWB.out]; exact (ModP.refl _ _).alloc _
  have EV : Hid (∃ G G2 P, Ev2 B WB own bw i g' b vb S 42 43 (.agg (OpR.cells ⟨3, oa, ob, oc, os, ot⟩)) (b.n.event ⟨3, oa, ob, oc, os, ot⟩).1 G G2 P) :=
    Ev2.make (n' := (b.n.event ⟨3, oa, ob, oc, os, ot⟩).2) (h.frame mWB) hz hb hg hh sm.1 sm.2 ex.1 ex.2.1 (by have := ex.2.2; omega) (fun G R u hr => c42 hr gd.ok gd.t1 (by omega) _ hot (by simp)) (fun G u hm => c43 hm gd.ok (by omega) _ hot (by simp))
  generalize (b.n.event ⟨3, oa, ob, oc, os, ot⟩).1 = D at EV
  have bxA : WB.At W.heap.size (OpR.cells ⟨3, oa, ob, oc, os, ot⟩) 26 := by rw [hWB.out]; exact World.At_alloc_new
  have acB : WB.At g' cur 41 := mWB.at ac (fun f => f)
  have nob : own W.heap.size = .no := by
    rcases e : own W.heap.size with _ | _ | _ | _ | _ | _ | _ | _ | _ | _ | _ | _ | _ | _
    · rfl
    all_goals (have := (h.lo W.heap.size (by rw [e]; exact nofun)).2; omega)
  have nxg : W.heap.size ≠ g' := fun e => by have h1 : g' < W.heap.size := ac.inB; omega
  have MWB := hidIt mWB
  clear h hw hz hb hg hh hlt hv ac hcur hx gd ex sm mWB hot
  go_enter Tryz.func17, Tryz.ntmps17
  go_upto_region 5 with fail
  rw [← hWB.out]
  clear hWB
  obtain ⟨G, G2, P, ev⟩ := EV.out
  clear EV
  generalize hbx : W.heap.size = bx at *
  clear hbx
  obtain ⟨de, dos, drs⟩ := D
  have EE := hidIt ev
  have ngx := (ev.no bx nob).1
  have ngx2 := hidIt (ev.no bx nob).2
  have CX : Hid (∀ u, ModP G WB u → ∃ z : World, u = z.force2 bx (OpR.cells ⟨3, oa, ob, oc, os, ot⟩) 26 g' cur 41) := fun u m => ca_of2 (m.at bxA ngx) (m.at acB EE.out.ng)
  have CX0 : Hid (∀ u, ModP (fun _ => False) WB u → ∃ z : World, u = z.force2 bx (OpR.cells ⟨3, oa, ob, oc, os, ot⟩) 26 g' cur 41) := fun u m => CX.out u (m.mono fun _ f => f.elim)
  have QE : Hid (EvC 42 #[vp b.q.b, .agg (OpR.cells ⟨3, oa, ob, oc, os, ot⟩)] WB G de P) := ev.e1
  have BXA := hidIt bxA
  have ACB := hidIt acB
  have hcb := bxA.cell
  have icb := bxA.inB
  have hcg := acB.cell
  have icg := acB.inB
  generalize b.q.b = qb at *
  have NGX := hidIt ngx
  clear ev ngx bxA acB nob
  go_cut [7] from 12 (fun vd wc => ∃ d a1 l1 c1 a2 l2 c2, vd = vp d ∧ Hid (WB.heap.size ≤ d) ∧ Hid (wc.At d #[vi de, .slice a1 l1 c1, .slice a2 l2 c2] 117) ∧ Hid (P a1 l1 c1 a2 l2 c2 wc))
  case first =>
    refine Ord.region3 (fun w' => ∃ u : World, w' = u.force2 bx (OpR.cells ⟨3, oa, ob, oc, os, ot⟩) 26 g' cur 41) [0, 1, 2, 3, 4] [] (.two 5 false (.one 6 true (.one 7 false .fin)) 6 true (.one 5 false (.one 7 false .fin))) false (fun h => by cases h) (by kernel_rfl) (Ord.in3q_3 (by kernel_rfl)) (fun _ _ d _ _ h => by cases d <;> exact h) ?ca5_5 ?_
    rotate_left
    simp only [Ord.pickO, Ord.nth]
    repeat (go_big_quiet_step (fail))
    refine wpQuiet_nil ?_
    refine wpQuiet_nil ?_
    -- steps: [['N5', 'L6', 'N7'], ['L6', 'N5', 'N7']]
    rotate_left
    · exact CX0.out _ (ModP.refl _ _).drew
    refine Ord.wpS_two ?_ ?_
    · skip
      refine Ord.wpS_next rfl ?_
      intro K hK
      dsimp only [Ord.nth]
      go_wp2_with (first
        | (go_at_call 42; refine (QE.out.1 _ (ModP.refl _ _).drew).mono ?_; rintro _ w5 ⟨a5, l5, c5, a6, l6, c6, rfl, p5, m5⟩; have P5 := hidIt p5; have M5 := hidIt m5; clear p5 m5))
      refine Ord.wpS_loose rfl ?_
      intro K hK
      dsimp only [Ord.nth]
      go_wp2_with fail
      refine hK _ _ (CX.out _ (M5.out.alloc _)) ?_
      clear hK K
      refine Ord.wpS_next rfl ?_
      intro K hK
      dsimp only [Ord.nth]
      go_wp2_with fail
      refine Ord.wpS_fin ?_
      go_wp2_with fail
      go_meet
      case rel => exact ⟨_, _, _, _, _, _, _, rfl, M5.out.size, World.At_alloc_new, QE.out.2.1 _ _ _ _ _ _ _ _ P5.out ((ModP.refl _ _).alloc _)⟩
    · skip
      refine Ord.wpS_loose rfl ?_
      intro K hK
      dsimp only [Ord.nth]
      go_wp2_with fail
      refine hK _ _ (CX0.out _ ((ModP.refl _ _).drew.alloc _)) ?_
      clear hK K
      refine Ord.wpS_next rfl ?_
      intro K hK
      dsimp only [Ord.nth]
      go_wp2_with (first
        | (go_at_call 42; refine (QE.out.2.2 _ _ _ ((ModP.refl _ _).alloc _).drew (World.At_drew.2 World.At_alloc_new) (Nat.le_refl _)).mono ?_; rintro _ w5 ⟨a5, l5, c5, a6, l6, c6, y5, rfl, rfl, iy5, p5⟩; have P5 := hidIt p5; clear p5))
      refine Ord.wpS_next rfl ?_
      intro K hK
      dsimp only [Ord.nth]
      go_wp2_with fail
      refine Ord.wpS_fin ?_
      go_wp2_with fail
      go_meet
      case rel => exact ⟨_, _, _, _, _, _, _, rfl, Nat.le_refl _, World.At_put_same iy5, P5.out⟩
  case rest =>
    obtain ⟨d, a1, l1, c1, a2, l2, c2, rfl, ld, ad, pd⟩ := hcut
    obtain ⟨w1, hw1⟩ : ∃ x, x = wc := ⟨_, rfl⟩
    subst hw1
    have m1 := EE.out.pm _ _ _ _ _ _ _ pd.out
    obtain ⟨e1, e2, rd1, rd2, ng2, lm2, nx1, nx2, P2, ev2, fin⟩ := EE.out.e2 _ _ _ _ _ _ _ pd.out
    simp only [] at e1 e2
    subst e1 e2
    have RD1 := hidIt rd1
    have RD2 := hidIt rd2
    have NX1 := hidIt nx1
    have NX2 := hidIt nx2
    have FIN := hidIt fin
    have LE := hidIt EE.out.l1
    have LE2 := hidIt EE.out.l2
    have nd2 : Hid (¬ G2 d) := fun f => by have h1 := lm2 _ f; have h2 := ld.out; omega
    have bxA := m1.at BXA.out NGX.out
    have acB := m1.at ACB.out EE.out.ng
    have nxg1 := nxg
    have CXn : Hid (∀ u, ModP G2 w1 u → ∃ z : World, u = z.force2 bx (OpR.cells ⟨3, oa, ob, oc, os, ot⟩) 26 g' cur 41) := fun u m => ca_of2 (m.at bxA ngx2.out) (m.at acB ng2)
    have CXn0 : Hid (∀ u, ModP (fun _ => False) w1 u → ∃ z : World, u = z.force2 bx (OpR.cells ⟨3, oa, ob, oc, os, ot⟩) 26 g' cur 41) := fun u m => CXn.out u (m.mono fun _ f => f.elim)
    clear CX CX0 QE hcb icb hcg icg
    have CX := CXn
    have CX0 := CXn0
    have QE : Hid (EvC 43 #[vp b.p.b, .agg (OpR.cells ⟨3, oa, ob, oc, os, ot⟩)] w1 G2 de P2) := ev2
    have hcb := bxA.cell
    have icb := bxA.inB
    have hcg := acB.cell
    have icg := acB.inB
    generalize b.p.b = pb at *
    clear CXn CXn0 rd1 rd2 nx1 nx2 fin ev2 bxA acB m1 lm2 ng2 EE
    go_upto_region 6 with fail
    go_cut [8] from 12 (fun vd wc => ∃ d a1 l1 c1 a2 l2 c2, vd = vp d ∧ Hid (w1.heap.size ≤ d) ∧ Hid (wc.At d #[vi de, .slice a1 l1 c1, .slice a2 l2 c2] 117) ∧ Hid (P2 a1 l1 c1 a2 l2 c2 wc))
    case first =>
      refine Ord.region3 (fun w' => ∃ u : World, w' = u.force2 bx (OpR.cells ⟨3, oa, ob, oc, os, ot⟩) 26 g' cur 41) [0, 1, 2, 3, 4] [] (.two 5 false (.one 6 true (.one 7 false .fin)) 6 true (.one 5 false (.one 7 false .fin))) false (fun h => by cases h) (by kernel_rfl) (Ord.in3q_3 (by kernel_rfl)) (fun _ _ d _ _ h => by cases d <;> exact h) ?ca6_6 ?_
      rotate_left
      simp only [Ord.pickO, Ord.nth]
      repeat (go_big_quiet_step (fail))
      refine wpQuiet_nil ?_
      refine wpQuiet_nil ?_
      -- steps: [['N5', 'L6', 'N7'], ['L6', 'N5', 'N7']]
      rotate_left
      · exact CX0.out _ (ModP.refl _ _).drew
      refine Ord.wpS_two ?_ ?_
      · skip
        refine Ord.wpS_next rfl ?_
        intro K hK
        dsimp only [Ord.nth]
        go_wp2_with (first
          | (go_at_call 43; refine (QE.out.1 _ (ModP.refl _ _).drew).mono ?_; rintro _ w5 ⟨a5, l5, c5, a6, l6, c6, rfl, p5, m5⟩; have P5 := hidIt p5; have M5 := hidIt m5; clear p5 m5))
        refine Ord.wpS_loose rfl ?_
        intro K hK
        dsimp only [Ord.nth]
        go_wp2_with fail
        refine hK _ _ (CX.out _ (M5.out.alloc _)) ?_
        clear hK K
        refine Ord.wpS_next rfl ?_
        intro K hK
        dsimp only [Ord.nth]
        go_wp2_with fail
        refine Ord.wpS_fin ?_
        go_wp2_with fail
        go_meet
        case rel => exact ⟨_, _, _, _, _, _, _, rfl, M5.out.size, World.At_alloc_new, QE.out.2.1 _ _ _ _ _ _ _ _ P5.out ((ModP.refl _ _).alloc _)⟩
      · skip
        refine Ord.wpS_loose rfl ?_
        intro K hK
        dsimp only [Ord.nth]
        go_wp2_with fail
        refine hK _ _ (CX0.out _ ((ModP.refl _ _).drew.alloc _)) ?_
        clear hK K
        refine Ord.wpS_next rfl ?_
        intro K hK
        dsimp only [Ord.nth]
        go_wp2_with (first
          | (go_at_call 43; refine (QE.out.2.2 _ _ _ ((ModP.refl _ _).alloc _).drew (World.At_drew.2 World.At_alloc_new) (Nat.le_refl _)).mono ?_; rintro _ w5 ⟨a5, l5, c5, a6, l6, c6, y5, rfl, rfl, iy5, p5⟩; have P5 := hidIt p5; clear p5))
        refine Ord.wpS_next rfl ?_
        intro K hK
        dsimp only [Ord.nth]
        go_wp2_with fail
        refine Ord.wpS_fin ?_
        go_wp2_with fail
        go_meet
        case rel => exact ⟨_, _, _, _, _, _, _, rfl, Nat.le_refl _, World.At_put_same iy5, P5.out⟩
    case rest =>
      obtain ⟨e, b1, k1, f1, b2, k2, f2, rfl, le, ae, pe⟩ := hcut
      obtain ⟨w2, hw2⟩ : ∃ x, x = wc := ⟨_, rfl⟩
      subst hw2
      obtain ⟨mb, e1, e2, rd3, rd4, q45⟩ := FIN.out _ _ _ _ _ _ _ pe.out
      simp only [] at e1 e2
      subst e1 e2
      have ad2 := mb.at ad.out nd2.out
      have cd := ad2.cell
      have id := ad2.inB
      have ce := ae.out.cell
      have ie := ae.out.inB
      have q44 := hidIt (c44 ⟨de, dos, drs⟩ (RD1.out.mod mb NX1.out) (RD2.out.mod mb NX2.out) rd3 rd4 (by have := LE.out; simp only [] at this ⊢; omega) (by have := LE2.out; simp only [] at this ⊢; omega))
      have Q45 := hidIt q45
      have AD := hidIt ad2
      clear rd3 rd4 q45 ad2 CX CX0 QE hcb icb hcg icg mb
      unfold Tw.DidR.cells at *
      go_wp2_with (first
        | (go_at_call 44; refine q44.out.mono ?_; rintro _ w3 ⟨rfl, m3⟩; have M3 := hidIt m3; have cd2 := (m3.at AD.out (fun f => f)).cell; have id2 := (m3.at AD.out (fun f => f)).inB; clear m3 cd ce id ie)
        | (go_at_call 45; refine (Q45.out _ M3.out).mono ?_; rintro _ w4 ⟨rfl, p4⟩; have P4 := hidIt p4; clear p4))
      go_ret
      obtain ⟨-, own', c', vo', vr', vv', b', x1, x2, x3, x4, x5⟩ := P4.out
      exact ⟨rfl, own', c', vo', vr', vv', b', x1, x2, x3, x4, (MWB.out.mono fun _ f => f.elim).trans x5⟩
end
end Go.Proofs.Qxb6500990aGreat
