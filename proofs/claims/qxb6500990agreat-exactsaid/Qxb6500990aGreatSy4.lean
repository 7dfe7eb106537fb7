/- package sync: refresh, Propose, Compact -/
import Derived.Test.Qxb6500990aGreatSy3
set_option linter.unusedVariables false
set_option linter.unusedSimpArgs false
namespace Go.Proofs.Qxb6500990aGreat
open Go Go.RowKit Go.Tw
attribute [local go_sem] World.cell?_put_same World.cell?_put_ne World.cell?_put_ne' World.frozen?_put_same World.frozen?_put_ne World.frozen?_put_ne' World.setCell_put_same World.setCell_put_ne World.setCell_put_ne' World.inB_put World.inB_alloc World.inB_drew World.inB_drewN World.inB_new World.inB_setCell World.put_drew World.put_drewN World.q_setCell_drew World.q_setCell_drewN World.q_alloc_drew World.q_alloc_drewN World.put_put_same World.put_put_2 World.size_put World.q_cell?_alloc_old World.q_frozen?_alloc_old World.cell?_alloc_new' World.frozen?_alloc_new' World.q_setCell_alloc_old World.q_setCell_alloc_new World.q_put_alloc_old World.cell?_force_same World.frozen?_force_same World.cell?_force2_fst World.cell?_force2_snd SyncR.g0 SyncR.s0 SyncR.g1 SyncR.s1 SyncR.g2 SyncR.s2 SyncR.g3 SyncR.s3 SyncR.g4 SyncR.s4 SyncR.g5 SyncR.s5 SyncR.g6 SyncR.s6 SyncR.g7 SyncR.s7 SyncR.g8 SyncR.s8 SyncR.g9 SyncR.s9 SyncR.g10 SyncR.s10 SyncR.g11 SyncR.s11 SyncR.g12 SyncR.s12 SyncR.g13 SyncR.s13 SyncR.g14 SyncR.s14 SyncR.g15 SyncR.s15 SyncR.g16 SyncR.s16 SyncR.g17 SyncR.s17 SyncR.g18 SyncR.s18 SyncR.g19 SyncR.s19 SyncR.g20 SyncR.s20 SyncR.g21 SyncR.s21 SyncR.g22 SyncR.s22 SyncR.g23 SyncR.s23 SyncR.g24 SyncR.s24 SyncR.g25 SyncR.s25 SyncR.g26 SyncR.s26 SyncR.g27 SyncR.s27 SyncR.g28 SyncR.s28 SyncR.g29 SyncR.s29 SyncR.g30 SyncR.s30 SyncR.g31 SyncR.s31 SyncR.g32 SyncR.s32 SyncR.g33 SyncR.s33 SyncR.g34 SyncR.s34 SyncR.g35 SyncR.s35 SyncR.g36 SyncR.s36 SyncR.g37 SyncR.s37 SyncR.g38 SyncR.s38 SyncR.g39 SyncR.s39 SyncR.g40 SyncR.s40 SyncR.g41 SyncR.s41 SyncR.gi_next_0 SyncR.si_next_0 SyncR.gi_mtch_0 SyncR.si_mtch_0 SyncR.gi_box_0 SyncR.si_box_0 SyncR.gi_box_1 SyncR.si_box_1 SyncR.gi_box_2 SyncR.si_box_2 SyncR.gi_box_3 SyncR.si_box_3 SyncR.gi_box_4 SyncR.si_box_4 SyncR.gi_box_5 SyncR.si_box_5 SyncR.gi_box_6 SyncR.si_box_6 SyncR.gi_box_7 SyncR.si_box_7 SyncR.gi_box_8 SyncR.si_box_8 SyncR.gi_box_9 SyncR.si_box_9 Entry.g0 Entry.s0 Entry.g1 Entry.s1
attribute [local go_sem] ba_get upd_same upd_upd
set_option maxHeartbeats 4000000
set_option maxRecDepth 100000
section
variable {W w : World} {G : Nat → Prop} {p : SyP} {A : AS} {la lt : Int} {ms : List Msg}
theorem c70 (h : RB G W p A la lt ms w) : Calls Tryz.prog 70 #[vp p.b] w fun x w' => x = .returned (.tuple #[]) ∧ RS G W p A ms w' := by
  unfold RS
  obtain ⟨G1, h1⟩ := h.lk
  have q123 := hidIt (k123 h1)
  obtain ⟨y, bx, rfl, iy, hset⟩ := h.open
  have HS := hidIt hset
  have q124 := hidIt (fun w' (hw : ∃ G1, RLK w' G1 p.bl p.bd A.lg p.N p.r) => (show Calls Tryz.prog 124 #[vp p.bl, vi A.lg.now.last] w' fun x w'' => x = .returned (.tuple #[vi (A.lg.now.termAt A.lg.now.last).1, vi (A.lg.now.termAt A.lg.now.last).2]) ∧ ModP (fun _ => False) w' w'' from by obtain ⟨G2, h2⟩ := hw; exact k124 h2 _))
  clear h h1 hset
  generalize A.lg.now.termAt A.lg.now.last = tt at *
  obtain ⟨t1, t2⟩ := tt
  generalize A.lg.now.last = la2 at *
  go_enter Tryz.func70, Tryz.ntmps70
  go_wp2_with (first
    | (go_at_call 123; refine q123.out.mono ?_; rintro _ w0 ⟨rfl, e⟩; obtain rfl := e.symm))
  have R0 := hidIt ((HS.out A.commit A.next A.mtch la2 lt).fr ((ModP.refl _ _).drew))
  clear HS
  refine Ord.region3 (fun _ => True) [] [0, 1, 2, 3, 4, 5, 6, 7] (.one 8 false (.val 9 (.val 10 (.val 11 (.val 12 (.val 13 .fin)))))) true (fun _ _ => trivial) (by kernel_rfl) (by kernel_rfl) (fun _ _ d _ _ h => by cases d <;> exact h) trivial ?_
  simp only [Ord.pickO, Ord.nth]
  refine wpQuiet_nil ?_
  repeat (go_big_quiet_step (fail))
  refine wpQuiet_nil ?_
  -- steps: ['N8', 'V9', 'V10', 'V11', 'V12', 'V13']
  refine Ord.wpS_next rfl ?_
  intro K hK
  dsimp only [Ord.nth]
  go_wp2_with (first
    | (go_at_call 124; refine Calls.mono (q124.out _ R0.out.lk) ?_; rintro _ w1 ⟨rfl, m1⟩; have R1 := R0.out.fr m1; clear m1 R0; obtain ⟨y2, bx2, rfl, iy2, hset2⟩ := R1.open; have HS2 := hidIt hset2; clear hset2 R1))
  refine Ord.wpS_val rfl ?_
  dsimp only [Ord.nth]
  go_big_quiet_step (fail)
  refine wpQuiet_nil ?_
  refine Ord.wpS_val rfl ?_
  dsimp only [Ord.nth]
  go_big_quiet_step (fail)
  refine wpQuiet_nil ?_
  refine Ord.wpS_val rfl ?_
  dsimp only [Ord.nth]
  go_big_quiet_step (fail)
  refine wpQuiet_nil ?_
  refine Ord.wpS_val rfl ?_
  dsimp only [Ord.nth]
  go_big_quiet_step (fail)
  refine wpQuiet_nil ?_
  refine Ord.wpS_val rfl ?_
  dsimp only [Ord.nth]
  go_big_quiet_step (fail)
  refine wpQuiet_nil ?_
  refine Ord.wpS_fin ?_
  go_wp2_with fail
  go_end0
  exact ⟨rfl, HS2.out A.commit A.next A.mtch la2 t1⟩
theorem c215 (h : RS G W p A [] w) (hn : A.lg.hist.length ≤ 480) (u : Int) (sn : Bs) : Calls Tryz.prog 215 #[vp p.b, vi u, vs sn] w fun x w' => x = .returned (vi (A.compact u sn).1) ∧ RS G W p (A.compact u sn).2 [] w' := by
  have hcl := AL.compact_last A.lg u sn
  unfold RS at *
  obtain ⟨bx, hb⟩ := h.hb
  have hS := hidIt (RB.log h (R := fun x => x = .returned (vi (A.lg.compact u sn).1)) (lg' := (A.lg.compact u sn).2) (fun G1 h1 _ => c263 h1 hn u sn))
  have Hh := hidIt h
  have hc := hb.cell
  have ib := hb.inB
  unfold RSy at hc
  have HC := hidIt hcl
  clear h hb hcl
  by_cases h1 : A.commit < u
  · have hk : Hid (A.compact u sn = (1, A)) := by unfold Hid AS.compact; rw [if_pos h1]
    go_enter Tryz.func215, Tryz.ntmps215
    go_wp2_with fail
    go_ret
    rw [hk.out]
    exact ⟨rfl, Hh.out⟩
  · have hk : Hid (A.compact u sn = ((A.lg.compact u sn).1, { A with lg := (A.lg.compact u sn).2 })) := by unfold Hid AS.compact; rw [if_neg h1]
    go_enter Tryz.func215, Tryz.ntmps215
    go_wp2_with (go_at_call 263; refine hS.out.mono ?_; rintro _ w2 ⟨rfl, m⟩)
    go_ret
    rw [hk.out]
    refine ⟨rfl, ?_⟩
    show RB G W p { A with lg := (A.lg.compact u sn).2 } (A.lg.compact u sn).2.now.last ((A.lg.compact u sn).2.now.termAt (A.lg.compact u sn).2.now.last).1 [] w2
    rw [HC.out.1, HC.out.2]
    exact m
theorem c95 (h : RS G W p A [] w) (oe : A.el.Ok) (hn : A.lg.hist.length ≤ 480) (d : Bs) : Calls Tryz.prog 95 #[vp p.b, vs d] w fun x w' => x = .returned (.tuple #[vi (A.propose d).1.1, vi (A.propose d).1.2]) ∧ RS G W p (A.propose d).2 [] w' := by
  have hE := hidIt h.he
  have Hoe := hidIt oe
  have Hh := hidIt h
  have hap := hidIt (AL.append_last A.lg ⟨A.el.term, d⟩)
  have hG : Hid (d.length ≤ 24 → Calls Tryz.prog 142 #[vp p.b, .agg (Entry.cells ⟨A.el.term, d⟩)] w fun x w' => x = .returned (vi (A.lg.append ⟨A.el.term, d⟩).1) ∧ RS G W p { A with lg := (A.lg.append ⟨A.el.term, d⟩).2 } [] w') := fun hd => c142 h hn (entOK_iff.2 ⟨oe.t0, oe.t1, hd⟩)
  obtain ⟨bx, hb⟩ := RB.hb h
  have hc := hb.cell
  have ib := hb.inB
  unfold RSy at hc
  unfold Tw.Entry.cells at hG
  clear h hb oe
  by_cases h1 : A.el.role ≠ 2
  · have hk : Hid (A.propose d = ((0, 8), A)) := by unfold Hid AS.propose; rw [if_pos h1]
    have h1' : (A.el.role != 2) = true := by simpa using h1
    clear h1
    go_enter Tryz.func95, Tryz.ntmps95
    go_wp2_with (first
      | (go_at_call 80; refine (c80 hE.out Hoe.out).mono ?_; rintro _ w0 ⟨rfl, e⟩; obtain rfl := e.symm))
    go_ret2
    rw [hk.out]
    exact ⟨rfl, Hh.out⟩
  have h1' : A.el.role = 2 := Decidable.of_not_not h1
  by_cases h2 : 24 < d.length
  · have hk : Hid (A.propose d = ((0, 5), A)) := by unfold Hid AS.propose; rw [if_neg h1, if_pos h2]
    have h2' : decide ((24 : Int) < d.length) = true := by simp; omega
    clear h1
    go_enter Tryz.func95, Tryz.ntmps95
    go_wp2_with (first
      | (go_at_call 80; refine (c80 hE.out Hoe.out).mono ?_; rintro _ w0 ⟨rfl, e⟩; obtain rfl := e.symm))
    go_ret2
    rw [hk.out]
    exact ⟨rfl, Hh.out⟩
  have h2' : decide ((24 : Int) < d.length) = false := by simp; omega
  have hG2 := hidIt (hG.out (by omega))
  by_cases h3 : (A.lg.append ⟨A.el.term, d⟩).1 ≠ 0
  · have hk : Hid (A.propose d = ((0, 6), A)) := by unfold Hid AS.propose; rw [if_neg h1, if_neg h2, if_pos h3]
    have hA : { A with lg := (A.lg.append ⟨A.el.term, d⟩).2 } = A := by rw [append_err h3]
    have h3' : ((A.lg.append ⟨A.el.term, d⟩).1 != 0) = true := by simpa using h3
    rw [hA] at hG2
    clear hap hG
    generalize (A.lg.append ⟨A.el.term, d⟩).1 = er at *
    clear h1 h2 h3 hA
    go_enter Tryz.func95, Tryz.ntmps95
    go_wp2_with (first
      | (go_at_call 80; refine (c80 hE.out Hoe.out).mono ?_; rintro _ w0 ⟨rfl, e⟩; obtain rfl := e.symm)
      | (go_at_call 78; refine (c78 hE.out).mono ?_; rintro _ w0 ⟨rfl, e⟩; obtain rfl := e.symm)
      | (go_at_call 142; refine hG2.out.mono ?_; rintro _ w2 ⟨rfl, m⟩; have H2 := hidIt m; clear m hc ib))
    go_ret2
    rw [hk.out]
    exact ⟨rfl, H2.out⟩
  · have h3' : (A.lg.append ⟨A.el.term, d⟩).1 = 0 := Decidable.of_not_not h3
    have hk : Hid (A.propose d = (((A.lg.append ⟨A.el.term, d⟩).2.now.last, 0), { A with lg := (A.lg.append ⟨A.el.term, d⟩).2 })) := by unfold Hid AS.propose; rw [if_neg h1, if_neg h2, if_neg h3]
    rw [h3'] at hG2
    clear hG h1 h2 h3 h3' hap
    generalize (A.lg.append ⟨A.el.term, d⟩).2 = lg' at *
    go_enter Tryz.func95, Tryz.ntmps95
    go_wp2_with (first
      | (go_at_call 80; refine (c80 hE.out Hoe.out).mono ?_; rintro _ w0 ⟨rfl, e⟩; obtain rfl := e.symm)
      | (go_at_call 78; refine (c78 hE.out).mono ?_; rintro _ w0 ⟨rfl, e⟩; obtain rfl := e.symm)
      | (go_at_call 142; refine hG2.out.mono ?_; rintro _ w2 ⟨rfl, m⟩; have H2 := hidIt m; clear hc ib; obtain ⟨bx2, hb2⟩ := RB.hb m; have hc := hb2.cell; have ib := hb2.inB; unfold RSy at hc; clear m hb2))
    go_ret2
    rw [hk.out]
    exact ⟨rfl, H2.out⟩
end
end Go.Proofs.Qxb6500990aGreat
