/- package node: catchUp, compact -/
import Derived.Test.Qxb6500990aGreatNo8
set_option linter.unusedVariables false
set_option linter.unusedSimpArgs false
namespace Go.Proofs.Qxb6500990aGreat
open Go Go.RowKit Go.Tw
attribute [local go_sem] World.cell?_put_same World.cell?_put_ne World.cell?_put_ne' World.frozen?_put_same World.frozen?_put_ne World.frozen?_put_ne' World.setCell_put_same World.setCell_put_ne World.setCell_put_ne' World.inB_put World.inB_alloc World.inB_drew World.inB_drewN World.inB_new World.inB_setCell World.put_drew World.put_drewN World.q_setCell_drew World.q_setCell_drewN World.q_alloc_drew World.q_alloc_drewN World.put_put_same World.put_put_2 World.size_put World.q_cell?_alloc_old World.q_frozen?_alloc_old World.cell?_alloc_new' World.frozen?_alloc_new' World.q_setCell_alloc_old World.q_setCell_alloc_new World.q_put_alloc_old World.cell?_force_same World.frozen?_force_same World.cell?_force2_fst World.cell?_force2_snd NodeR.g0 NodeR.s0 NodeR.g1 NodeR.s1 NodeR.g2 NodeR.s2 NodeR.g3 NodeR.s3 NodeR.g4 NodeR.s4 NodeR.g5 NodeR.s5 NodeR.g6 NodeR.s6 NodeR.g7 NodeR.s7 NodeR.g8 NodeR.s8 NodeR.g9 NodeR.s9 NodeR.g10 NodeR.s10 NodeR.g11 NodeR.s11 NodeR.g12 NodeR.s12 NodeR.g13 NodeR.s13 NodeR.g14 NodeR.s14 NodeR.g15 NodeR.s15 NodeR.g16 NodeR.s16 NodeR.g17 NodeR.s17 NodeR.g18 NodeR.s18 NodeR.g19 NodeR.s19 NodeR.g20 NodeR.s20 NodeR.g21 NodeR.s21 NodeR.g22 NodeR.s22 NodeR.g23 NodeR.s23 NodeR.g24 NodeR.s24 NodeR.g25 NodeR.s25 NodeR.g26 NodeR.s26 NodeR.gi_used_0 NodeR.si_used_0 NodeR.gi_seq_0 NodeR.si_seq_0 NodeR.gi_idx_0 NodeR.si_idx_0 NodeR.gi_reps_0 NodeR.si_reps_0 NodeR.gi_reps_1 NodeR.si_reps_1 NodeR.gi_reps_2 NodeR.si_reps_2 NodeR.gi_reps_3 NodeR.si_reps_3 SyncV.g0 SyncV.s0 SyncV.g1 SyncV.s1 SyncV.g2 SyncV.s2 SyncV.g3 SyncV.s3 SyncV.g4 SyncV.s4 SyncV.g5 SyncV.s5 SyncV.g6 SyncV.s6 SyncV.g7 SyncV.s7 SyncV.g8 SyncV.s8 SyncV.g9 SyncV.s9 SyncV.g10 SyncV.s10 SyncV.g11 SyncV.s11 SyncV.g12 SyncV.s12 SyncV.g13 SyncV.s13 SyncV.g14 SyncV.s14 SyncV.g15 SyncV.s15 SyncV.g16 SyncV.s16 SyncV.g17 SyncV.s17 SyncV.g18 SyncV.s18 SyncV.g19 SyncV.s19 SyncV.gi_got_0 SyncV.si_got_0 SyncV.gi_next_0 SyncV.si_next_0 SyncV.gi_mtch_0 SyncV.si_mtch_0
attribute [local go_sem] ba_get upd_same upd_upd
set_option maxHeartbeats 4000000
set_option maxRecDepth 100000
section
variable {W w : World} {G X : Nat → Prop} {q : NoP} {n : AN} {R : List Reply}
theorem c71 (h : RN G W X q n R w) (oe : n.sy.el.Ok) (hsn : n.sy.lg.now.snap.length ≤ 128) : Calls Tryz.prog 71 #[vp q.b] w fun r w' => r = .returned (.tuple #[]) ∧ RN G W X q n.catchUp R w' ∧ ModP (fun k => ¬ X k) w w' := by
  have hV := hidIt (by obtain ⟨G1, g1⟩ := h.rs; exact c40 g1 oe)
  obtain ⟨rs, hb, hr1, hr2⟩ := h.hb
  have hc := hb.cell
  have ib := hb.inB
  unfold RNo at hc
  have H := hidIt h
  have HB := hidIt hb
  unfold RNo at HB
  clear h hb
  unfold AS.view at hV
  by_cases hlt : n.applied < n.sy.lg.now.base
  · have hk : Hid (n.catchUp = { n with kv := (n.kv.restore n.sy.lg.now.snap).2, applied := n.sy.lg.now.base }) := by unfold Hid AN.catchUp; rw [if_pos hlt]
    have d1 : decide (n.sy.lg.now.base > n.applied) = true := by simpa using hlt
    clear hlt
    go_enter Tryz.func71, Tryz.ntmps71
    go_wp2_with (first
      | (go_at_call 40; refine hV.out.mono ?_; rintro _ w1 ⟨bv, rfl, lv, hv, m1⟩; have S1 := hidIt (H.out.fr m1); have HB1 := hidIt (m1.at HB.out (fun f => f)); have hc1 := HB1.out.cell; have ib1 := HB1.out.inB; have HV := hidIt hv; have hcv := hv.cell; have ibv := hv.inB; have M1 := hidIt m1; clear hv m1 hc ib))
    refine Ord.region1 [] [0, 1, 2, 3, 4, 5, 6, 7] [8] (by kernel_rfl) (by kernel_rfl) (fun _ _ d _ _ h => by cases d <;> exact h) ?_
    simp only [Ord.pickO, Ord.nth]
    refine wpQuiet_nil ?_
    repeat (go_big_quiet_step (fail))
    refine wpQuiet_nil ?_
    go_wp2_with fail
    refine Ord.region1 [] [0, 1, 2, 3, 4, 5, 6, 7] [8] (by kernel_rfl) (by kernel_rfl) (fun _ _ d _ _ h => by cases d <;> exact h) ?_
    simp only [Ord.pickO, Ord.nth]
    refine wpQuiet_nil ?_
    repeat (go_big_quiet_step (fail))
    refine wpQuiet_nil ?_
    go_wp2_with (first
      | (go_at_call 125; obtain ⟨Kx, hk1, hk2⟩ := S1.out.hk; refine (c125 (World.At_drew.2 (World.At_drew.2 hk1)) hk2 n.sy.lg.now.snap (by omega)).mono ?_; rintro _ w2 ⟨rfl, ⟨K2, a2, r2⟩, m2⟩; have m2' := m2.undrew.undrew; obtain ⟨s2, x2⟩ := S1.out.store a2 r2 m2'; have HV2 := hidIt (m2'.at HV.out (At.neT HV.out hk1 (by decide))); have X2 := hidIt x2; obtain ⟨y, rs2, rfl, iy, hrr, hr3, HD⟩ := s2.door; have HRR := hidIt hrr; have HR3 := hidIt hr3; clear hk1 hk2 a2 r2 m2 m2' s2 x2 hrr hr3 hc1 ib1 hcv ibv; have nv : bv ≠ q.b := At.neT HV2.out (World.At_put_same iy) (by decide); have hv3 := (World.At_put_ne' nv).1 HV2.out; have hcv := hv3.cell; have ibv := hv3.inB; clear hv3))
    go_end0
    rw [hk.out]
    obtain ⟨f1, f2⟩ := HD.out n.sy.lg.now.base n.used n.seq n.idx rs2 R HRR.out HR3.out
    exact ⟨rfl, f1, ((M1.out.mono fun _ f => f.elim).trans X2.out).trans f2⟩
  · have hk : Hid (n.catchUp = n) := by unfold Hid AN.catchUp; rw [if_neg hlt]
    have d1 : decide (n.sy.lg.now.base > n.applied) = false := by simp; omega
    clear hlt
    go_enter Tryz.func71, Tryz.ntmps71
    go_wp2_with (first
      | (go_at_call 40; refine hV.out.mono ?_; rintro _ w1 ⟨bv, rfl, lv, hv, m1⟩; have S1 := hidIt (H.out.fr m1); have HB1 := hidIt (m1.at HB.out (fun f => f)); have hc1 := HB1.out.cell; have ib1 := HB1.out.inB; have HV := hidIt hv; have hcv := hv.cell; have ibv := hv.inB; have M1 := hidIt m1; clear hv m1 hc ib))
    refine Ord.region1 [] [0, 1, 2, 3, 4, 5, 6, 7] [8] (by kernel_rfl) (by kernel_rfl) (fun _ _ d _ _ h => by cases d <;> exact h) ?_
    simp only [Ord.pickO, Ord.nth]
    refine wpQuiet_nil ?_
    repeat (go_big_quiet_step (fail))
    refine wpQuiet_nil ?_
    go_wp2_with fail
    go_end0
    rw [hk.out]
    exact ⟨rfl, S1.out.fr (ModP.drew (ModP.refl _ _)), (M1.out.mono fun _ f => f.elim).drew⟩
theorem c143_no (h : RN G W X q n R w) (hd : ¬ n.due) : Calls Tryz.prog 143 #[vp q.b, vi n.sy.lg.now.base, vi n.sy.lg.now.last] w fun r w' => r = .returned (.tuple #[]) ∧ ModP (fun _ => False) w w' := by
  obtain ⟨rs, hb, hr1, hr2⟩ := h.hb
  have hc := hb.cell
  have ib := hb.inB
  unfold RNo at hc
  obtain ⟨G1, g1⟩ := h.rs
  have lok := RB.ok g1
  have b0 := lok.b0
  have lm := lok.lm
  have l0 := lok.last0
  have n6 := lok.n6
  have le : n.sy.lg.now.last = n.sy.lg.now.base + n.sy.lg.now.ents.length := rfl
  unfold maxT at lm
  unfold AN.due at hd
  clear h hb g1 lok
  generalize n.sy.lg.now.last = la at *
  generalize n.sy.lg.now.base = ba at *
  by_cases h1 : n.applied ≤ ba
  · have d1 : decide (n.applied ≤ ba) = true := by simpa using h1
    clear hd
    go_enter Tryz.func143, Tryz.ntmps143
    go_wp2_with fail
    refine bodyPost_ret (v := .tuple #[]) (by simp [results, Tryz.results143]) rfl ?_
    exact ⟨rfl, ModP.refl _ _⟩
  · have d1 : decide (n.applied ≤ ba) = false := by simpa using h1
    have h4 : n.applied - ba < 4 := by apply Classical.byContradiction; intro h; exact hd ⟨by omega, .inl (by omega)⟩
    have h6 : la - ba < 6 := by apply Classical.byContradiction; intro h; exact hd ⟨by omega, .inr (by omega)⟩
    have d2 : decide (n.applied - ba < 4) = true := by simpa using h4
    have d3 : decide (la - ba < 6) = true := by simpa using h6
    clear hd
    go_enter Tryz.func143, Tryz.ntmps143
    go_wp2_with fail
    refine bodyPost_ret (v := .tuple #[]) (by simp [results, Tryz.results143]) rfl ?_
    exact ⟨rfl, ModP.refl _ _⟩
theorem c143_yes (h : RN G W X q n R w) (hd : n.due) (ok : n.Ok) (hn : n.sy.lg.hist.length ≤ 480) : Calls Tryz.prog 143 #[vp q.b, vi n.sy.lg.now.base, vi n.sy.lg.now.last] w fun r w' => r = .returned (.tuple #[]) ∧ RN G W X q { n with sy := (n.sy.compact n.applied n.kv.snap).2 } R w' ∧ ModP (fun k => ¬ X k) w w' := by
  obtain ⟨rs, hb, hr1, hr2⟩ := h.hb
  have HB := hidIt hb
  have hc := hb.cell
  have ib := hb.inB
  unfold RNo at hc HB
  obtain ⟨Kx, hk1, hk2⟩ := h.hk
  have qs := hidIt (c214 hk1 hk2)
  have qc := hidIt (fun (u : World) (hu : RN G W X q n R u) => hu.core (A' := (n.sy.compact n.applied n.kv.snap).2) (P := fun r => r = .returned (vi (n.sy.compact n.applied n.kv.snap).1)) (by unfold AS.compact; split <;> rfl) (fun G1 hr => c215 hr hn n.applied n.kv.snap))
  obtain ⟨G1, g1⟩ := h.rs
  have lok := RB.ok g1
  have b0 := lok.b0
  have lm := lok.lm
  have n6 := lok.n6
  have a1 := ok.a1
  have le : n.sy.lg.now.last = n.sy.lg.now.base + n.sy.lg.now.ents.length := rfl
  unfold maxT at lm a1
  unfold AN.due at hd
  have H := hidIt h
  obtain ⟨hd1, hd2⟩ := hd
  have la1 : n.sy.lg.now.base ≤ n.sy.lg.now.last := by omega
  have la2 : n.sy.lg.now.last ≤ 72057594037927936 := by omega
  clear le lm
  have d1 : decide (n.applied ≤ n.sy.lg.now.base) = false := by simp; omega
  clear h hb g1 lok hk1 hk2 ok hn
  by_cases h4 : n.applied - n.sy.lg.now.base < 4
  · have d2 : decide (n.applied - n.sy.lg.now.base < 4) = true := by simpa using h4
    have d3 : decide (n.sy.lg.now.last - n.sy.lg.now.base < 6) = false := by simp; omega
    clear hd2
    go_enter Tryz.func143, Tryz.ntmps143
    go_wp2_with (first
      | (go_at_call 214; refine qs.out.mono ?_; rintro _ w1 ⟨rfl, m1⟩; have M1 := hidIt m1; have S1 := hidIt (H.out.fr m1); have HB1 := hidIt (m1.at HB.out (fun f => f)); have hc1 := HB1.out.cell; have ib1 := HB1.out.inB; clear m1 hc ib))
    refine Ord.region1 [] [0, 1, 2, 3, 4, 5, 6, 7, 8] [9] (by kernel_rfl) (by kernel_rfl) (fun _ _ d _ _ h => by cases d <;> exact h) ?_
    simp only [Ord.pickO, Ord.nth]
    refine wpQuiet_nil ?_
    repeat (go_big_quiet_step (fail))
    refine wpQuiet_nil ?_
    go_wp2_with (first
      | (go_at_call 215; refine (qc.out _ (S1.out.fr (ModP.drew (ModP.refl _ _)))).mono ?_; rintro _ w2 ⟨rfl, s2, m2⟩; have S2 := hidIt s2; have M2 := hidIt m2.undrew; clear s2 m2))
    go_end0
    exact ⟨rfl, S2.out, (M1.out.mono fun _ f => f.elim).trans M2.out⟩
  · have d2 : decide (n.applied - n.sy.lg.now.base < 4) = false := by simpa using h4
    clear hd2
    go_enter Tryz.func143, Tryz.ntmps143
    go_wp2_with (first
      | (go_at_call 214; refine qs.out.mono ?_; rintro _ w1 ⟨rfl, m1⟩; have M1 := hidIt m1; have S1 := hidIt (H.out.fr m1); have HB1 := hidIt (m1.at HB.out (fun f => f)); have hc1 := HB1.out.cell; have ib1 := HB1.out.inB; clear m1 hc ib))
    refine Ord.region1 [] [0, 1, 2, 3, 4, 5, 6, 7, 8] [9] (by kernel_rfl) (by kernel_rfl) (fun _ _ d _ _ h => by cases d <;> exact h) ?_
    simp only [Ord.pickO, Ord.nth]
    refine wpQuiet_nil ?_
    repeat (go_big_quiet_step (fail))
    refine wpQuiet_nil ?_
    go_wp2_with (first
      | (go_at_call 215; refine (qc.out _ (S1.out.fr (ModP.drew (ModP.refl _ _)))).mono ?_; rintro _ w2 ⟨rfl, s2, m2⟩; have S2 := hidIt s2; have M2 := hidIt m2.undrew; clear s2 m2))
    go_end0
    exact ⟨rfl, S2.out, (M1.out.mono fun _ f => f.elim).trans M2.out⟩
theorem c143 (h : RN G W X q n R w) (ok : n.Ok) (hn : n.sy.lg.hist.length ≤ 480) : Calls Tryz.prog 143 #[vp q.b, vi n.sy.lg.now.base, vi n.sy.lg.now.last] w fun r w' => r = .returned (.tuple #[]) ∧ RN G W X q n.compact R w' ∧ ModP (fun k => ¬ X k) w w' := by
  unfold AN.compact
  by_cases hd : n.due
  · rw [if_pos hd]; exact c143_yes h hd ok hn
  · rw [if_neg hd]
    refine (c143_no h hd).mono ?_
    rintro _ w' ⟨rfl, m⟩
    exact ⟨rfl, h.fr m, m.mono fun _ f => f.elim⟩
end
end Go.Proofs.Qxb6500990aGreat
