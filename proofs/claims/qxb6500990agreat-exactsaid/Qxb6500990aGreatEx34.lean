/- package towerexact: step, but for KAs -/
import Derived.Test.Qxb6500990aGreatEx26
import Derived.Test.Qxb6500990aGreatEx32
import Derived.Test.Qxb6500990aGreatEx33
import Derived.Deep.CutBlock
set_option linter.unusedVariables false
set_option linter.unusedSimpArgs false
namespace Go.Tw
open Go Go.Proofs Go.Proofs.Qxb6500990aGreat Go.RowKit
section
variable {B bw S i g : Nat} {w w2 w3 : World} {own : Own} {c : Conf} {vb vo vr vv : Value} {G G2 : Nat → Prop} {b : BC} {R : List Reply}
/-- both are marked -/
theorem WI.mark (h : WI B w bw own c vb vo vr vv S) (hb : c.bs[i]? = some b) (tg : ∀ k, G k → own k = .br i) (tm : ∀ k, G2 k → own k = .bm i)
    (r : RNp w2 (trimG G w w2) (b.q.re (b.q.s.N + b.n.sy.lg.hist.length) 0) b.n.mark R) (m1 : ModP G w w2) (nm : NB G2 w2 b.p.b b.p.bs b.p.bl b.p.be b.p.bk b.n.mark w3) :
    ∃ own', WI B w3 bw own' { c with bs := c.bs.set i { b with n := b.n.mark, q := b.q.re (b.q.s.N + b.n.sy.lg.hist.length) 0 } } vb vo vr vv S ∧ ModP (fun k => B ≤ k) w w3 := by
  obtain ⟨Gb, nb, gb, mb⟩ := nm
  have bo := h.bs i b hb
  have lM : ∀ k, G2 k → k < w.heap.size := fun k hk => (h.lo k (by rw [tm k hk]; exact nofun)).2
  have ap : ∀ k, trimG G w w2 k → ¬ G2 k := fun k a f => by
    rcases a.1 with q | q
    · have h1 := tg k q; rw [tm k f] at h1; cases h1
    · have := lM k f; omega
  have m : ModP (fun k => G k ∨ G2 k) w w3 := (m1.mono (fun _ => .inl)).step mb (fun k hk => .inl (.inr hk))
  have nbb := bo.nb
  refine ⟨_, h.baseStep (b' := { b with n := b.n.mark, q := b.q.re (b.q.s.N + b.n.sy.lg.hist.length) 0 }) (S' := S) hb m (fun k f => f.imp (tg k) (tm k)) ⟨R, r.frame mb ap⟩ (fun k a => a.1.imp (tg k) id) nb (fun k a => ?_) (fun k a f => ?_) bo.gd.mark bo.eid (by simp [AN.mark, AS.mark, Lg.al]) ?_ rfl (Nat.le_refl _) h.sz, m.mono (fun k f => ?_)⟩
  · rcases gb k a with q | q
    · exact .inl (tm k q)
    · exact .inr (Nat.le_trans m1.size q)
  · rcases gb k f with q | q
    · exact ap k a q
    · have := a.2; omega
  · show b.q.s.N + b.n.sy.lg.hist.length + 0 ≤ _
    omega
  · rcases f with f | f
    · exact (h.lo k (by rw [tg k f]; exact nofun)).1
    · exact (h.lo k (by rw [tm k f]; exact nofun)).1
end
end Go.Tw
namespace Go.Proofs.Qxb6500990aGreat
open Go Go.RowKit Go.Tw
attribute [local go_sem] World.cell?_put_same World.cell?_put_ne World.cell?_put_ne' World.frozen?_put_same World.frozen?_put_ne World.frozen?_put_ne' World.setCell_put_same World.setCell_put_ne World.setCell_put_ne' World.inB_put World.inB_alloc World.inB_drew World.inB_drewN World.inB_new World.inB_setCell World.put_drew World.put_drewN World.q_setCell_drew World.q_setCell_drewN World.q_alloc_drew World.q_alloc_drewN World.put_put_same World.put_put_2 World.size_put World.q_cell?_alloc_old World.q_frozen?_alloc_old World.cell?_alloc_new' World.frozen?_alloc_new' World.q_setCell_alloc_old World.q_setCell_alloc_new World.q_put_alloc_old World.cell?_force_same World.frozen?_force_same World.cell?_force2_fst World.cell?_force2_snd OpR.g0 OpR.s0 OpR.g1 OpR.s1 OpR.g2 OpR.s2 OpR.g3 OpR.s3 OpR.g4 OpR.s4 OpR.g5 OpR.s5 WorldR.g0 WorldR.s0 WorldR.g1 WorldR.s1 WorldR.g2 WorldR.s2 WorldR.g3 WorldR.s3 WorldR.g4 WorldR.s4 WorldR.g5 WorldR.s5 WorldR.g6 WorldR.s6 WorldR.g7 WorldR.s7 WorldR.g8 WorldR.s8
attribute [local go_sem] ba_get ba_eq ba_beq
set_option maxHeartbeats 4000000
set_option maxRecDepth 100000
section
variable {B bw S : Nat} {W : World} {own : Own} {c : Conf} {vb vo vr vv : Value}
theorem c6_own (h : WI B W bw own c vb vo vr vv S) (hz : S + 1 ≤ 1073741824) (o : OpR) (hw : OpWf o) (hk : 101 ≤ o.kind ∧ o.kind ≤ 110) : Calls Tryz.prog 6 #[vp bw, .agg o.cells] W (OwnR B W bw (S + 1)) := by
  obtain ⟨k, oa, ob, oc, os, ot⟩ := o
  have m0 : ModP (fun _ => False) W (W.alloc (.cells (OpR.cells ⟨k, oa, ob, oc, os, ot⟩) 26)) := (ModP.refl _ _).alloc _
  have q8 := hidIt (c8 (h.frame m0) hz ⟨k, oa, ob, oc, os, ot⟩ hw hk)
  have M0 := hidIt m0
  clear h hz hw hk m0
  go_enter Tryz.func6, Tryz.ntmps6
  go_wp2_with (first
    | (go_at_call 8; refine q8.out.mono ?_; rintro _ w1 ⟨rfl, q1⟩; have Q1 := hidIt q1; clear q1))
  go_ret
  obtain ⟨own', c', vb', vo', vr', vv', wi, m⟩ := Q1.out
  exact ⟨rfl, own', c', vb', vo', vr', vv', wi, (M0.out.mono fun _ f => f.elim).trans m⟩
theorem c6_none (h : WI B W bw own c vb vo vr vv S) (hz : S + 1 ≤ 1073741824) (o : OpR) (hk : o.kind < 101 ∨ 110 < o.kind) (h0 : c.bs = []) : Calls Tryz.prog 6 #[vp bw, .agg o.cells] W (OwnR B W bw (S + 1)) := by
  obtain ⟨k, oa, ob, oc, os, ot⟩ := o
  have m0 : ModP (fun _ => False) W (W.alloc (.cells (OpR.cells ⟨k, oa, ob, oc, os, ot⟩) 26)) := (ModP.refl _ _).alloc _
  have BXA : Hid ((W.alloc (.cells (OpR.cells ⟨k, oa, ob, oc, os, ot⟩) 26)).At W.heap.size (OpR.cells ⟨k, oa, ob, oc, os, ot⟩) 26) := World.At_alloc_new
  have q8 := hidIt (c8_no (W.alloc (.cells (OpR.cells ⟨k, oa, ob, oc, os, ot⟩) 26)) bw ⟨k, oa, ob, oc, os, ot⟩ hk)
  have M0 := hidIt m0
  have H := hidIt h
  have HZ := hidIt hz
  obtain ⟨adb, capb, hv, -⟩ := ownsRow_form h.rb.1
  have bwA := h.hw
  rw [hv, h0] at bwA
  simp only [List.length_nil] at bwA
  have BWA := hidIt bwA
  clear h hz hk m0 bwA
  go_enter Tryz.func6, Tryz.ntmps6
  go_wp2_with (first
    | (go_at_call 8; refine q8.out.mono ?_; rintro _ w1 ⟨rfl, m1⟩; have M1 : Hid (ModP (fun _ => False) W w1) := M0.out.trans m1; have a1 := M1.out.at BWA.out (fun f => f); have hcw := a1.cell; have icw := a1.inB; have a2 := m1.at BXA.out (fun f => f); have A2 := hidIt a2; have hcb := a2.cell; have icb := a2.inB; clear m1 a1 a2))
  go_ret
  exact ⟨rfl, own, c, _, _, _, _, (H.out.frame M1.out).up (by omega) HZ.out, M1.out.mono fun _ f => f.elim⟩
theorem c6_else (h : WI B W bw own c vb vo vr vv S) (hz : S + 1 ≤ 1073741824) (o : OpR) (hk : o.kind < 101 ∨ 110 < o.kind) (hn : c.bs ≠ []) (n4 : o.kind ≠ 4) (n112 : o.kind ≠ 112) (np : ¬ PlayK o.kind) : Calls Tryz.prog 6 #[vp bw, .agg o.cells] W (OwnR B W bw (S + 1)) := by
  obtain ⟨k, oa, ob, oc, os, ot⟩ := o
  simp only [] at n4 n112 np
  unfold PlayK at np
  have e4 : (k == 4) = false := by simpa using n4
  have e112 : (k == 112) = false := by simpa using n112
  have e1 : (k == 1) = false := by simp; omega
  have e2 : (k == 2) = false := by simp; omega
  have e3 : (k == 3) = false := by simp; omega
  have e111 : (k == 111) = false := by simp; omega
  have e21 : (k == 21) = false := by simp; omega
  have e6 : (k == 6) = false := by simp; omega
  have e7 : (k == 7) = false := by simp; omega
  have e8 : (k == 8) = false := by simp; omega
  have e22 : (k == 22) = false := by simp; omega
  have e23 : (k == 23) = false := by simp; omega
  have e24 : (k == 24) = false := by simp; omega
  have e25 : (k == 25) = false := by simp; omega
  have m0 : ModP (fun _ => False) W (W.alloc (.cells (OpR.cells ⟨k, oa, ob, oc, os, ot⟩) 26)) := (ModP.refl _ _).alloc _
  have BXA : Hid ((W.alloc (.cells (OpR.cells ⟨k, oa, ob, oc, os, ot⟩) 26)).At W.heap.size (OpR.cells ⟨k, oa, ob, oc, os, ot⟩) 26) := World.At_alloc_new
  have q8 := hidIt (c8_no (W.alloc (.cells (OpR.cells ⟨k, oa, ob, oc, os, ot⟩) 26)) bw ⟨k, oa, ob, oc, os, ot⟩ hk)
  have M0 := hidIt m0
  have H := hidIt h
  have HZ := hidIt hz
  obtain ⟨i, g, cap, cur, b, hki, hil, hb, hv, hg, ac, ecur, hsz⟩ := h.base hn
  have bwA := h.hw
  rw [hv, hki] at bwA
  have BWA := hidIt bwA
  have d0 : ((c.bs.length : Int) == 0) = false := beq_eq_false_iff_ne.2 (by omega)
  have ci : (i : Int) < c.bs.length := by omega
  clear h hz hk m0 bwA hn n4 n112 np hki hil hb hv hg ac ecur hsz
  go_enter Tryz.func6, Tryz.ntmps6
  go_wp2_with (first
    | (go_at_call 8; refine q8.out.mono ?_; rintro _ w1 ⟨rfl, m1⟩; have M1 : Hid (ModP (fun _ => False) W w1) := M0.out.trans m1; have a1 := M1.out.at BWA.out (fun f => f); have hcw := a1.cell; have icw := a1.inB; have a2 := m1.at BXA.out (fun f => f); have A2 := hidIt a2; have hcb := a2.cell; have icb := a2.inB; clear m1 a1 a2))
  refine Ord.region1 [] [0, 1, 2, 3, 4, 5, 6, 7, 8] [9] (by kernel_rfl) (by kernel_rfl) (fun _ _ d _ _ h => by cases d <;> exact h) ?_
  simp only [Ord.pickO, Ord.nth]
  refine wpQuiet_nil ?_
  repeat (go_big_quiet_step (fail))
  refine wpQuiet_nil ?_
  go_wp2_with fail
  go_ret
  exact ⟨rfl, own, c, _, _, _, _, (H.out.frame M1.out.drew).up (by omega) HZ.out, M1.out.drew.mono fun _ f => f.elim⟩
theorem c6_cut (h : WI B W bw own c vb vo vr vv S) (hz : S + 1 ≤ 1073741824) (o : OpR) (hkk : o.kind = 4) (hn : c.bs ≠ []) : Calls Tryz.prog 6 #[vp bw, .agg o.cells] W (OwnR B W bw (S + 1)) := by
  obtain ⟨k, oa, ob, oc, os, ot⟩ := o
  simp only [] at hkk
  subst hkk
  have hk : (OpR.mk 4 oa ob oc os ot).kind < 101 ∨ 110 < (OpR.mk 4 oa ob oc os ot).kind := .inl (by simp only []; omega)
  have m0 : ModP (fun _ => False) W (W.alloc (.cells (OpR.cells ⟨4, oa, ob, oc, os, ot⟩) 26)) := (ModP.refl _ _).alloc _
  have BXA : Hid ((W.alloc (.cells (OpR.cells ⟨4, oa, ob, oc, os, ot⟩) 26)).At W.heap.size (OpR.cells ⟨4, oa, ob, oc, os, ot⟩) 26) := World.At_alloc_new
  have q8 := hidIt (c8_no (W.alloc (.cells (OpR.cells ⟨4, oa, ob, oc, os, ot⟩) 26)) bw ⟨4, oa, ob, oc, os, ot⟩ hk)
  have M0 := hidIt m0
  have H := hidIt h
  have HZ := hidIt hz
  obtain ⟨i, g, cap, cur, b, hki, hil, hb, hv, hg, ac, ecur, hsz⟩ := h.base hn
  have bwA := h.hw
  rw [hv, hki] at bwA
  have BWA := hidIt bwA
  have d0 : ((c.bs.length : Int) == 0) = false := beq_eq_false_iff_ne.2 (by omega)
  have ci : (i : Int) < c.bs.length := by omega
  have ac' : W.At g (baseC cur (i * 4) ⟨b.id, vp b.q.s.bd, vp b.q.b, vp b.p.b⟩) 41 := by rw [← ecur]; exact ac
  have bo := h.bs i b hb
  have og := h.rb.2 g hg
  have hsS := h.sz
  have q9 : Hid (∀ u, ModP (fun _ => False) W u → Calls Tryz.prog 9 #[.pointer (some ⟨g, i * 4, none⟩), vi oa] u fun r w' => r = .returned (.bool true) ∧ ∃ q' p' n' G2 G2', CutR u g cur (i * 4) b.id (b.q.s.N + b.n.sy.lg.hist.length) w' q' p' n' G2 G2') := fun u m => by
    obtain ⟨⟨G, R, hr, tg⟩, ⟨G2, hm, tm⟩, gd, eid, hh, nb⟩ := bo
    exact c9 (m.at ac' (fun f => f)) hsz (hr.frame m (fun _ _ f => f)) (hm.frame m (fun _ _ f => f)) (fun f => by rw [tg g f] at og; cases og) (fun f => by rw [tm g f] at og; cases og) gd eid (by omega) (by omega) oa
  have HB := hidIt hb
  have HG := hidIt hg
  have AC := hidIt ac
  have NB := hidIt bo.nb
  clear h hz hk m0 bwA hn hki hil hb hv hg ac ecur hsz ac' bo og hsS
  go_enter Tryz.func6, Tryz.ntmps6
  go_wp2_with (first
    | (go_at_call 8; refine q8.out.mono ?_; rintro _ w1 ⟨rfl, m1⟩; have M1 : Hid (ModP (fun _ => False) W w1) := M0.out.trans m1; have a1 := M1.out.at BWA.out (fun f => f); have hcw := a1.cell; have icw := a1.inB; have a2 := m1.at BXA.out (fun f => f); have A2 := hidIt a2; have hcb := a2.cell; have icb := a2.inB; clear m1 a1 a2))
  refine Ord.region1 [] [0, 1, 2, 3, 4, 5, 6, 7, 8] [9] (by kernel_rfl) (by kernel_rfl) (fun _ _ d _ _ h => by cases d <;> exact h) ?_
  simp only [Ord.pickO, Ord.nth]
  refine wpQuiet_nil ?_
  repeat (go_big_quiet_step (fail))
  refine wpQuiet_nil ?_
  go_wp2_with (first
    | (go_at_call 9; refine (q9.out _ M1.out.drew).mono ?_; rintro _ w2 ⟨rfl, q2⟩; have Q2 := hidIt q2; clear q2))
  go_ret
  obtain ⟨q', p', n', G2, G2', cr⟩ := Q2.out
  have wi := (H.out.frame M1.out.drew).rebase (S' := S + 1) (b' := ⟨b.id, n', q', p'⟩) HB.out HG.out (M1.out.drew.at AC.out (fun f => f)) cr.m cr.at_ ⟨[], cr.rn⟩ cr.gr cr.mo cr.gm cr.ap cr.gd cr.eid (by rw [cr.hi]; simp) (by show q'.s.N + n'.sy.lg.hist.length ≤ _; rw [cr.hi, cr.nn]; have := NB.out; simp; omega) (by omega) HZ.out
  exact ⟨rfl, _, _, _, _, _, _, wi, (M1.out.drew.mono fun _ f => f.elim).trans (cr.m.mono fun k e => by rw [e]; exact (H.out.lo g (by rw [H.out.rb.2 g HG.out]; exact nofun)).1)⟩
theorem c6_play (h : WI B W bw own c vb vo vr vv S) (hz : S + 1 ≤ 1073741824) (o : OpR) (hw : OpWf o) (hp : PlayK o.kind) (hn : c.bs ≠ []) : Calls Tryz.prog 6 #[vp bw, .agg o.cells] W (OwnR B W bw (S + 1)) := by
  obtain ⟨k, oa, ob, oc, os, ot⟩ := o
  simp only [] at hp
  have hp' := hp
  unfold PlayK at hp'
  have hk : (OpR.mk k oa ob oc os ot).kind < 101 ∨ 110 < (OpR.mk k oa ob oc os ot).kind := by simp only []; omega
  have e4 : (k == 4) = false := by simp; omega
  have e112 : (k == 112) = false := by simp; omega
  have m0 : ModP (fun _ => False) W (W.alloc (.cells (OpR.cells ⟨k, oa, ob, oc, os, ot⟩) 26)) := (ModP.refl _ _).alloc _
  have BXA : Hid ((W.alloc (.cells (OpR.cells ⟨k, oa, ob, oc, os, ot⟩) 26)).At W.heap.size (OpR.cells ⟨k, oa, ob, oc, os, ot⟩) 26) := World.At_alloc_new
  have q8 := hidIt (c8_no (W.alloc (.cells (OpR.cells ⟨k, oa, ob, oc, os, ot⟩) 26)) bw ⟨k, oa, ob, oc, os, ot⟩ hk)
  have M0 := hidIt m0
  have H := hidIt h
  have HZ := hidIt hz
  obtain ⟨i, g, cap, cur, b, hki, hil, hb, hv, hg, ac, ecur, hsz⟩ := h.base hn
  have bwA := h.hw
  rw [hv, hki] at bwA
  have BWA := hidIt bwA
  have d0 : ((c.bs.length : Int) == 0) = false := beq_eq_false_iff_ne.2 (by omega)
  have ci : (i : Int) < c.bs.length := by omega
  have bo := h.bs i b hb
  have og := h.rb.2 g hg
  have hsS := h.sz
  obtain ⟨⟨G, R, hr, tg⟩, ⟨G2, hm, tm⟩, gd, eid, hh, nb⟩ := bo
  have hx := flat_get BC.cells 4 (fun _ => rfl) c.bs i b hb
  have ac' : W.At g (baseC cur (i * 4) ⟨b.id, vp b.q.s.bd, vp b.q.b, vp b.p.b⟩) 41 := by rw [← ecur]; exact ac
  have k1 : (baseC cur (i * 4) ⟨b.id, vp b.q.s.bd, vp b.q.b, vp b.p.b⟩)[i * 4 + 1]? = some (vp b.q.s.bd) := baseC_g1 _ hsz
  have k3 : (baseC cur (i * 4) ⟨b.id, vp b.q.s.bd, vp b.q.b, vp b.p.b⟩)[i * 4 + 3]? = some (vp b.p.b) := baseC_g3 _ hsz
  rw [← ecur] at k1 k3
  have lG : ∀ k, G k → k < W.heap.size := fun k hk => (h.lo k (by rw [tg k hk]; exact nofun)).2
  have lM : ∀ k, G2 k → k < W.heap.size := fun k hk => (h.lo k (by rw [tm k hk]; exact nofun)).2
  have apg : ∀ k, G2 k → ¬ G k := fun k a f => by have h1 := tg k f; rw [tm k a] at h1; cases h1
  have q15 : Hid (∀ u, ModP (fun _ => False) W u → Calls Tryz.prog 15 #[vp b.q.s.bd] u fun r w' => r = .returned (.tuple #[]) ∧ RNp w' (trimG G u w') (b.q.re (b.q.s.N + b.n.sy.lg.hist.length) 0) b.n.mark R ∧ ModP G u w') := fun u m => c15n (hr.frame m (fun _ _ f => f)) (by omega)
  have q16 : Hid (∀ u u2, ModP (fun _ => False) W u → ModP G u u2 → Calls Tryz.prog 16 #[vp b.p.b] u2 fun r w' => r = .returned (.tuple #[]) ∧ NB G2 u2 b.p.b b.p.bs b.p.bl b.p.be b.p.bk b.n.mark w') := fun u u2 m m2 => c16 (NB.start ((hm.frame m (fun _ _ f => f)).frame m2 apg))
  have ng : Hid (¬ G g) := fun f => by rw [tg g f] at og; cases og
  have ng2 : Hid (¬ G2 g) := fun f => by rw [tm g f] at og; cases og
  have nbx : Hid (¬ G W.heap.size) := fun f => by have := lG _ f; omega
  have nbx2 : Hid (¬ G2 W.heap.size) := fun f => by have := lM _ f; omega
  have q17 : Hid (∀ u u2 u3, ModP (fun _ => False) W u → RNp u2 (trimG G u u2) (b.q.re (b.q.s.N + b.n.sy.lg.hist.length) 0) b.n.mark R → ModP G u u2 → NB G2 u2 b.p.b b.p.bs b.p.bl b.p.be b.p.bk b.n.mark u3 →
      Calls Tryz.prog 17 #[vp bw, .pointer (some ⟨g, i * 4, none⟩), .agg (OpR.cells ⟨k, oa, ob, oc, os, ot⟩)] u3 fun r w' => r = .returned (.bool true) ∧ ∃ hI : Int, ∃ bd' pb', w'.cell? ⟨g, i * 4 + 1, none⟩ = some (vp bd') ∧ w'.cell? ⟨g, i * 4 + 3, none⟩ = some (vp pb') ∧ w'.inB g ∧ Calls Tryz.prog 18 #[vp pb'] w' (fun r w2 => r = .returned (vi hI) ∧ w2 = w') ∧ (hI = 0 → Calls Tryz.prog 11 #[vp bd'] w' (fun r w2 => r = .returned (vi 0) ∧ w2 = w')) ∧ OwnR B W bw (S + 1) (.returned (.bool true)) w') := by
    intro u u2 u3 m r m1 nm
    obtain ⟨own2, wi2, m3⟩ := (h.frame m).mark hb tg tm r m1 nm
    refine (c17 wi2 hz (i := i) (b := { b with n := b.n.mark, q := b.q.re (b.q.s.N + b.n.sy.lg.hist.length) 0 }) (by simp [hil]) hg (by simp [AN.mark, AS.mark, Lg.al]) ⟨k, oa, ob, oc, os, ot⟩ hw hp).mono ?_
    rintro r w4 ⟨rfl, own4, c4, vo4, vr4, vv4, b4, wi4, hb4, -, r4, m4⟩
    have bo4 := wi4.bs i b4 hb4
    have rd := Rd.of_row wi4.rb.1
    have hx4 := flat_get BC.cells 4 (fun _ => rfl) c4.bs i b4 hb4
    have hne : c4.bs.flatMap BC.cells ≠ [] := fun e => by have := hx4 0 (by omega); rw [e] at this; cases this
    obtain ⟨_, _, e1, q1⟩ := rd
    obtain ⟨g1, e2, g2, g3⟩ := q1 hne
    have hgg : g1 = g := by rw [e1, e2] at hg; simpa [Value.ownBlock] using hg
    subst hgg
    refine ⟨rfl, b4.n.sy.lg.hist.length, b4.q.s.bd, b4.p.b, g3 _ _ (hx4 1 (by omega)), g3 _ _ (hx4 3 (by omega)), g2, ?_, fun h0 => ?_, rfl, own4, c4, _, vo4, vr4, vv4, wi4, ((m.mono fun _ f => f.elim).trans m3).trans m4⟩
    · obtain ⟨G5, hm5, -⟩ := bo4.mo
      exact c18 hm5
    · obtain ⟨G5, R5, hr5, -⟩ := bo4.rn
      obtain ⟨Fd, D, dk, -, tie, -⟩ := hr5.disk
      have hi : b4.n.sy.lg.hist = [] := List.eq_nil_of_length_eq_zero (by omega)
      have hwr := tie.idle hi
      rw [r4] at hwr
      have e0 : D.wr.length = 0 := hwr
      have := k11 dk
      rw [e0] at this
      exact this
  have AC := hidIt ac
  have HP := hidIt hp'
  generalize b.q.s.bd = bd at *
  generalize b.p.b = pb at *
  clear h hz hk m0 bwA hn hki hil hb hv hg ac ecur hsz ac' og hsS hp hp' hr hm tg tm gd eid hh nb hx lG lM apg hw
  go_enter Tryz.func6, Tryz.ntmps6
  go_wp2_with (first
    | (go_at_call 8; refine q8.out.mono ?_; rintro _ w1 ⟨rfl, m1⟩; have M1 : Hid (ModP (fun _ => False) W w1) := M0.out.trans m1; have a1 := M1.out.at BWA.out (fun f => f); have hcw := a1.cell; have icw := a1.inB; have a2 := m1.at BXA.out (fun f => f); have A2 := hidIt a2; have hcb := a2.cell; have icb := a2.inB; clear m1 a1 a2))
  refine Ord.region1 [] [0, 1, 2, 3, 4, 5, 6, 7, 8] [9] (by kernel_rfl) (by kernel_rfl) (fun _ _ d _ _ h => by cases d <;> exact h) ?_
  simp only [Ord.pickO, Ord.nth]
  refine wpQuiet_nil ?_
  repeat (go_big_quiet_step (fail))
  refine wpQuiet_nil ?_
  go_upto_block 0 with fail
  go_cut [] from 7 (fun wc => Hid (wc.At W.heap.size (OpR.cells ⟨k, oa, ob, oc, os, ot⟩) 26) ∧ Hid (ModP (fun _ => False) W wc))
  case first =>
    have hp := HP.out
    rcases hp with rfl | rfl | rfl | rfl | rfl | rfl | rfl | rfl | rfl | rfl | rfl | rfl <;>
    · go_wp2_with fail
      go_meet
      case rel => exact ⟨World.At_drew.2 A2.out, M1.out.drew⟩
  case rest =>
    obtain ⟨ab, mc⟩ := hcut
    clear hcw icw hcb icb A2 M1
    have ag := mc.out.at AC.out (fun f => f)
    have hcg := ag.cell
    have icg := ag.inB
    clear ag
    go_wp2_with (first
      | (go_at_call 15; refine (q15.out _ mc.out).mono ?_; rintro _ w2 ⟨rfl, r2, m2⟩; have R2 := hidIt r2; have M2 := hidIt m2; clear hcg icg; have ag := m2.at (mc.out.at AC.out (fun f => f)) ng.out; have hcg := ag.cell; have icg := ag.inB; clear r2 m2 ag)
      | (go_at_call 16; refine (q16.out _ _ mc.out M2.out).mono ?_; rintro _ w3 ⟨rfl, n3⟩; have N3 := hidIt n3; have M3 : Hid (ModP G2 w2 w3) := (by obtain ⟨_, _, _, h⟩ := n3; exact h); clear hcg icg; have ax := M3.out.at (M2.out.at ab.out nbx.out) nbx2.out; have hcx := ax.cell; have icx := ax.inB; clear n3 ax)
      | (go_at_call 17; refine (q17.out _ _ _ mc.out R2.out M2.out N3.out).mono ?_; rintro _ w4 ⟨rfl, hI, bd', pb', u1, u3, ig, q18, q11, ow⟩; have Q18 := hidIt q18; have Q11 := hidIt q11; have OW := hidIt ow; clear hcx icx q18 q11 ow; have dh : (hI == 0) = true ∨ (hI == 0) = false := (by cases (hI == 0) <;> simp); rcases dh with dh | dh)
      | (go_at_call 18; refine Q18.out.mono ?_; rintro _ w5 ⟨rfl, e⟩; obtain rfl := e.symm)
      | (go_at_call 11; refine (Q11.out (by simpa using dh)).mono ?_; rintro _ w5 ⟨rfl, e⟩; obtain rfl := e.symm))
    · go_ret
      exact OW.out
    · go_ret
      exact OW.out
end
end Go.Proofs.Qxb6500990aGreat
