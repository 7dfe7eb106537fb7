/- package towerexact: step, KAs; step whole -/
import Derived.Test.Qxb6500990aGreatEx34
set_option linter.unusedVariables false
set_option linter.unusedSimpArgs false
namespace Go.Proofs.Qxb6500990aGreat
open Go Go.RowKit Go.Tw
attribute [local go_sem] World.cell?_put_same World.cell?_put_ne World.cell?_put_ne' World.frozen?_put_same World.frozen?_put_ne World.frozen?_put_ne' World.setCell_put_same World.setCell_put_ne World.setCell_put_ne' World.inB_put World.inB_alloc World.inB_drew World.inB_drewN World.inB_new World.inB_setCell World.put_drew World.put_drewN World.q_setCell_drew World.q_setCell_drewN World.q_alloc_drew World.q_alloc_drewN World.put_put_same World.put_put_2 World.size_put World.q_cell?_alloc_old World.q_frozen?_alloc_old World.cell?_alloc_new' World.frozen?_alloc_new' World.q_setCell_alloc_old World.q_setCell_alloc_new World.q_put_alloc_old World.cell?_force_same World.frozen?_force_same World.cell?_force2_fst World.cell?_force2_snd OpR.g0 OpR.s0 OpR.g1 OpR.s1 OpR.g2 OpR.s2 OpR.g3 OpR.s3 OpR.g4 OpR.s4 OpR.g5 OpR.s5 WorldR.g0 WorldR.s0 WorldR.g1 WorldR.s1 WorldR.g2 WorldR.s2 WorldR.g3 WorldR.s3 WorldR.g4 WorldR.s4 WorldR.g5 WorldR.s5 WorldR.g6 WorldR.s6 WorldR.g7 WorldR.s7 WorldR.g8 WorldR.s8
attribute [local go_sem] ba_get ba_eq ba_beq baseC_g0 baseC_g1 baseC_g2 baseC_g3 baseC_s0 baseC_s1 baseC_s2 baseC_s3
set_option maxHeartbeats 4000000
set_option maxRecDepth 100000
section
variable {B bw S : Nat} {W : World} {own : Own} {c : Conf} {vb vo vr vv : Value}
theorem c6_as (h : WI B W bw own c vb vo vr vv S) (hz : S + 1 ≤ 1073741824) (o : OpR) (hkk : o.kind = 112) (hn : c.bs ≠ []) : Calls Tryz.prog 6 #[vp bw, .agg o.cells] W (OwnR B W bw (S + 1)) := by
  obtain ⟨k, oa, ob, oc, os, ot⟩ := o
  simp only [] at hkk
  subst hkk
  have hk : (OpR.mk 112 oa ob oc os ot).kind < 101 ∨ 110 < (OpR.mk 112 oa ob oc os ot).kind := .inr (by simp only []; omega)
  have m0 : ModP (fun _ => False) W (W.alloc (.cells (OpR.cells ⟨112, oa, ob, oc, os, ot⟩) 26)) := (ModP.refl _ _).alloc _
  have BXA : Hid ((W.alloc (.cells (OpR.cells ⟨112, oa, ob, oc, os, ot⟩) 26)).At W.heap.size (OpR.cells ⟨112, oa, ob, oc, os, ot⟩) 26) := World.At_alloc_new
  have q8 := hidIt (c8_no (W.alloc (.cells (OpR.cells ⟨112, oa, ob, oc, os, ot⟩) 26)) bw ⟨112, oa, ob, oc, os, ot⟩ hk)
  have M0 := hidIt m0
  have H := hidIt h
  have HZ := hidIt hz
  obtain ⟨i, g, cap, cur, b, hki, hil, hb, hv, hg, ac, ecur, hsz⟩ := h.base hn
  have bwA := h.hw
  rw [hv, hki] at bwA
  have BWA := hidIt bwA
  have d0 : ((c.bs.length : Int) == 0) = false := beq_eq_false_iff_ne.2 (by omega)
  have ci : (i : Int) < c.bs.length := by omega
  have ac' : W.At g (baseC cur (i * 4) ⟨b.id, vp b.q.s.bd, vp b.q.b, vp b.p.b⟩) 41 := by rw [← ecur]; exact ac
  have AC' := hidIt ac'
  have bo := h.bs i b hb
  have og := h.rb.2 g hg
  have hsS := h.sz
  have nxg : W.heap.size ≠ g := fun e => by have h1 : g < W.heap.size := ac.inB; omega
  have LGX : Hid (g < W.heap.size) := ac.inB
  obtain ⟨⟨G, R, hr, tg⟩, ⟨G2, hm, tm⟩, gd, eid, hh, nb⟩ := bo
  obtain ⟨Fd, D, dk, fsub, tie, -⟩ := hr.disk
  have hwr : D.wr.length ≤ 9000 := by have := tie.len; omega
  obtain ⟨j0, jl, jg, jf, ja⟩ := tie.cut D.wr.length
  obtain ⟨js, jc⟩ := ja (Int.le_refl _)
  rw [js] at jg jc
  obtain ⟨x0, hx0⟩ : ∃ x, b.n.as oa = x := ⟨_, rfl⟩
  have hx : AN.open (AS.open (b.n.sy.lg.state b.n.sy.lg.hist.length).al (EM.new oa)) = x0 := hx0
  have gd0 : x0.Gd := by rw [← hx]; exact AN.Gd.open jg.ok oa
  have ho1 : x0.sy.el.id = (EM.new oa).id := by rw [← hx]; exact opened_id _ _
  have ho2 : x0.sy.lg.hist = [] := by rw [← hx]; exact opened_hist _ _
  have ngF : ∀ k, Fd k → ¬ k = g := fun k a e => by have h1 := tg k (fsub k a); rw [e, og] at h1; cases h1
  have ngM : ∀ k, G2 k → ¬ k = g := fun k a e => by have h1 := tm k a; rw [e, og] at h1; cases h1
  have q11 : Hid (∀ u, ModP (fun x => x = g) W u → Calls Tryz.prog 11 #[vp b.q.s.bd] u fun r w' => r = .returned (vi D.wr.length) ∧ w' = u) := fun u m => k11 (dk.frame m ngF)
  have q10 : Hid (∀ u, ModP (fun x => x = g) W u → Calls Tryz.prog 10 #[vp b.q.s.bd, vi D.wr.length] u fun r w' => ∃ bd', u.heap.size ≤ bd' ∧ r = .returned (vp bd') ∧ DK w' (fun k => u.heap.size ≤ k) bd' ⟨D.after (D.wr.length : Int).toNat, D.after (D.wr.length : Int).toNat, []⟩ ∧ ModP (fun _ => False) u w') := fun u m => k10 (dk.frame m ngF) D.wr.length hwr
  have q12 : Hid (∀ u F bd', DK u F bd' ⟨D.after (D.wr.length : Int).toNat, D.after (D.wr.length : Int).toNat, []⟩ → Within F u → Calls Tryz.prog 12 #[vp bd', vi oa] u fun x w' => ∃ G1 q1, x = .returned (vp q1.b) ∧ RNp w' G1 q1 x0 [] ∧ q1.s.bd = bd' ∧ q1.s.N = b.q.s.N + b.n.sy.lg.hist.length ∧ q1.s.r = 0 ∧ (∀ k, G1 k → F k ∨ u.heap.size ≤ k) ∧ ModP F u w') := by
    intro u F bd' d hF
    refine (c12 d hF jg (by omega) oa).mono ?_
    rintro x w' ⟨G1, q1, rfl, op⟩
    exact ⟨G1, q1, rfl, by rw [← hx]; exact op.rn, op.bd, op.n, op.cl jc, op.g, op.m⟩
  have q13 : Hid (∀ u, ModP (fun x => x = g) W u → Calls Tryz.prog 13 #[vp b.p.b, vi oa] u (NewN u x0)) := fun u m => by
    rw [← hx0]
    exact c13 (hm.frame m ngM) (by omega) oa (AL.state_ok gd.mrk gd.hs _)
  have q14 := hidIt (fun u G1 q1 (h : RNp u G1 q1 x0 []) => c14 h gd0.ok gd0.inn)
  have HB := hidIt hb
  have HG := hidIt hg
  have AC := hidIt ac
  have NB : Hid (b.q.s.N + b.n.sy.lg.hist.length ≤ 100 * S) := nb
  have HGd := hidIt gd0
  have HI1 := hidIt ho1
  have HI2 := hidIt ho2
  clear h hz hk m0 bwA hn hki hil hb hv hg ac ecur ac' og hsS hr hm tg tm gd eid hh nb dk fsub tie hwr jl jg jf ja js jc hx0 hx gd0 ho1 ho2 ngF ngM
  generalize D.after (D.wr.length : Int).toNat = lk at *
  generalize (D.wr.length : Int) = nw at *
  generalize b.q.s.N + b.n.sy.lg.hist.length = NN at *
  generalize b.q.s.bd = bd at *
  generalize b.q.b = qb at *
  generalize b.p.b = pb at *
  generalize b.id = bid at *
  go_enter Tryz.func6, Tryz.ntmps6
  go_wp2_with (first
    | (go_at_call 8; refine q8.out.mono ?_; rintro _ w1 ⟨rfl, m1⟩; have M1 : Hid (ModP (fun _ => False) W w1) := M0.out.trans m1; have a1 := M1.out.at BWA.out (fun f => f); have hcw := a1.cell; have icw := a1.inB; have a2 := m1.at BXA.out (fun f => f); have A2 := hidIt a2; have hcb := a2.cell; have icb := a2.inB; clear m1 a1 a2))
  refine Ord.region1 [] [0, 1, 2, 3, 4, 5, 6, 7, 8] [9] (by kernel_rfl) (by kernel_rfl) (fun _ _ d _ _ h => by cases d <;> exact h) ?_
  simp only [Ord.pickO, Ord.nth]
  refine wpQuiet_nil ?_
  repeat (go_big_quiet_step (fail))
  refine wpQuiet_nil ?_
  go_upto_region 7 with fail
  go_cut [] from 7 (fun wc => Hid (wc.At g (baseC cur (i * 4) ⟨oa, vp bd, vp qb, vp pb⟩) 41) ∧ Hid (ModP (fun x => x = g) W wc))
  case first =>
    obtain ⟨y, hy, iy⟩ := (M1.out.at AC'.out (fun f => f)).door
    clear hcw icw hcb icb
    subst hy
    have ab := (World.At_put_ne' nxg).1 A2.out
    have hcb := ab.cell
    have icb := ab.inB
    clear ab A2
    go_wp2_with fail
    go_meet
    case rel => exact ⟨World.At_drew.2 (World.At_put_same iy), ((M1.out.mono (G := fun x => x = g) fun _ f => f.elim).trans (put_re y g _ _ 41)).drew⟩
  case rest =>
    obtain ⟨a2, m2⟩ := hcut
    clear hcw icw hcb icb A2 M1
    obtain ⟨w2, hw2⟩ : ∃ x, x = wc := ⟨_, rfl⟩
    subst hw2
    go_upto_region 8 with fail
    go_cut [] from 7 (fun wc => ∃ bd2 F, Hid (wc.At g (baseC cur (i * 4) ⟨oa, vp bd2, vp qb, vp pb⟩) 41) ∧ Hid (DK wc F bd2 ⟨lk, lk, []⟩) ∧ Hid (Within F wc) ∧ Hid (∀ k, F k → W.heap.size ≤ k) ∧ Hid (ModP (fun x => x = g) W wc))
    case first =>
      obtain ⟨y, hy, iy⟩ := a2.out.door
      subst hy
      refine Ord.region1 [0] [1, 2, 3, 4, 5, 6, 7, 8, 9] [10, 11, 12, 13] (by kernel_rfl) (by kernel_rfl) (fun _ _ d _ _ h => by cases d <;> exact h) ?_
      simp only [Ord.pickO, Ord.nth]
      repeat (go_big_quiet_step (fail))
      refine wpQuiet_nil ?_
      repeat (first | go_big_quiet_step (fail) | (go_big_quiet_want; go_big_quiet_op; refine Exists.intro _ ⟨by first | (go_at_call 11; exact q11.out _ m2.out.drew), ?_⟩; go_big_quiet_on))
      refine wpQuiet_nil ?_
      go_wp2_with (first
        | (go_at_call 10; refine (q10.out _ m2.out.drew).mono ?_; rintro _ w3 ⟨bd2, nb2, rfl, dk2, m3⟩; have a := m3.at (World.At_drew.2 (World.At_put_same iy)) (fun f => f); have DK2 := hidIt dk2.trim; have M3 := hidIt (m2.out.drew.step m3 (fun _ f => f.elim)); have SZ := hidIt m2.out.drew.size; obtain ⟨y3, rfl, iy3⟩ := a.door; clear dk2 m3 nb2 a))
      go_meet
      case rel =>
        refine ⟨bd2, _, World.At_put_same iy3, DK2.out.frame (put_re y3 g _ _ 41) (fun k a e => ?_), fun k hk => by have := hk.2; rw [World.size_put] at this ⊢; exact this, fun k hk => Nat.le_trans SZ.out hk.1, M3.out.trans (put_re y3 g _ _ 41)⟩
        have h1 : _ ≤ k := a.1
        have h2 := SZ.out
        have h3 := LGX.out
        rw [e] at h1
        omega
    case rest =>
      obtain ⟨bd2, F, a3, dk3, wf3, lf3, m3⟩ := hcut
      clear a2 m2
      obtain ⟨w3, hw3⟩ : ∃ x, x = wc := ⟨_, rfl⟩
      subst hw3
      go_upto_region 9 with fail
      go_cut [] from 7 (fun wc => ∃ G1 q1, Hid (wc.At g (baseC cur (i * 4) ⟨oa, vp bd2, vp (NoP.b q1), vp pb⟩) 41) ∧ Hid (RNp wc G1 q1 x0 []) ∧ Hid (q1.s.bd = bd2 ∧ q1.s.N = NN ∧ q1.s.r = 0) ∧ Hid (∀ k, G1 k → W.heap.size ≤ k) ∧ Hid (ModP (fun x => x = g) W wc))
      case first =>
        obtain ⟨y, hy, iy⟩ := a3.out.door
        subst hy
        refine Ord.region1 [0] [1, 2, 3, 4, 5, 6, 7, 8] [9, 10, 11, 12] (by kernel_rfl) (by kernel_rfl) (fun _ _ d _ _ h => by cases d <;> exact h) ?_
        simp only [Ord.pickO, Ord.nth]
        repeat (go_big_quiet_step (fail))
        refine wpQuiet_nil ?_
        repeat (go_big_quiet_step (fail))
        refine wpQuiet_nil ?_
        go_wp2_with (first
          | (go_at_call 12; refine (q12.out _ F bd2 (dk3.out.frame (ModP.refl (fun _ => False) _).drew (fun _ _ f => f)) wf3.out).mono ?_; rintro _ w4 ⟨G1, q1, rfl, r1, e1, e2, e3, g1, m4⟩; have ngf : ¬ F g := (fun f => by have h1 := lf3.out g f; have h2 := LGX.out; omega); have a := m4.at (World.At_drew.2 (World.At_put_same iy)) ngf; have R1 := hidIt r1; have E1 : Hid (q1.s.bd = bd2 ∧ q1.s.N = NN ∧ q1.s.r = 0) := ⟨e1, e2, e3⟩; have SZ := hidIt m3.out.drew.size; have GG1 : Hid (∀ k, G1 k → W.heap.size ≤ k) := (fun k hk => (g1 k hk).elim (lf3.out k) (fun q => Nat.le_trans SZ.out q)); have M4 := hidIt (m3.out.drew.step m4 (fun k f => .inr (lf3.out k f))); obtain ⟨y3, rfl, iy3⟩ := a.door; clear r1 e1 e2 e3 g1 m4 a ngf))
        go_meet
        case rel =>
          refine ⟨G1, q1, World.At_put_same iy3, R1.out.frame (put_re y3 g _ _ 41) (fun k a e => ?_), E1.out, GG1.out, M4.out.trans (put_re y3 g _ _ 41)⟩
          have h1 := GG1.out k a
          have h3 := LGX.out
          rw [e] at h1
          omega
      case rest =>
        obtain ⟨G1, q1, a4, r4, e4, g4, m4⟩ := hcut
        clear a3 m3 dk3 wf3 lf3
        obtain ⟨w4, hw4⟩ : ∃ x, x = wc := ⟨_, rfl⟩
        subst hw4
        generalize hqb : q1.b = qb1 at *
        have HQB := hidIt hqb
        clear hqb
        go_upto_region 10 with fail
        go_cut [] from 7 (fun wc => ∃ mb mbs mbl mbe mbk Gm, Hid (wc.At g (baseC cur (i * 4) ⟨oa, vp bd2, vp qb1, vp mb⟩) 41) ∧ Hid (RNp wc G1 q1 x0 []) ∧ Hid (NMp wc Gm mb mbs mbl mbe mbk x0) ∧ Hid (∀ k, Gm k → W.heap.size ≤ k) ∧ Hid (∀ k, G1 k → ¬ Gm k) ∧ Hid (ModP (fun x => x = g) W wc))
        case first =>
          obtain ⟨y, hy, iy⟩ := a4.out.door
          subst hy
          refine Ord.region1 [0] [1, 2, 3, 4, 5, 6, 7, 8] [9, 10, 11, 12] (by kernel_rfl) (by kernel_rfl) (fun _ _ d _ _ h => by cases d <;> exact h) ?_
          simp only [Ord.pickO, Ord.nth]
          repeat (go_big_quiet_step (fail))
          refine wpQuiet_nil ?_
          repeat (go_big_quiet_step (fail))
          refine wpQuiet_nil ?_
          go_wp2_with (first
            | (go_at_call 13; refine (q13.out _ m4.out.drew).mono ?_; rintro _ w5 ⟨mb, mbs, mbl, mbe, mbk, Gm, rfl, nmb, nm, gm, m5⟩; have a := m5.at (World.At_drew.2 (World.At_put_same iy)) (fun f => f); have R5 := hidIt (r4.out.frame (m5.undrew) (fun _ _ f => f)); have NM := hidIt nm; have SZ := hidIt m4.out.drew.size; have GM := hidIt gm; have WI4 := hidIt r4.out.wi; have M5 := hidIt (m4.out.drew.step m5 (fun _ f => f.elim)); obtain ⟨y3, rfl, iy3⟩ := a.door; clear nm gm m5 nmb a))
          go_meet
          case rel =>
            have lg := LGX.out
            refine ⟨mb, mbs, mbl, mbe, mbk, Gm, World.At_put_same iy3, R5.out.frame (put_re y3 g _ _ 41) (fun k a e => ?_), NM.out.frame (put_re y3 g _ _ 41) (fun k a e => ?_), fun k hk => Nat.le_trans SZ.out (GM.out k hk), fun k a f => ?_, M5.out.trans (put_re y3 g _ _ 41)⟩
            · have h1 := g4.out k a; rw [e] at h1; omega
            · have h1 := GM.out k a; have h2 := SZ.out; rw [e] at h1; omega
            · have h1 := GM.out k f
              have h2 : k < _ := WI4.out k a
              have h3 : (World.drew _).heap.size ≤ k := h1
              exact absurd h2 (Nat.not_lt.2 h3)
        case rest =>
          obtain ⟨mb, mbs, mbl, mbe, mbk, Gm, a5, r5, n5, g5, p5, m5⟩ := hcut
          clear a4 m4 r4
          obtain ⟨w5, hw5⟩ : ∃ x, x = wc := ⟨_, rfl⟩
          subst hw5
          have hcg := a5.out.cell
          have icg := a5.out.inB
          have q11' : Hid (Calls Tryz.prog 11 #[vp bd2] w5 fun r w' => r = .returned (vi 0) ∧ w' = w5) := by
            obtain ⟨Fd, D2, dk, -, tie, -⟩ := r5.out.disk
            have hw := tie.idle HI2.out
            rw [e4.out.2.2] at hw
            rw [e4.out.1] at dk
            have := k11 dk
            rw [hw] at this
            exact this
          have q14' : Hid (Calls Tryz.prog 14 #[vp qb1] w5 fun r w' => r = .returned (vs []) ∧ ModP (fun _ => False) w5 w') := by
            have := q14.out w5 G1 q1 r5.out
            rw [HQB.out] at this
            exact this
          go_wp2_with (first
            | (go_at_call 11; refine q11'.out.mono ?_; rintro _ w6 ⟨rfl, e⟩; obtain rfl := e.symm)
            | (go_at_call 14; refine q14'.out.mono ?_; rintro _ w6 ⟨rfl, m6⟩; have M6 := hidIt m6; clear m6))
          go_ret
          have wi := (H.out.rebase (S' := S + 1) (b' := ⟨oa, x0, q1, ⟨mb, mbs, mbl, mbe, mbk⟩⟩) HB.out HG.out AC.out m5.out (by show w5.At g (baseC cur (i * 4) ⟨oa, vp q1.s.bd, vp q1.b, vp mb⟩) 41; rw [e4.out.1, HQB.out]; exact a5.out) ⟨[], r5.out⟩ g4.out n5.out g5.out p5.out HGd.out HI1.out (by rw [HI2.out]; simp) (by show q1.s.N + x0.sy.lg.hist.length ≤ _; rw [HI2.out, e4.out.2.1]; have := NB.out; simp; omega) (by omega) HZ.out).frame M6.out
          exact ⟨rfl, _, _, _, _, _, _, wi, (m5.out.mono fun k e => by rw [e]; exact (H.out.lo g (by rw [H.out.rb.2 g HG.out]; exact nofun)).1).step M6.out (fun _ f => f.elim)⟩
theorem stepOk : StepOk := by
  intro B W bw own c vb vo vr vv S o h hz hw
  by_cases hk : 101 ≤ o.kind ∧ o.kind ≤ 110
  · exact c6_own h hz o hw hk
  · have hk' : o.kind < 101 ∨ 110 < o.kind := by omega
    by_cases h0 : c.bs = []
    · exact c6_none h hz o hk' h0
    · by_cases e4 : o.kind = 4
      · exact c6_cut h hz o e4 h0
      · by_cases e112 : o.kind = 112
        · exact c6_as h hz o e112 h0
        · by_cases hp : PlayK o.kind
          · exact c6_play h hz o hw hp h0
          · exact c6_else h hz o hk' h0 e4 e112 hp
end
end Go.Proofs.Qxb6500990aGreat
