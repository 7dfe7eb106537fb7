/- package node: reply, answer -/
import Derived.Test.Qxb6500990aGreatNo9
import Derived.Deep.Cut
set_option linter.unusedVariables false
set_option linter.unusedSimpArgs false
namespace Go.Tw
open Go Go.Proofs Go.Proofs.Qxb6500990aGreat
/-- the node, and the answers, when the entry d has been run with the answer a -/
def AN.ansN (n : AN) (d : Bs) : AN := match n.answers d with
  | some c => n.clear c.client.toNat
  | none => n
def AN.ansR (n : AN) (d : Bs) (a : Ans) : List Reply := match n.answers d with
  | some c => [⟨c.client, c.seq, a⟩]
  | none => []
theorem AN.ans_none {n : AN} {d : Bs} (h : n.answers d = none) (a : Ans) : n.ansN d = n ∧ n.ansR d a = [] := by
  unfold AN.ansN AN.ansR; rw [h]; exact ⟨rfl, rfl⟩
theorem AN.ans_some {n : AN} {d : Bs} {c : Cmd} (h : n.answers d = some c) (a : Ans) : n.ansN d = n.clear c.client.toNat ∧ n.ansR d a = [⟨c.client, c.seq, a⟩] := by
  unfold AN.ansN AN.ansR; rw [h]; exact ⟨rfl, rfl⟩
theorem AN.run_ans (n : AN) (d : Bs) : n.run d = (AN.ansN { n with kv := (n.kv.apply d).2 } d, AN.ansR { n with kv := (n.kv.apply d).2 } d (n.kv.apply d).1) := by
  have e : AN.answers { n with kv := (n.kv.apply d).2 } d = n.answers d := rfl
  unfold AN.run AN.ansN AN.ansR
  rw [e]
  cases n.answers d <;> rfl
end Go.Tw
namespace Go.Proofs.Qxb6500990aGreat
open Go Go.RowKit Go.Tw
attribute [local go_sem] World.cell?_put_same World.cell?_put_ne World.cell?_put_ne' World.frozen?_put_same World.frozen?_put_ne World.frozen?_put_ne' World.setCell_put_same World.setCell_put_ne World.setCell_put_ne' World.inB_put World.inB_alloc World.inB_drew World.inB_drewN World.inB_new World.inB_setCell World.put_drew World.put_drewN World.q_setCell_drew World.q_setCell_drewN World.q_alloc_drew World.q_alloc_drewN World.put_put_same World.put_put_2 World.size_put World.q_cell?_alloc_old World.q_frozen?_alloc_old World.cell?_alloc_new' World.frozen?_alloc_new' World.q_setCell_alloc_old World.q_setCell_alloc_new World.q_put_alloc_old World.cell?_force_same World.frozen?_force_same World.cell?_force2_fst World.cell?_force2_snd NodeR.g0 NodeR.s0 NodeR.g1 NodeR.s1 NodeR.g2 NodeR.s2 NodeR.g3 NodeR.s3 NodeR.g4 NodeR.s4 NodeR.g5 NodeR.s5 NodeR.g6 NodeR.s6 NodeR.g7 NodeR.s7 NodeR.g8 NodeR.s8 NodeR.g9 NodeR.s9 NodeR.g10 NodeR.s10 NodeR.g11 NodeR.s11 NodeR.g12 NodeR.s12 NodeR.g13 NodeR.s13 NodeR.g14 NodeR.s14 NodeR.g15 NodeR.s15 NodeR.g16 NodeR.s16 NodeR.g17 NodeR.s17 NodeR.g18 NodeR.s18 NodeR.g19 NodeR.s19 NodeR.g20 NodeR.s20 NodeR.g21 NodeR.s21 NodeR.g22 NodeR.s22 NodeR.g23 NodeR.s23 NodeR.g24 NodeR.s24 NodeR.g25 NodeR.s25 NodeR.g26 NodeR.s26 NodeR.gi_used_0 NodeR.si_used_0 NodeR.gi_seq_0 NodeR.si_seq_0 NodeR.gi_idx_0 NodeR.si_idx_0 NodeR.gi_reps_0 NodeR.si_reps_0 NodeR.gi_reps_1 NodeR.si_reps_1 NodeR.gi_reps_2 NodeR.si_reps_2 NodeR.gi_reps_3 NodeR.si_reps_3 Cmd.g0 Cmd.s0 Cmd.g1 Cmd.s1 Cmd.g2 Cmd.s2 Cmd.g3 Cmd.s3 Cmd.g4 Cmd.s4 Cmd.g5 Cmd.s5 Ans.g0 Ans.s0 Ans.g1 Ans.s1
attribute [local go_sem] NodeR.gia_reps_1 NodeR.sia_reps_1 NodeR.gia_reps_2 NodeR.sia_reps_2 NodeR.gia_reps_3 NodeR.sia_reps_3
attribute [local go_sem] ba_get upd_same upd_upd
set_option maxHeartbeats 4000000
set_option maxRecDepth 100000
section
variable {W w : World} {G X : Nat → Prop} {q : NoP} {n : AN} {R : List Reply}
theorem c219 (h : RN G W X q n R w) (c : Nat) (c3 : c < 3) (hR : R.length < 3) (a : Ans) : Calls Tryz.prog 219 #[vp q.b, vi c, .agg a.cells] w fun r w' => r = .returned (.tuple #[]) ∧ RN G W X q (n.clear c) (R ++ [⟨c, n.seq c, a⟩]) w' ∧ ModP (fun k => ¬ X k) w w' := by
  have m0 : ModP (fun _ => False) w (w.alloc (.cells a.cells 75)) := (ModP.refl _ _).alloc _
  have ha : (w.alloc (.cells a.cells 75)).At w.heap.size a.cells 75 := World.At_alloc_new
  obtain ⟨y, rs, e, iy, hrs, hr3, HD⟩ := (h.fr m0).door
  rw [e] at ha
  have nb : w.heap.size ≠ q.b := At.neT ha (World.At_put_same iy) (by decide)
  have ha2 := (World.At_put_ne' nb).1 ha
  have hca := ha2.cell
  have ica := ha2.inB
  have E := hidIt e
  have HRS := hidIt hrs
  have HN := hidIt hR
  obtain ⟨er, av⟩ := a
  have hR4 : Hid ((R ++ [(⟨c, n.seq c, ⟨er, av⟩⟩ : Reply)]).length ≤ 3) := by unfold Hid; simp; omega
  have fin : Hid (∀ i (h : i < (R ++ [(⟨c, n.seq c, ⟨er, av⟩⟩ : Reply)]).length), upd rs R.length (⟨c, n.seq c, ⟨er, av⟩⟩ : Reply) i = (R ++ [(⟨c, n.seq c, ⟨er, av⟩⟩ : Reply)])[i]) := by
    intro i hi
    rw [List.length_append] at hi
    simp only [List.length_cons, List.length_nil] at hi
    rw [List.getElem_append]
    unfold upd
    by_cases ee : i = R.length
    · subst ee; simp
    · rw [if_neg ee, dif_pos (by omega)]; exact hrs i (by omega)
  have hl : Hid (((R ++ [(⟨c, n.seq c, ⟨er, av⟩⟩ : Reply)]).length : Int) = (R.length : Int) + 1) := by unfold Hid; simp
  have e2 : w.alloc (.cells (Ans.cells ⟨er, av⟩) 75) = y.put q.b (NodeR.cells ⟨vp q.s.b, vp q.bk, n.sy.el.id, n.applied, n.used, n.seq, n.idx, rs, R.length, vp q.bw⟩) 111 := e
  have e3 : w.alloc (.cells #[.int .i64 er, .string (ByteArray.mk av.toArray)] 75) = y.put q.b (NodeR.cells ⟨vp q.s.b, vp q.bk, n.sy.el.id, n.applied, n.used, n.seq, n.idx, rs, R.length, vp q.bw⟩) 111 := e
  have E3 := hidIt e2
  have M0 : Hid (ModP (fun k => ¬ X k) w (w.alloc (.cells (Ans.cells ⟨er, av⟩) 75))) := (ModP.refl _ _).alloc _
  have nr4 : (R.length : Int) < 3 := by omega
  have c4 : (c : Int) < 3 := by omega
  clear ha ha2 e e2 e3 hrs m0 HRS
  go_enter Tryz.func219, Tryz.ntmps219
  go_upto_region 1 with fail
  rw [E3.out]
  refine Ord.region1 [] [0, 1, 2, 3, 4, 5, 6, 7, 8, 9, 10, 11, 12, 13, 14, 15, 16] [17] (by kernel_rfl) (by kernel_rfl) (fun _ _ d _ _ h => by cases d <;> exact h) ?_
  simp only [Ord.pickO, Ord.nth]
  refine wpQuiet_nil ?_
  repeat (go_big_quiet_step (fail))
  refine wpQuiet_nil ?_
  go_wp2_with fail
  refine Ord.region1 [2, 3, 4, 5, 10, 11, 14, 15] [0, 1, 6, 7, 8] [9, 12, 13, 16, 17] (by kernel_rfl) (by kernel_rfl) (fun _ _ d _ _ h => by cases d <;> exact h) ?_
  simp only [Ord.pickO, Ord.nth]
  repeat (go_big_quiet_step (fail))
  refine wpQuiet_nil ?_
  repeat (go_big_quiet_step (fail))
  refine wpQuiet_nil ?_
  go_wp2_with fail
  go_end0
  obtain ⟨f1, f2⟩ := HD.out n.applied (upd n.used c false) (upd n.seq c 0) (upd n.idx c 0) (upd rs R.length (⟨c, n.seq c, ⟨er, av⟩⟩ : Reply)) (R ++ [(⟨c, n.seq c, ⟨er, av⟩⟩ : Reply)]) fin.out hR4.out
  rw [hl.out] at f1 f2
  exact ⟨rfl, f1.fr (((ModP.refl _ _).drew).drew), ((M0.out.trans f2).drew).drew⟩
theorem c218 (h : RN G W X q n R w) (hR : R.length + n.cnt ≤ 3) (d : Bs) (hd : d.length ≤ 1000) (a : Ans) : Calls Tryz.prog 218 #[vp q.b, vs d, .agg a.cells] w fun r w' => r = .returned (.tuple #[]) ∧ RN G W X q (n.ansN d) (R ++ n.ansR d a) w' ∧ ModP (fun k => ¬ X k) w w' := by
  obtain ⟨rs, hb, -, -⟩ := h.hb
  unfold RNo at hb
  have m0 : ModP (fun _ => False) w (w.alloc (.cells a.cells 75)) := (ModP.refl _ _).alloc _
  have H0 := hidIt (h.fr m0)
  have HB0 := hidIt (m0.at hb (fun f => f))
  have HA0 : Hid ((w.alloc (.cells a.cells 75)).At w.heap.size a.cells 75) := World.At_alloc_new
  have M0 := hidIt (m0.mono (G := fun k => ¬ X k) fun _ f => f.elim)
  clear m0 hb
  cases hdc : decCmd d with
  | none =>
    have han : Hid (n.answers d = none) := by unfold Hid AN.answers; rw [hdc]
    have hv : Hid (decCmdV d = .tuple #[.agg zCmd.cells, vi 9]) := by unfold Hid decCmdV; rw [hdc]
    clear hdc h hR
    go_enter Tryz.func218, Tryz.ntmps218
    go_wp2_with (first
      | (go_at_call 161; refine (c161 _ d hd).mono ?_; rintro _ w1 ⟨rfl, m1⟩; rw [hv.out]; unfold Tw.Cmd.cells zCmd; have M1 := hidIt (m1.toP (F := fun _ => False) (by simp)); clear m1))
    refine bodyPost_ret (v := .tuple #[]) (by simp [results, Tryz.results218]) rfl ?_
    obtain ⟨e1, e2⟩ := AN.ans_none han.out a
    rw [e1, e2, List.append_nil]
    exact ⟨rfl, (H0.out.fr M1.out).fr ((ModP.refl _ _).alloc _), (M0.out.trans (M1.out.mono fun _ f => f.elim)).alloc _⟩
  | some c =>
    have hcm := decCmd_ok hdc
    obtain ⟨o0, o1, k0, k1, q0, q1, l0, l1, l2, l3⟩ := cmdOK_bounds hcm
    have hv : Hid (decCmdV d = .tuple #[.agg c.cells, vi 0]) := by unfold Hid decCmdV; rw [hdc]
    have han0 : n.answers d = if n.used c.client.toNat = true ∧ n.seq c.client.toNat = c.seq then some c else none := by unfold AN.answers; rw [hdc]
    have hans := fun c' => AN.answers_some (n := n) (d := d) (c := c')
    clear hdc hcm o0 o1 q0 q1 l0 l1 l2 l3
    obtain ⟨op, cl, seq, key, val, old⟩ := c
    simp only [] at *
    obtain ⟨cn, rfl⟩ := Int.eq_ofNat_of_zero_le k0
    have c3 : cn < 3 := by omega
    have c4 : (cn : Int) < 3 := by omega
    rw [show ((cn : Nat) : Int).toNat = cn from rfl] at *
    by_cases hu : n.used cn = true
    · by_cases hs : n.seq cn = seq
      · have han : Hid (n.answers d = some ⟨op, cn, seq, key, val, old⟩) := by unfold Hid; rw [han0, if_pos ⟨hu, hs⟩]
        have d2 : (n.seq cn == seq) = true := by simpa using hs
        have hcnt : R.length < 3 := by have := AN.cnt_clear c3 hu; omega
        have qr := hidIt (fun (u : World) (hu : RN G W X q n R u) => c219 hu cn c3 hcnt a)
        have hs' := hidIt hs
        obtain ⟨er, av⟩ := a
        unfold Tw.Ans.cells at qr
        clear han0 hans hs h hR
        go_enter Tryz.func218, Tryz.ntmps218
        go_wp2_with (first
          | (go_at_call 161; refine (c161 _ d hd).mono ?_; rintro _ w1 ⟨rfl, m1⟩; rw [hv.out]; unfold Tw.Cmd.cells; have m1' := m1.toP (F := fun _ => False) (by simp); have M1 := hidIt (M0.out.trans (m1'.mono fun _ f => f.elim)); have S1 := hidIt (H0.out.fr m1'); have HB1 := hidIt (m1'.at HB0.out (fun f => f)); have HA1 := hidIt (m1'.at HA0.out (fun f => f)); have hc1 := HB1.out.cell; have ib1 := HB1.out.inB; have hca := HA1.out.cell; have ica := HA1.out.inB; clear m1 m1'))
        refine Ord.region1 [] [0, 1, 2, 3, 4, 5, 6, 7, 8, 9, 10, 11, 12, 13, 14, 15, 16, 17] [18] (by kernel_rfl) (by kernel_rfl) (fun _ _ d _ _ h => by cases d <;> exact h) ?_
        simp only [Ord.pickO, Ord.nth]
        refine wpQuiet_nil ?_
        repeat (go_big_quiet_step (fail))
        refine wpQuiet_nil ?_
        go_wp2_with (first
          | (go_at_call 219; refine (qr.out _ ((S1.out.fr ((ModP.refl _ _).alloc _)).fr ((ModP.refl _ _).drew))).mono ?_; rintro _ w2 ⟨rfl, s2, m2⟩; have S2 := hidIt s2; have M2 := hidIt m2; clear s2 m2))
        go_end0
        obtain ⟨e1, e2⟩ := AN.ans_some han.out ⟨er, av⟩
        rw [e1, e2]
        refine ⟨rfl, ?_, ((M1.out.alloc _).drew).trans M2.out⟩
        have := S2.out
        rw [hs'.out] at this
        exact this
      · have han : Hid (n.answers d = none) := by unfold Hid; rw [han0, if_neg (fun x => hs x.2)]
        have d2 : (n.seq cn == seq) = false := by simpa using hs
        clear han0 hans hs h hR
        go_enter Tryz.func218, Tryz.ntmps218
        go_wp2_with (first
          | (go_at_call 161; refine (c161 _ d hd).mono ?_; rintro _ w1 ⟨rfl, m1⟩; rw [hv.out]; unfold Tw.Cmd.cells; have m1' := m1.toP (F := fun _ => False) (by simp); have M1 := hidIt (M0.out.trans (m1'.mono fun _ f => f.elim)); have S1 := hidIt (H0.out.fr m1'); have HB1 := hidIt (m1'.at HB0.out (fun f => f)); have hc1 := HB1.out.cell; have ib1 := HB1.out.inB; clear m1 m1'))
        refine Ord.region1 [] [0, 1, 2, 3, 4, 5, 6, 7, 8, 9, 10, 11, 12, 13, 14, 15, 16, 17] [18] (by kernel_rfl) (by kernel_rfl) (fun _ _ d _ _ h => by cases d <;> exact h) ?_
        simp only [Ord.pickO, Ord.nth]
        refine wpQuiet_nil ?_
        repeat (go_big_quiet_step (fail))
        refine wpQuiet_nil ?_
        go_wp2_with fail
        go_end0
        obtain ⟨e1, e2⟩ := AN.ans_none han.out a
        rw [e1, e2, List.append_nil]
        exact ⟨rfl, (S1.out.fr ((ModP.refl _ _).alloc _)).fr ((ModP.refl _ _).drew), (M1.out.alloc _).drew⟩
    · have hu' : n.used cn = false := by simpa using hu
      have han : Hid (n.answers d = none) := by unfold Hid; rw [han0, if_neg (fun x => hu x.1)]
      clear han0 hans hu h hR
      go_enter Tryz.func218, Tryz.ntmps218
      go_wp2_with (first
        | (go_at_call 161; refine (c161 _ d hd).mono ?_; rintro _ w1 ⟨rfl, m1⟩; rw [hv.out]; unfold Tw.Cmd.cells; have m1' := m1.toP (F := fun _ => False) (by simp); have M1 := hidIt (M0.out.trans (m1'.mono fun _ f => f.elim)); have S1 := hidIt (H0.out.fr m1'); have HB1 := hidIt (m1'.at HB0.out (fun f => f)); have hc1 := HB1.out.cell; have ib1 := HB1.out.inB; clear m1 m1'))
      refine Ord.region1 [] [0, 1, 2, 3, 4, 5, 6, 7, 8, 9, 10, 11, 12, 13, 14, 15, 16, 17] [18] (by kernel_rfl) (by kernel_rfl) (fun _ _ d _ _ h => by cases d <;> exact h) ?_
      simp only [Ord.pickO, Ord.nth]
      refine wpQuiet_nil ?_
      repeat (go_big_quiet_step (fail))
      refine wpQuiet_nil ?_
      go_wp2_with fail
      go_end0
      obtain ⟨e1, e2⟩ := AN.ans_none han.out a
      rw [e1, e2, List.append_nil]
      exact ⟨rfl, (S1.out.fr ((ModP.refl _ _).alloc _)).fr ((ModP.refl _ _).drew), (M1.out.alloc _).drew⟩
end
end Go.Proofs.Qxb6500990aGreat
