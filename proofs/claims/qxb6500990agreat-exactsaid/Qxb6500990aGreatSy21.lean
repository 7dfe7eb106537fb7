/- package sync: ackCame -/
import Derived.Test.Qxb6500990aGreatSy20
set_option linter.unusedVariables false
set_option linter.unusedSimpArgs false
namespace Go.Proofs.Qxb6500990aGreat
open Go Go.RowKit Go.Tw
attribute [local go_sem] World.cell?_put_same World.cell?_put_ne World.cell?_put_ne' World.frozen?_put_same World.frozen?_put_ne World.frozen?_put_ne' World.setCell_put_same World.setCell_put_ne World.setCell_put_ne' World.inB_put World.inB_alloc World.inB_drew World.inB_drewN World.inB_new World.inB_setCell World.put_drew World.put_drewN World.q_setCell_drew World.q_setCell_drewN World.q_alloc_drew World.q_alloc_drewN World.put_put_same World.put_put_2 World.size_put World.q_cell?_alloc_old World.q_frozen?_alloc_old World.cell?_alloc_new' World.frozen?_alloc_new' World.q_setCell_alloc_old World.q_setCell_alloc_new World.q_put_alloc_old World.cell?_force_same World.frozen?_force_same World.cell?_force2_fst World.cell?_force2_snd SyncR.g0 SyncR.s0 SyncR.g1 SyncR.s1 SyncR.g2 SyncR.s2 SyncR.g3 SyncR.s3 SyncR.g4 SyncR.s4 SyncR.g5 SyncR.s5 SyncR.g6 SyncR.s6 SyncR.g7 SyncR.s7 SyncR.g8 SyncR.s8 SyncR.g9 SyncR.s9 SyncR.g10 SyncR.s10 SyncR.g11 SyncR.s11 SyncR.g12 SyncR.s12 SyncR.g13 SyncR.s13 SyncR.g14 SyncR.s14 SyncR.g15 SyncR.s15 SyncR.g16 SyncR.s16 SyncR.g17 SyncR.s17 SyncR.g18 SyncR.s18 SyncR.g19 SyncR.s19 SyncR.g20 SyncR.s20 SyncR.g21 SyncR.s21 SyncR.g22 SyncR.s22 SyncR.g23 SyncR.s23 SyncR.g24 SyncR.s24 SyncR.g25 SyncR.s25 SyncR.g26 SyncR.s26 SyncR.g27 SyncR.s27 SyncR.g28 SyncR.s28 SyncR.g29 SyncR.s29 SyncR.g30 SyncR.s30 SyncR.g31 SyncR.s31 SyncR.g32 SyncR.s32 SyncR.g33 SyncR.s33 SyncR.g34 SyncR.s34 SyncR.g35 SyncR.s35 SyncR.g36 SyncR.s36 SyncR.g37 SyncR.s37 SyncR.g38 SyncR.s38 SyncR.g39 SyncR.s39 SyncR.g40 SyncR.s40 SyncR.g41 SyncR.s41 SyncR.gi_next_0 SyncR.si_next_0 SyncR.gi_mtch_0 SyncR.si_mtch_0 SyncR.gi_box_0 SyncR.si_box_0 SyncR.gi_box_1 SyncR.si_box_1 SyncR.gi_box_2 SyncR.si_box_2 SyncR.gi_box_3 SyncR.si_box_3 SyncR.gi_box_4 SyncR.si_box_4 SyncR.gi_box_5 SyncR.si_box_5 SyncR.gi_box_6 SyncR.si_box_6 SyncR.gi_box_7 SyncR.si_box_7 SyncR.gi_box_8 SyncR.si_box_8 SyncR.gi_box_9 SyncR.si_box_9 MsgR.g0 MsgR.s0 MsgR.g1 MsgR.s1 MsgR.g2 MsgR.s2 MsgR.g3 MsgR.s3 MsgR.g4 MsgR.s4 MsgR.g5 MsgR.s5 MsgR.g6 MsgR.s6 MsgR.g7 MsgR.s7 MsgR.g8 MsgR.s8 MsgR.g9 MsgR.s9
attribute [local go_sem] ba_get upd_same upd_upd
set_option maxHeartbeats 4000000
set_option maxRecDepth 100000
section
variable {W w : World} {G : Nat → Prop} {p : SyP} {A : AS}
theorem c199 (h : RS G W p A [] w) (ok : A.Ok) (hn : A.lg.hist.length ≤ 470) (ht : A.el.role = 2 → 1 ≤ A.el.term) {m : Msg} {ad : Option Addr} {le cap : Nat} (mo : MsgOk m) :
    Calls Tryz.prog 199 #[vp p.b, .agg (m.r (.slice ad le cap)).cells] w fun r w' => r = .returned (.tuple #[]) ∧ RS G W p (A.ackCame m).2 (A.ackCame m).1 w' := by
  have S0 := hidIt (h.aside (.cells (m.r (.slice ad le cap)).cells 159))
  have hm0 : Hid ((w.alloc (.cells (m.r (.slice ad le cap)).cells 159)).At w.heap.size (m.r (.slice ad le cap)).cells 159) := World.At_alloc_new
  have q249 := hidIt (fun (w' : World) (h : w'.At p.be A.el.el.cells 155) => c249 h ok.el m.term)
  have oe' := ok.el.see m.term
  obtain ⟨bx, hb⟩ := RB.hb h
  have hc := hb.cell
  have ib := hb.inB
  unfold RSy at hc
  have hbm : p.b < w.heap.size := ib
  have nbm : p.b ≠ w.heap.size := by omega
  obtain ⟨q, hq⟩ := Int.eq_ofNat_of_zero_le mo.f0
  have q3 : q < 3 := by have := mo.f1; omega
  have hq' : m.frm.toNat = q := by rw [hq]; rfl
  unfold AS.ackCame
  rw [hq']
  cases hs : A.el.sees m.term with
  | true =>
    simp only [if_true]
    rw [hs] at q249
    have q186 := hidIt (fun w' G' (h : RS G' w' p { A with el := A.el.see m.term } [] w') => c186 h oe' (by show A.lg.hist.length ≤ 480; omega))
    generalize A.el.see m.term = el' at *
    generalize (AS.persist { A with el := el' }) = A1 at *
    generalize hlt : (A.lg.now.termAt A.lg.now.last).1 = lt at *
    generalize hla : A.lg.now.last = la at *
    clear h hb ok oe' hlt hla hn mo hq hq' hs ht
    unfold Msg.r at *
    go_enter Tryz.func199, Tryz.ntmps199
    go_wp2_with fail
    have S1 := hidIt (S0.out.fr (w1 := World.drew _) (ModP.refl (fun _ => False) _).drew)
    have hm1 := hidIt (World.At_drew.2 hm0.out)
    clear S0 hm0
    refine Ord.region1 [] [0, 1, 2, 3, 4, 5] [6, 7] (by kernel_rfl) (by kernel_rfl) (fun _ _ d _ _ h => by cases d <;> exact h) ?_
    simp only [Ord.pickO, Ord.nth]
    refine wpQuiet_nil ?_
    repeat (go_big_quiet_step (fail))
    refine wpQuiet_nil ?_
    go_wp2_with (first
      | (go_at_call 249; refine (q249.out _ (RB.he S1.out.rs)).mono ?_; rintro _ w1 ⟨rfl, m1⟩; obtain ⟨s1, k1⟩ := S1.out.elec m1; have S2 := hidIt s1; clear m1 s1 k1 S1 hm1 hc ib)
      | (go_at_call 186; refine (S2.out.call (fun G' h => q186.out _ G' h)).mono ?_; rintro _ w2 ⟨rfl, s3, k3⟩; have S3 := hidIt s3; clear s3 k3 S2))
    refine bodyPost_ret (results_none rfl _ _ _) rfl ?_
    exact ⟨rfl, S3.out.rs⟩
  | false =>
    simp only [Bool.false_eq_true, if_false]
    have hse : A.el.see m.term = A.el := by unfold EM.see; rw [hs]; rfl
    rw [hs, hse] at q249
    have Hoe := hidIt ok.el
    by_cases c1 : A.el.role ≠ 2 ∨ m.term ≠ A.el.term
    · rw [if_pos c1]
      have hc1 : A.el.role ≠ 2 ∨ (A.el.role = 2 ∧ m.term ≠ A.el.term) := by
        by_cases z : A.el.role = 2
        · exact .inr ⟨z, c1.resolve_left (fun f => f z)⟩
        · exact .inl z
      generalize hlt : (A.lg.now.termAt A.lg.now.last).1 = lt at *
      generalize hla : A.lg.now.last = la at *
      clear h hb ok oe' hlt hla hn mo hq hq' hs ht hse c1
      unfold Msg.r at *
      rcases hc1 with z | ⟨z, z2⟩
      · have d1 : (A.el.role != 2) = true := by simpa using z
        clear z
        go_enter Tryz.func199, Tryz.ntmps199
        go_wp2_with fail
        have S1 := hidIt (S0.out.fr (w1 := World.drew _) (ModP.refl (fun _ => False) _).drew)
        have hm1 := hidIt (World.At_drew.2 hm0.out)
        clear S0 hm0
        refine Ord.region1 [] [0, 1, 2, 3, 4, 5] [6, 7] (by kernel_rfl) (by kernel_rfl) (fun _ _ d _ _ h => by cases d <;> exact h) ?_
        simp only [Ord.pickO, Ord.nth]
        refine wpQuiet_nil ?_
        repeat (go_big_quiet_step (fail))
        refine wpQuiet_nil ?_
        go_wp2_with (first
          | (go_at_call 249; refine (q249.out _ (RB.he S1.out.rs)).mono ?_; rintro _ w1 ⟨rfl, m1⟩; obtain ⟨s1, k1⟩ := S1.out.elec m1; have S2 := hidIt s1; have hm2 := k1 _ _ _ rfl hm1.out; have hcm := hm2.cell; have ibm := hm2.inB; obtain ⟨bx2, hb2⟩ := RB.hb s1.rs; have hc2 := hb2.cell; have ib2 := hb2.inB; unfold RSy at hc2; have HE2 := hidIt (RB.he s1.rs); clear m1 s1 k1 S1 hm1 hc ib hb2 hm2)
          | (go_at_call 80; refine (c80 HE2.out Hoe.out).mono ?_; rintro _ w0 ⟨rfl, e⟩; obtain rfl := e.symm)
          | (go_at_call 78; refine (c78 HE2.out).mono ?_; rintro _ w0 ⟨rfl, e⟩; obtain rfl := e.symm))
        refine bodyPost_ret (results_none rfl _ _ _) rfl ?_
        exact ⟨rfl, S2.out.rs⟩
      · have d1 : (m.term != A.el.term) = true := by simpa using z2
        clear z2
        go_enter Tryz.func199, Tryz.ntmps199
        go_wp2_with fail
        have S1 := hidIt (S0.out.fr (w1 := World.drew _) (ModP.refl (fun _ => False) _).drew)
        have hm1 := hidIt (World.At_drew.2 hm0.out)
        clear S0 hm0
        refine Ord.region1 [] [0, 1, 2, 3, 4, 5] [6, 7] (by kernel_rfl) (by kernel_rfl) (fun _ _ d _ _ h => by cases d <;> exact h) ?_
        simp only [Ord.pickO, Ord.nth]
        refine wpQuiet_nil ?_
        repeat (go_big_quiet_step (fail))
        refine wpQuiet_nil ?_
        go_wp2_with (first
          | (go_at_call 249; refine (q249.out _ (RB.he S1.out.rs)).mono ?_; rintro _ w1 ⟨rfl, m1⟩; obtain ⟨s1, k1⟩ := S1.out.elec m1; have S2 := hidIt s1; have hm2 := k1 _ _ _ rfl hm1.out; have hcm := hm2.cell; have ibm := hm2.inB; obtain ⟨bx2, hb2⟩ := RB.hb s1.rs; have hc2 := hb2.cell; have ib2 := hb2.inB; unfold RSy at hc2; have HE2 := hidIt (RB.he s1.rs); clear m1 s1 k1 S1 hm1 hc ib hb2 hm2)
          | (go_at_call 80; refine (c80 HE2.out Hoe.out).mono ?_; rintro _ w0 ⟨rfl, e⟩; obtain rfl := e.symm; rw [z])
          | (go_at_call 78; refine (c78 HE2.out).mono ?_; rintro _ w0 ⟨rfl, e⟩; obtain rfl := e.symm))
        refine bodyPost_ret (results_none rfl _ _ _) rfl ?_
        exact ⟨rfl, S2.out.rs⟩
    · rw [if_neg c1]
      have z : A.el.role = 2 := Decidable.of_not_not (fun f => c1 (.inl f))
      have z2 : (m.term != A.el.term) = false := by simpa using (Decidable.of_not_not (fun f => c1 (.inr f)) : m.term = A.el.term)
      have ht1 := ht z
      cases hmo : m.ok with
      | true =>
        simp only [if_true]
        have Q : Hid (∀ w', RS G W p A [] w' → Calls Tryz.prog 250 #[vp p.b, vi m.frm, vi m.index] w' fun r w'' => r = .returned (.tuple #[]) ∧ RS G W p (if A.mtch q < m.index ∧ m.index ≤ A.lg.now.last then (if (A.acked q m.index).next q ≤ A.lg.now.last then [(A.acked q m.index).send q] else [], A.acked q m.index) else ([], A)).2 (if A.mtch q < m.index ∧ m.index ≤ A.lg.now.last then (if (A.acked q m.index).next q ≤ A.lg.now.last then [(A.acked q m.index).send q] else [], A.acked q m.index) else ([], A)).1 w'') := by
          intro w' h'
          rw [hq]
          by_cases cc : A.mtch q < m.index ∧ m.index ≤ A.lg.now.last
          · rw [if_pos cc]; exact c250_yes h' ok ht1 q q3 m.index cc.1 cc.2
          · rw [if_neg cc]; exact c250_no h' q q3 m.index cc
        generalize (if A.mtch q < m.index ∧ m.index ≤ A.lg.now.last then (if (A.acked q m.index).next q ≤ A.lg.now.last then [(A.acked q m.index).send q] else [], A.acked q m.index) else ([], A)) = res at *
        obtain ⟨rms, rA⟩ := res
        simp only [] at Q ⊢
        generalize hlt : (A.lg.now.termAt A.lg.now.last).1 = lt at *
        generalize hla : A.lg.now.last = la at *
        clear h hb ok oe' hlt hla hn mo hq hq' hs ht hse c1 ht1
        unfold Msg.r at *
        rw [hmo] at hm0 S0 ⊢
        clear hmo
        go_enter Tryz.func199, Tryz.ntmps199
        go_wp2_with fail
        have S1 := hidIt (S0.out.fr (w1 := World.drew _) (ModP.refl (fun _ => False) _).drew)
        have hm1 := hidIt (World.At_drew.2 hm0.out)
        clear S0 hm0
        refine Ord.region1 [] [0, 1, 2, 3, 4, 5] [6, 7] (by kernel_rfl) (by kernel_rfl) (fun _ _ d _ _ h => by cases d <;> exact h) ?_
        simp only [Ord.pickO, Ord.nth]
        refine wpQuiet_nil ?_
        repeat (go_big_quiet_step (fail))
        refine wpQuiet_nil ?_
        go_wp2_with (first
          | (go_at_call 249; refine (q249.out _ (RB.he S1.out.rs)).mono ?_; rintro _ w1 ⟨rfl, m1⟩; obtain ⟨s1, k1⟩ := S1.out.elec m1; have S2 := hidIt s1; have hm2 := k1 _ _ _ rfl hm1.out; have hcm := hm2.cell; have ibm := hm2.inB; obtain ⟨bx2, hb2⟩ := RB.hb s1.rs; have hc2 := hb2.cell; have ib2 := hb2.inB; unfold RSy at hc2; have HE2 := hidIt (RB.he s1.rs); clear m1 s1 k1 S1 hm1 hc ib hb2 hm2)
          | (go_at_call 80; refine (c80 HE2.out Hoe.out).mono ?_; rintro _ w0 ⟨rfl, e⟩; obtain rfl := e.symm; rw [z])
          | (go_at_call 78; refine (c78 HE2.out).mono ?_; rintro _ w0 ⟨rfl, e⟩; obtain rfl := e.symm)
          | (go_at_call 250; refine (Q.out _ S2.out.rs).mono ?_; rintro _ w5 ⟨rfl, s5⟩; have S5 := hidIt s5; clear s5))
        refine bodyPost_ret (results_none rfl _ _ _) rfl ?_
        exact ⟨rfl, S5.out⟩
      | false =>
        simp only [Bool.false_eq_true, if_false]
        have Q : Hid (∀ w', RS G W p A [] w' → Calls Tryz.prog 251 #[vp p.b, vi m.frm, vi m.index] w' fun r w'' => r = .returned (.tuple #[]) ∧ RS G W p (if A.back q m.index < A.next q then ([AS.send { A with next := upd A.next q (A.back q m.index) } q], { A with next := upd A.next q (A.back q m.index) }) else ([], A)).2 (if A.back q m.index < A.next q then ([AS.send { A with next := upd A.next q (A.back q m.index) } q], { A with next := upd A.next q (A.back q m.index) }) else ([], A)).1 w'') := by
          intro w' h'
          rw [hq]
          have := c251 h' ok q q3 m.index mo.i0 mo.i1
          by_cases cc : A.back q m.index < A.next q
          · rw [if_pos cc, if_pos cc] at this; rw [if_pos cc]; exact this
          · rw [if_neg cc, if_neg cc] at this; rw [if_neg cc]; exact this
        generalize (if A.back q m.index < A.next q then ([AS.send { A with next := upd A.next q (A.back q m.index) } q], { A with next := upd A.next q (A.back q m.index) }) else ([], A)) = res at *
        obtain ⟨rms, rA⟩ := res
        simp only [] at Q ⊢
        generalize hlt : (A.lg.now.termAt A.lg.now.last).1 = lt at *
        generalize hla : A.lg.now.last = la at *
        clear h hb ok oe' hlt hla hn mo hq hq' hs ht hse c1 ht1
        unfold Msg.r at *
        rw [hmo] at hm0 S0 ⊢
        clear hmo
        go_enter Tryz.func199, Tryz.ntmps199
        go_wp2_with fail
        have S1 := hidIt (S0.out.fr (w1 := World.drew _) (ModP.refl (fun _ => False) _).drew)
        have hm1 := hidIt (World.At_drew.2 hm0.out)
        clear S0 hm0
        refine Ord.region1 [] [0, 1, 2, 3, 4, 5] [6, 7] (by kernel_rfl) (by kernel_rfl) (fun _ _ d _ _ h => by cases d <;> exact h) ?_
        simp only [Ord.pickO, Ord.nth]
        refine wpQuiet_nil ?_
        repeat (go_big_quiet_step (fail))
        refine wpQuiet_nil ?_
        go_wp2_with (first
          | (go_at_call 249; refine (q249.out _ (RB.he S1.out.rs)).mono ?_; rintro _ w1 ⟨rfl, m1⟩; obtain ⟨s1, k1⟩ := S1.out.elec m1; have S2 := hidIt s1; have hm2 := k1 _ _ _ rfl hm1.out; have hcm := hm2.cell; have ibm := hm2.inB; obtain ⟨bx2, hb2⟩ := RB.hb s1.rs; have hc2 := hb2.cell; have ib2 := hb2.inB; unfold RSy at hc2; have HE2 := hidIt (RB.he s1.rs); clear m1 s1 k1 S1 hm1 hc ib hb2 hm2)
          | (go_at_call 80; refine (c80 HE2.out Hoe.out).mono ?_; rintro _ w0 ⟨rfl, e⟩; obtain rfl := e.symm; rw [z])
          | (go_at_call 78; refine (c78 HE2.out).mono ?_; rintro _ w0 ⟨rfl, e⟩; obtain rfl := e.symm)
          | (go_at_call 251; refine (Q.out _ S2.out.rs).mono ?_; rintro _ w5 ⟨rfl, s5⟩; have S5 := hidIt s5; clear s5))
        go_end0
        exact ⟨rfl, S5.out⟩
end
end Go.Proofs.Qxb6500990aGreat
