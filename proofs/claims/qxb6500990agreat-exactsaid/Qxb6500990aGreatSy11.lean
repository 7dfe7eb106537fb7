/- package sync: voteCame -/
import Derived.Test.Qxb6500990aGreatSy10
set_option linter.unusedVariables false
set_option linter.unusedSimpArgs false
namespace Go.Proofs.Qxb6500990aGreat
open Go Go.RowKit Go.Tw
attribute [local go_sem] World.cell?_put_same World.cell?_put_ne World.cell?_put_ne' World.frozen?_put_same World.frozen?_put_ne World.frozen?_put_ne' World.setCell_put_same World.setCell_put_ne World.setCell_put_ne' World.inB_put World.inB_alloc World.inB_drew World.inB_drewN World.inB_new World.inB_setCell World.put_drew World.put_drewN World.q_setCell_drew World.q_setCell_drewN World.q_alloc_drew World.q_alloc_drewN World.put_put_same World.put_put_2 World.size_put World.q_cell?_alloc_old World.q_frozen?_alloc_old World.cell?_alloc_new' World.frozen?_alloc_new' World.q_setCell_alloc_old World.q_setCell_alloc_new World.q_put_alloc_old World.cell?_force_same World.frozen?_force_same World.cell?_force2_fst World.cell?_force2_snd SyncR.g0 SyncR.s0 SyncR.g1 SyncR.s1 SyncR.g2 SyncR.s2 SyncR.g3 SyncR.s3 SyncR.g4 SyncR.s4 SyncR.g5 SyncR.s5 SyncR.g6 SyncR.s6 SyncR.g7 SyncR.s7 SyncR.g8 SyncR.s8 SyncR.g9 SyncR.s9 SyncR.g10 SyncR.s10 SyncR.g11 SyncR.s11 SyncR.g12 SyncR.s12 SyncR.g13 SyncR.s13 SyncR.g14 SyncR.s14 SyncR.g15 SyncR.s15 SyncR.g16 SyncR.s16 SyncR.g17 SyncR.s17 SyncR.g18 SyncR.s18 SyncR.g19 SyncR.s19 SyncR.g20 SyncR.s20 SyncR.g21 SyncR.s21 SyncR.g22 SyncR.s22 SyncR.g23 SyncR.s23 SyncR.g24 SyncR.s24 SyncR.g25 SyncR.s25 SyncR.g26 SyncR.s26 SyncR.g27 SyncR.s27 SyncR.g28 SyncR.s28 SyncR.g29 SyncR.s29 SyncR.g30 SyncR.s30 SyncR.g31 SyncR.s31 SyncR.g32 SyncR.s32 SyncR.g33 SyncR.s33 SyncR.g34 SyncR.s34 SyncR.g35 SyncR.s35 SyncR.g36 SyncR.s36 SyncR.g37 SyncR.s37 SyncR.g38 SyncR.s38 SyncR.g39 SyncR.s39 SyncR.g40 SyncR.s40 SyncR.g41 SyncR.s41 SyncR.gi_next_0 SyncR.si_next_0 SyncR.gi_mtch_0 SyncR.si_mtch_0 SyncR.gi_box_0 SyncR.si_box_0 SyncR.gi_box_1 SyncR.si_box_1 SyncR.gi_box_2 SyncR.si_box_2 SyncR.gi_box_3 SyncR.si_box_3 SyncR.gi_box_4 SyncR.si_box_4 SyncR.gi_box_5 SyncR.si_box_5 SyncR.gi_box_6 SyncR.si_box_6 SyncR.gi_box_7 SyncR.si_box_7 SyncR.gi_box_8 SyncR.si_box_8 SyncR.gi_box_9 SyncR.si_box_9 MsgR.g0 MsgR.s0 MsgR.g1 MsgR.s1 MsgR.g2 MsgR.s2 MsgR.g3 MsgR.s3 MsgR.g4 MsgR.s4 MsgR.g5 MsgR.s5 MsgR.g6 MsgR.s6 MsgR.g7 MsgR.s7 MsgR.g8 MsgR.s8 MsgR.g9 MsgR.s9 Entry.g0 Entry.s0 Entry.g1 Entry.s1
attribute [local go_sem] ba_get upd_same upd_upd
set_option maxHeartbeats 4000000
set_option maxRecDepth 100000
section
variable {W w : World} {G : Nat → Prop} {p : SyP} {A : AS}
theorem c196 (h : RS G W p A [] w) (ok : A.Ok) (hn : A.lg.hist.length ≤ 470) {m : Msg} {ad : Option Addr} {le cap : Nat} (hp : A.el.peer m.frm = true) (ht : m.term ≤ maxT) :
    Calls Tryz.prog 196 #[vp p.b, .agg (m.r (.slice ad le cap)).cells] w fun r w' => r = .returned (.tuple #[]) ∧ RS G W p (A.voteCame m).2 (A.voteCame m).1 w' := by
  unfold AS.voteCame
  simp only []
  have S0 := hidIt (h.aside (.cells (m.r (.slice ad le cap)).cells 159))
  have hm0 : Hid ((w.alloc (.cells (m.r (.slice ad le cap)).cells 159)).At w.heap.size (m.r (.slice ad le cap)).cells 159) := World.At_alloc_new
  have q245 := hidIt (fun (w' : World) (h : w'.At p.be A.el.el.cells 155) => c245 h ok.el m.ok hp ht)
  have oe' := ok.el.gotVote m.frm m.term m.ok
  obtain ⟨bx, hb⟩ := RB.hb h
  have hc := hb.cell
  have ib := hb.inB
  unfold RSy at hc
  have hbm : p.b < w.heap.size := ib
  have nbm : p.b ≠ w.heap.size := by omega
  generalize A.el.gotVote m.frm m.term m.ok = ea at *
  obtain ⟨g, el'⟩ := ea
  simp only [] at q245 oe' ⊢
  have q186 := hidIt (fun w' G' (h : RS G' w' p { A with el := el' } [] w') => c186 h oe' (by show A.lg.hist.length ≤ 480; omega))
  have hok1 := (ok.with_el oe').persist
  have hlen := AS.persist_len { A with el := el' }
  have hlen' : (AS.persist { A with el := el' }).lg.hist.length ≤ 471 := by have : A.lg.hist.length ≤ 470 := hn; exact Nat.le_trans hlen (by show A.lg.hist.length + 1 ≤ 471; omega)
  generalize (AS.persist { A with el := el' }) = A1 at *
  generalize hlt : (A.lg.now.termAt A.lg.now.last).1 = lt at *
  generalize hla : A.lg.now.last = la at *
  clear h hb ok oe' hlt hla hlen hn
  unfold Msg.r at *
  cases g with
  | false =>
    simp only [Bool.false_eq_true, if_false]
    clear hok1 hlen'
    go_enter Tryz.func196, Tryz.ntmps196
    go_wp2_with fail
    have S1 := hidIt (S0.out.fr (w1 := World.drew _) (ModP.refl (fun _ => False) _).drew)
    refine Ord.region1 [] [0, 1, 2, 3, 4, 5, 6, 7, 8, 9] [10, 11] (by kernel_rfl) (by kernel_rfl) (fun _ _ d _ _ h => by cases d <;> exact h) ?_
    simp only [Ord.pickO, Ord.nth]
    refine wpQuiet_nil ?_
    repeat (go_big_quiet_step (fail))
    refine wpQuiet_nil ?_
    go_wp2_with (first
      | (go_at_call 245; refine (q245.out _ (RB.he S1.out.rs)).mono ?_; rintro _ w1 ⟨rfl, m1⟩; obtain ⟨s1, k1⟩ := S1.out.elec m1; have S2 := hidIt s1; clear m1 s1 k1 S1)
      | (go_at_call 186; refine (S2.out.call (fun G' h => q186.out _ G' h)).mono ?_; rintro _ w2 ⟨rfl, s3, k3⟩; have S3 := hidIt s3; clear s3 k3 S2))
    refine bodyPost_ret (results_none rfl _ _ _) rfl ?_
    exact ⟨rfl, S3.out.rs⟩
  | true =>
    simp only [if_true]
    have q142 := hidIt (fun w (h : RS G W p { A1 with next := fun _ => A1.lg.now.last + 1, mtch := fun _ => 0 } [] w) => c142 h (by show A1.lg.hist.length ≤ 480; omega) (e := ⟨A1.el.term, []⟩) (entOK_iff.2 ⟨hok1.el.t0, hok1.el.t1, by simp⟩))
    unfold Tw.Entry.cells at q142
    have hnl : Hid (∀ q, A1.lead.next q ≤ maxT + 1) := hok1.lead.n1
    have hbd := hok1.lg.last1
    have hbd0 := hok1.lg.last0
    unfold maxT at hbd
    clear hok1
    go_enter Tryz.func196, Tryz.ntmps196
    go_wp2_with fail
    have S1 := hidIt (S0.out.fr (w1 := World.drew _) (ModP.refl (fun _ => False) _).drew)
    refine Ord.region1 [] [0, 1, 2, 3, 4, 5, 6, 7, 8, 9] [10, 11] (by kernel_rfl) (by kernel_rfl) (fun _ _ d _ _ h => by cases d <;> exact h) ?_
    simp only [Ord.pickO, Ord.nth]
    refine wpQuiet_nil ?_
    repeat (go_big_quiet_step (fail))
    refine wpQuiet_nil ?_
    go_wp2_with (first
      | (go_at_call 245; refine (q245.out _ (RB.he S1.out.rs)).mono ?_; rintro _ w1 ⟨rfl, m1⟩; obtain ⟨s1, k1⟩ := S1.out.elec m1; have S2 := hidIt s1; clear m1 s1 k1 S1)
      | (go_at_call 186; refine (S2.out.call (fun G' h => q186.out _ G' h)).mono ?_; rintro _ w2 ⟨rfl, s3, k3⟩; have S3 := hidIt s3.rs; clear s3 k3 S2))
    clear hc ib
    obtain ⟨y, bx2, rfl, iy, hset⟩ := RB.open S3.out
    have HS := hidIt hset
    clear hset S3
    generalize hlt : (A1.lg.now.termAt A1.lg.now.last).1 = lt at *
    generalize hla : A1.lg.now.last = la at *
    have Hlt := hidIt (And.intro hlt hla)
    clear hlt hla
    simp only [List.length_nil]
    go_loopw [5] (fun i u => ∃ j : Nat, j ≤ 3 ∧ i = vi j ∧ Dr (y.put p.b (SyncR.cells ⟨vp p.bl, vp p.be, A1.commit, fillF A1.next (la + 1) j, fillF A1.mtch 0 j, la, lt, bx2, 0⟩) 162) u) (fun i _ => 3 - (intOf i).toNat)
    case atStart => exact ⟨0, by omega, rfl, by rw [fillF_zero, fillF_zero]; exact Dr.refl _⟩
    case round =>
      obtain ⟨j, hj, rfl, n, rfl⟩ := hrel
      by_cases hj3 : j < 3
      · have j3 : (j : Int) < 3 := by omega
        have f1 := hidIt (fillF_step A1.next (la + 1) j)
        have f2 := hidIt (fillF_step A1.mtch 0 j)
        generalize fillF A1.next (la + 1) j = g1 at *
        generalize fillF A1.mtch 0 j = g2 at *
        go_wp2_with fail
        refine Ord.region1 [] [0, 1, 2, 3, 4, 5, 6, 7, 8, 9] [10] (by kernel_rfl) (by kernel_rfl) (fun _ _ d _ _ h => by cases d <;> exact h) ?_
        simp only [Ord.pickO, Ord.nth]
        refine wpQuiet_nil ?_
        repeat (go_big_quiet_step (fail))
        refine wpQuiet_nil ?_
        go_wp2_with fail
        go_roundw
        case rel => exact ⟨j + 1, by omega, by go_num, by rw [← f1.out, ← f2.out]; exact (Dr.refl _).drewN _⟩
        case measure => simp [intOf]; omega
      · obtain rfl : j = 3 := by omega
        have S5 : RB G W p { A1 with next := fun _ => la + 1, mtch := fun _ => 0 } la lt [] ((y.put p.b (SyncR.cells ⟨vp p.bl, vp p.be, A1.commit, fillF A1.next (la + 1) 3, fillF A1.mtch 0 3, la, lt, bx2, 0⟩) 162).drewN n) :=
          RB.fr (HS.out A1.commit (fun _ => la + 1) (fun _ => 0) la lt) ((ModP.refl (fun _ => False) _).drewN n)
        have S6 : Hid (RS G W p { A1 with next := fun _ => la + 1, mtch := fun _ => 0 } [] ((y.put p.b (SyncR.cells ⟨vp p.bl, vp p.be, A1.commit, fillF A1.next (la + 1) 3, fillF A1.mtch 0 3, la, lt, bx2, 0⟩) 162).drewN n)) := by
          obtain ⟨e1, e2⟩ := Hlt.out
          unfold Hid RS
          simp only []
          rw [e2, e1]
          exact S5
        have HE6 := hidIt (RB.he S5)
        clear S5 HS
        generalize fillF A1.next (la + 1) 3 = g1 at *
        generalize fillF A1.mtch 0 3 = g2 at *
        go_wp2_with (first
          | (go_at_call 78; refine (c78 HE6.out).mono ?_; rintro _ w0 ⟨rfl, e⟩; obtain rfl := e.symm)
          | (go_at_call 142; refine (q142.out _ S6.out).mono ?_; rintro _ w7 ⟨rfl, s7⟩; have s8 : RS G W p A1.lead [] w7 := (by unfold AS.lead; rw [Hlt.out.2]; exact s7); have q187 := hidIt (c187 (A := A1.lead) s8 hnl.out); clear s7 s8)
          | (go_at_call 187; refine q187.out.mono ?_; rintro _ w8 ⟨rfl, s8⟩; have S8 := hidIt s8; clear s8))
        go_end0
        exact ⟨rfl, S8.out⟩
end
end Go.Proofs.Qxb6500990aGreat
