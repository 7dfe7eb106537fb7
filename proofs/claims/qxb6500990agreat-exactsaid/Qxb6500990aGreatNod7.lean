/- package nodem: after, nothing above the base -/
import Derived.Test.Qxb6500990aGreatNod6
set_option linter.unusedVariables false
set_option linter.unusedSimpArgs false
namespace Go.Proofs.Qxb6500990aGreat
open Go Go.RowKit Go.Tw
attribute [local go_sem] World.cell?_put_same World.cell?_put_ne World.cell?_put_ne' World.frozen?_put_same World.frozen?_put_ne World.frozen?_put_ne' World.setCell_put_same World.setCell_put_ne World.setCell_put_ne' World.inB_put World.inB_alloc World.inB_drew World.inB_drewN World.inB_new World.inB_setCell World.put_drew World.put_drewN World.q_setCell_drew World.q_setCell_drewN World.q_alloc_drew World.q_alloc_drewN World.put_put_same World.put_put_2 World.size_put World.q_cell?_alloc_old World.q_frozen?_alloc_old World.cell?_alloc_new' World.frozen?_alloc_new' World.q_setCell_alloc_old World.q_setCell_alloc_new World.q_put_alloc_old World.cell?_force_same World.frozen?_force_same World.cell?_force2_fst World.cell?_force2_snd NodeM.g0 NodeM.s0 NodeM.g1 NodeM.s1 NodeM.g2 NodeM.s2 NodeM.g3 NodeM.s3 NodeM.g4 NodeM.s4 NodeM.g5 NodeM.s5 NodeM.g6 NodeM.s6 NodeM.g7 NodeM.s7 NodeM.g8 NodeM.s8 NodeM.g9 NodeM.s9 NodeM.g10 NodeM.s10 NodeM.g11 NodeM.s11 NodeM.gi_used_0 NodeM.si_used_0 NodeM.gi_seq_0 NodeM.si_seq_0 NodeM.gi_idx_0 NodeM.si_idx_0 SyncV.g0 SyncV.s0 SyncV.g1 SyncV.s1 SyncV.g2 SyncV.s2 SyncV.g3 SyncV.s3 SyncV.g4 SyncV.s4 SyncV.g5 SyncV.s5 SyncV.g6 SyncV.s6 SyncV.g7 SyncV.s7 SyncV.g8 SyncV.s8 SyncV.g9 SyncV.s9 SyncV.g10 SyncV.s10 SyncV.g11 SyncV.s11 SyncV.g12 SyncV.s12 SyncV.g13 SyncV.s13 SyncV.g14 SyncV.s14 SyncV.g15 SyncV.s15 SyncV.g16 SyncV.s16 SyncV.g17 SyncV.s17 SyncV.g18 SyncV.s18 SyncV.g19 SyncV.s19 SyncV.gi_got_0 SyncV.si_got_0 SyncV.gi_next_0 SyncV.si_next_0 SyncV.gi_mtch_0 SyncV.si_mtch_0 NodeV.g0 NodeV.s0 NodeV.g1 NodeV.s1 NodeV.g2 NodeV.s2 NodeV.g3 NodeV.s3 NodeV.g4 NodeV.s4 NodeV.g5 NodeV.s5 NodeV.g6 NodeV.s6 NodeV.g7 NodeV.s7 NodeV.g8 NodeV.s8 NodeV.g9 NodeV.s9 NodeV.g10 NodeV.s10 NodeV.gi_used_0 NodeV.si_used_0 NodeV.gi_seq_0 NodeV.si_seq_0 NodeV.gi_idx_0 NodeV.si_idx_0 Entry.g0 Entry.s0 Entry.g1 Entry.s1 Ans.g0 Ans.s0 Ans.g1 Ans.s1 Cmd.g0 Cmd.s0 Cmd.g1 Cmd.s1 Cmd.g2 Cmd.s2 Cmd.g3 Cmd.s3 Cmd.g4 Cmd.s4 Cmd.g5 Cmd.s5 DidR.g0 DidR.s0 DidR.g1 DidR.s1 DidR.g2 DidR.s2 Reply.g0 Reply.s0 Reply.g1 Reply.s1 Reply.g2 Reply.s2 Reply.g3 Reply.s3 OutM.g0 OutM.s0 OutM.g1 OutM.s1 MsgR.g0 MsgR.s0 MsgR.g1 MsgR.s1 MsgR.g2 MsgR.s2 MsgR.g3 MsgR.s3 MsgR.g4 MsgR.s4 MsgR.g5 MsgR.s5 MsgR.g6 MsgR.s6 MsgR.g7 MsgR.s7 MsgR.g8 MsgR.s8 MsgR.g9 MsgR.s9
attribute [local go_sem] ba_get ba_eq ba_beq upd_same upd_upd
set_option maxHeartbeats 8000000
set_option maxRecDepth 100000
section
variable {W w : World} {G : Nat → Prop} {b bs bl be bk : Nat} {n : AN} {ms : List Msg} {vm : Value}
theorem c99_a (h : NBm G W b bs bl be bk n ms w vm) (ok : n.Ok) (hn : n.sy.lg.hist.length ≤ 8900) (hms : ∀ m ∈ ms, MsgOk m) (hml : ms.length ≤ 3) (q : ¬ n.catchUp.sy.lg.now.base < n.catchUp.applied) : Calls Tryz.prog 99 #[vp b, vm] w (DidN G W b bs bl be bk (n.after ms).1 (n.after ms).2) := by
  have hq : decide (n.catchUp.sy.lg.now.base < n.catchUp.applied) = false := by simpa using q
  have ok1 := ok.catchUp
  have hS0 : Hid (Af G W b bs bl be bk n (w.heap.size + 1) ⟨0, .slice none 0 0, .slice none 0 0⟩ [] [] vm ms [(w.heap.size, DidR.cells ⟨0, .slice none 0 0, .slice none 0 0⟩, 117)] ((w.alloc (.cells (DidR.cells ⟨0, .slice none 0 0, .slice none 0 0⟩) 117 (0, 0))).alloc (.cells (DidR.cells ⟨0, .slice none 0 0, .slice none 0 0⟩) 117 (0, 0)))) := Af.begin h
  have Hok := hidIt ok.sy.lg
  have Hok1 := hidIt ok1
  have Hms := hidIt hms
  have hc := h.hb.cell
  have ib := h.hb.inB
  have lb : b < w.heap.size := ib
  obtain ⟨adm, capm, rfl, -⟩ := MsgsX.form h.msgs
  unfold NoR at hc
  obtain ⟨n1, hn1⟩ : ∃ n1, n.catchUp = n1 := ⟨_, rfl⟩
  have hC := hidIt (fun G w' (h : NB G w' b bs bl be bk n w') => c76 h Hok.out)
  rw [hn1] at hC Hok1 hq
  have hk : Hid (n.after ms = (⟨0, ms.map outM, n1.compact.apply.2 ++ (AN.giveN 3 0 n1.compact.apply.1).2⟩, (AN.giveN 3 0 n1.compact.apply.1).1)) := by unfold Hid AN.after; rw [hn1]
  have hh1 : Hid (n1.sy.lg.hist.length ≤ 8900) := by unfold Hid; rw [← hn1, AN.catchUp_sy]; exact hn
  have a0 := Hok1.out.a0
  have a1 : n1.applied ≤ 72057594037927936 := Hok1.out.a1
  have b0 := Hok1.out.sy.lg.b0
  have l1 : n1.sy.lg.now.last ≤ 72057594037927936 := Hok1.out.sy.lg.last1
  have bl1 : n1.sy.lg.now.base ≤ n1.sy.lg.now.last := by unfold Lg.last; omega
  clear h ok hms hn1 ok1 hn
  clear q
  obtain ⟨n2, hn2⟩ : ∃ n2, n1.compact = n2 := ⟨_, rfl⟩
  have hE : n2 = n1 := by rw [← hn2]; unfold AN.compact; rw [if_neg (fun h => (of_decide_eq_false hq) h.1)]
  rw [hn2] at hk
  have ok2 : Hid n2.Ok := by unfold Hid; rw [hE]; exact Hok1.out
  have hcm : Hid (n2.sy.commit = n1.sy.commit) := by unfold Hid; rw [hE]
  have hrl : Hid (n2.sy.el = n1.sy.el) := by unfold Hid; rw [hE]
  have HE := hidIt hE
  clear hn2 hE
  go_enter Tryz.func99, Tryz.ntmps99
  go_wp2_with (first
    | (go_at_call 76; refine (hS0.out.call (fun G h => hC.out G _ h)).mono ?_; rintro _ w1 ⟨rfl, S1⟩; have H1 := hidIt S1; have hc1 := S1.hb.cell; have ib1 := S1.hb.inB; clear S1 hc hS0 hC)
    | (go_at_call 97; obtain ⟨G9, g9⟩ := H1.out.nb.sy; refine (c97 g9 Hok1.out.sy.lg).mono ?_; rintro _ w2 ⟨bv, rfl, lv, hv, m2⟩; unfold AS.view at hv; have S2 := H1.out.more m2 lv hv; have H2 := hidIt S2; have hc2 := S2.hb.cell; have ib2 := S2.hb.inB; have hcv := hv.cell; have iv := hv.inB; clear S2 hv m2 lv H1 hc1 ib1 g9))
  refine Ord.region1 [] [0, 1, 2, 3, 4, 5, 6, 7, 8, 9, 10, 11, 12, 13, 14, 15, 16, 17, 18, 19, 20, 21, 22, 23, 24, 25, 26, 27, 28, 29, 30, 31] [32] (by kernel_rfl) (by kernel_rfl) (fun _ _ d _ _ h => by cases d <;> exact h) ?_
  simp only [Ord.pickO, Ord.nth]
  refine wpQuiet_nil ?_
  repeat (go_big_quiet_step (fail))
  refine wpQuiet_nil ?_
  go_wp2_with fail
  have S0 : Hid (Af G W b bs bl be bk n2 (w.heap.size + 1) ⟨0, .slice none 0 0, .slice none 0 0⟩ [] [] (.slice adm ms.length capm) ms [(bv, SyncV.cells ⟨n1.sy.el.id, n1.sy.el.term, n1.sy.el.vote, n1.sy.el.role, n1.sy.el.leader, n1.sy.el.clock, n1.sy.el.got, n1.sy.commit, n1.sy.lg.now.base, n1.sy.lg.now.baseTerm, n1.sy.lg.now.last, n1.sy.lg.now.snap, n1.sy.next, n1.sy.mtch⟩, 64), (w.heap.size, DidR.cells ⟨0, .slice none 0 0, .slice none 0 0⟩, 117)] w2.drew) := by unfold Hid; rw [HE.out]; exact H2.out.fr (ModP.drew (ModP.refl _ _))
  clear H2 hc2 ib2 hcv iv HE hh1 Hok Hok1
  clear hq a0 a1 b0 l1 bl1
  go_loopw [9] (fun _ u => ∃ (n' : AN) (rs : List Reply) (vr : Value) (k : Nat), Hid (Af G W b bs bl be bk n' (w.heap.size + 1) ⟨0, .slice none 0 0, vr⟩ [] rs (.slice adm ms.length capm) ms [(bv, SyncV.cells ⟨n1.sy.el.id, n1.sy.el.term, n1.sy.el.vote, n1.sy.el.role, n1.sy.el.leader, n1.sy.el.clock, n1.sy.el.got, n1.sy.commit, n1.sy.lg.now.base, n1.sy.lg.now.baseTerm, n1.sy.lg.now.last, n1.sy.lg.now.snap, n1.sy.next, n1.sy.mtch⟩, 64), (w.heap.size, DidR.cells ⟨0, .slice none 0 0, .slice none 0 0⟩, 117)] u) ∧ Hid (n'.Ok) ∧ Hid (rs.length + n'.cnt ≤ 3) ∧ Hid (n2.apply = ((AN.applyN k n').1, rs ++ (AN.applyN k n').2)) ∧ Hid (k = (n2.sy.commit - n'.applied).toNat) ∧ Hid (n'.sy = n2.sy)) (fun _ u => (n2.sy.commit - intOf ((u.cell? ⟨b, 2, none⟩).getD (vi 0))).toNat)
  case atStart => exact ⟨n2, [], .slice none 0 0, (n2.sy.commit - n2.applied).toNat, S0, ok2, by unfold Hid; have := n2.cnt_le; simpa using this, rfl, rfl, rfl⟩
  case round =>
    clear S0 ok2
    obtain ⟨n', rs, vr, k, H1, H2, H3, H4, H5, H6⟩ := hrel
    obtain ⟨adr, capr, rfl, -⟩ := ownsRow_form H1.out.rowR
    have hcb := H1.out.hb.cell
    obtain ⟨y, rfl, iy, hy, HS⟩ := H1.out.door
    have hv1 := (hy _ _ _ (H1.out.get (e := (bv, _, _)) List.mem_cons_self) (show ((64 : TypeId)) ≠ 104 by decide))
    obtain ⟨nv, hv2⟩ := hv1
    have hcv := hv2.cell
    have iv := hv2.inB
    have Hv2 := hidIt hv2
    clear hy hv2
    have a0 := H2.out.a0
    have a1 : n'.applied ≤ 72057594037927936 := H2.out.a1
    have hmz : Hid (((y.put b (NodeM.cells ⟨vp bs, vp bk, n'.applied, n'.used, n'.seq, n'.idx⟩) 104).cell? ⟨b, 2, none⟩).getD (vi 0) = vi n'.applied) := by unfold Hid; rw [hcb]; rfl
    clear hcb H1
    by_cases hlt : n'.applied < n1.sy.commit
    · skip
      obtain ⟨k', hk'⟩ : ∃ k', k = k' + 1 := ⟨k - 1, by have := H5.out; rw [hcm.out] at this; omega⟩
      have H4' : Hid (n2.apply = ((AN.applyN k' n'.apply1.1).1, (rs ++ n'.apply1.2) ++ (AN.applyN k' n'.apply1.1).2)) := by unfold Hid; rw [H4.out, hk', List.append_assoc]; rfl
      have H5' : Hid (k' = (n2.sy.commit - (n'.applied + 1)).toNat) := by unfold Hid; have := H5.out; omega
      have H2' := hidIt (H2.out.apply1 (by rw [H6.out, hcm.out]; exact hlt))
      have H3' : Hid ((rs ++ n'.apply1.2).length + n'.apply1.1.cnt ≤ 3) := by unfold Hid; have := H3.out; have := n'.apply1_cnt; simp only [List.length_append]; omega
      have H6' : Hid (n'.apply1.1.sy = n2.sy ∧ n'.apply1.1.applied = n'.applied + 1) := by unfold Hid; have := n'.apply1_sy; rw [H6.out] at this; exact this
      clear H4 H5 hk'
      obtain ⟨⟨⟨et, ed⟩, ee⟩, hat⟩ : ∃ x, n'.sy.lg.now.at_ (n'.applied + 1) = x := ⟨_, rfl⟩
      have hA1 : Hid (n'.apply1 = if ed = [] then (n'.next, []) else n'.next.run ed) := by unfold Hid AN.apply1; rw [hat]
      have hat2 : ed.length ≤ 24 := by have := (Lg.at_ok H2.out.sy.lg (n'.applied + 1)).2.2; rw [hat] at this; exact this
      have hAt := hidIt (fun w' (h : NB G W b bs bl be bk { n' with applied := n'.applied + 1 } w') => by obtain ⟨G9, g9⟩ := h.sy; exact c159 g9 H2.out.sy.lg (n'.applied + 1))
      simp only [] at hAt
      rw [hat] at hAt
      unfold Tw.Entry.cells at hAt
      clear hat
      go_wp2_with fail
      refine Ord.region1 [] [0, 1, 2, 3, 4, 5, 6, 7] [8] (by kernel_rfl) (by kernel_rfl) (fun _ _ d _ _ h => by cases d <;> exact h) ?_
      simp only [Ord.pickO, Ord.nth]
      refine wpQuiet_nil ?_
      repeat (go_big_quiet_step (fail))
      refine wpQuiet_nil ?_
      go_wp2_with fail
      have S2 := hidIt (HS.out (n'.applied + 1) n'.used n'.seq n'.idx)
      refine Ord.region3 (fun w' => ∃ u : World, w' = u.force b (NodeM.cells ⟨vp bs, vp bk, n'.applied + 1, n'.used, n'.seq, n'.idx⟩) 104) [0, 1, 2, 3, 4, 5, 6, 7] [] (.two 8 false (.val 9 (.val 10 (.val 11 (.one 12 true (.one 13 false (.val 14 .fin)))))) 12 true (.one 8 false (.val 9 (.val 10 (.val 11 (.one 13 false (.val 14 .fin))))))) false (fun h => by cases h) (by kernel_rfl) (by kernel_rfl) (fun _ _ d _ _ h => by cases d <;> exact h) ?ca9_1 ?_
      rotate_left
      simp only [Ord.pickO, Ord.nth]
      repeat (go_big_quiet_step (fail))
      refine wpQuiet_nil ?_
      refine wpQuiet_nil ?_
      -- steps: [['N8', 'V9', 'V10', 'V11', 'L12', 'N13', 'V14'], ['L12', 'N8', 'V9', 'V10', 'V11', 'N13', 'V14']]
      rotate_left
      · exact ca_of (S2.out.fr (by repeat (first | exact ModP.refl _ _ | apply ModP.drew | apply ModP.alloc))).hb
      refine Ord.wpS_two ?_ ?_
      · skip
        refine Ord.wpS_next rfl ?_
        intro K hK
        dsimp only [Ord.nth]
        go_wp2_with fail
        refine (hAt.out _ (S2.out.nb.fr (by repeat (first | exact ModP.refl _ _ | apply ModP.drew | apply ModP.alloc)))).mono ?_
        rintro _ w3 ⟨rfl, m3⟩
        have S3 := hidIt ((S2.out.fr (by repeat (first | exact ModP.refl _ _ | apply ModP.drew | apply ModP.alloc))).fr m3)
        refine hK _ _ ?_
        clear hK K m3
        refine Ord.wpS_val rfl ?_
        dsimp only [Ord.nth]
        go_big_quiet_step (fail)
        refine wpQuiet_nil ?_
        refine Ord.wpS_val rfl ?_
        dsimp only [Ord.nth]
        go_big_quiet_step (fail)
        refine wpQuiet_nil ?_
        refine Ord.wpS_val rfl ?_
        dsimp only [Ord.nth]
        go_big_quiet_step (fail)
        refine wpQuiet_nil ?_
        refine Ord.wpS_loose rfl ?_
        intro K hK
        dsimp only [Ord.nth]
        go_wp2_with fail
        refine hK _ _ (ca_of (World.At.alloc S3.out.hb _)) ?_
        clear hK K
        refine Ord.wpS_next rfl ?_
        intro K hK
        dsimp only [Ord.nth]
        go_wp2_with fail
        refine Ord.wpS_val rfl ?_
        dsimp only [Ord.nth]
        go_big_quiet_step (fail)
        refine wpQuiet_nil ?_
        refine Ord.wpS_fin ?_
        have S4 := hidIt (S3.out.more (w1 := w3.alloc (.cells (Entry.cells ⟨et, ed⟩) 232 (0, 0))) (c := Entry.cells ⟨et, ed⟩) (T := 232) ((ModP.refl _ _).alloc _) (Nat.le_refl _) World.At_alloc_new)
        unfold Entry.cells at S4
        generalize w3.alloc (.cells #[.int .i64 et, .string (ByteArray.mk ed.toArray)] 232 (0, 0)) = w4 at *
        generalize w3.heap.size = x8 at *
        clear S3 S2
        as_aux_lemma =>
          have hc4 := S4.out.hb.cell
          have ib4 := S4.out.hb.inB
          have hx4 := S4.out.get (e := (x8, _, _)) List.mem_cons_self
          have hcx4 := hx4.cell
          have ix4 := hx4.inB
          clear hx4
          have hm4 : Hid ((w4.cell? ⟨b, 2, none⟩).getD (vi 0) = vi (n'.applied + 1)) := by unfold Hid; rw [hc4]; rfl
          by_cases hed : ed = []
          · rw [if_pos hed] at hA1
            subst hed
            go_wp2_with fail
            go_roundw
            case rel => exact ⟨n'.next, rs, .slice adr rs.length capr, k', S4.out.less (fun e he => List.mem_cons_of_mem _ he), by have := H2'.out; rw [hA1.out] at this; exact this, by have := H3'.out; rw [hA1.out] at this; unfold Hid; simpa using this, by have := H4'.out; rw [hA1.out] at this; unfold Hid; simpa using this, H5', H6⟩
            case measure => rw [hmz.out, hm4.out]; simp only [intOf]; have := hcm.out; omega
          · rw [if_neg hed] at hA1
            have hed' : (ed == []) = false := by simpa using hed
            obtain ⟨⟨ea, ev⟩, hap⟩ : ∃ x, (n'.kv.apply ed).1 = x := ⟨_, rfl⟩
            have hAp := hidIt (fun (w' : World) (h : w'.At bk n'.kv.r.cells 186) => c160 h H2.out.kv.n4 ed (by omega))
            rw [hap] at hAp
            unfold Tw.Ans.cells at hAp
            have Hap := hidIt hap
            clear hap hed
            have n8 : b ≠ x8 := At.neT S4.out.hb (S4.out.get (e := (x8, _, _)) List.mem_cons_self) (show ((104 : TypeId)) ≠ 232 by decide)
            go_wp2_with fail
            refine Ord.region3 (fun w' => ∃ u : World, w' = u.force2 b (NodeM.cells ⟨vp bs, vp bk, n'.applied + 1, n'.used, n'.seq, n'.idx⟩) 104 x8 #[.int .i64 et, .string (ByteArray.mk ed.toArray)] 232) [0, 1, 2, 3, 4, 5] [] (.two 6 false (.one 7 true (.one 8 false .fin)) 7 true (.one 6 false (.one 8 false .fin))) false (fun h => by cases h) (by kernel_rfl) (by kernel_rfl) (fun _ _ d _ _ h => by cases d <;> exact h) ?ca11_2 ?_
            rotate_left
            simp only [Ord.pickO, Ord.nth]
            repeat (go_big_quiet_step (fail))
            refine wpQuiet_nil ?_
            refine wpQuiet_nil ?_
            -- steps: [['N6', 'L7', 'N8'], ['L7', 'N6', 'N8']]
            rotate_left
            · exact ca_of2 (S4.out.fr (by repeat (first | exact ModP.refl _ _ | apply ModP.drew | apply ModP.alloc))).hb ((S4.out.fr (by repeat (first | exact ModP.refl _ _ | apply ModP.drew | apply ModP.alloc))).get (e := (x8, _, _)) List.mem_cons_self)
            refine Ord.wpS_two ?_ ?_
            · skip
              refine Ord.wpS_next rfl ?_
              intro K hK
              dsimp only [Ord.nth]
              go_wp2_with fail
              refine (hAp.out _ (S4.out.nb.fr (by repeat (first | exact ModP.refl _ _ | apply ModP.drew | apply ModP.alloc))).hk).mono ?_
              rintro _ w5 ⟨rfl, hk5, m5⟩
              have S5 := hidIt ((S4.out.fr (by repeat (first | exact ModP.refl _ _ | apply ModP.drew | apply ModP.alloc))).store hk5 m5)
              refine hK _ _ ?_
              clear hK K hk5 m5
              refine Ord.wpS_loose rfl ?_
              intro K hK
              dsimp only [Ord.nth]
              go_wp2_with fail
              refine hK _ _ (ca_of2 (S5.out.fr (by repeat (first | exact ModP.refl _ _ | apply ModP.drew | apply ModP.alloc))).hb ((S5.out.fr (by repeat (first | exact ModP.refl _ _ | apply ModP.drew | apply ModP.alloc))).get (e := (x8, _, _)) List.mem_cons_self)) ?_
              clear hK K
              refine Ord.wpS_next rfl ?_
              intro K hK
              dsimp only [Ord.nth]
              go_wp2_with fail
              refine Ord.wpS_fin ?_
              have S6 := hidIt (S5.out.more (w1 := w5.alloc (.cells (Ans.cells ⟨ea, ev⟩) 75 (0, 0))) (c := Ans.cells ⟨ea, ev⟩) (T := 75) ((ModP.refl _ _).alloc _) (Nat.le_refl _) World.At_alloc_new)
              unfold Ans.cells at S6
              generalize w5.alloc (.cells #[.int .i64 ea, .string (ByteArray.mk ev.toArray)] 75 (0, 0)) = w6 at *
              generalize w5.heap.size = x10 at *
              clear S4 S5 hc4 ib4 hcx4 ix4 hAp
              as_aux_lemma =>
                have hc6 := S6.out.hb.cell
                have ib6 := S6.out.hb.inB
                have hx6 := S6.out.get (e := (x8, _, _)) (List.mem_cons_of_mem _ List.mem_cons_self)
                have hcx6 := hx6.cell
                have ix6 := hx6.inB
                clear hx6
                cases hd : decCmd ed with
                | none =>
                  have hdv : Hid (decCmdV ed = .tuple #[.agg zCmd.cells, vi 9]) := by unfold Hid decCmdV; rw [hd]
                  have hA2 : n'.next.run ed = (AN.mk n'.sy (n'.kv.apply ed).2 (n'.applied + 1) n'.used n'.seq n'.idx, []) := by unfold AN.run AN.answers; rw [hd]; rfl
                  rw [hA2] at hA1
                  clear hd hA2
                  as_aux_lemma =>
                    go_wp2_with (first
                      | (go_at_call 161; refine (c161 _ ed (by omega)).mono ?_; rintro _ w7 ⟨rfl, m7⟩; rw [hdv.out]; simp only [Tw.Cmd.cells, zCmd]; have S7 := hidIt (S6.out.fr m7.toP0); have hc7 := S7.out.hb.cell; have ib7 := S7.out.hb.inB; have h57 := S7.out.h5; have hc57 := h57.cell; have i57 := h57.inB; have hx7 := S7.out.get (e := (x10, _, _)) List.mem_cons_self; have hcx7 := hx7.cell; have ix7 := hx7.inB; clear m7 S6 hc6 ib6 hcx6 ix6 hx7 h57))
                    refine Ord.region1 [] [0, 1, 2, 3, 4, 5, 6, 7, 8, 9, 10, 11, 12, 13, 14, 15, 16, 17, 18, 19, 20, 21] [22] (by kernel_rfl) (by kernel_rfl) (fun _ _ d _ _ h => by cases d <;> exact h) ?_
                    simp only [Ord.pickO, Ord.nth]
                    refine wpQuiet_nil ?_
                    repeat (go_big_quiet_step (fail))
                    refine wpQuiet_nil ?_
                    go_wp2_with fail
                    go_roundw
                    case rel => exact ⟨AN.mk n'.sy (n'.kv.apply ed).2 (n'.applied + 1) n'.used n'.seq n'.idx, rs, .slice adr rs.length capr, k', (S7.out.fr (by repeat (first | exact ModP.refl _ _ | apply ModP.drew | apply ModP.alloc))).less (fun e he => List.mem_cons_of_mem _ (List.mem_cons_of_mem _ he)), by have := H2'.out; rw [hA1.out] at this; exact this, by have := H3'.out; rw [hA1.out] at this; unfold Hid; simpa using this, by have := H4'.out; rw [hA1.out] at this; unfold Hid; simpa using this, H5', H6⟩
                    case measure => rw [hmz.out, show ((_ : World).cell? ⟨b, 2, none⟩).getD (vi 0) = vi (n'.applied + 1) by rw [((S7.out.fr (by repeat (first | exact ModP.refl _ _ | apply ModP.drew | apply ModP.alloc))).hb).cell]; rfl]; simp only [intOf]; have := hcm.out; omega
                | some c =>
                  obtain ⟨cop, ccl, csq, ck, cv, co⟩ := c
                  have hdv : Hid (decCmdV ed = .tuple #[.agg (Cmd.cells ⟨cop, ccl, csq, ck, cv, co⟩), vi 0]) := by unfold Hid decCmdV; rw [hd]
                  obtain ⟨_, _, cl0, cl1, _⟩ := cmdOK_bounds (decCmd_ok hd)
                  simp only [] at cl0 cl1
                  have cl3 : ccl.toNat < 3 := by omega
                  have hans : n'.next.answers ed = if n'.used ccl.toNat = true ∧ n'.seq ccl.toNat = csq then some ⟨cop, ccl, csq, ck, cv, co⟩ else none := by unfold AN.answers; rw [hd]; rfl
                  clear hd
                  by_cases hu : n'.used ccl.toNat = true
                  · by_cases hsq : n'.seq ccl.toNat = csq
                    · have hA2 : n'.next.run ed = (AN.mk n'.sy (n'.kv.apply ed).2 (n'.applied + 1) (upd n'.used ccl.toNat false) (upd n'.seq ccl.toNat 0) (upd n'.idx ccl.toNat 0), [⟨ccl, csq, ⟨ea, ev⟩⟩]) := by unfold AN.run; rw [hans, if_pos ⟨hu, hsq⟩]; simp only [AN.clear, AN.next, ← Hap.out]
                      have hsq' : (n'.seq ccl.toNat == csq) = true := by simpa using hsq
                      rw [hA2] at hA1
                      clear hA2 hans hsq
                      have hrl3 : rs.length ≤ 3 := by have := H3.out; omega
                      go_wp2_with (first
                        | (go_at_call 161; refine (c161 _ ed (by omega)).mono ?_; rintro _ w7 ⟨rfl, m7⟩; rw [hdv.out]; simp only [Tw.Cmd.cells, zCmd]; have S7 := hidIt (S6.out.fr m7.toP0); have hc7 := S7.out.hb.cell; have ib7 := S7.out.hb.inB; have h57 := S7.out.h5; have hc57 := h57.cell; have i57 := h57.inB; have hx7 := S7.out.get (e := (x10, _, _)) List.mem_cons_self; have hcx7 := hx7.cell; have ix7 := hx7.inB; clear m7 S6 hc6 ib6 hcx6 ix6 hx7 h57))
                      refine Ord.region1 [] [0, 1, 2, 3, 4, 5, 6, 7, 8, 9, 10, 11, 12, 13, 14, 15, 16, 17, 18, 19, 20, 21] [22] (by kernel_rfl) (by kernel_rfl) (fun _ _ d _ _ h => by cases d <;> exact h) ?_
                      simp only [Ord.pickO, Ord.nth]
                      refine wpQuiet_nil ?_
                      repeat (go_big_quiet_step (fail))
                      refine wpQuiet_nil ?_
                      have S8 := hidIt (S7.out.more (w1 := w7.alloc (.cells (Cmd.cells ⟨cop, ccl, csq, ck, cv, co⟩) 123 (0, 0))) (c := Cmd.cells ⟨cop, ccl, csq, ck, cv, co⟩) (T := 123) ((ModP.refl _ _).alloc _) (Nat.le_refl _) World.At_alloc_new)
                      go_wp2_with (first
                        | (at_builtin; go_loud (refine wp_app rk54 (v := .slice adr rs.length capr) (n := rs.length) (xs := repsC rs) (B := 0) rfl _ _ rfl (Reply.cells ⟨ccl, csq, ⟨ea, ev⟩⟩).toList rfl rfl (by repeat (first | exact at_new (by simp [World.size_put]) | refine World.At_drew.2 ?_)) rfl (by simp [Reply.cells, Value.oneCell']) (S8.out.fr (by repeat (first | exact ModP.refl _ _ | apply ModP.drew | apply ModP.alloc))).rowR (Nat.zero_le _) (by unfold maxLen; omega) (by omega) ?_; intro g' cap' y1 o1 m1 oc1 ol1; obtain ⟨h51, SA⟩ := S8.out.appR (by intro e he; have h5 := S8.out.h5; have hg := S8.out.get he; simp only [List.mem_cons, List.not_mem_nil, or_false] at he; rcases he with rfl | rfl | rfl | rfl | rfl <;> first | exact ⟨(by simp only []; decide), (by simp only []; omega)⟩ | exact ⟨(by simp only []; decide), At.neT hg h5 (by simp only []; decide)⟩) o1 (Mod.trans (by repeat (first | exact Mod.refl _ _ | apply Mod.drew)) m1) oc1 ol1; clear o1 m1 oc1 ol1 hc7 ib7 hc57 i57 hcx7 ix7 S7 S8; obtain ⟨z1, rfl, iz1⟩ := h51.door; rw [World.put_put_same] at SA; have HSA := hidIt SA; clear SA h51)))
                      generalize z1.put (w.heap.size + 1) (DidR.cells ⟨0, .slice none 0 0, .slice (some ⟨g', 0, none⟩) (rs.length + 1) cap'⟩) 117 = w9 at *
                      have hc11 := HSA.out.get (e := (w7.heap.size, _, _)) List.mem_cons_self
                      obtain ⟨y9, rfl, iy9, hy9, HS9⟩ := HSA.out.door
                      obtain ⟨nx11, hx11'⟩ := hy9 _ _ _ hc11 (by simp only []; decide)
                      simp only [] at nx11 hx11'
                      have hx11 := hidIt hx11'
                      have hcx11 := hx11'.cell
                      have ix11 := hx11'.inB
                      clear hc11 hy9 hx11' HSA
                      generalize w7.heap.size = x11 at *
                      refine Ord.region3 (fun w' => ∃ u : World, w' = u.force x11 (Cmd.cells ⟨cop, ccl, csq, ck, cv, co⟩) 123) [3, 4, 5, 6, 7, 8, 13, 14, 17, 18] [0, 1, 2, 9, 10, 11] (.one 12 true (.one 15 true (.one 16 true (.val 19 (.one 20 false .fin))))) false (fun h => by cases h) (by kernel_rfl) (by kernel_rfl) (fun _ _ d _ _ h => by cases d <;> exact h) ?ca15_3 ?_
                      rotate_left
                      simp only [Ord.pickO, Ord.nth]
                      repeat (go_big_quiet_step (fail))
                      refine wpQuiet_nil ?_
                      repeat (go_big_quiet_step (fail))
                      refine wpQuiet_nil ?_
                      -- steps: ['L12', 'L15', 'L16', 'V19', 'N20']
                      rotate_left
                      · exact ca_of (by repeat (first | exact (World.At_put_ne' nx11).2 hx11.out | refine World.At_drew.2 ?_))
                      refine Ord.wpS_loose rfl ?_
                      intro K hK
                      dsimp only [Ord.nth]
                      go_wp2_with fail
                      refine hK _ _ (ca_of (by repeat (first | exact (World.At_put_ne' nx11).2 hx11.out | refine World.At_drew.2 ?_))) ?_
                      clear hK K
                      refine Ord.wpS_loose rfl ?_
                      intro K hK
                      dsimp only [Ord.nth]
                      go_wp2_with fail
                      refine hK _ _ (ca_of (by repeat (first | exact (World.At_put_ne' nx11).2 hx11.out | refine World.At_drew.2 ?_))) ?_
                      clear hK K
                      refine Ord.wpS_loose rfl ?_
                      intro K hK
                      dsimp only [Ord.nth]
                      go_wp2_with fail
                      refine hK _ _ (ca_of (by repeat (first | exact (World.At_put_ne' nx11).2 hx11.out | refine World.At_drew.2 ?_))) ?_
                      clear hK K
                      refine Ord.wpS_val rfl ?_
                      dsimp only [Ord.nth]
                      go_big_quiet_step (fail)
                      refine wpQuiet_nil ?_
                      refine Ord.wpS_next rfl ?_
                      intro K hK
                      dsimp only [Ord.nth]
                      go_wp2_with fail
                      refine Ord.wpS_fin ?_
                      go_wp2_with fail
                      go_roundw
                      case rel => exact ⟨AN.mk n'.sy (n'.kv.apply ed).2 (n'.applied + 1) (upd n'.used ccl.toNat false) (upd n'.seq ccl.toNat 0) (upd n'.idx ccl.toNat 0), rs ++ [Reply.mk ccl csq (Ans.mk ea ev)], .slice (some ⟨g', 0, none⟩) (rs.length + 1) cap', k', ((HS9.out (n'.applied + 1) (upd n'.used ccl.toNat false) (upd n'.seq ccl.toNat 0) (upd n'.idx ccl.toNat 0)).fr (by repeat (first | exact ModP.refl _ _ | apply ModP.drew | apply ModP.alloc))).less (fun e he => List.mem_cons_of_mem _ (List.mem_cons_of_mem _ (List.mem_cons_of_mem _ he))), by have := H2'.out; rw [hA1.out] at this; exact this, by have := H3'.out; rw [hA1.out] at this; exact this, by have := H4'.out; rw [hA1.out] at this; exact this, H5', H6⟩
                      case measure => rw [hmz.out, show ((_ : World).cell? ⟨b, 2, none⟩).getD (vi 0) = vi (n'.applied + 1) by rw [((HS9.out (n'.applied + 1) (upd n'.used ccl.toNat false) (upd n'.seq ccl.toNat 0) (upd n'.idx ccl.toNat 0)).fr (by repeat (first | exact ModP.refl _ _ | apply ModP.drew | apply ModP.alloc))).hb.cell]; rfl]; simp only [intOf]; have := hcm.out; omega
                    · have hA2 : n'.next.run ed = (AN.mk n'.sy (n'.kv.apply ed).2 (n'.applied + 1) n'.used n'.seq n'.idx, []) := by unfold AN.run; rw [hans, if_neg (fun h => hsq h.2)]; rfl
                      have hsq' : (n'.seq ccl.toNat == csq) = false := by simpa using hsq
                      rw [hA2] at hA1
                      clear hA2 hans hsq
                      as_aux_lemma =>
                        go_wp2_with (first
                          | (go_at_call 161; refine (c161 _ ed (by omega)).mono ?_; rintro _ w7 ⟨rfl, m7⟩; rw [hdv.out]; simp only [Tw.Cmd.cells, zCmd]; have S7 := hidIt (S6.out.fr m7.toP0); have hc7 := S7.out.hb.cell; have ib7 := S7.out.hb.inB; have h57 := S7.out.h5; have hc57 := h57.cell; have i57 := h57.inB; have hx7 := S7.out.get (e := (x10, _, _)) List.mem_cons_self; have hcx7 := hx7.cell; have ix7 := hx7.inB; clear m7 S6 hc6 ib6 hcx6 ix6 hx7 h57))
                        refine Ord.region1 [] [0, 1, 2, 3, 4, 5, 6, 7, 8, 9, 10, 11, 12, 13, 14, 15, 16, 17, 18, 19, 20, 21] [22] (by kernel_rfl) (by kernel_rfl) (fun _ _ d _ _ h => by cases d <;> exact h) ?_
                        simp only [Ord.pickO, Ord.nth]
                        refine wpQuiet_nil ?_
                        repeat (go_big_quiet_step (fail))
                        refine wpQuiet_nil ?_
                        go_wp2_with fail
                        go_roundw
                        case rel => exact ⟨AN.mk n'.sy (n'.kv.apply ed).2 (n'.applied + 1) n'.used n'.seq n'.idx, rs, .slice adr rs.length capr, k', (S7.out.fr (by repeat (first | exact ModP.refl _ _ | apply ModP.drew | apply ModP.alloc))).less (fun e he => List.mem_cons_of_mem _ (List.mem_cons_of_mem _ he)), by have := H2'.out; rw [hA1.out] at this; exact this, by have := H3'.out; rw [hA1.out] at this; unfold Hid; simpa using this, by have := H4'.out; rw [hA1.out] at this; unfold Hid; simpa using this, H5', H6⟩
                        case measure => rw [hmz.out, show ((_ : World).cell? ⟨b, 2, none⟩).getD (vi 0) = vi (n'.applied + 1) by rw [((S7.out.fr (by repeat (first | exact ModP.refl _ _ | apply ModP.drew | apply ModP.alloc))).hb).cell]; rfl]; simp only [intOf]; have := hcm.out; omega
                  · have hA2 : n'.next.run ed = (AN.mk n'.sy (n'.kv.apply ed).2 (n'.applied + 1) n'.used n'.seq n'.idx, []) := by unfold AN.run; rw [hans, if_neg (fun h => hu h.1)]; rfl
                    have hu' : n'.used ccl.toNat = false := by simpa using hu
                    rw [hA2] at hA1
                    clear hA2 hans hu
                    as_aux_lemma =>
                      go_wp2_with (first
                        | (go_at_call 161; refine (c161 _ ed (by omega)).mono ?_; rintro _ w7 ⟨rfl, m7⟩; rw [hdv.out]; simp only [Tw.Cmd.cells, zCmd]; have S7 := hidIt (S6.out.fr m7.toP0); have hc7 := S7.out.hb.cell; have ib7 := S7.out.hb.inB; have h57 := S7.out.h5; have hc57 := h57.cell; have i57 := h57.inB; have hx7 := S7.out.get (e := (x10, _, _)) List.mem_cons_self; have hcx7 := hx7.cell; have ix7 := hx7.inB; clear m7 S6 hc6 ib6 hcx6 ix6 hx7 h57))
                      refine Ord.region1 [] [0, 1, 2, 3, 4, 5, 6, 7, 8, 9, 10, 11, 12, 13, 14, 15, 16, 17, 18, 19, 20, 21] [22] (by kernel_rfl) (by kernel_rfl) (fun _ _ d _ _ h => by cases d <;> exact h) ?_
                      simp only [Ord.pickO, Ord.nth]
                      refine wpQuiet_nil ?_
                      repeat (go_big_quiet_step (fail))
                      refine wpQuiet_nil ?_
                      go_wp2_with fail
                      go_roundw
                      case rel => exact ⟨AN.mk n'.sy (n'.kv.apply ed).2 (n'.applied + 1) n'.used n'.seq n'.idx, rs, .slice adr rs.length capr, k', (S7.out.fr (by repeat (first | exact ModP.refl _ _ | apply ModP.drew | apply ModP.alloc))).less (fun e he => List.mem_cons_of_mem _ (List.mem_cons_of_mem _ he)), by have := H2'.out; rw [hA1.out] at this; exact this, by have := H3'.out; rw [hA1.out] at this; unfold Hid; simpa using this, by have := H4'.out; rw [hA1.out] at this; unfold Hid; simpa using this, H5', H6⟩
                      case measure => rw [hmz.out, show ((_ : World).cell? ⟨b, 2, none⟩).getD (vi 0) = vi (n'.applied + 1) by rw [((S7.out.fr (by repeat (first | exact ModP.refl _ _ | apply ModP.drew | apply ModP.alloc))).hb).cell]; rfl]; simp only [intOf]; have := hcm.out; omega
            · skip
              refine Ord.wpS_loose rfl ?_
              intro K hK
              dsimp only [Ord.nth]
              go_wp2_with fail
              refine hK _ _ (ca_of2 (S4.out.fr (by repeat (first | exact ModP.refl _ _ | apply ModP.drew | apply ModP.alloc))).hb ((S4.out.fr (by repeat (first | exact ModP.refl _ _ | apply ModP.drew | apply ModP.alloc))).get (e := (x8, _, _)) List.mem_cons_self)) ?_
              clear hK K
              refine Ord.wpS_next rfl ?_
              intro K hK
              dsimp only [Ord.nth]
              go_wp2_with fail
              refine (hAp.out _ (S4.out.nb.fr (by repeat (first | exact ModP.refl _ _ | apply ModP.drew | apply ModP.alloc))).hk).mono ?_
              rintro _ w5 ⟨rfl, hk5, m5⟩
              have S5 := hidIt (((S4.out.more (x := w4.heap.size) (c := Ans.cells ⟨0, []⟩) (T := 75) (w1 := w4.alloc (.cells (Ans.cells ⟨0, []⟩) 75 (0, 0))) ((ModP.refl _ _).alloc _) (Nat.le_refl _) World.At_alloc_new).fr (by repeat (first | exact ModP.refl _ _ | apply ModP.drew | apply ModP.alloc))).store hk5 m5)
              have hz5 := S5.out.get (e := (w4.heap.size, _, _)) List.mem_cons_self
              have S6 := hidIt (S5.out.repl (Nat.ne_of_gt S4.out.h5.inB) (fun e he => Nat.ne_of_lt (S4.out.get he).inB) (by decide) (Ans.cells ⟨ea, ev⟩) 75)
              refine hK _ _ ?_
              clear hK K hk5 m5 S5
              obtain ⟨z5, rfl, iz5⟩ := hz5.door
              rw [World.put_put_same] at S6
              simp only [] at iz5
              refine Ord.wpS_next rfl ?_
              intro K hK
              dsimp only [Ord.nth]
              go_wp2_with fail
              refine Ord.wpS_fin ?_
              clear hz5
              generalize z5.put w4.heap.size (Ans.cells ⟨ea, ev⟩) 75 = w6 at *
              generalize w4.heap.size = x10 at *
              unfold Ans.cells at S6
              clear S4 hc4 ib4 hcx4 ix4 hAp
              as_aux_lemma =>
                have hc6 := S6.out.hb.cell
                have ib6 := S6.out.hb.inB
                have hx6 := S6.out.get (e := (x8, _, _)) (List.mem_cons_of_mem _ List.mem_cons_self)
                have hcx6 := hx6.cell
                have ix6 := hx6.inB
                clear hx6
                cases hd : decCmd ed with
                | none =>
                  have hdv : Hid (decCmdV ed = .tuple #[.agg zCmd.cells, vi 9]) := by unfold Hid decCmdV; rw [hd]
                  have hA2 : n'.next.run ed = (AN.mk n'.sy (n'.kv.apply ed).2 (n'.applied + 1) n'.used n'.seq n'.idx, []) := by unfold AN.run AN.answers; rw [hd]; rfl
                  rw [hA2] at hA1
                  clear hd hA2
                  as_aux_lemma =>
                    go_wp2_with (first
                      | (go_at_call 161; refine (c161 _ ed (by omega)).mono ?_; rintro _ w7 ⟨rfl, m7⟩; rw [hdv.out]; simp only [Tw.Cmd.cells, zCmd]; have S7 := hidIt (S6.out.fr m7.toP0); have hc7 := S7.out.hb.cell; have ib7 := S7.out.hb.inB; have h57 := S7.out.h5; have hc57 := h57.cell; have i57 := h57.inB; have hx7 := S7.out.get (e := (x10, _, _)) List.mem_cons_self; have hcx7 := hx7.cell; have ix7 := hx7.inB; clear m7 S6 hc6 ib6 hcx6 ix6 hx7 h57))
                    refine Ord.region1 [] [0, 1, 2, 3, 4, 5, 6, 7, 8, 9, 10, 11, 12, 13, 14, 15, 16, 17, 18, 19, 20, 21] [22] (by kernel_rfl) (by kernel_rfl) (fun _ _ d _ _ h => by cases d <;> exact h) ?_
                    simp only [Ord.pickO, Ord.nth]
                    refine wpQuiet_nil ?_
                    repeat (go_big_quiet_step (fail))
                    refine wpQuiet_nil ?_
                    go_wp2_with fail
                    go_roundw
                    case rel => exact ⟨AN.mk n'.sy (n'.kv.apply ed).2 (n'.applied + 1) n'.used n'.seq n'.idx, rs, .slice adr rs.length capr, k', (S7.out.fr (by repeat (first | exact ModP.refl _ _ | apply ModP.drew | apply ModP.alloc))).less (fun e he => List.mem_cons_of_mem _ (List.mem_cons_of_mem _ he)), by have := H2'.out; rw [hA1.out] at this; exact this, by have := H3'.out; rw [hA1.out] at this; unfold Hid; simpa using this, by have := H4'.out; rw [hA1.out] at this; unfold Hid; simpa using this, H5', H6⟩
                    case measure => rw [hmz.out, show ((_ : World).cell? ⟨b, 2, none⟩).getD (vi 0) = vi (n'.applied + 1) by rw [((S7.out.fr (by repeat (first | exact ModP.refl _ _ | apply ModP.drew | apply ModP.alloc))).hb).cell]; rfl]; simp only [intOf]; have := hcm.out; omega
                | some c =>
                  obtain ⟨cop, ccl, csq, ck, cv, co⟩ := c
                  have hdv : Hid (decCmdV ed = .tuple #[.agg (Cmd.cells ⟨cop, ccl, csq, ck, cv, co⟩), vi 0]) := by unfold Hid decCmdV; rw [hd]
                  obtain ⟨_, _, cl0, cl1, _⟩ := cmdOK_bounds (decCmd_ok hd)
                  simp only [] at cl0 cl1
                  have cl3 : ccl.toNat < 3 := by omega
                  have hans : n'.next.answers ed = if n'.used ccl.toNat = true ∧ n'.seq ccl.toNat = csq then some ⟨cop, ccl, csq, ck, cv, co⟩ else none := by unfold AN.answers; rw [hd]; rfl
                  clear hd
                  by_cases hu : n'.used ccl.toNat = true
                  · by_cases hsq : n'.seq ccl.toNat = csq
                    · have hA2 : n'.next.run ed = (AN.mk n'.sy (n'.kv.apply ed).2 (n'.applied + 1) (upd n'.used ccl.toNat false) (upd n'.seq ccl.toNat 0) (upd n'.idx ccl.toNat 0), [⟨ccl, csq, ⟨ea, ev⟩⟩]) := by unfold AN.run; rw [hans, if_pos ⟨hu, hsq⟩]; simp only [AN.clear, AN.next, ← Hap.out]
                      have hsq' : (n'.seq ccl.toNat == csq) = true := by simpa using hsq
                      rw [hA2] at hA1
                      clear hA2 hans hsq
                      have hrl3 : rs.length ≤ 3 := by have := H3.out; omega
                      go_wp2_with (first
                        | (go_at_call 161; refine (c161 _ ed (by omega)).mono ?_; rintro _ w7 ⟨rfl, m7⟩; rw [hdv.out]; simp only [Tw.Cmd.cells, zCmd]; have S7 := hidIt (S6.out.fr m7.toP0); have hc7 := S7.out.hb.cell; have ib7 := S7.out.hb.inB; have h57 := S7.out.h5; have hc57 := h57.cell; have i57 := h57.inB; have hx7 := S7.out.get (e := (x10, _, _)) List.mem_cons_self; have hcx7 := hx7.cell; have ix7 := hx7.inB; clear m7 S6 hc6 ib6 hcx6 ix6 hx7 h57))
                      refine Ord.region1 [] [0, 1, 2, 3, 4, 5, 6, 7, 8, 9, 10, 11, 12, 13, 14, 15, 16, 17, 18, 19, 20, 21] [22] (by kernel_rfl) (by kernel_rfl) (fun _ _ d _ _ h => by cases d <;> exact h) ?_
                      simp only [Ord.pickO, Ord.nth]
                      refine wpQuiet_nil ?_
                      repeat (go_big_quiet_step (fail))
                      refine wpQuiet_nil ?_
                      have S8 := hidIt (S7.out.more (w1 := w7.alloc (.cells (Cmd.cells ⟨cop, ccl, csq, ck, cv, co⟩) 123 (0, 0))) (c := Cmd.cells ⟨cop, ccl, csq, ck, cv, co⟩) (T := 123) ((ModP.refl _ _).alloc _) (Nat.le_refl _) World.At_alloc_new)
                      go_wp2_with (first
                        | (at_builtin; go_loud (refine wp_app rk54 (v := .slice adr rs.length capr) (n := rs.length) (xs := repsC rs) (B := 0) rfl _ _ rfl (Reply.cells ⟨ccl, csq, ⟨ea, ev⟩⟩).toList rfl rfl (by repeat (first | exact at_new (by simp [World.size_put]) | refine World.At_drew.2 ?_)) rfl (by simp [Reply.cells, Value.oneCell']) (S8.out.fr (by repeat (first | exact ModP.refl _ _ | apply ModP.drew | apply ModP.alloc))).rowR (Nat.zero_le _) (by unfold maxLen; omega) (by omega) ?_; intro g' cap' y1 o1 m1 oc1 ol1; obtain ⟨h51, SA⟩ := S8.out.appR (by intro e he; have h5 := S8.out.h5; have hg := S8.out.get he; simp only [List.mem_cons, List.not_mem_nil, or_false] at he; rcases he with rfl | rfl | rfl | rfl | rfl <;> first | exact ⟨(by simp only []; decide), (by simp only []; omega)⟩ | exact ⟨(by simp only []; decide), At.neT hg h5 (by simp only []; decide)⟩) o1 (Mod.trans (by repeat (first | exact Mod.refl _ _ | apply Mod.drew)) m1) oc1 ol1; clear o1 m1 oc1 ol1 hc7 ib7 hc57 i57 hcx7 ix7 S7 S8; obtain ⟨z1, rfl, iz1⟩ := h51.door; rw [World.put_put_same] at SA; have HSA := hidIt SA; clear SA h51)))
                      generalize z1.put (w.heap.size + 1) (DidR.cells ⟨0, .slice none 0 0, .slice (some ⟨g', 0, none⟩) (rs.length + 1) cap'⟩) 117 = w9 at *
                      have hc11 := HSA.out.get (e := (w7.heap.size, _, _)) List.mem_cons_self
                      obtain ⟨y9, rfl, iy9, hy9, HS9⟩ := HSA.out.door
                      obtain ⟨nx11, hx11'⟩ := hy9 _ _ _ hc11 (by simp only []; decide)
                      simp only [] at nx11 hx11'
                      have hx11 := hidIt hx11'
                      have hcx11 := hx11'.cell
                      have ix11 := hx11'.inB
                      clear hc11 hy9 hx11' HSA
                      generalize w7.heap.size = x11 at *
                      refine Ord.region3 (fun w' => ∃ u : World, w' = u.force x11 (Cmd.cells ⟨cop, ccl, csq, ck, cv, co⟩) 123) [3, 4, 5, 6, 7, 8, 13, 14, 17, 18] [0, 1, 2, 9, 10, 11] (.one 12 true (.one 15 true (.one 16 true (.val 19 (.one 20 false .fin))))) false (fun h => by cases h) (by kernel_rfl) (by kernel_rfl) (fun _ _ d _ _ h => by cases d <;> exact h) ?ca15_4 ?_
                      rotate_left
                      simp only [Ord.pickO, Ord.nth]
                      repeat (go_big_quiet_step (fail))
                      refine wpQuiet_nil ?_
                      repeat (go_big_quiet_step (fail))
                      refine wpQuiet_nil ?_
                      -- steps: ['L12', 'L15', 'L16', 'V19', 'N20']
                      rotate_left
                      · exact ca_of (by repeat (first | exact (World.At_put_ne' nx11).2 hx11.out | refine World.At_drew.2 ?_))
                      refine Ord.wpS_loose rfl ?_
                      intro K hK
                      dsimp only [Ord.nth]
                      go_wp2_with fail
                      refine hK _ _ (ca_of (by repeat (first | exact (World.At_put_ne' nx11).2 hx11.out | refine World.At_drew.2 ?_))) ?_
                      clear hK K
                      refine Ord.wpS_loose rfl ?_
                      intro K hK
                      dsimp only [Ord.nth]
                      go_wp2_with fail
                      refine hK _ _ (ca_of (by repeat (first | exact (World.At_put_ne' nx11).2 hx11.out | refine World.At_drew.2 ?_))) ?_
                      clear hK K
                      refine Ord.wpS_loose rfl ?_
                      intro K hK
                      dsimp only [Ord.nth]
                      go_wp2_with fail
                      refine hK _ _ (ca_of (by repeat (first | exact (World.At_put_ne' nx11).2 hx11.out | refine World.At_drew.2 ?_))) ?_
                      clear hK K
                      refine Ord.wpS_val rfl ?_
                      dsimp only [Ord.nth]
                      go_big_quiet_step (fail)
                      refine wpQuiet_nil ?_
                      refine Ord.wpS_next rfl ?_
                      intro K hK
                      dsimp only [Ord.nth]
                      go_wp2_with fail
                      refine Ord.wpS_fin ?_
                      go_wp2_with fail
                      go_roundw
                      case rel => exact ⟨AN.mk n'.sy (n'.kv.apply ed).2 (n'.applied + 1) (upd n'.used ccl.toNat false) (upd n'.seq ccl.toNat 0) (upd n'.idx ccl.toNat 0), rs ++ [Reply.mk ccl csq (Ans.mk ea ev)], .slice (some ⟨g', 0, none⟩) (rs.length + 1) cap', k', ((HS9.out (n'.applied + 1) (upd n'.used ccl.toNat false) (upd n'.seq ccl.toNat 0) (upd n'.idx ccl.toNat 0)).fr (by repeat (first | exact ModP.refl _ _ | apply ModP.drew | apply ModP.alloc))).less (fun e he => List.mem_cons_of_mem _ (List.mem_cons_of_mem _ (List.mem_cons_of_mem _ he))), by have := H2'.out; rw [hA1.out] at this; exact this, by have := H3'.out; rw [hA1.out] at this; exact this, by have := H4'.out; rw [hA1.out] at this; exact this, H5', H6⟩
                      case measure => rw [hmz.out, show ((_ : World).cell? ⟨b, 2, none⟩).getD (vi 0) = vi (n'.applied + 1) by rw [((HS9.out (n'.applied + 1) (upd n'.used ccl.toNat false) (upd n'.seq ccl.toNat 0) (upd n'.idx ccl.toNat 0)).fr (by repeat (first | exact ModP.refl _ _ | apply ModP.drew | apply ModP.alloc))).hb.cell]; rfl]; simp only [intOf]; have := hcm.out; omega
                    · have hA2 : n'.next.run ed = (AN.mk n'.sy (n'.kv.apply ed).2 (n'.applied + 1) n'.used n'.seq n'.idx, []) := by unfold AN.run; rw [hans, if_neg (fun h => hsq h.2)]; rfl
                      have hsq' : (n'.seq ccl.toNat == csq) = false := by simpa using hsq
                      rw [hA2] at hA1
                      clear hA2 hans hsq
                      as_aux_lemma =>
                        go_wp2_with (first
                          | (go_at_call 161; refine (c161 _ ed (by omega)).mono ?_; rintro _ w7 ⟨rfl, m7⟩; rw [hdv.out]; simp only [Tw.Cmd.cells, zCmd]; have S7 := hidIt (S6.out.fr m7.toP0); have hc7 := S7.out.hb.cell; have ib7 := S7.out.hb.inB; have h57 := S7.out.h5; have hc57 := h57.cell; have i57 := h57.inB; have hx7 := S7.out.get (e := (x10, _, _)) List.mem_cons_self; have hcx7 := hx7.cell; have ix7 := hx7.inB; clear m7 S6 hc6 ib6 hcx6 ix6 hx7 h57))
                        refine Ord.region1 [] [0, 1, 2, 3, 4, 5, 6, 7, 8, 9, 10, 11, 12, 13, 14, 15, 16, 17, 18, 19, 20, 21] [22] (by kernel_rfl) (by kernel_rfl) (fun _ _ d _ _ h => by cases d <;> exact h) ?_
                        simp only [Ord.pickO, Ord.nth]
                        refine wpQuiet_nil ?_
                        repeat (go_big_quiet_step (fail))
                        refine wpQuiet_nil ?_
                        go_wp2_with fail
                        go_roundw
                        case rel => exact ⟨AN.mk n'.sy (n'.kv.apply ed).2 (n'.applied + 1) n'.used n'.seq n'.idx, rs, .slice adr rs.length capr, k', (S7.out.fr (by repeat (first | exact ModP.refl _ _ | apply ModP.drew | apply ModP.alloc))).less (fun e he => List.mem_cons_of_mem _ (List.mem_cons_of_mem _ he)), by have := H2'.out; rw [hA1.out] at this; exact this, by have := H3'.out; rw [hA1.out] at this; unfold Hid; simpa using this, by have := H4'.out; rw [hA1.out] at this; unfold Hid; simpa using this, H5', H6⟩
                        case measure => rw [hmz.out, show ((_ : World).cell? ⟨b, 2, none⟩).getD (vi 0) = vi (n'.applied + 1) by rw [((S7.out.fr (by repeat (first | exact ModP.refl _ _ | apply ModP.drew | apply ModP.alloc))).hb).cell]; rfl]; simp only [intOf]; have := hcm.out; omega
                  · have hA2 : n'.next.run ed = (AN.mk n'.sy (n'.kv.apply ed).2 (n'.applied + 1) n'.used n'.seq n'.idx, []) := by unfold AN.run; rw [hans, if_neg (fun h => hu h.1)]; rfl
                    have hu' : n'.used ccl.toNat = false := by simpa using hu
                    rw [hA2] at hA1
                    clear hA2 hans hu
                    as_aux_lemma =>
                      go_wp2_with (first
                        | (go_at_call 161; refine (c161 _ ed (by omega)).mono ?_; rintro _ w7 ⟨rfl, m7⟩; rw [hdv.out]; simp only [Tw.Cmd.cells, zCmd]; have S7 := hidIt (S6.out.fr m7.toP0); have hc7 := S7.out.hb.cell; have ib7 := S7.out.hb.inB; have h57 := S7.out.h5; have hc57 := h57.cell; have i57 := h57.inB; have hx7 := S7.out.get (e := (x10, _, _)) List.mem_cons_self; have hcx7 := hx7.cell; have ix7 := hx7.inB; clear m7 S6 hc6 ib6 hcx6 ix6 hx7 h57))
                      refine Ord.region1 [] [0, 1, 2, 3, 4, 5, 6, 7, 8, 9, 10, 11, 12, 13, 14, 15, 16, 17, 18, 19, 20, 21] [22] (by kernel_rfl) (by kernel_rfl) (fun _ _ d _ _ h => by cases d <;> exact h) ?_
                      simp only [Ord.pickO, Ord.nth]
                      refine wpQuiet_nil ?_
                      repeat (go_big_quiet_step (fail))
                      refine wpQuiet_nil ?_
                      go_wp2_with fail
                      go_roundw
                      case rel => exact ⟨AN.mk n'.sy (n'.kv.apply ed).2 (n'.applied + 1) n'.used n'.seq n'.idx, rs, .slice adr rs.length capr, k', (S7.out.fr (by repeat (first | exact ModP.refl _ _ | apply ModP.drew | apply ModP.alloc))).less (fun e he => List.mem_cons_of_mem _ (List.mem_cons_of_mem _ he)), by have := H2'.out; rw [hA1.out] at this; exact this, by have := H3'.out; rw [hA1.out] at this; unfold Hid; simpa using this, by have := H4'.out; rw [hA1.out] at this; unfold Hid; simpa using this, H5', H6⟩
                      case measure => rw [hmz.out, show ((_ : World).cell? ⟨b, 2, none⟩).getD (vi 0) = vi (n'.applied + 1) by rw [((S7.out.fr (by repeat (first | exact ModP.refl _ _ | apply ModP.drew | apply ModP.alloc))).hb).cell]; rfl]; simp only [intOf]; have := hcm.out; omega
      · skip
        refine Ord.wpS_loose rfl ?_
        intro K hK
        dsimp only [Ord.nth]
        go_wp2_with fail
        refine hK _ _ (ca_of (S2.out.fr (by repeat (first | exact ModP.refl _ _ | apply ModP.drew | apply ModP.alloc))).hb) ?_
        clear hK K
        refine Ord.wpS_next rfl ?_
        intro K hK
        dsimp only [Ord.nth]
        go_wp2_with fail
        refine (hAt.out _ (S2.out.nb.fr (by repeat (first | exact ModP.refl _ _ | apply ModP.drew | apply ModP.alloc)))).mono ?_
        rintro _ w3 ⟨rfl, m3⟩
        have hz3 := m3.at (b := y.heap.size) (c := Entry.cells ⟨0, []⟩) (T := 232) (by repeat (first | exact at_new (by simp [World.size_put]) | refine World.At_drew.2 ?_)) (fun x => x)
        have M3 : ModP (fun _ => False) (y.put b (NodeM.cells ⟨vp bs, vp bk, n'.applied + 1, n'.used, n'.seq, n'.idx⟩) 104) w3 := ModP.trans (by repeat (first | exact ModP.refl _ _ | apply ModP.drew | apply ModP.alloc)) m3
        refine hK _ _ ?_
        clear hK K m3
        obtain ⟨z3, rfl, iz3⟩ := hz3.door
        refine Ord.wpS_val rfl ?_
        dsimp only [Ord.nth]
        go_big_quiet_step (fail)
        refine wpQuiet_nil ?_
        refine Ord.wpS_val rfl ?_
        dsimp only [Ord.nth]
        go_big_quiet_step (fail)
        refine wpQuiet_nil ?_
        refine Ord.wpS_val rfl ?_
        dsimp only [Ord.nth]
        go_big_quiet_step (fail)
        refine wpQuiet_nil ?_
        refine Ord.wpS_next rfl ?_
        intro K hK
        dsimp only [Ord.nth]
        go_wp2_with fail
        refine Ord.wpS_val rfl ?_
        dsimp only [Ord.nth]
        go_big_quiet_step (fail)
        refine wpQuiet_nil ?_
        refine Ord.wpS_fin ?_
        have S4 := hidIt (S2.out.more (w1 := z3.put y.heap.size (Entry.cells ⟨et, ed⟩) 232) (c := Entry.cells ⟨et, ed⟩) (T := 232) (x := y.heap.size) ((M3.unput (.inr (by rw [World.size_put]; exact Nat.le_refl _))).put (.inr (by rw [World.size_put]; exact Nat.le_refl _)) _ _) (by rw [World.size_put]; exact Nat.le_refl _) (World.At_put_same iz3))
        clear hz3 M3
        generalize z3.put y.heap.size (Entry.cells ⟨et, ed⟩) 232 = w4 at *
        generalize y.heap.size = x8 at *
        unfold Entry.cells at S4
        clear S2
        as_aux_lemma =>
          have hc4 := S4.out.hb.cell
          have ib4 := S4.out.hb.inB
          have hx4 := S4.out.get (e := (x8, _, _)) List.mem_cons_self
          have hcx4 := hx4.cell
          have ix4 := hx4.inB
          clear hx4
          have hm4 : Hid ((w4.cell? ⟨b, 2, none⟩).getD (vi 0) = vi (n'.applied + 1)) := by unfold Hid; rw [hc4]; rfl
          by_cases hed : ed = []
          · rw [if_pos hed] at hA1
            subst hed
            go_wp2_with fail
            go_roundw
            case rel => exact ⟨n'.next, rs, .slice adr rs.length capr, k', S4.out.less (fun e he => List.mem_cons_of_mem _ he), by have := H2'.out; rw [hA1.out] at this; exact this, by have := H3'.out; rw [hA1.out] at this; unfold Hid; simpa using this, by have := H4'.out; rw [hA1.out] at this; unfold Hid; simpa using this, H5', H6⟩
            case measure => rw [hmz.out, hm4.out]; simp only [intOf]; have := hcm.out; omega
          · rw [if_neg hed] at hA1
            have hed' : (ed == []) = false := by simpa using hed
            obtain ⟨⟨ea, ev⟩, hap⟩ : ∃ x, (n'.kv.apply ed).1 = x := ⟨_, rfl⟩
            have hAp := hidIt (fun (w' : World) (h : w'.At bk n'.kv.r.cells 186) => c160 h H2.out.kv.n4 ed (by omega))
            rw [hap] at hAp
            unfold Tw.Ans.cells at hAp
            have Hap := hidIt hap
            clear hap hed
            have n8 : b ≠ x8 := At.neT S4.out.hb (S4.out.get (e := (x8, _, _)) List.mem_cons_self) (show ((104 : TypeId)) ≠ 232 by decide)
            go_wp2_with fail
            refine Ord.region3 (fun w' => ∃ u : World, w' = u.force2 b (NodeM.cells ⟨vp bs, vp bk, n'.applied + 1, n'.used, n'.seq, n'.idx⟩) 104 x8 #[.int .i64 et, .string (ByteArray.mk ed.toArray)] 232) [0, 1, 2, 3, 4, 5] [] (.two 6 false (.one 7 true (.one 8 false .fin)) 7 true (.one 6 false (.one 8 false .fin))) false (fun h => by cases h) (by kernel_rfl) (by kernel_rfl) (fun _ _ d _ _ h => by cases d <;> exact h) ?ca11_5 ?_
            rotate_left
            simp only [Ord.pickO, Ord.nth]
            repeat (go_big_quiet_step (fail))
            refine wpQuiet_nil ?_
            refine wpQuiet_nil ?_
            -- steps: [['N6', 'L7', 'N8'], ['L7', 'N6', 'N8']]
            rotate_left
            · exact ca_of2 (S4.out.fr (by repeat (first | exact ModP.refl _ _ | apply ModP.drew | apply ModP.alloc))).hb ((S4.out.fr (by repeat (first | exact ModP.refl _ _ | apply ModP.drew | apply ModP.alloc))).get (e := (x8, _, _)) List.mem_cons_self)
            refine Ord.wpS_two ?_ ?_
            · skip
              refine Ord.wpS_next rfl ?_
              intro K hK
              dsimp only [Ord.nth]
              go_wp2_with fail
              refine (hAp.out _ (S4.out.nb.fr (by repeat (first | exact ModP.refl _ _ | apply ModP.drew | apply ModP.alloc))).hk).mono ?_
              rintro _ w5 ⟨rfl, hk5, m5⟩
              have S5 := hidIt ((S4.out.fr (by repeat (first | exact ModP.refl _ _ | apply ModP.drew | apply ModP.alloc))).store hk5 m5)
              refine hK _ _ ?_
              clear hK K hk5 m5
              refine Ord.wpS_loose rfl ?_
              intro K hK
              dsimp only [Ord.nth]
              go_wp2_with fail
              refine hK _ _ (ca_of2 (S5.out.fr (by repeat (first | exact ModP.refl _ _ | apply ModP.drew | apply ModP.alloc))).hb ((S5.out.fr (by repeat (first | exact ModP.refl _ _ | apply ModP.drew | apply ModP.alloc))).get (e := (x8, _, _)) List.mem_cons_self)) ?_
              clear hK K
              refine Ord.wpS_next rfl ?_
              intro K hK
              dsimp only [Ord.nth]
              go_wp2_with fail
              refine Ord.wpS_fin ?_
              have S6 := hidIt (S5.out.more (w1 := w5.alloc (.cells (Ans.cells ⟨ea, ev⟩) 75 (0, 0))) (c := Ans.cells ⟨ea, ev⟩) (T := 75) ((ModP.refl _ _).alloc _) (Nat.le_refl _) World.At_alloc_new)
              unfold Ans.cells at S6
              generalize w5.alloc (.cells #[.int .i64 ea, .string (ByteArray.mk ev.toArray)] 75 (0, 0)) = w6 at *
              generalize w5.heap.size = x10 at *
              clear S4 S5 hc4 ib4 hcx4 ix4 hAp
              as_aux_lemma =>
                have hc6 := S6.out.hb.cell
                have ib6 := S6.out.hb.inB
                have hx6 := S6.out.get (e := (x8, _, _)) (List.mem_cons_of_mem _ List.mem_cons_self)
                have hcx6 := hx6.cell
                have ix6 := hx6.inB
                clear hx6
                cases hd : decCmd ed with
                | none =>
                  have hdv : Hid (decCmdV ed = .tuple #[.agg zCmd.cells, vi 9]) := by unfold Hid decCmdV; rw [hd]
                  have hA2 : n'.next.run ed = (AN.mk n'.sy (n'.kv.apply ed).2 (n'.applied + 1) n'.used n'.seq n'.idx, []) := by unfold AN.run AN.answers; rw [hd]; rfl
                  rw [hA2] at hA1
                  clear hd hA2
                  as_aux_lemma =>
                    go_wp2_with (first
                      | (go_at_call 161; refine (c161 _ ed (by omega)).mono ?_; rintro _ w7 ⟨rfl, m7⟩; rw [hdv.out]; simp only [Tw.Cmd.cells, zCmd]; have S7 := hidIt (S6.out.fr m7.toP0); have hc7 := S7.out.hb.cell; have ib7 := S7.out.hb.inB; have h57 := S7.out.h5; have hc57 := h57.cell; have i57 := h57.inB; have hx7 := S7.out.get (e := (x10, _, _)) List.mem_cons_self; have hcx7 := hx7.cell; have ix7 := hx7.inB; clear m7 S6 hc6 ib6 hcx6 ix6 hx7 h57))
                    refine Ord.region1 [] [0, 1, 2, 3, 4, 5, 6, 7, 8, 9, 10, 11, 12, 13, 14, 15, 16, 17, 18, 19, 20, 21] [22] (by kernel_rfl) (by kernel_rfl) (fun _ _ d _ _ h => by cases d <;> exact h) ?_
                    simp only [Ord.pickO, Ord.nth]
                    refine wpQuiet_nil ?_
                    repeat (go_big_quiet_step (fail))
                    refine wpQuiet_nil ?_
                    go_wp2_with fail
                    go_roundw
                    case rel => exact ⟨AN.mk n'.sy (n'.kv.apply ed).2 (n'.applied + 1) n'.used n'.seq n'.idx, rs, .slice adr rs.length capr, k', (S7.out.fr (by repeat (first | exact ModP.refl _ _ | apply ModP.drew | apply ModP.alloc))).less (fun e he => List.mem_cons_of_mem _ (List.mem_cons_of_mem _ he)), by have := H2'.out; rw [hA1.out] at this; exact this, by have := H3'.out; rw [hA1.out] at this; unfold Hid; simpa using this, by have := H4'.out; rw [hA1.out] at this; unfold Hid; simpa using this, H5', H6⟩
                    case measure => rw [hmz.out, show ((_ : World).cell? ⟨b, 2, none⟩).getD (vi 0) = vi (n'.applied + 1) by rw [((S7.out.fr (by repeat (first | exact ModP.refl _ _ | apply ModP.drew | apply ModP.alloc))).hb).cell]; rfl]; simp only [intOf]; have := hcm.out; omega
                | some c =>
                  obtain ⟨cop, ccl, csq, ck, cv, co⟩ := c
                  have hdv : Hid (decCmdV ed = .tuple #[.agg (Cmd.cells ⟨cop, ccl, csq, ck, cv, co⟩), vi 0]) := by unfold Hid decCmdV; rw [hd]
                  obtain ⟨_, _, cl0, cl1, _⟩ := cmdOK_bounds (decCmd_ok hd)
                  simp only [] at cl0 cl1
                  have cl3 : ccl.toNat < 3 := by omega
                  have hans : n'.next.answers ed = if n'.used ccl.toNat = true ∧ n'.seq ccl.toNat = csq then some ⟨cop, ccl, csq, ck, cv, co⟩ else none := by unfold AN.answers; rw [hd]; rfl
                  clear hd
                  by_cases hu : n'.used ccl.toNat = true
                  · by_cases hsq : n'.seq ccl.toNat = csq
                    · have hA2 : n'.next.run ed = (AN.mk n'.sy (n'.kv.apply ed).2 (n'.applied + 1) (upd n'.used ccl.toNat false) (upd n'.seq ccl.toNat 0) (upd n'.idx ccl.toNat 0), [⟨ccl, csq, ⟨ea, ev⟩⟩]) := by unfold AN.run; rw [hans, if_pos ⟨hu, hsq⟩]; simp only [AN.clear, AN.next, ← Hap.out]
                      have hsq' : (n'.seq ccl.toNat == csq) = true := by simpa using hsq
                      rw [hA2] at hA1
                      clear hA2 hans hsq
                      have hrl3 : rs.length ≤ 3 := by have := H3.out; omega
                      go_wp2_with (first
                        | (go_at_call 161; refine (c161 _ ed (by omega)).mono ?_; rintro _ w7 ⟨rfl, m7⟩; rw [hdv.out]; simp only [Tw.Cmd.cells, zCmd]; have S7 := hidIt (S6.out.fr m7.toP0); have hc7 := S7.out.hb.cell; have ib7 := S7.out.hb.inB; have h57 := S7.out.h5; have hc57 := h57.cell; have i57 := h57.inB; have hx7 := S7.out.get (e := (x10, _, _)) List.mem_cons_self; have hcx7 := hx7.cell; have ix7 := hx7.inB; clear m7 S6 hc6 ib6 hcx6 ix6 hx7 h57))
                      refine Ord.region1 [] [0, 1, 2, 3, 4, 5, 6, 7, 8, 9, 10, 11, 12, 13, 14, 15, 16, 17, 18, 19, 20, 21] [22] (by kernel_rfl) (by kernel_rfl) (fun _ _ d _ _ h => by cases d <;> exact h) ?_
                      simp only [Ord.pickO, Ord.nth]
                      refine wpQuiet_nil ?_
                      repeat (go_big_quiet_step (fail))
                      refine wpQuiet_nil ?_
                      have S8 := hidIt (S7.out.more (w1 := w7.alloc (.cells (Cmd.cells ⟨cop, ccl, csq, ck, cv, co⟩) 123 (0, 0))) (c := Cmd.cells ⟨cop, ccl, csq, ck, cv, co⟩) (T := 123) ((ModP.refl _ _).alloc _) (Nat.le_refl _) World.At_alloc_new)
                      go_wp2_with (first
                        | (at_builtin; go_loud (refine wp_app rk54 (v := .slice adr rs.length capr) (n := rs.length) (xs := repsC rs) (B := 0) rfl _ _ rfl (Reply.cells ⟨ccl, csq, ⟨ea, ev⟩⟩).toList rfl rfl (by repeat (first | exact at_new (by simp [World.size_put]) | refine World.At_drew.2 ?_)) rfl (by simp [Reply.cells, Value.oneCell']) (S8.out.fr (by repeat (first | exact ModP.refl _ _ | apply ModP.drew | apply ModP.alloc))).rowR (Nat.zero_le _) (by unfold maxLen; omega) (by omega) ?_; intro g' cap' y1 o1 m1 oc1 ol1; obtain ⟨h51, SA⟩ := S8.out.appR (by intro e he; have h5 := S8.out.h5; have hg := S8.out.get he; simp only [List.mem_cons, List.not_mem_nil, or_false] at he; rcases he with rfl | rfl | rfl | rfl | rfl <;> first | exact ⟨(by simp only []; decide), (by simp only []; omega)⟩ | exact ⟨(by simp only []; decide), At.neT hg h5 (by simp only []; decide)⟩) o1 (Mod.trans (by repeat (first | exact Mod.refl _ _ | apply Mod.drew)) m1) oc1 ol1; clear o1 m1 oc1 ol1 hc7 ib7 hc57 i57 hcx7 ix7 S7 S8; obtain ⟨z1, rfl, iz1⟩ := h51.door; rw [World.put_put_same] at SA; have HSA := hidIt SA; clear SA h51)))
                      generalize z1.put (w.heap.size + 1) (DidR.cells ⟨0, .slice none 0 0, .slice (some ⟨g', 0, none⟩) (rs.length + 1) cap'⟩) 117 = w9 at *
                      have hc11 := HSA.out.get (e := (w7.heap.size, _, _)) List.mem_cons_self
                      obtain ⟨y9, rfl, iy9, hy9, HS9⟩ := HSA.out.door
                      obtain ⟨nx11, hx11'⟩ := hy9 _ _ _ hc11 (by simp only []; decide)
                      simp only [] at nx11 hx11'
                      have hx11 := hidIt hx11'
                      have hcx11 := hx11'.cell
                      have ix11 := hx11'.inB
                      clear hc11 hy9 hx11' HSA
                      generalize w7.heap.size = x11 at *
                      refine Ord.region3 (fun w' => ∃ u : World, w' = u.force x11 (Cmd.cells ⟨cop, ccl, csq, ck, cv, co⟩) 123) [3, 4, 5, 6, 7, 8, 13, 14, 17, 18] [0, 1, 2, 9, 10, 11] (.one 12 true (.one 15 true (.one 16 true (.val 19 (.one 20 false .fin))))) false (fun h => by cases h) (by kernel_rfl) (by kernel_rfl) (fun _ _ d _ _ h => by cases d <;> exact h) ?ca15_6 ?_
                      rotate_left
                      simp only [Ord.pickO, Ord.nth]
                      repeat (go_big_quiet_step (fail))
                      refine wpQuiet_nil ?_
                      repeat (go_big_quiet_step (fail))
                      refine wpQuiet_nil ?_
                      -- steps: ['L12', 'L15', 'L16', 'V19', 'N20']
                      rotate_left
                      · exact ca_of (by repeat (first | exact (World.At_put_ne' nx11).2 hx11.out | refine World.At_drew.2 ?_))
                      refine Ord.wpS_loose rfl ?_
                      intro K hK
                      dsimp only [Ord.nth]
                      go_wp2_with fail
                      refine hK _ _ (ca_of (by repeat (first | exact (World.At_put_ne' nx11).2 hx11.out | refine World.At_drew.2 ?_))) ?_
                      clear hK K
                      refine Ord.wpS_loose rfl ?_
                      intro K hK
                      dsimp only [Ord.nth]
                      go_wp2_with fail
                      refine hK _ _ (ca_of (by repeat (first | exact (World.At_put_ne' nx11).2 hx11.out | refine World.At_drew.2 ?_))) ?_
                      clear hK K
                      refine Ord.wpS_loose rfl ?_
                      intro K hK
                      dsimp only [Ord.nth]
                      go_wp2_with fail
                      refine hK _ _ (ca_of (by repeat (first | exact (World.At_put_ne' nx11).2 hx11.out | refine World.At_drew.2 ?_))) ?_
                      clear hK K
                      refine Ord.wpS_val rfl ?_
                      dsimp only [Ord.nth]
                      go_big_quiet_step (fail)
                      refine wpQuiet_nil ?_
                      refine Ord.wpS_next rfl ?_
                      intro K hK
                      dsimp only [Ord.nth]
                      go_wp2_with fail
                      refine Ord.wpS_fin ?_
                      go_wp2_with fail
                      go_roundw
                      case rel => exact ⟨AN.mk n'.sy (n'.kv.apply ed).2 (n'.applied + 1) (upd n'.used ccl.toNat false) (upd n'.seq ccl.toNat 0) (upd n'.idx ccl.toNat 0), rs ++ [Reply.mk ccl csq (Ans.mk ea ev)], .slice (some ⟨g', 0, none⟩) (rs.length + 1) cap', k', ((HS9.out (n'.applied + 1) (upd n'.used ccl.toNat false) (upd n'.seq ccl.toNat 0) (upd n'.idx ccl.toNat 0)).fr (by repeat (first | exact ModP.refl _ _ | apply ModP.drew | apply ModP.alloc))).less (fun e he => List.mem_cons_of_mem _ (List.mem_cons_of_mem _ (List.mem_cons_of_mem _ he))), by have := H2'.out; rw [hA1.out] at this; exact this, by have := H3'.out; rw [hA1.out] at this; exact this, by have := H4'.out; rw [hA1.out] at this; exact this, H5', H6⟩
                      case measure => rw [hmz.out, show ((_ : World).cell? ⟨b, 2, none⟩).getD (vi 0) = vi (n'.applied + 1) by rw [((HS9.out (n'.applied + 1) (upd n'.used ccl.toNat false) (upd n'.seq ccl.toNat 0) (upd n'.idx ccl.toNat 0)).fr (by repeat (first | exact ModP.refl _ _ | apply ModP.drew | apply ModP.alloc))).hb.cell]; rfl]; simp only [intOf]; have := hcm.out; omega
                    · have hA2 : n'.next.run ed = (AN.mk n'.sy (n'.kv.apply ed).2 (n'.applied + 1) n'.used n'.seq n'.idx, []) := by unfold AN.run; rw [hans, if_neg (fun h => hsq h.2)]; rfl
                      have hsq' : (n'.seq ccl.toNat == csq) = false := by simpa using hsq
                      rw [hA2] at hA1
                      clear hA2 hans hsq
                      as_aux_lemma =>
                        go_wp2_with (first
                          | (go_at_call 161; refine (c161 _ ed (by omega)).mono ?_; rintro _ w7 ⟨rfl, m7⟩; rw [hdv.out]; simp only [Tw.Cmd.cells, zCmd]; have S7 := hidIt (S6.out.fr m7.toP0); have hc7 := S7.out.hb.cell; have ib7 := S7.out.hb.inB; have h57 := S7.out.h5; have hc57 := h57.cell; have i57 := h57.inB; have hx7 := S7.out.get (e := (x10, _, _)) List.mem_cons_self; have hcx7 := hx7.cell; have ix7 := hx7.inB; clear m7 S6 hc6 ib6 hcx6 ix6 hx7 h57))
                        refine Ord.region1 [] [0, 1, 2, 3, 4, 5, 6, 7, 8, 9, 10, 11, 12, 13, 14, 15, 16, 17, 18, 19, 20, 21] [22] (by kernel_rfl) (by kernel_rfl) (fun _ _ d _ _ h => by cases d <;> exact h) ?_
                        simp only [Ord.pickO, Ord.nth]
                        refine wpQuiet_nil ?_
                        repeat (go_big_quiet_step (fail))
                        refine wpQuiet_nil ?_
                        go_wp2_with fail
                        go_roundw
                        case rel => exact ⟨AN.mk n'.sy (n'.kv.apply ed).2 (n'.applied + 1) n'.used n'.seq n'.idx, rs, .slice adr rs.length capr, k', (S7.out.fr (by repeat (first | exact ModP.refl _ _ | apply ModP.drew | apply ModP.alloc))).less (fun e he => List.mem_cons_of_mem _ (List.mem_cons_of_mem _ he)), by have := H2'.out; rw [hA1.out] at this; exact this, by have := H3'.out; rw [hA1.out] at this; unfold Hid; simpa using this, by have := H4'.out; rw [hA1.out] at this; unfold Hid; simpa using this, H5', H6⟩
                        case measure => rw [hmz.out, show ((_ : World).cell? ⟨b, 2, none⟩).getD (vi 0) = vi (n'.applied + 1) by rw [((S7.out.fr (by repeat (first | exact ModP.refl _ _ | apply ModP.drew | apply ModP.alloc))).hb).cell]; rfl]; simp only [intOf]; have := hcm.out; omega
                  · have hA2 : n'.next.run ed = (AN.mk n'.sy (n'.kv.apply ed).2 (n'.applied + 1) n'.used n'.seq n'.idx, []) := by unfold AN.run; rw [hans, if_neg (fun h => hu h.1)]; rfl
                    have hu' : n'.used ccl.toNat = false := by simpa using hu
                    rw [hA2] at hA1
                    clear hA2 hans hu
                    as_aux_lemma =>
                      go_wp2_with (first
                        | (go_at_call 161; refine (c161 _ ed (by omega)).mono ?_; rintro _ w7 ⟨rfl, m7⟩; rw [hdv.out]; simp only [Tw.Cmd.cells, zCmd]; have S7 := hidIt (S6.out.fr m7.toP0); have hc7 := S7.out.hb.cell; have ib7 := S7.out.hb.inB; have h57 := S7.out.h5; have hc57 := h57.cell; have i57 := h57.inB; have hx7 := S7.out.get (e := (x10, _, _)) List.mem_cons_self; have hcx7 := hx7.cell; have ix7 := hx7.inB; clear m7 S6 hc6 ib6 hcx6 ix6 hx7 h57))
                      refine Ord.region1 [] [0, 1, 2, 3, 4, 5, 6, 7, 8, 9, 10, 11, 12, 13, 14, 15, 16, 17, 18, 19, 20, 21] [22] (by kernel_rfl) (by kernel_rfl) (fun _ _ d _ _ h => by cases d <;> exact h) ?_
                      simp only [Ord.pickO, Ord.nth]
                      refine wpQuiet_nil ?_
                      repeat (go_big_quiet_step (fail))
                      refine wpQuiet_nil ?_
                      go_wp2_with fail
                      go_roundw
                      case rel => exact ⟨AN.mk n'.sy (n'.kv.apply ed).2 (n'.applied + 1) n'.used n'.seq n'.idx, rs, .slice adr rs.length capr, k', (S7.out.fr (by repeat (first | exact ModP.refl _ _ | apply ModP.drew | apply ModP.alloc))).less (fun e he => List.mem_cons_of_mem _ (List.mem_cons_of_mem _ he)), by have := H2'.out; rw [hA1.out] at this; exact this, by have := H3'.out; rw [hA1.out] at this; unfold Hid; simpa using this, by have := H4'.out; rw [hA1.out] at this; unfold Hid; simpa using this, H5', H6⟩
                      case measure => rw [hmz.out, show ((_ : World).cell? ⟨b, 2, none⟩).getD (vi 0) = vi (n'.applied + 1) by rw [((S7.out.fr (by repeat (first | exact ModP.refl _ _ | apply ModP.drew | apply ModP.alloc))).hb).cell]; rfl]; simp only [intOf]; have := hcm.out; omega
            · skip
              refine Ord.wpS_loose rfl ?_
              intro K hK
              dsimp only [Ord.nth]
              go_wp2_with fail
              refine hK _ _ (ca_of2 (S4.out.fr (by repeat (first | exact ModP.refl _ _ | apply ModP.drew | apply ModP.alloc))).hb ((S4.out.fr (by repeat (first | exact ModP.refl _ _ | apply ModP.drew | apply ModP.alloc))).get (e := (x8, _, _)) List.mem_cons_self)) ?_
              clear hK K
              refine Ord.wpS_next rfl ?_
              intro K hK
              dsimp only [Ord.nth]
              go_wp2_with fail
              refine (hAp.out _ (S4.out.nb.fr (by repeat (first | exact ModP.refl _ _ | apply ModP.drew | apply ModP.alloc))).hk).mono ?_
              rintro _ w5 ⟨rfl, hk5, m5⟩
              have S5 := hidIt (((S4.out.more (x := w4.heap.size) (c := Ans.cells ⟨0, []⟩) (T := 75) (w1 := w4.alloc (.cells (Ans.cells ⟨0, []⟩) 75 (0, 0))) ((ModP.refl _ _).alloc _) (Nat.le_refl _) World.At_alloc_new).fr (by repeat (first | exact ModP.refl _ _ | apply ModP.drew | apply ModP.alloc))).store hk5 m5)
              have hz5 := S5.out.get (e := (w4.heap.size, _, _)) List.mem_cons_self
              have S6 := hidIt (S5.out.repl (Nat.ne_of_gt S4.out.h5.inB) (fun e he => Nat.ne_of_lt (S4.out.get he).inB) (by decide) (Ans.cells ⟨ea, ev⟩) 75)
              refine hK _ _ ?_
              clear hK K hk5 m5 S5
              obtain ⟨z5, rfl, iz5⟩ := hz5.door
              rw [World.put_put_same] at S6
              simp only [] at iz5
              refine Ord.wpS_next rfl ?_
              intro K hK
              dsimp only [Ord.nth]
              go_wp2_with fail
              refine Ord.wpS_fin ?_
              clear hz5
              generalize z5.put w4.heap.size (Ans.cells ⟨ea, ev⟩) 75 = w6 at *
              generalize w4.heap.size = x10 at *
              unfold Ans.cells at S6
              clear S4 hc4 ib4 hcx4 ix4 hAp
              as_aux_lemma =>
                have hc6 := S6.out.hb.cell
                have ib6 := S6.out.hb.inB
                have hx6 := S6.out.get (e := (x8, _, _)) (List.mem_cons_of_mem _ List.mem_cons_self)
                have hcx6 := hx6.cell
                have ix6 := hx6.inB
                clear hx6
                cases hd : decCmd ed with
                | none =>
                  have hdv : Hid (decCmdV ed = .tuple #[.agg zCmd.cells, vi 9]) := by unfold Hid decCmdV; rw [hd]
                  have hA2 : n'.next.run ed = (AN.mk n'.sy (n'.kv.apply ed).2 (n'.applied + 1) n'.used n'.seq n'.idx, []) := by unfold AN.run AN.answers; rw [hd]; rfl
                  rw [hA2] at hA1
                  clear hd hA2
                  as_aux_lemma =>
                    go_wp2_with (first
                      | (go_at_call 161; refine (c161 _ ed (by omega)).mono ?_; rintro _ w7 ⟨rfl, m7⟩; rw [hdv.out]; simp only [Tw.Cmd.cells, zCmd]; have S7 := hidIt (S6.out.fr m7.toP0); have hc7 := S7.out.hb.cell; have ib7 := S7.out.hb.inB; have h57 := S7.out.h5; have hc57 := h57.cell; have i57 := h57.inB; have hx7 := S7.out.get (e := (x10, _, _)) List.mem_cons_self; have hcx7 := hx7.cell; have ix7 := hx7.inB; clear m7 S6 hc6 ib6 hcx6 ix6 hx7 h57))
                    refine Ord.region1 [] [0, 1, 2, 3, 4, 5, 6, 7, 8, 9, 10, 11, 12, 13, 14, 15, 16, 17, 18, 19, 20, 21] [22] (by kernel_rfl) (by kernel_rfl) (fun _ _ d _ _ h => by cases d <;> exact h) ?_
                    simp only [Ord.pickO, Ord.nth]
                    refine wpQuiet_nil ?_
                    repeat (go_big_quiet_step (fail))
                    refine wpQuiet_nil ?_
                    go_wp2_with fail
                    go_roundw
                    case rel => exact ⟨AN.mk n'.sy (n'.kv.apply ed).2 (n'.applied + 1) n'.used n'.seq n'.idx, rs, .slice adr rs.length capr, k', (S7.out.fr (by repeat (first | exact ModP.refl _ _ | apply ModP.drew | apply ModP.alloc))).less (fun e he => List.mem_cons_of_mem _ (List.mem_cons_of_mem _ he)), by have := H2'.out; rw [hA1.out] at this; exact this, by have := H3'.out; rw [hA1.out] at this; unfold Hid; simpa using this, by have := H4'.out; rw [hA1.out] at this; unfold Hid; simpa using this, H5', H6⟩
                    case measure => rw [hmz.out, show ((_ : World).cell? ⟨b, 2, none⟩).getD (vi 0) = vi (n'.applied + 1) by rw [((S7.out.fr (by repeat (first | exact ModP.refl _ _ | apply ModP.drew | apply ModP.alloc))).hb).cell]; rfl]; simp only [intOf]; have := hcm.out; omega
                | some c =>
                  obtain ⟨cop, ccl, csq, ck, cv, co⟩ := c
                  have hdv : Hid (decCmdV ed = .tuple #[.agg (Cmd.cells ⟨cop, ccl, csq, ck, cv, co⟩), vi 0]) := by unfold Hid decCmdV; rw [hd]
                  obtain ⟨_, _, cl0, cl1, _⟩ := cmdOK_bounds (decCmd_ok hd)
                  simp only [] at cl0 cl1
                  have cl3 : ccl.toNat < 3 := by omega
                  have hans : n'.next.answers ed = if n'.used ccl.toNat = true ∧ n'.seq ccl.toNat = csq then some ⟨cop, ccl, csq, ck, cv, co⟩ else none := by unfold AN.answers; rw [hd]; rfl
                  clear hd
                  by_cases hu : n'.used ccl.toNat = true
                  · by_cases hsq : n'.seq ccl.toNat = csq
                    · have hA2 : n'.next.run ed = (AN.mk n'.sy (n'.kv.apply ed).2 (n'.applied + 1) (upd n'.used ccl.toNat false) (upd n'.seq ccl.toNat 0) (upd n'.idx ccl.toNat 0), [⟨ccl, csq, ⟨ea, ev⟩⟩]) := by unfold AN.run; rw [hans, if_pos ⟨hu, hsq⟩]; simp only [AN.clear, AN.next, ← Hap.out]
                      have hsq' : (n'.seq ccl.toNat == csq) = true := by simpa using hsq
                      rw [hA2] at hA1
                      clear hA2 hans hsq
                      have hrl3 : rs.length ≤ 3 := by have := H3.out; omega
                      go_wp2_with (first
                        | (go_at_call 161; refine (c161 _ ed (by omega)).mono ?_; rintro _ w7 ⟨rfl, m7⟩; rw [hdv.out]; simp only [Tw.Cmd.cells, zCmd]; have S7 := hidIt (S6.out.fr m7.toP0); have hc7 := S7.out.hb.cell; have ib7 := S7.out.hb.inB; have h57 := S7.out.h5; have hc57 := h57.cell; have i57 := h57.inB; have hx7 := S7.out.get (e := (x10, _, _)) List.mem_cons_self; have hcx7 := hx7.cell; have ix7 := hx7.inB; clear m7 S6 hc6 ib6 hcx6 ix6 hx7 h57))
                      refine Ord.region1 [] [0, 1, 2, 3, 4, 5, 6, 7, 8, 9, 10, 11, 12, 13, 14, 15, 16, 17, 18, 19, 20, 21] [22] (by kernel_rfl) (by kernel_rfl) (fun _ _ d _ _ h => by cases d <;> exact h) ?_
                      simp only [Ord.pickO, Ord.nth]
                      refine wpQuiet_nil ?_
                      repeat (go_big_quiet_step (fail))
                      refine wpQuiet_nil ?_
                      have S8 := hidIt (S7.out.more (w1 := w7.alloc (.cells (Cmd.cells ⟨cop, ccl, csq, ck, cv, co⟩) 123 (0, 0))) (c := Cmd.cells ⟨cop, ccl, csq, ck, cv, co⟩) (T := 123) ((ModP.refl _ _).alloc _) (Nat.le_refl _) World.At_alloc_new)
                      go_wp2_with (first
                        | (at_builtin; go_loud (refine wp_app rk54 (v := .slice adr rs.length capr) (n := rs.length) (xs := repsC rs) (B := 0) rfl _ _ rfl (Reply.cells ⟨ccl, csq, ⟨ea, ev⟩⟩).toList rfl rfl (by repeat (first | exact at_new (by simp [World.size_put]) | refine World.At_drew.2 ?_)) rfl (by simp [Reply.cells, Value.oneCell']) (S8.out.fr (by repeat (first | exact ModP.refl _ _ | apply ModP.drew | apply ModP.alloc))).rowR (Nat.zero_le _) (by unfold maxLen; omega) (by omega) ?_; intro g' cap' y1 o1 m1 oc1 ol1; obtain ⟨h51, SA⟩ := S8.out.appR (by intro e he; have h5 := S8.out.h5; have hg := S8.out.get he; simp only [List.mem_cons, List.not_mem_nil, or_false] at he; rcases he with rfl | rfl | rfl | rfl | rfl <;> first | exact ⟨(by simp only []; decide), (by simp only []; omega)⟩ | exact ⟨(by simp only []; decide), At.neT hg h5 (by simp only []; decide)⟩) o1 (Mod.trans (by repeat (first | exact Mod.refl _ _ | apply Mod.drew)) m1) oc1 ol1; clear o1 m1 oc1 ol1 hc7 ib7 hc57 i57 hcx7 ix7 S7 S8; obtain ⟨z1, rfl, iz1⟩ := h51.door; rw [World.put_put_same] at SA; have HSA := hidIt SA; clear SA h51)))
                      generalize z1.put (w.heap.size + 1) (DidR.cells ⟨0, .slice none 0 0, .slice (some ⟨g', 0, none⟩) (rs.length + 1) cap'⟩) 117 = w9 at *
                      have hc11 := HSA.out.get (e := (w7.heap.size, _, _)) List.mem_cons_self
                      obtain ⟨y9, rfl, iy9, hy9, HS9⟩ := HSA.out.door
                      obtain ⟨nx11, hx11'⟩ := hy9 _ _ _ hc11 (by simp only []; decide)
                      simp only [] at nx11 hx11'
                      have hx11 := hidIt hx11'
                      have hcx11 := hx11'.cell
                      have ix11 := hx11'.inB
                      clear hc11 hy9 hx11' HSA
                      generalize w7.heap.size = x11 at *
                      refine Ord.region3 (fun w' => ∃ u : World, w' = u.force x11 (Cmd.cells ⟨cop, ccl, csq, ck, cv, co⟩) 123) [3, 4, 5, 6, 7, 8, 13, 14, 17, 18] [0, 1, 2, 9, 10, 11] (.one 12 true (.one 15 true (.one 16 true (.val 19 (.one 20 false .fin))))) false (fun h => by cases h) (by kernel_rfl) (by kernel_rfl) (fun _ _ d _ _ h => by cases d <;> exact h) ?ca15_7 ?_
                      rotate_left
                      simp only [Ord.pickO, Ord.nth]
                      repeat (go_big_quiet_step (fail))
                      refine wpQuiet_nil ?_
                      repeat (go_big_quiet_step (fail))
                      refine wpQuiet_nil ?_
                      -- steps: ['L12', 'L15', 'L16', 'V19', 'N20']
                      rotate_left
                      · exact ca_of (by repeat (first | exact (World.At_put_ne' nx11).2 hx11.out | refine World.At_drew.2 ?_))
                      refine Ord.wpS_loose rfl ?_
                      intro K hK
                      dsimp only [Ord.nth]
                      go_wp2_with fail
                      refine hK _ _ (ca_of (by repeat (first | exact (World.At_put_ne' nx11).2 hx11.out | refine World.At_drew.2 ?_))) ?_
                      clear hK K
                      refine Ord.wpS_loose rfl ?_
                      intro K hK
                      dsimp only [Ord.nth]
                      go_wp2_with fail
                      refine hK _ _ (ca_of (by repeat (first | exact (World.At_put_ne' nx11).2 hx11.out | refine World.At_drew.2 ?_))) ?_
                      clear hK K
                      refine Ord.wpS_loose rfl ?_
                      intro K hK
                      dsimp only [Ord.nth]
                      go_wp2_with fail
                      refine hK _ _ (ca_of (by repeat (first | exact (World.At_put_ne' nx11).2 hx11.out | refine World.At_drew.2 ?_))) ?_
                      clear hK K
                      refine Ord.wpS_val rfl ?_
                      dsimp only [Ord.nth]
                      go_big_quiet_step (fail)
                      refine wpQuiet_nil ?_
                      refine Ord.wpS_next rfl ?_
                      intro K hK
                      dsimp only [Ord.nth]
                      go_wp2_with fail
                      refine Ord.wpS_fin ?_
                      go_wp2_with fail
                      go_roundw
                      case rel => exact ⟨AN.mk n'.sy (n'.kv.apply ed).2 (n'.applied + 1) (upd n'.used ccl.toNat false) (upd n'.seq ccl.toNat 0) (upd n'.idx ccl.toNat 0), rs ++ [Reply.mk ccl csq (Ans.mk ea ev)], .slice (some ⟨g', 0, none⟩) (rs.length + 1) cap', k', ((HS9.out (n'.applied + 1) (upd n'.used ccl.toNat false) (upd n'.seq ccl.toNat 0) (upd n'.idx ccl.toNat 0)).fr (by repeat (first | exact ModP.refl _ _ | apply ModP.drew | apply ModP.alloc))).less (fun e he => List.mem_cons_of_mem _ (List.mem_cons_of_mem _ (List.mem_cons_of_mem _ he))), by have := H2'.out; rw [hA1.out] at this; exact this, by have := H3'.out; rw [hA1.out] at this; exact this, by have := H4'.out; rw [hA1.out] at this; exact this, H5', H6⟩
                      case measure => rw [hmz.out, show ((_ : World).cell? ⟨b, 2, none⟩).getD (vi 0) = vi (n'.applied + 1) by rw [((HS9.out (n'.applied + 1) (upd n'.used ccl.toNat false) (upd n'.seq ccl.toNat 0) (upd n'.idx ccl.toNat 0)).fr (by repeat (first | exact ModP.refl _ _ | apply ModP.drew | apply ModP.alloc))).hb.cell]; rfl]; simp only [intOf]; have := hcm.out; omega
                    · have hA2 : n'.next.run ed = (AN.mk n'.sy (n'.kv.apply ed).2 (n'.applied + 1) n'.used n'.seq n'.idx, []) := by unfold AN.run; rw [hans, if_neg (fun h => hsq h.2)]; rfl
                      have hsq' : (n'.seq ccl.toNat == csq) = false := by simpa using hsq
                      rw [hA2] at hA1
                      clear hA2 hans hsq
                      as_aux_lemma =>
                        go_wp2_with (first
                          | (go_at_call 161; refine (c161 _ ed (by omega)).mono ?_; rintro _ w7 ⟨rfl, m7⟩; rw [hdv.out]; simp only [Tw.Cmd.cells, zCmd]; have S7 := hidIt (S6.out.fr m7.toP0); have hc7 := S7.out.hb.cell; have ib7 := S7.out.hb.inB; have h57 := S7.out.h5; have hc57 := h57.cell; have i57 := h57.inB; have hx7 := S7.out.get (e := (x10, _, _)) List.mem_cons_self; have hcx7 := hx7.cell; have ix7 := hx7.inB; clear m7 S6 hc6 ib6 hcx6 ix6 hx7 h57))
                        refine Ord.region1 [] [0, 1, 2, 3, 4, 5, 6, 7, 8, 9, 10, 11, 12, 13, 14, 15, 16, 17, 18, 19, 20, 21] [22] (by kernel_rfl) (by kernel_rfl) (fun _ _ d _ _ h => by cases d <;> exact h) ?_
                        simp only [Ord.pickO, Ord.nth]
                        refine wpQuiet_nil ?_
                        repeat (go_big_quiet_step (fail))
                        refine wpQuiet_nil ?_
                        go_wp2_with fail
                        go_roundw
                        case rel => exact ⟨AN.mk n'.sy (n'.kv.apply ed).2 (n'.applied + 1) n'.used n'.seq n'.idx, rs, .slice adr rs.length capr, k', (S7.out.fr (by repeat (first | exact ModP.refl _ _ | apply ModP.drew | apply ModP.alloc))).less (fun e he => List.mem_cons_of_mem _ (List.mem_cons_of_mem _ he)), by have := H2'.out; rw [hA1.out] at this; exact this, by have := H3'.out; rw [hA1.out] at this; unfold Hid; simpa using this, by have := H4'.out; rw [hA1.out] at this; unfold Hid; simpa using this, H5', H6⟩
                        case measure => rw [hmz.out, show ((_ : World).cell? ⟨b, 2, none⟩).getD (vi 0) = vi (n'.applied + 1) by rw [((S7.out.fr (by repeat (first | exact ModP.refl _ _ | apply ModP.drew | apply ModP.alloc))).hb).cell]; rfl]; simp only [intOf]; have := hcm.out; omega
                  · have hA2 : n'.next.run ed = (AN.mk n'.sy (n'.kv.apply ed).2 (n'.applied + 1) n'.used n'.seq n'.idx, []) := by unfold AN.run; rw [hans, if_neg (fun h => hu h.1)]; rfl
                    have hu' : n'.used ccl.toNat = false := by simpa using hu
                    rw [hA2] at hA1
                    clear hA2 hans hu
                    as_aux_lemma =>
                      go_wp2_with (first
                        | (go_at_call 161; refine (c161 _ ed (by omega)).mono ?_; rintro _ w7 ⟨rfl, m7⟩; rw [hdv.out]; simp only [Tw.Cmd.cells, zCmd]; have S7 := hidIt (S6.out.fr m7.toP0); have hc7 := S7.out.hb.cell; have ib7 := S7.out.hb.inB; have h57 := S7.out.h5; have hc57 := h57.cell; have i57 := h57.inB; have hx7 := S7.out.get (e := (x10, _, _)) List.mem_cons_self; have hcx7 := hx7.cell; have ix7 := hx7.inB; clear m7 S6 hc6 ib6 hcx6 ix6 hx7 h57))
                      refine Ord.region1 [] [0, 1, 2, 3, 4, 5, 6, 7, 8, 9, 10, 11, 12, 13, 14, 15, 16, 17, 18, 19, 20, 21] [22] (by kernel_rfl) (by kernel_rfl) (fun _ _ d _ _ h => by cases d <;> exact h) ?_
                      simp only [Ord.pickO, Ord.nth]
                      refine wpQuiet_nil ?_
                      repeat (go_big_quiet_step (fail))
                      refine wpQuiet_nil ?_
                      go_wp2_with fail
                      go_roundw
                      case rel => exact ⟨AN.mk n'.sy (n'.kv.apply ed).2 (n'.applied + 1) n'.used n'.seq n'.idx, rs, .slice adr rs.length capr, k', (S7.out.fr (by repeat (first | exact ModP.refl _ _ | apply ModP.drew | apply ModP.alloc))).less (fun e he => List.mem_cons_of_mem _ (List.mem_cons_of_mem _ he)), by have := H2'.out; rw [hA1.out] at this; exact this, by have := H3'.out; rw [hA1.out] at this; unfold Hid; simpa using this, by have := H4'.out; rw [hA1.out] at this; unfold Hid; simpa using this, H5', H6⟩
                      case measure => rw [hmz.out, show ((_ : World).cell? ⟨b, 2, none⟩).getD (vi 0) = vi (n'.applied + 1) by rw [((S7.out.fr (by repeat (first | exact ModP.refl _ _ | apply ModP.drew | apply ModP.alloc))).hb).cell]; rfl]; simp only [intOf]; have := hcm.out; omega
    · skip
      as_aux_lemma =>
        have hge : decide (n'.applied < n1.sy.commit) = false := by simpa using hlt
        have hk0 : k = 0 := by have := H5.out; rw [hcm.out] at this; omega
        have hf1 : Hid (n2.apply = (n', rs)) := by unfold Hid; rw [H4.out, hk0]; simp [AN.applyN]
        go_wp2_with fail
        refine Ord.region1 [] [0, 1, 2, 3, 4, 5, 6, 7] [8] (by kernel_rfl) (by kernel_rfl) (fun _ _ d _ _ h => by cases d <;> exact h) ?_
        simp only [Ord.pickO, Ord.nth]
        refine wpQuiet_nil ?_
        repeat (go_big_quiet_step (fail))
        refine wpQuiet_nil ?_
        go_wp2_with fail
        have S3 := hidIt ((HS.out n'.applied n'.used n'.seq n'.idx).fr (ModP.drew (ModP.refl _ _)))
        have H30 : Hid (n2.apply.2 ++ (AN.giveN 3 0 n2.apply.1).2 = rs ++ (AN.giveN 3 0 n').2 ∧ (AN.giveN 3 0 n2.apply.1).1 = (AN.giveN 3 0 n').1) := by unfold Hid; rw [hf1.out]; exact ⟨rfl, rfl⟩
        generalize hww : ((y.put b (NodeM.cells ⟨vp bs, vp bk, n'.applied, n'.used, n'.seq, n'.idx⟩) 104).drew) = w3 at *
        clear hww HS Hv2 hcv iv nv iy hmz hge hk0 hf1 hlt H4 H5 H2 a0 a1
        go_loopw [13] (fun v u => ∃ (c : Nat) (m : AN) (rs2 : List Reply) (vr : Value), c ≤ 3 ∧ v = vi c ∧ Hid (Af G W b bs bl be bk m (w.heap.size + 1) ⟨0, .slice none 0 0, vr⟩ [] rs2 (.slice adm ms.length capm) ms [(bv, SyncV.cells ⟨n1.sy.el.id, n1.sy.el.term, n1.sy.el.vote, n1.sy.el.role, n1.sy.el.leader, n1.sy.el.clock, n1.sy.el.got, n1.sy.commit, n1.sy.lg.now.base, n1.sy.lg.now.baseTerm, n1.sy.lg.now.last, n1.sy.lg.now.snap, n1.sy.next, n1.sy.mtch⟩, 64), (w.heap.size, DidR.cells ⟨0, .slice none 0 0, .slice none 0 0⟩, 117)] u) ∧ Hid (rs2.length + m.cnt ≤ 3) ∧ Hid (n2.apply.2 ++ (AN.giveN 3 0 n2.apply.1).2 = rs2 ++ (AN.giveN (3 - c) c m).2 ∧ (AN.giveN 3 0 n2.apply.1).1 = (AN.giveN (3 - c) c m).1) ∧ Hid (m.sy = n2.sy)) (fun v _ => 3 - (intOf v).toNat)
        case atStart => exact ⟨0, n', rs, .slice adr rs.length capr, by omega, rfl, S3, H3, H30, H6⟩
        case round =>
          clear S3 H30 H3 H6
          obtain ⟨c, m, rs2, vr, hc3, rfl, H1, H3, H4, H6⟩ := hrel
          obtain ⟨adr2, capr2, rfl, -⟩ := ownsRow_form H1.out.rowR
          have h5c := H1.out.h5.cell
          have i5c := H1.out.h5.inB
          have hvv := H1.out.get (e := (bv, _, _)) List.mem_cons_self
          have hcv := hvv.cell
          have iv := hvv.inB
          have hcb := H1.out.hb.cell
          have ibb := H1.out.hb.inB
          clear hvv
          by_cases hlt3 : c < 3
          · skip
            as_aux_lemma =>
              have hro : m.sy.el.role = n1.sy.el.role := by rw [H6.out, hrl.out]
              by_cases hu : m.used c = true
              · by_cases hr : n1.sy.el.role = 2
                · have hr' : (n1.sy.el.role != 2) = false := by simp [hr]
                  by_cases hi : m.idx c ≤ m.applied
                  · have hl2 : m.lost c := ⟨hu, .inr hi⟩
                    clear hr hro
                    as_aux_lemma =>
                      have hg : m.give c = (m.clear c, [Reply.mk c (m.seq c) (Ans.mk 13 [])]) := by unfold AN.give; rw [if_pos hl2]
                      have H4' : Hid (n2.apply.2 ++ (AN.giveN 3 0 n2.apply.1).2 = (rs2 ++ [Reply.mk c (m.seq c) (Ans.mk 13 [])]) ++ (AN.giveN (3 - (c + 1)) (c + 1) (m.clear c)).2 ∧ (AN.giveN 3 0 n2.apply.1).1 = (AN.giveN (3 - (c + 1)) (c + 1) (m.clear c)).1) := by unfold Hid; have h9 := H4.out; rw [show 3 - c = (3 - (c + 1)) + 1 by omega, AN.giveN_succ (3 - (c + 1)) c m, hg] at h9; simp only [List.nil_append, List.append_assoc, List.cons_append] at h9 ⊢; exact h9
                      have H3' : Hid ((rs2 ++ [Reply.mk c (m.seq c) (Ans.mk 13 [])]).length + (m.clear c).cnt ≤ 3) := by unfold Hid; have h9 := m.give_cnt hlt3; rw [hg] at h9; have := H3.out; simp only [List.length_append, List.length_cons, List.length_nil] at *; omega
                      have hrl3 : rs2.length ≤ 3 := by have := H3.out; omega
                      clear hg H4 hl2
                      go_wp2_with fail
                      refine Ord.region1 [] [0, 1, 2, 3, 4, 5, 6, 7, 8, 9, 10, 11, 12, 13, 14, 15, 16, 17, 18, 19, 20, 21, 22, 23, 24] [25] (by kernel_rfl) (by kernel_rfl) (fun _ _ d _ _ h => by cases d <;> exact h) ?_
                      simp only [Ord.pickO, Ord.nth]
                      refine wpQuiet_nil ?_
                      repeat (go_big_quiet_step (fail))
                      refine wpQuiet_nil ?_
                      go_wp2_with fail
                      refine Ord.region3 (fun w' => ∃ u : World, w' = u.force (w.heap.size + 1) (DidR.cells ⟨0, .slice none 0 0, .slice adr2 rs2.length capr2⟩) 117) [0, 1] [2, 3, 4, 5, 6, 7, 8, 9, 10] (.one 11 true (.one 12 false (.val 13 (.one 14 false .fin)))) false (fun h => by cases h) (by kernel_rfl) (by kernel_rfl) (fun _ _ d _ _ h => by cases d <;> exact h) ?ca20_8 ?_
                      rotate_left
                      simp only [Ord.pickO, Ord.nth]
                      repeat (go_big_quiet_step (fail))
                      refine wpQuiet_nil ?_
                      repeat (go_big_quiet_step (fail))
                      refine wpQuiet_nil ?_
                      -- steps: ['L11', 'N12', 'V13', 'N14']
                      rotate_left
                      · exact ca_of (H1.out.fr (by repeat (first | exact ModP.refl _ _ | apply ModP.drew | apply ModP.alloc))).h5
                      refine Ord.wpS_loose rfl ?_
                      intro K hK
                      dsimp only [Ord.nth]
                      go_wp2_with fail
                      refine hK _ _ (ca_of (H1.out.fr (by repeat (first | exact ModP.refl _ _ | apply ModP.drew | apply ModP.alloc))).h5) ?_
                      clear hK K
                      refine Ord.wpS_next rfl ?_
                      intro K hK
                      dsimp only [Ord.nth]
                      refine op_app rk54 (v := .slice adr2 rs2.length capr2) (n := rs2.length) (xs := repsC rs2) (B := 0) _ _ rfl (Reply.cells ⟨c, m.seq c, ⟨13, []⟩⟩).toList rfl rfl (by repeat (first | exact at_new (by simp [World.size_put]) | refine World.At_drew.2 ?_)) rfl (by simp [Reply.cells, Value.oneCell']) (H1.out.fr (by repeat (first | exact ModP.refl _ _ | apply ModP.drew | apply ModP.alloc))).rowR (Nat.zero_le _) (by unfold maxLen; omega) (by omega) ?_
                      intro g' cap' y1 o1 m1 oc1 ol1
                      obtain ⟨h51, SA⟩ := H1.out.appR (by intro e he; have h5 := H1.out.h5; have hg := H1.out.get he; simp only [List.mem_cons, List.not_mem_nil, or_false] at he; rcases he with rfl | rfl <;> first | exact ⟨(by simp only []; decide), (by simp only []; omega)⟩ | exact ⟨(by simp only []; decide), At.neT hg h5 (by simp only []; decide)⟩) o1 (Mod.trans (by repeat (first | exact Mod.refl _ _ | apply Mod.drew)) m1) oc1 ol1
                      refine hK _ _ ?_
                      clear hK K o1 m1 oc1 ol1 h5c i5c hcv iv hcb ibb H1
                      obtain ⟨z1, rfl, iz1⟩ := h51.door
                      rw [World.put_put_same] at SA
                      have HSA := hidIt SA
                      clear SA h51
                      simp only [Act.put, List.setIfInBounds_toArray, List.set_cons_succ, List.set_cons_zero]
                      refine Ord.wpS_val rfl ?_
                      dsimp only [Ord.nth]
                      go_big_quiet_step (fail)
                      refine wpQuiet_nil ?_
                      refine Ord.wpS_next rfl ?_
                      intro K hK
                      dsimp only [Ord.nth]
                      go_wp2_with fail
                      refine Ord.wpS_fin ?_
                      generalize z1.put (w.heap.size + 1) (DidR.cells ⟨0, .slice none 0 0, .slice (some ⟨g', 0, none⟩) (rs2.length + 1) cap'⟩) 117 = w9 at *
                      obtain ⟨y9, rfl, iy9, -, HS9⟩ := HSA.out.door
                      clear HSA
                      go_wp2_with fail
                      refine Ord.region1 [2, 3, 4, 5, 10, 11, 14, 15] [0, 1, 6, 7, 8] [9, 12, 13, 16, 17] (by kernel_rfl) (by kernel_rfl) (fun _ _ d _ _ h => by cases d <;> exact h) ?_
                      simp only [Ord.pickO, Ord.nth]
                      repeat (go_big_quiet_step (fail))
                      refine wpQuiet_nil ?_
                      repeat (go_big_quiet_step (fail))
                      refine wpQuiet_nil ?_
                      go_wp2_with fail
                      go_roundw
                      case rel => exact ⟨c + 1, m.clear c, rs2 ++ [Reply.mk c (m.seq c) (Ans.mk 13 [])], .slice (some ⟨g', 0, none⟩) (rs2.length + 1) cap', by omega, by go_num, (HS9.out m.applied (upd m.used c false) (upd m.seq c 0) (upd m.idx c 0)).fr (by repeat (first | exact ModP.refl _ _ | apply ModP.drew | apply ModP.alloc)), H3', H4', H6⟩
                      case measure => simp [intOf]; omega
                  · have hl2 : ¬ m.lost c := fun h => h.2.elim (fun h => h (hro.trans hr)) hi
                    have hi' : decide (m.idx c ≤ m.applied) = false := by simpa using hi
                    clear hr hro hi
                    as_aux_lemma =>
                      have hg : m.give c = (m, []) := by unfold AN.give; rw [if_neg hl2]
                      have H4' : Hid (n2.apply.2 ++ (AN.giveN 3 0 n2.apply.1).2 = rs2 ++ (AN.giveN (3 - (c + 1)) (c + 1) m).2 ∧ (AN.giveN 3 0 n2.apply.1).1 = (AN.giveN (3 - (c + 1)) (c + 1) m).1) := by unfold Hid; have h9 := H4.out; rw [show 3 - c = (3 - (c + 1)) + 1 by omega, AN.giveN_succ (3 - (c + 1)) c m, hg] at h9; simp only [List.nil_append, List.append_assoc, List.cons_append] at h9 ⊢; exact h9
                      clear hg H4 hl2
                      go_wp2_with fail
                      refine Ord.region1 [] [0, 1, 2, 3, 4, 5, 6, 7, 8, 9, 10, 11, 12, 13, 14, 15, 16, 17, 18, 19, 20, 21, 22, 23, 24] [25] (by kernel_rfl) (by kernel_rfl) (fun _ _ d _ _ h => by cases d <;> exact h) ?_
                      simp only [Ord.pickO, Ord.nth]
                      refine wpQuiet_nil ?_
                      repeat (go_big_quiet_step (fail))
                      refine wpQuiet_nil ?_
                      go_wp2_with fail
                      go_roundw
                      case rel => exact ⟨c + 1, m, rs2, .slice adr2 rs2.length capr2, by omega, by go_num, H1.out.fr (by repeat (first | exact ModP.refl _ _ | apply ModP.drew | apply ModP.alloc)), H3, H4', H6⟩
                      case measure => simp [intOf]; omega
                · have hl2 : m.lost c := ⟨hu, .inl (by rw [hro]; exact hr)⟩
                  have hr' : (n1.sy.el.role != 2) = true := by simp [hr]
                  clear hr hro
                  as_aux_lemma =>
                    have hg : m.give c = (m.clear c, [Reply.mk c (m.seq c) (Ans.mk 13 [])]) := by unfold AN.give; rw [if_pos hl2]
                    have H4' : Hid (n2.apply.2 ++ (AN.giveN 3 0 n2.apply.1).2 = (rs2 ++ [Reply.mk c (m.seq c) (Ans.mk 13 [])]) ++ (AN.giveN (3 - (c + 1)) (c + 1) (m.clear c)).2 ∧ (AN.giveN 3 0 n2.apply.1).1 = (AN.giveN (3 - (c + 1)) (c + 1) (m.clear c)).1) := by unfold Hid; have h9 := H4.out; rw [show 3 - c = (3 - (c + 1)) + 1 by omega, AN.giveN_succ (3 - (c + 1)) c m, hg] at h9; simp only [List.nil_append, List.append_assoc, List.cons_append] at h9 ⊢; exact h9
                    have H3' : Hid ((rs2 ++ [Reply.mk c (m.seq c) (Ans.mk 13 [])]).length + (m.clear c).cnt ≤ 3) := by unfold Hid; have h9 := m.give_cnt hlt3; rw [hg] at h9; have := H3.out; simp only [List.length_append, List.length_cons, List.length_nil] at *; omega
                    have hrl3 : rs2.length ≤ 3 := by have := H3.out; omega
                    clear hg H4 hl2
                    go_wp2_with fail
                    refine Ord.region1 [] [0, 1, 2, 3, 4, 5, 6, 7, 8, 9, 10, 11, 12, 13, 14, 15, 16, 17, 18, 19, 20, 21, 22, 23, 24] [25] (by kernel_rfl) (by kernel_rfl) (fun _ _ d _ _ h => by cases d <;> exact h) ?_
                    simp only [Ord.pickO, Ord.nth]
                    refine wpQuiet_nil ?_
                    repeat (go_big_quiet_step (fail))
                    refine wpQuiet_nil ?_
                    go_wp2_with fail
                    refine Ord.region3 (fun w' => ∃ u : World, w' = u.force (w.heap.size + 1) (DidR.cells ⟨0, .slice none 0 0, .slice adr2 rs2.length capr2⟩) 117) [0, 1] [2, 3, 4, 5, 6, 7, 8, 9, 10] (.one 11 true (.one 12 false (.val 13 (.one 14 false .fin)))) false (fun h => by cases h) (by kernel_rfl) (by kernel_rfl) (fun _ _ d _ _ h => by cases d <;> exact h) ?ca20_9 ?_
                    rotate_left
                    simp only [Ord.pickO, Ord.nth]
                    repeat (go_big_quiet_step (fail))
                    refine wpQuiet_nil ?_
                    repeat (go_big_quiet_step (fail))
                    refine wpQuiet_nil ?_
                    -- steps: ['L11', 'N12', 'V13', 'N14']
                    rotate_left
                    · exact ca_of (H1.out.fr (by repeat (first | exact ModP.refl _ _ | apply ModP.drew | apply ModP.alloc))).h5
                    refine Ord.wpS_loose rfl ?_
                    intro K hK
                    dsimp only [Ord.nth]
                    go_wp2_with fail
                    refine hK _ _ (ca_of (H1.out.fr (by repeat (first | exact ModP.refl _ _ | apply ModP.drew | apply ModP.alloc))).h5) ?_
                    clear hK K
                    refine Ord.wpS_next rfl ?_
                    intro K hK
                    dsimp only [Ord.nth]
                    refine op_app rk54 (v := .slice adr2 rs2.length capr2) (n := rs2.length) (xs := repsC rs2) (B := 0) _ _ rfl (Reply.cells ⟨c, m.seq c, ⟨13, []⟩⟩).toList rfl rfl (by repeat (first | exact at_new (by simp [World.size_put]) | refine World.At_drew.2 ?_)) rfl (by simp [Reply.cells, Value.oneCell']) (H1.out.fr (by repeat (first | exact ModP.refl _ _ | apply ModP.drew | apply ModP.alloc))).rowR (Nat.zero_le _) (by unfold maxLen; omega) (by omega) ?_
                    intro g' cap' y1 o1 m1 oc1 ol1
                    obtain ⟨h51, SA⟩ := H1.out.appR (by intro e he; have h5 := H1.out.h5; have hg := H1.out.get he; simp only [List.mem_cons, List.not_mem_nil, or_false] at he; rcases he with rfl | rfl <;> first | exact ⟨(by simp only []; decide), (by simp only []; omega)⟩ | exact ⟨(by simp only []; decide), At.neT hg h5 (by simp only []; decide)⟩) o1 (Mod.trans (by repeat (first | exact Mod.refl _ _ | apply Mod.drew)) m1) oc1 ol1
                    refine hK _ _ ?_
                    clear hK K o1 m1 oc1 ol1 h5c i5c hcv iv hcb ibb H1
                    obtain ⟨z1, rfl, iz1⟩ := h51.door
                    rw [World.put_put_same] at SA
                    have HSA := hidIt SA
                    clear SA h51
                    simp only [Act.put, List.setIfInBounds_toArray, List.set_cons_succ, List.set_cons_zero]
                    refine Ord.wpS_val rfl ?_
                    dsimp only [Ord.nth]
                    go_big_quiet_step (fail)
                    refine wpQuiet_nil ?_
                    refine Ord.wpS_next rfl ?_
                    intro K hK
                    dsimp only [Ord.nth]
                    go_wp2_with fail
                    refine Ord.wpS_fin ?_
                    generalize z1.put (w.heap.size + 1) (DidR.cells ⟨0, .slice none 0 0, .slice (some ⟨g', 0, none⟩) (rs2.length + 1) cap'⟩) 117 = w9 at *
                    obtain ⟨y9, rfl, iy9, -, HS9⟩ := HSA.out.door
                    clear HSA
                    go_wp2_with fail
                    refine Ord.region1 [2, 3, 4, 5, 10, 11, 14, 15] [0, 1, 6, 7, 8] [9, 12, 13, 16, 17] (by kernel_rfl) (by kernel_rfl) (fun _ _ d _ _ h => by cases d <;> exact h) ?_
                    simp only [Ord.pickO, Ord.nth]
                    repeat (go_big_quiet_step (fail))
                    refine wpQuiet_nil ?_
                    repeat (go_big_quiet_step (fail))
                    refine wpQuiet_nil ?_
                    go_wp2_with fail
                    go_roundw
                    case rel => exact ⟨c + 1, m.clear c, rs2 ++ [Reply.mk c (m.seq c) (Ans.mk 13 [])], .slice (some ⟨g', 0, none⟩) (rs2.length + 1) cap', by omega, by go_num, (HS9.out m.applied (upd m.used c false) (upd m.seq c 0) (upd m.idx c 0)).fr (by repeat (first | exact ModP.refl _ _ | apply ModP.drew | apply ModP.alloc)), H3', H4', H6⟩
                    case measure => simp [intOf]; omega
              · have hl2 : ¬ m.lost c := fun h => hu h.1
                have hu' : m.used c = false := by simpa using hu
                clear hu hro
                as_aux_lemma =>
                  have hg : m.give c = (m, []) := by unfold AN.give; rw [if_neg hl2]
                  have H4' : Hid (n2.apply.2 ++ (AN.giveN 3 0 n2.apply.1).2 = rs2 ++ (AN.giveN (3 - (c + 1)) (c + 1) m).2 ∧ (AN.giveN 3 0 n2.apply.1).1 = (AN.giveN (3 - (c + 1)) (c + 1) m).1) := by unfold Hid; have h9 := H4.out; rw [show 3 - c = (3 - (c + 1)) + 1 by omega, AN.giveN_succ (3 - (c + 1)) c m, hg] at h9; simp only [List.nil_append, List.append_assoc, List.cons_append] at h9 ⊢; exact h9
                  clear hg H4 hl2
                  go_wp2_with fail
                  refine Ord.region1 [] [0, 1, 2, 3, 4, 5, 6, 7, 8, 9, 10, 11, 12, 13, 14, 15, 16, 17, 18, 19, 20, 21, 22, 23, 24] [25] (by kernel_rfl) (by kernel_rfl) (fun _ _ d _ _ h => by cases d <;> exact h) ?_
                  simp only [Ord.pickO, Ord.nth]
                  refine wpQuiet_nil ?_
                  repeat (go_big_quiet_step (fail))
                  refine wpQuiet_nil ?_
                  go_wp2_with fail
                  go_roundw
                  case rel => exact ⟨c + 1, m, rs2, .slice adr2 rs2.length capr2, by omega, by go_num, H1.out.fr (by repeat (first | exact ModP.refl _ _ | apply ModP.drew | apply ModP.alloc)), H3, H4', H6⟩
                  case measure => simp [intOf]; omega
          · skip
            as_aux_lemma =>
              obtain rfl : c = 3 := by omega
              have hf2 : Hid (n2.apply.2 ++ (AN.giveN 3 0 n2.apply.1).2 = rs2 ∧ (AN.giveN 3 0 n2.apply.1).1 = m) := by unfold Hid; have h9 := H4.out; simpa [AN.giveN] using h9
              clear H4 hlt3 hc3
              go_wp2_with fail
              generalize hww : wr = w3 at *
              go_loopw [14] (fun v u => ∃ (i : Nat) (vo : Value), i ≤ ms.length ∧ v = vi i ∧ Hid (Af G W b bs bl be bk m (w.heap.size + 1) ⟨0, vo, .slice adr2 rs2.length capr2⟩ ((ms.take i).map outM) rs2 (.slice adm ms.length capm) ms [(bv, SyncV.cells ⟨n1.sy.el.id, n1.sy.el.term, n1.sy.el.vote, n1.sy.el.role, n1.sy.el.leader, n1.sy.el.clock, n1.sy.el.got, n1.sy.commit, n1.sy.lg.now.base, n1.sy.lg.now.baseTerm, n1.sy.lg.now.last, n1.sy.lg.now.snap, n1.sy.next, n1.sy.mtch⟩, 64), (w.heap.size, DidR.cells ⟨0, .slice none 0 0, .slice none 0 0⟩, 117)] u)) (fun v _ => ms.length - (intOf v).toNat)
              case atStart => exact ⟨0, .slice none 0 0, Nat.zero_le _, rfl, by simpa using H1⟩
              case round =>
                clear H1 h5c i5c hcv iv hcb ibb
                obtain ⟨i, vo, hi, rfl, H1⟩ := hrel
                obtain ⟨ado, capo, hvo, -⟩ := ownsRow_form H1.out.rowO
                have hvl : (List.map outM (ms.take i)).length = i := by simp; omega
                rw [hvl] at hvo
                simp only [] at hvo
                subst hvo
                have h5c := H1.out.h5.cell
                have i5c := H1.out.h5.inB
                by_cases hil : i < ms.length
                · obtain ⟨X9, hX9⟩ := H1.out.msgs
                  obtain ⟨g, v9, hg9, ig, hcg, he9⟩ := hX9.get hil
                  subst hg9
                  obtain ⟨ade, cape, rfl, -⟩ := ownsRow_form he9
                  have hmok := Hms.out _ (List.getElem_mem hil)
                  have htk : ms.take (i + 1) = ms.take i ++ [ms[i]] := by rw [List.take_add_one, List.getElem?_eq_getElem hil]; rfl
                  obtain ⟨⟨mk, mf, mt, mtm, mi, ml, mc, mo, me, md⟩, hmi⟩ : ∃ x, ms[i] = x := ⟨_, rfl⟩
                  rw [hmi] at hcg he9 hmok htk
                  have hEn := hidIt (fun w' (mm : ModP (fun _ => False) wr w') => c162 (ownsRow_frame he9 mm (fun _ _ f => f)) hmok)
                  have Htk := hidIt htk
                  have g0 := hcg 0 (by omega)
                  have g1 := hcg 1 (by omega)
                  have g2 := hcg 2 (by omega)
                  have g3 := hcg 3 (by omega)
                  have g4 := hcg 4 (by omega)
                  have g5 := hcg 5 (by omega)
                  have g6 := hcg 6 (by omega)
                  have g7 := hcg 7 (by omega)
                  have g8 := hcg 8 (by omega)
                  have g9 := hcg 9 (by omega)
                  clear hcg he9 hmok htk hmi hX9
                  simp only [Msg.r, Nat.add_zero] at g0 g1 g2 g3 g4 g5 g6 g7 g8 g9 hEn
                  go_wp2_with (first
                    | (go_at_call 162; refine (hEn.out _ (ModP.refl _ _)).mono ?_; rintro _ w4 ⟨rfl, m4⟩; have q4 : ModP (fun _ => False) wr w4 := m4.toP0; have S4 := hidIt (H1.out.fr q4); have k2 := (q4.cell ig (fun x => x) (i * 10 + 2)).trans g2; have ig4 := q4.inB ig; clear m4 q4 g0 g1 g2 g3 g4 g5 g6 g7 g8 g9 h5c i5c H1))
                  have h54 := S4.out.h5
                  have hc54 := h54.cell
                  have i54 := h54.inB
                  clear h54
                  have hi3 : i ≤ 1000 := by omega
                  refine Ord.region3 (fun w' => ∃ u : World, w' = u.force (w.heap.size + 1) (DidR.cells ⟨0, .slice ado i capo, .slice adr2 rs2.length capr2⟩) 117) [0, 1] [2, 3, 4, 5, 6, 7, 8] (.one 9 true (.one 10 false (.val 11 (.one 12 false .fin)))) false (fun h => by cases h) (by kernel_rfl) (by kernel_rfl) (fun _ _ d _ _ h => by cases d <;> exact h) ?ca26_10 ?_
                  rotate_left
                  simp only [Ord.pickO, Ord.nth]
                  repeat (go_big_quiet_step (fail))
                  refine wpQuiet_nil ?_
                  repeat (go_big_quiet_step (fail))
                  refine wpQuiet_nil ?_
                  -- steps: ['L9', 'N10', 'V11', 'N12']
                  rotate_left
                  · exact ca_of (S4.out.fr (by repeat (first | exact ModP.refl _ _ | apply ModP.drew | apply ModP.alloc))).h5
                  refine Ord.wpS_loose rfl ?_
                  intro K hK
                  dsimp only [Ord.nth]
                  go_wp2_with fail
                  refine hK _ _ (ca_of (S4.out.fr (by repeat (first | exact ModP.refl _ _ | apply ModP.drew | apply ModP.alloc))).h5) ?_
                  clear hK K
                  refine Ord.wpS_next rfl ?_
                  intro K hK
                  dsimp only [Ord.nth]
                  have hrow := (S4.out.fr (w1 := (w4.alloc (.cells (OutM.cells ⟨mt, encMsg ⟨mk, mf, mt, mtm, mi, ml, mc, mo, me, md⟩⟩) 72 (0, 0))).drew) (by repeat (first | exact ModP.refl _ _ | apply ModP.drew | apply ModP.alloc))).rowO
                  rw [hvl] at hrow
                  refine op_app rk50 (v := .slice ado i capo) (n := i) (xs := outsC (List.map outM (ms.take i))) (B := 0) _ _ rfl (OutM.cells ⟨mt, encMsg ⟨mk, mf, mt, mtm, mi, ml, mc, mo, me, md⟩⟩).toList rfl rfl (by repeat (first | exact at_new (by simp [World.size_put]) | refine World.At_drew.2 ?_)) rfl (by simp [OutM.cells, Value.oneCell']) hrow (Nat.zero_le _) (by unfold maxLen; omega) (by omega) ?_
                  clear hrow
                  intro g' cap' y1 o1 m1 oc1 ol1
                  have S5 := S4.out
                  have hvl2 := hvl
                  obtain ⟨h51, SA⟩ := S5.appO (g' := g') (cap := cap') (r := ⟨mt, encMsg ⟨mk, mf, mt, mtm, mi, ml, mc, mo, me, md⟩⟩) (by intro e he; have h5 := S4.out.h5; have hg := S4.out.get he; simp only [List.mem_cons, List.not_mem_nil, or_false] at he; rcases he with rfl | rfl <;> first | exact ⟨(by simp only []; decide), (by simp only []; omega)⟩ | exact ⟨(by simp only []; decide), At.neT hg h5 (by simp only []; decide)⟩) (by rw [hvl]; exact o1) (Mod.trans (by repeat (first | exact Mod.refl _ _ | apply Mod.drew)) m1) oc1 ol1
                  rw [hvl] at SA
                  refine hK _ _ ?_
                  clear hK K o1 m1 oc1 ol1 hc54 i54 S4 S5 k2
                  obtain ⟨z1, rfl, iz1⟩ := h51.door
                  rw [World.put_put_same] at SA
                  have HSA := hidIt SA
                  clear SA h51
                  simp only [Act.put, List.setIfInBounds_toArray, List.set_cons_succ, List.set_cons_zero]
                  refine Ord.wpS_val rfl ?_
                  dsimp only [Ord.nth]
                  go_big_quiet_step (fail)
                  refine wpQuiet_nil ?_
                  refine Ord.wpS_next rfl ?_
                  intro K hK
                  dsimp only [Ord.nth]
                  go_wp2_with fail
                  refine Ord.wpS_fin ?_
                  go_wp2_with fail
                  go_roundw
                  case rel => exact ⟨i + 1, .slice (some ⟨g', 0, none⟩) (i + 1) cap', by omega, by go_num, by unfold Hid; rw [Htk.out, List.map_append]; exact HSA.out⟩
                  case measure => simp [intOf]; omega
                · obtain rfl : i = ms.length := by omega
                  rw [List.take_length] at H1
                  have h4 := H1.out.get (e := (w.heap.size, _, _)) (List.mem_cons_of_mem _ List.mem_cons_self)
                  have n45 : w.heap.size ≠ w.heap.size + 1 := by omega
                  have SF := hidIt ((H1.out.less (ex' := [(w.heap.size, DidR.cells ⟨0, .slice none 0 0, .slice none 0 0⟩, 117)]) (fun e he => List.mem_cons_of_mem _ he)).repl n45 (fun e he => by simp at he) (by decide) (DidR.cells ⟨0, .slice ado ms.length capo, .slice adr2 rs2.length capr2⟩) 117)
                  have h59 := H1.out.h5
                  clear H1 h5c i5c
                  obtain ⟨z4, rfl, iz4⟩ := h4.door
                  simp only [] at iz4 h59
                  rw [World.put_put_same] at SF
                  rw [World.At_put_ne' (Ne.symm n45)] at h59
                  have hc59 := h59.cell
                  have i59 := h59.inB
                  clear h4 h59
                  go_wp2_with fail
                  refine bodyPost_ret (v := .agg (DidR.cells ⟨0, .slice ado ms.length capo, .slice adr2 rs2.length capr2⟩)) (by simp [results, Tryz.results99, go_sem, DidR.cells, iz4]) rfl ?_
                  rw [hk.out, hf2.out.1, hf2.out.2]
                  obtain ⟨X, hX⟩ := SF.out
                  exact ⟨_, _, X, rfl, hX.nb, hX.ho, hX.hr, hX.lo⟩
end
end Go.Proofs.Qxb6500990aGreat
