/- package nodem: Tick, Receive -/
import Derived.Test.Qxb6500990aGreatNod11
set_option linter.unusedVariables false
set_option linter.unusedSimpArgs false
namespace Go.Proofs.Qxb6500990aGreat
open Go Go.RowKit Go.Tw
attribute [local go_sem] World.cell?_put_same World.cell?_put_ne World.cell?_put_ne' World.frozen?_put_same World.frozen?_put_ne World.frozen?_put_ne' World.setCell_put_same World.setCell_put_ne World.setCell_put_ne' World.inB_put World.inB_alloc World.inB_drew World.inB_drewN World.inB_new World.inB_setCell World.put_drew World.put_drewN World.q_setCell_drew World.q_setCell_drewN World.q_alloc_drew World.q_alloc_drewN World.put_put_same World.put_put_2 World.size_put World.q_cell?_alloc_old World.q_frozen?_alloc_old World.cell?_alloc_new' World.frozen?_alloc_new' World.q_setCell_alloc_old World.q_setCell_alloc_new World.q_put_alloc_old World.cell?_force_same World.frozen?_force_same World.cell?_force2_fst World.cell?_force2_snd NodeM.g0 NodeM.s0 NodeM.g1 NodeM.s1 NodeM.g2 NodeM.s2 NodeM.g3 NodeM.s3 NodeM.g4 NodeM.s4 NodeM.g5 NodeM.s5 NodeM.g6 NodeM.s6 NodeM.g7 NodeM.s7 NodeM.g8 NodeM.s8 NodeM.g9 NodeM.s9 NodeM.g10 NodeM.s10 NodeM.g11 NodeM.s11 NodeM.gi_used_0 NodeM.si_used_0 NodeM.gi_seq_0 NodeM.si_seq_0 NodeM.gi_idx_0 NodeM.si_idx_0 SyncV.g0 SyncV.s0 SyncV.g1 SyncV.s1 SyncV.g2 SyncV.s2 SyncV.g3 SyncV.s3 SyncV.g4 SyncV.s4 SyncV.g5 SyncV.s5 SyncV.g6 SyncV.s6 SyncV.g7 SyncV.s7 SyncV.g8 SyncV.s8 SyncV.g9 SyncV.s9 SyncV.g10 SyncV.s10 SyncV.g11 SyncV.s11 SyncV.g12 SyncV.s12 SyncV.g13 SyncV.s13 SyncV.g14 SyncV.s14 SyncV.g15 SyncV.s15 SyncV.g16 SyncV.s16 SyncV.g17 SyncV.s17 SyncV.g18 SyncV.s18 SyncV.g19 SyncV.s19 SyncV.gi_got_0 SyncV.si_got_0 SyncV.gi_next_0 SyncV.si_next_0 SyncV.gi_mtch_0 SyncV.si_mtch_0 NodeV.g0 NodeV.s0 NodeV.g1 NodeV.s1 NodeV.g2 NodeV.s2 NodeV.g3 NodeV.s3 NodeV.g4 NodeV.s4 NodeV.g5 NodeV.s5 NodeV.g6 NodeV.s6 NodeV.g7 NodeV.s7 NodeV.g8 NodeV.s8 NodeV.g9 NodeV.s9 NodeV.g10 NodeV.s10 NodeV.gi_used_0 NodeV.si_used_0 NodeV.gi_seq_0 NodeV.si_seq_0 NodeV.gi_idx_0 NodeV.si_idx_0 Entry.g0 Entry.s0 Entry.g1 Entry.s1 Ans.g0 Ans.s0 Ans.g1 Ans.s1 Cmd.g0 Cmd.s0 Cmd.g1 Cmd.s1 Cmd.g2 Cmd.s2 Cmd.g3 Cmd.s3 Cmd.g4 Cmd.s4 Cmd.g5 Cmd.s5 DidR.g0 DidR.s0 DidR.g1 DidR.s1 DidR.g2 DidR.s2 Reply.g0 Reply.s0 Reply.g1 Reply.s1 Reply.g2 Reply.s2 Reply.g3 Reply.s3 OutM.g0 OutM.s0 OutM.g1 OutM.s1 MsgR.g0 MsgR.s0 MsgR.g1 MsgR.s1 MsgR.g2 MsgR.s2 MsgR.g3 MsgR.s3 MsgR.g4 MsgR.s4 MsgR.g5 MsgR.s5 MsgR.g6 MsgR.s6 MsgR.g7 MsgR.s7 MsgR.g8 MsgR.s8 MsgR.g9 MsgR.s9
attribute [local go_sem] ba_get ba_eq ba_beq upd_same upd_upd
set_option maxHeartbeats 4000000
set_option maxRecDepth 100000
section
variable {W w : World} {G : Nat → Prop} {b bs bl be bk : Nat} {n : AN}
theorem c90 (h : NMp W G b bs bl be bk n) (ok : n.Ok) (hn : n.sy.lg.hist.length ≤ 6900) : Calls Tryz.prog 90 #[vp b] W (DidN G W b bs bl be bk n.tick.1 n.tick.2) := by
  have hc := h.hb.cell
  have ib := h.hb.inB
  have lG : ¬ G W.heap.size := fun a => by have := h.wi _ a; omega
  unfold NoR at hc
  have m0 : ModP (fun _ => False) W (W.alloc (.cells (DidR.cells ⟨0, .slice none 0 0, .slice none 0 0⟩) 117 (0, 0))) := (ModP.refl _ _).alloc _
  have hE := hidIt ((h.frame m0 (fun _ _ f => f)).event (ms := n.sy.tick.1) (A' := n.sy.tick.2) (f := 137) (args := #[vp bs]) (fun G1 g1 _ => c137 g1 ok.sy.lg ok.sy.el (by omega) ok.sy.n1))
  have Hok := hidIt (ok.with_sy ok.sy.tick)
  have Hms := hidIt ok.sy.tick_msgs
  have Hml := hidIt n.sy.tick_cnt
  have Hl : Hid (n.sy.tick.2.lg.hist.length ≤ 8900) := by unfold Hid; have := n.sy.tick_len; omega
  have M0 := hidIt m0
  have LG := hidIt lG
  clear h ok m0 lG hn
  unfold AN.tick
  generalize n.sy.tick.1 = ms at *
  generalize n.sy.tick.2 = A1 at *
  go_enter Tryz.func90, Tryz.ntmps90
  go_wp2_with (first
    | (go_at_call 137; refine hE.out.mono ?_; rintro _ w1 ⟨vm, rfl, hm⟩; have Hm := hidIt hm; obtain ⟨adm, capm, rfl, -⟩ := MsgsX.form hm.msgs; clear hm)
    | (go_at_call 99; refine (c99 Hm.out Hok.out Hl.out Hms.out Hml.out).mono ?_; intro r9 w9 D9; obtain ⟨v9, rfl⟩ : ∃ v, r9 = .returned v := (by obtain ⟨vo, vr, X, e, -⟩ := D9; exact ⟨_, e⟩); obtain ⟨hz9, vo9, vr9, rfl, ⟨oa, oc, rfl⟩, ⟨ra, rc, rfl⟩, hD9⟩ := D9.cell (x := W.heap.size) World.At_alloc_new LG.out (by simp); have HD9 := hidIt hD9; clear D9 hD9; simp only [DidR.cells]; obtain ⟨z9, rfl, iz9⟩ := hz9.door; clear hz9))
  have h9 := HD9.out W M0.out (Nat.le_refl _)
  generalize (AN.after { n with sy := A1 } ms).2 = n2 at *
  generalize (AN.after { n with sy := A1 } ms).1 = D2 at *
  refine bodyPost_ret (v := .agg (DidR.cells ⟨D2.err, .slice oa D2.outs.length oc, .slice ra D2.reps.length rc⟩)) (by simp [results, Tryz.results90, go_sem, DidR.cells, iz9]) rfl ?_
  have h9 := h9 (DidR.cells ⟨D2.err, .slice oa D2.outs.length oc, .slice ra D2.reps.length rc⟩)
  rw [World.put_put_same] at h9
  exact h9
theorem c91_none (h : NMp W G b bs bl be bk n) (ok : n.Ok) (raw : Bs) (hd : decMsg raw = none) : Calls Tryz.prog 91 #[vp b, vs raw] W (DidN G W b bs bl be bk ⟨12, [], []⟩ n) := by
  have hc := h.hb.cell
  have ib := h.hb.inB
  have lb : b < W.heap.size := ib
  have HB := hidIt h.hb
  have lG : ¬ G W.heap.size := fun a => by have := h.wi _ a; omega
  unfold NoR at hc HB
  have hFr := hidIt (fun w' (m : ModP (fun _ => False) W w') => h.frame m (fun _ _ f => f))
  have hV := hidIt (fun w' (m : ModP (fun _ => False) W w') => by obtain ⟨G1, g1, -⟩ := (h.frame m (fun _ _ f => f)).hs; exact c97 g1 ok.sy.lg)
  unfold AS.view at hV
  have hD := hidIt (c138 (W.alloc (.cells (DidR.cells ⟨0, .slice none 0 0, .slice none 0 0⟩) 117 (0, 0))) raw)
  have LG := hidIt lG
  unfold DecRes at hD
  rw [hd] at hD
  simp only [Msg.r, zMsg, MsgR.cells] at hD
  have hN := hidIt (fun w' (m : ModP (fun _ => False) W w') => (show NB G W b bs bl be bk n w' from (NB.start h).fr m).did 12)
  clear h ok lG hd
  go_enter Tryz.func91, Tryz.ntmps91
  go_wp2_with (first
    | (go_at_call 138; refine hD.out.mono ?_; rintro _ w1 ⟨m1, rfl⟩; have q1 : ModP (fun _ => False) (W.alloc (.cells (DidR.cells ⟨0, .slice none 0 0, .slice none 0 0⟩) 117 (0, 0))) w1 := m1.toP0; have M1 := hidIt (((ModP.refl _ _).alloc _).trans q1); have Hz1 := hidIt (q1.at (World.At_alloc_new (w := W)) (fun x => x)); have hb1 := M1.out.at HB.out (fun x => x); have hc1 := hb1.cell; have ib1 := hb1.inB; clear m1 q1 hb1)
    | (go_at_call 97; refine (hV.out _ (ModP.alloc M1.out _)).mono ?_; rintro _ w2 ⟨bv, rfl, lv, hv, m2⟩; have M2 := hidIt ((ModP.alloc M1.out _).trans m2); have M12 := hidIt ((ModP.alloc (ModP.refl _ _) _).trans m2); have hb2 := M2.out.at HB.out (fun x => x); have hz2 := m2.at (World.At.alloc Hz1.out _) (fun x => x); have hm2 := m2.at (World.At_alloc_new (w := w1) (c := MsgR.cells ⟨0, 0, 0, 0, 0, 0, 0, false, .slice none 0 0, []⟩) (T := 159)) (fun x => x); have lz1 := Hz1.out.inB; clear m2 hc hc1 ib1; obtain ⟨z2, rfl, iz2⟩ := hz2.door; have nb4 : b ≠ W.heap.size := (by omega); have nv4 : bv ≠ W.heap.size := (by have : W.heap.size < w1.heap.size := lz1; simp only [World.alloc, Array.size_push] at lv; omega); have nm4 : w1.heap.size ≠ W.heap.size := (by have : W.heap.size < w1.heap.size := lz1; omega); have e1 := (World.At_put_ne' nb4).1 hb2; have e2 := (World.At_put_ne' nv4).1 hv; have e3 := (World.At_put_ne' nm4).1 hm2; have hc2 := e1.cell; have ib2 := e1.inB; have hcv := e2.cell; have iv := e2.inB; have hcm := e3.cell; have im := e3.inB; have E3 := hidIt e3; clear e1 e2 e3 hb2 hv hm2 hz2))
  refine Ord.region1 [] [0, 1, 2, 3, 4, 5, 6, 7, 8, 9, 10, 11, 12, 13, 14, 15, 16] [17] (by kernel_rfl) (by kernel_rfl) (fun _ _ d _ _ h => by cases d <;> exact h) ?_
  simp only [Ord.pickO, Ord.nth]
  refine wpQuiet_nil ?_
  repeat (go_big_quiet_step (fail))
  refine wpQuiet_nil ?_
  go_wp2_with fail
  refine bodyPost_ret (v := .agg (DidR.cells ⟨12, .slice none 0 0, .slice none 0 0⟩)) (by simp [results, Tryz.results91, go_sem, DidR.cells, iz2]) rfl ?_
  refine hN.out _ ?_
  exact ModP.drew ((M2.out.unput (.inr (Nat.le_refl _))).put (.inr (Nat.le_refl _)) _ _)
theorem c91_bad (h : NMp W G b bs bl be bk n) (ok : n.Ok) (raw : Bs) {m : Msg} (hd : decMsg raw = some m) (hno : m.to ≠ n.sy.el.id ∨ m.frm = m.to) : Calls Tryz.prog 91 #[vp b, vs raw] W (DidN G W b bs bl be bk ⟨12, [], []⟩ n) := by
  have hc := h.hb.cell
  have ib := h.hb.inB
  have lb : b < W.heap.size := ib
  have HB := hidIt h.hb
  have lG : ¬ G W.heap.size := fun a => by have := h.wi _ a; omega
  unfold NoR at hc HB
  have hFr := hidIt (fun w' (m : ModP (fun _ => False) W w') => h.frame m (fun _ _ f => f))
  have hV := hidIt (fun w' (m : ModP (fun _ => False) W w') => by obtain ⟨G1, g1, -⟩ := (h.frame m (fun _ _ f => f)).hs; exact c97 g1 ok.sy.lg)
  unfold AS.view at hV
  have hD := hidIt (c138 (W.alloc (.cells (DidR.cells ⟨0, .slice none 0 0, .slice none 0 0⟩) 117 (0, 0))) raw)
  have LG := hidIt lG
  unfold DecRes at hD
  rw [hd] at hD
  obtain ⟨mk, mf, mt, mtm, mi, ml, mc, mo, me, md⟩ := m
  simp only [Msg.r, MsgR.cells] at hD hno
  have hN := hidIt (fun w' (m : ModP (fun _ => False) W w') => (show NB G W b bs bl be bk n w' from (NB.start h).fr m).did 12)
  clear h ok lG hd
  by_cases q1 : mt = n.sy.el.id
  · have q2 := hno.resolve_left (fun h => h q1)
    have q1' : (mt != n.sy.el.id) = false := by simp [q1]
    have q2' : (mf == mt) = true := by simp [q2]
    clear hno q1 q2
    go_enter Tryz.func91, Tryz.ntmps91
    go_wp2_with (first
      | (go_at_call 138; refine hD.out.mono ?_; rintro _ w1 ⟨m1, v1, rfl, he1⟩; obtain ⟨ad1, cap1, rfl, -⟩ := ownsRow_form he1; have q1 : ModP (fun _ => False) (W.alloc (.cells (DidR.cells ⟨0, .slice none 0 0, .slice none 0 0⟩) 117 (0, 0))) w1 := m1.toP0; have M1 := hidIt (((ModP.refl _ _).alloc _).trans q1); have Hz1 := hidIt (q1.at (World.At_alloc_new (w := W)) (fun x => x)); have hb1 := M1.out.at HB.out (fun x => x); have hc1 := hb1.cell; have ib1 := hb1.inB; have He1 := hidIt he1; clear m1 q1 hb1 he1)
      | (go_at_call 97; refine (hV.out _ (ModP.alloc M1.out _)).mono ?_; rintro _ w2 ⟨bv, rfl, lv, hv, m2⟩; have M2 := hidIt ((ModP.alloc M1.out _).trans m2); have M12 := hidIt ((ModP.alloc (ModP.refl _ _) _).trans m2); have hb2 := M2.out.at HB.out (fun x => x); have hz2 := m2.at (World.At.alloc Hz1.out _) (fun x => x); have hm2 := m2.at (World.At_alloc_new (w := w1) (c := MsgR.cells (MsgR.mk mk mf mt mtm mi ml mc mo (.slice ad1 me.length cap1) md)) (T := 159)) (fun x => x); have lz1 := Hz1.out.inB; clear m2 hc hc1 ib1; obtain ⟨z2, rfl, iz2⟩ := hz2.door; have nb4 : b ≠ W.heap.size := (by omega); have nv4 : bv ≠ W.heap.size := (by have : W.heap.size < w1.heap.size := lz1; simp only [World.alloc, Array.size_push] at lv; omega); have nm4 : w1.heap.size ≠ W.heap.size := (by have : W.heap.size < w1.heap.size := lz1; omega); have e1 := (World.At_put_ne' nb4).1 hb2; have e2 := (World.At_put_ne' nv4).1 hv; have e3 := (World.At_put_ne' nm4).1 hm2; have hc2 := e1.cell; have ib2 := e1.inB; have hcv := e2.cell; have iv := e2.inB; have hcm := e3.cell; have im := e3.inB; have E3 := hidIt e3; clear e1 e2 e3 hb2 hv hm2 hz2))
    refine Ord.region1 [] [0, 1, 2, 3, 4, 5, 6, 7, 8, 9, 10, 11, 12, 13, 14, 15, 16] [17] (by kernel_rfl) (by kernel_rfl) (fun _ _ d _ _ h => by cases d <;> exact h) ?_
    simp only [Ord.pickO, Ord.nth]
    refine wpQuiet_nil ?_
    repeat (go_big_quiet_step (fail))
    refine wpQuiet_nil ?_
    go_wp2_with fail
    refine bodyPost_ret (v := .agg (DidR.cells ⟨12, .slice none 0 0, .slice none 0 0⟩)) (by simp [results, Tryz.results91, go_sem, DidR.cells, iz2]) rfl ?_
    refine hN.out _ ?_
    exact ModP.drew ((M2.out.unput (.inr (Nat.le_refl _))).put (.inr (Nat.le_refl _)) _ _)
  · have q1' : (mt != n.sy.el.id) = true := by simp [q1]
    clear hno q1
    go_enter Tryz.func91, Tryz.ntmps91
    go_wp2_with (first
      | (go_at_call 138; refine hD.out.mono ?_; rintro _ w1 ⟨m1, v1, rfl, he1⟩; obtain ⟨ad1, cap1, rfl, -⟩ := ownsRow_form he1; have q1 : ModP (fun _ => False) (W.alloc (.cells (DidR.cells ⟨0, .slice none 0 0, .slice none 0 0⟩) 117 (0, 0))) w1 := m1.toP0; have M1 := hidIt (((ModP.refl _ _).alloc _).trans q1); have Hz1 := hidIt (q1.at (World.At_alloc_new (w := W)) (fun x => x)); have hb1 := M1.out.at HB.out (fun x => x); have hc1 := hb1.cell; have ib1 := hb1.inB; have He1 := hidIt he1; clear m1 q1 hb1 he1)
      | (go_at_call 97; refine (hV.out _ (ModP.alloc M1.out _)).mono ?_; rintro _ w2 ⟨bv, rfl, lv, hv, m2⟩; have M2 := hidIt ((ModP.alloc M1.out _).trans m2); have M12 := hidIt ((ModP.alloc (ModP.refl _ _) _).trans m2); have hb2 := M2.out.at HB.out (fun x => x); have hz2 := m2.at (World.At.alloc Hz1.out _) (fun x => x); have hm2 := m2.at (World.At_alloc_new (w := w1) (c := MsgR.cells (MsgR.mk mk mf mt mtm mi ml mc mo (.slice ad1 me.length cap1) md)) (T := 159)) (fun x => x); have lz1 := Hz1.out.inB; clear m2 hc hc1 ib1; obtain ⟨z2, rfl, iz2⟩ := hz2.door; have nb4 : b ≠ W.heap.size := (by omega); have nv4 : bv ≠ W.heap.size := (by have : W.heap.size < w1.heap.size := lz1; simp only [World.alloc, Array.size_push] at lv; omega); have nm4 : w1.heap.size ≠ W.heap.size := (by have : W.heap.size < w1.heap.size := lz1; omega); have e1 := (World.At_put_ne' nb4).1 hb2; have e2 := (World.At_put_ne' nv4).1 hv; have e3 := (World.At_put_ne' nm4).1 hm2; have hc2 := e1.cell; have ib2 := e1.inB; have hcv := e2.cell; have iv := e2.inB; have hcm := e3.cell; have im := e3.inB; have E3 := hidIt e3; clear e1 e2 e3 hb2 hv hm2 hz2))
    refine Ord.region1 [] [0, 1, 2, 3, 4, 5, 6, 7, 8, 9, 10, 11, 12, 13, 14, 15, 16] [17] (by kernel_rfl) (by kernel_rfl) (fun _ _ d _ _ h => by cases d <;> exact h) ?_
    simp only [Ord.pickO, Ord.nth]
    refine wpQuiet_nil ?_
    repeat (go_big_quiet_step (fail))
    refine wpQuiet_nil ?_
    go_wp2_with fail
    refine bodyPost_ret (v := .agg (DidR.cells ⟨12, .slice none 0 0, .slice none 0 0⟩)) (by simp [results, Tryz.results91, go_sem, DidR.cells, iz2]) rfl ?_
    refine hN.out _ ?_
    exact ModP.drew ((M2.out.unput (.inr (Nat.le_refl _))).put (.inr (Nat.le_refl _)) _ _)
theorem c91_ok (h : NMp W G b bs bl be bk n) (ok : n.Ok) (hn : n.sy.lg.hist.length ≤ 6900) (raw : Bs) {m : Msg} (hd : decMsg raw = some m) (hto : m.to = n.sy.el.id) (hfr : m.frm ≠ m.to) :
    Calls Tryz.prog 91 #[vp b, vs raw] W (DidN G W b bs bl be bk (AN.after { n with sy := (n.sy.step m).2 } (n.sy.step m).1).1 (AN.after { n with sy := (n.sy.step m).2 } (n.sy.step m).1).2) := by
  have hc := h.hb.cell
  have ib := h.hb.inB
  have lb : b < W.heap.size := ib
  have HB := hidIt h.hb
  have lG : ¬ G W.heap.size := fun a => by have := h.wi _ a; omega
  unfold NoR at hc HB
  have hFr := hidIt (fun w' (m : ModP (fun _ => False) W w') => h.frame m (fun _ _ f => f))
  have hV := hidIt (fun w' (m : ModP (fun _ => False) W w') => by obtain ⟨G1, g1, -⟩ := (h.frame m (fun _ _ f => f)).hs; exact c97 g1 ok.sy.lg)
  unfold AS.view at hV
  have hD := hidIt (c138 (W.alloc (.cells (DidR.cells ⟨0, .slice none 0 0, .slice none 0 0⟩) 117 (0, 0))) raw)
  have LG := hidIt lG
  have hWi := hidIt h.wi
  unfold DecRes at hD
  rw [hd] at hD
  have hE := hidIt (fun w' (mm : ModP (fun _ => False) W w') (v : Value) (hv : EntsAt (W.heap.size + 1) w' v m.ents) => (h.frame mm (fun _ _ f => f)).event (ms := (n.sy.step m).1) (A' := (n.sy.step m).2) (f := 139) (args := #[vp bs, .agg (m.r v).cells]) (fun G1 g1 g2 => c139 g1 ok.sy hn hv (fun g hg a => by have := (ownsRow_block hv hg).2; have := h.wi _ (g2 g a); omega)))
  have Hok := hidIt (ok.with_sy (ok.sy.step m))
  have Hms := hidIt (ok.sy.step_msgs m)
  have Hml := hidIt (n.sy.step_cnt m)
  have Hl : Hid ((n.sy.step m).2.lg.hist.length ≤ 8900) := by unfold Hid; have := AS.step_len ok.sy m; omega
  generalize (n.sy.step m).1 = ms at *
  generalize (n.sy.step m).2 = A1 at *
  obtain ⟨mk, mf, mt, mtm, mi, ml, mc, mo, me, md⟩ := m
  simp only [Msg.r, MsgR.cells] at hD hto hfr hE
  clear h ok lG hd hn
  have q1' : (mt != n.sy.el.id) = false := by simp [hto]
  have q2' : (mf == mt) = false := by simpa using hfr
  clear hto hfr
  go_enter Tryz.func91, Tryz.ntmps91
  go_wp2_with (first
    | (go_at_call 138; refine hD.out.mono ?_; rintro _ w1 ⟨m1, v1, rfl, he1⟩; obtain ⟨ad1, cap1, rfl, -⟩ := ownsRow_form he1; have q1 : ModP (fun _ => False) (W.alloc (.cells (DidR.cells ⟨0, .slice none 0 0, .slice none 0 0⟩) 117 (0, 0))) w1 := m1.toP0; have M1 := hidIt (((ModP.refl _ _).alloc _).trans q1); have Hz1 := hidIt (q1.at (World.At_alloc_new (w := W)) (fun x => x)); have hb1 := M1.out.at HB.out (fun x => x); have hc1 := hb1.cell; have ib1 := hb1.inB; have He1 := hidIt he1; clear m1 q1 hb1 he1)
    | (go_at_call 97; refine (hV.out _ (ModP.alloc M1.out _)).mono ?_; rintro _ w2 ⟨bv, rfl, lv, hv, m2⟩; have M2 := hidIt ((ModP.alloc M1.out _).trans m2); have M12 := hidIt ((ModP.alloc (ModP.refl _ _) _).trans m2); have hb2 := M2.out.at HB.out (fun x => x); have hz2 := m2.at (World.At.alloc Hz1.out _) (fun x => x); have hm2 := m2.at (World.At_alloc_new (w := w1) (c := MsgR.cells (MsgR.mk mk mf mt mtm mi ml mc mo (.slice ad1 me.length cap1) md)) (T := 159)) (fun x => x); have lz1 := Hz1.out.inB; clear m2 hc hc1 ib1; obtain ⟨z2, rfl, iz2⟩ := hz2.door; have nb4 : b ≠ W.heap.size := (by omega); have nv4 : bv ≠ W.heap.size := (by have : W.heap.size < w1.heap.size := lz1; simp only [World.alloc, Array.size_push] at lv; omega); have nm4 : w1.heap.size ≠ W.heap.size := (by have : W.heap.size < w1.heap.size := lz1; omega); have e1 := (World.At_put_ne' nb4).1 hb2; have e2 := (World.At_put_ne' nv4).1 hv; have e3 := (World.At_put_ne' nm4).1 hm2; have hc2 := e1.cell; have ib2 := e1.inB; have hcv := e2.cell; have iv := e2.inB; have hcm := e3.cell; have im := e3.inB; have E3 := hidIt e3; clear e1 e2 e3 hb2 hv hm2 hz2))
  refine Ord.region1 [] [0, 1, 2, 3, 4, 5, 6, 7, 8, 9, 10, 11, 12, 13, 14, 15, 16] [17] (by kernel_rfl) (by kernel_rfl) (fun _ _ d _ _ h => by cases d <;> exact h) ?_
  simp only [Ord.pickO, Ord.nth]
  refine wpQuiet_nil ?_
  repeat (go_big_quiet_step (fail))
  refine wpQuiet_nil ?_
  go_wp2_with fail
  refine Ord.region1 [] [0, 1, 2, 3, 4] [5, 6] (by kernel_rfl) (by kernel_rfl) (fun _ _ d _ _ h => by cases d <;> exact h) ?_
  simp only [Ord.pickO, Ord.nth]
  refine wpQuiet_nil ?_
  repeat (go_big_quiet_step (fail))
  refine wpQuiet_nil ?_
  have Hq : Hid (ModP (fun _ => False) W (z2.put W.heap.size (DidR.cells ⟨0, .slice none 0 0, .slice none 0 0⟩) 117)) := M2.out
  have Hs2 : Hid (W.heap.size < z2.heap.size) := iz2
  go_wp2_with (first
    | (go_at_call 139; refine (hE.out _ (ModP.drew (ModP.drew Hq.out)) _ (ownsRow_low (ownsRow_frame He1.out (ModP.drew (ModP.drew M12.out)) (fun _ _ f => f)) (by simp only [World.alloc, Array.size_push]; omega))).mono ?_; rintro _ w4 ⟨vm, rfl, hm⟩; have Hm := hidIt hm; obtain ⟨adm, capm, rfl, -⟩ := MsgsX.form hm.msgs; clear hm)
    | (go_at_call 99; refine (c99 Hm.out Hok.out Hl.out Hms.out Hml.out).mono ?_; intro r9 w9 D9; obtain ⟨v9, rfl⟩ : ∃ v, r9 = .returned v := (by obtain ⟨vo, vr, X, e, -⟩ := D9; exact ⟨_, e⟩); obtain ⟨hz9, vo9, vr9, rfl, ⟨oa, oc, rfl⟩, ⟨ra, rc, rfl⟩, hD9⟩ := D9.cell (x := W.heap.size) (World.At_drew.2 (World.At_drew.2 (World.At_put_same iz2))) LG.out (by show W.heap.size < (z2.put _ _ _).heap.size; rw [World.size_put]; exact Hs2.out); have HD9 := hidIt hD9; clear D9 hD9; simp only [DidR.cells]; obtain ⟨z9, rfl, iz9⟩ := hz9.door; clear hz9))
  have h9 := HD9.out W (ModP.drew (ModP.drew Hq.out)) (Nat.le_refl _)
  generalize (AN.after { n with sy := A1 } ms).2 = n2 at *
  generalize (AN.after { n with sy := A1 } ms).1 = D2 at *
  refine bodyPost_ret (v := .agg (DidR.cells ⟨D2.err, .slice oa D2.outs.length oc, .slice ra D2.reps.length rc⟩)) (by simp [results, Tryz.results91, go_sem, DidR.cells, iz9]) rfl ?_
  have h9 := h9 (DidR.cells ⟨D2.err, .slice oa D2.outs.length oc, .slice ra D2.reps.length rc⟩)
  rw [World.put_put_same] at h9
  exact h9
theorem c91 (h : NMp W G b bs bl be bk n) (ok : n.Ok) (hn : n.sy.lg.hist.length ≤ 6900) (raw : Bs) : Calls Tryz.prog 91 #[vp b, vs raw] W (DidN G W b bs bl be bk (n.receive raw).1 (n.receive raw).2) := by
  unfold AN.receive
  cases hd : decMsg raw with
  | none => exact c91_none h ok raw hd
  | some m =>
    simp only []
    split
    · rename_i hq; exact c91_bad h ok raw hd hq
    · rename_i hq
      exact c91_ok h ok hn raw hd (Decidable.of_not_not (fun a => hq (.inl a))) (fun a => hq (.inr a))
end
end Go.Proofs.Qxb6500990aGreat
