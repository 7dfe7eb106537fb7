/- package nodem: Call -/
import Derived.Test.Qxb6500990aGreatNod11
set_option linter.unusedVariables false
set_option linter.unusedSimpArgs false
namespace Go.Tw
open Go Go.Proofs Go.Proofs.Qxb6500990aGreat Go.RowKit
section
variable {w w1 W : World} {G : Nat → Prop} {b bs bl be bk : Nat} {n n' : AN}
theorem NB.early (h : NB G W b bs bl be bk n w) {W0 : World} (m : ModP (fun _ => False) W0 W) : NB G W0 b bs bl be bk n w := by
  obtain ⟨G1, h1, h2, h3⟩ := h
  exact ⟨G1, h1, fun k a => (h2 k a).elim .inl (fun c => .inr (Nat.le_trans m.size c)), (m.mono fun _ f => f.elim).trans h3⟩
/-- a block that is none of the node's is written -/
theorem NB.beside (h : NB G W b bs bl be bk n w) {x : Nat} (hG : ¬ G x) (hl : x < W.heap.size) {W0 : World} (m : ModP (fun _ => False) W0 W) (l0 : W0.heap.size ≤ x) (c : Array Value) (T : TypeId) : NB G W0 b bs bl be bk n (w.put x c T) := by
  obtain ⟨G1, h1, h2, h3⟩ := h
  have mp : ModP (fun k => k = x) w (w.put x c T) := (ModP.refl (fun k => k = x) w).put (.inl rfl) _ _
  have nG : ¬ G1 x := fun a => (h2 x a).elim hG (fun c => by omega)
  exact ⟨G1, h1.frame mp (fun k a e => nG (e ▸ a)), fun k a => (h2 k a).elim .inl (fun c => .inr (Nat.le_trans m.size c)), ((m.mono fun _ f => f.elim).trans h3).step mp (fun k e => .inr (by rw [e]; exact l0))⟩
end
theorem AS.propose_len (A : AS) (d : Bs) : (A.propose d).2.lg.hist.length ≤ A.lg.hist.length + 1 := by
  unfold AS.propose
  split
  · simp only []; omega
  · split
    · simp only []; omega
    · split
      · simp only []; omega
      · exact AL.append_len _ _
end Go.Tw
namespace Go.Proofs.Qxb6500990aGreat
open Go Go.RowKit Go.Tw
attribute [local go_sem] World.cell?_put_same World.cell?_put_ne World.cell?_put_ne' World.frozen?_put_same World.frozen?_put_ne World.frozen?_put_ne' World.setCell_put_same World.setCell_put_ne World.setCell_put_ne' World.inB_put World.inB_alloc World.inB_drew World.inB_drewN World.inB_new World.inB_setCell World.put_drew World.put_drewN World.q_setCell_drew World.q_setCell_drewN World.q_alloc_drew World.q_alloc_drewN World.put_put_same World.put_put_2 World.size_put World.q_cell?_alloc_old World.q_frozen?_alloc_old World.cell?_alloc_new' World.frozen?_alloc_new' World.q_setCell_alloc_old World.q_setCell_alloc_new World.q_put_alloc_old World.cell?_force_same World.frozen?_force_same World.cell?_force2_fst World.cell?_force2_snd NodeM.g0 NodeM.s0 NodeM.g1 NodeM.s1 NodeM.g2 NodeM.s2 NodeM.g3 NodeM.s3 NodeM.g4 NodeM.s4 NodeM.g5 NodeM.s5 NodeM.g6 NodeM.s6 NodeM.g7 NodeM.s7 NodeM.g8 NodeM.s8 NodeM.g9 NodeM.s9 NodeM.g10 NodeM.s10 NodeM.g11 NodeM.s11 NodeM.gi_used_0 NodeM.si_used_0 NodeM.gi_seq_0 NodeM.si_seq_0 NodeM.gi_idx_0 NodeM.si_idx_0 SyncV.g0 SyncV.s0 SyncV.g1 SyncV.s1 SyncV.g2 SyncV.s2 SyncV.g3 SyncV.s3 SyncV.g4 SyncV.s4 SyncV.g5 SyncV.s5 SyncV.g6 SyncV.s6 SyncV.g7 SyncV.s7 SyncV.g8 SyncV.s8 SyncV.g9 SyncV.s9 SyncV.g10 SyncV.s10 SyncV.g11 SyncV.s11 SyncV.g12 SyncV.s12 SyncV.g13 SyncV.s13 SyncV.g14 SyncV.s14 SyncV.g15 SyncV.s15 SyncV.g16 SyncV.s16 SyncV.g17 SyncV.s17 SyncV.g18 SyncV.s18 SyncV.g19 SyncV.s19 SyncV.gi_got_0 SyncV.si_got_0 SyncV.gi_next_0 SyncV.si_next_0 SyncV.gi_mtch_0 SyncV.si_mtch_0 NodeV.g0 NodeV.s0 NodeV.g1 NodeV.s1 NodeV.g2 NodeV.s2 NodeV.g3 NodeV.s3 NodeV.g4 NodeV.s4 NodeV.g5 NodeV.s5 NodeV.g6 NodeV.s6 NodeV.g7 NodeV.s7 NodeV.g8 NodeV.s8 NodeV.g9 NodeV.s9 NodeV.g10 NodeV.s10 NodeV.gi_used_0 NodeV.si_used_0 NodeV.gi_seq_0 NodeV.si_seq_0 NodeV.gi_idx_0 NodeV.si_idx_0 Entry.g0 Entry.s0 Entry.g1 Entry.s1 Ans.g0 Ans.s0 Ans.g1 Ans.s1 Cmd.g0 Cmd.s0 Cmd.g1 Cmd.s1 Cmd.g2 Cmd.s2 Cmd.g3 Cmd.s3 Cmd.g4 Cmd.s4 Cmd.g5 Cmd.s5 DidR.g0 DidR.s0 DidR.g1 DidR.s1 DidR.g2 DidR.s2 Reply.g0 Reply.s0 Reply.g1 Reply.s1 Reply.g2 Reply.s2 Reply.g3 Reply.s3 OutM.g0 OutM.s0 OutM.g1 OutM.s1 MsgR.g0 MsgR.s0 MsgR.g1 MsgR.s1 MsgR.g2 MsgR.s2 MsgR.g3 MsgR.s3 MsgR.g4 MsgR.s4 MsgR.g5 MsgR.s5 MsgR.g6 MsgR.s6 MsgR.g7 MsgR.s7 MsgR.g8 MsgR.s8 MsgR.g9 MsgR.s9
attribute [local go_sem] ba_get ba_eq ba_beq upd_same upd_upd
set_option maxHeartbeats 4000000
set_option maxRecDepth 100000
section
variable {W w : World} {G : Nat → Prop} {b bs bl be bk : Nat} {n : AN}
theorem c47_a (h : NMp W G b bs bl be bk n) (ok : n.Ok) (c : Cmd) (hcm : cmdOK c = false) : Calls Tryz.prog 47 #[vp b, .agg c.cells] W (DidN G W b bs bl be bk ⟨9, [], []⟩ n) := by
  have hc := h.hb.cell
  have ib := h.hb.inB
  have lb : b < W.heap.size := ib
  have HB := hidIt h.hb
  unfold NoR at hc HB
  have hV := hidIt (fun w' (m : ModP (fun _ => False) W w') => by obtain ⟨G1, g1, -⟩ := (h.frame m (fun _ _ f => f)).hs; exact c97 g1 ok.sy.lg)
  unfold AS.view at hV
  have hN := hidIt (fun w' (m : ModP (fun _ => False) W w') e => (show NB G W b bs bl be bk n w' from (NB.start h).fr m).did e)
  obtain ⟨cop, ccl, csq, ck, cv, co⟩ := c
  have hOk := hidIt (fun w' => c93 w' ⟨cop, ccl, csq, ck, cv, co⟩)
  unfold Tw.Cmd.cells at hOk
  rw [hcm] at hOk
  clear h ok hcm
  go_enter Tryz.func47, Tryz.ntmps47
  go_wp2_with (first
    | (go_at_call 93; refine (hOk.out _).mono ?_; rintro _ w1 ⟨rfl, xo, hw1⟩; have q1 : ModP (fun _ => False) ((W.alloc (.cells (Cmd.cells ⟨cop, ccl, csq, ck, cv, co⟩) 123 (0, 0))).alloc (.cells (DidR.cells ⟨0, .slice none 0 0, .slice none 0 0⟩) 117 (0, 0))) w1 := (by rw [hw1]; exact (ModP.refl _ _).alloc _); have M1 := hidIt ((((ModP.refl _ _).alloc _).alloc _).trans q1); have hx1 := q1.at ((World.At_alloc_new (w := W)).alloc _) (fun x => x); have hz1 := q1.at (b := W.heap.size + 1) (c := DidR.cells ⟨0, .slice none 0 0, .slice none 0 0⟩) (T := 117) (at_new (by simp only [World.alloc, Array.size_push])) (fun x => x); have hb1 := M1.out.at HB.out (fun x => x); clear hw1 q1; obtain ⟨z1, rfl, iz1⟩ := hz1.door; have nx : W.heap.size ≠ W.heap.size + 1 := (by omega); have nb : b ≠ W.heap.size + 1 := (by omega); have e1 := (World.At_put_ne' nx).1 hx1; have e2 := (World.At_put_ne' nb).1 hb1; have hcx := e1.cell; have ix := e1.inB; have hcb := e2.cell; have ibb := e2.inB; clear e1 e2 hz1 hx1 hb1 hc))
  refine bodyPost_ret (v := .agg (DidR.cells ⟨9, .slice none 0 0, .slice none 0 0⟩)) (by simp [results, Tryz.results47, go_sem, DidR.cells, iz1]) rfl ?_
  refine hN.out _ ?_ 9
  exact (by repeat (first | exact (((M1).out.unput (.inr (by omega))).put (.inr (by omega)) _ _) | apply ModP.drew))
theorem c47_b (h : NMp W G b bs bl be bk n) (ok : n.Ok) (c : Cmd) (hcm : cmdOK c = true) (hr : n.sy.el.role ≠ 2) : Calls Tryz.prog 47 #[vp b, .agg c.cells] W (DidN G W b bs bl be bk ⟨8, [], []⟩ n) := by
  have hc := h.hb.cell
  have ib := h.hb.inB
  have lb : b < W.heap.size := ib
  have HB := hidIt h.hb
  unfold NoR at hc HB
  have hV := hidIt (fun w' (m : ModP (fun _ => False) W w') => by obtain ⟨G1, g1, -⟩ := (h.frame m (fun _ _ f => f)).hs; exact c97 g1 ok.sy.lg)
  unfold AS.view at hV
  have hN := hidIt (fun w' (m : ModP (fun _ => False) W w') e => (show NB G W b bs bl be bk n w' from (NB.start h).fr m).did e)
  obtain ⟨cop, ccl, csq, ck, cv, co⟩ := c
  have hOk := hidIt (fun w' => c93 w' ⟨cop, ccl, csq, ck, cv, co⟩)
  unfold Tw.Cmd.cells at hOk
  rw [hcm] at hOk
  have hr' : (n.sy.el.role == 2) = false := by simpa using hr
  clear h ok hcm hr
  go_enter Tryz.func47, Tryz.ntmps47
  go_wp2_with (first
    | (go_at_call 93; refine (hOk.out _).mono ?_; rintro _ w1 ⟨rfl, xo, hw1⟩; have q1 : ModP (fun _ => False) ((W.alloc (.cells (Cmd.cells ⟨cop, ccl, csq, ck, cv, co⟩) 123 (0, 0))).alloc (.cells (DidR.cells ⟨0, .slice none 0 0, .slice none 0 0⟩) 117 (0, 0))) w1 := (by rw [hw1]; exact (ModP.refl _ _).alloc _); have M1 := hidIt ((((ModP.refl _ _).alloc _).alloc _).trans q1); have hx1 := q1.at ((World.At_alloc_new (w := W)).alloc _) (fun x => x); have hz1 := q1.at (b := W.heap.size + 1) (c := DidR.cells ⟨0, .slice none 0 0, .slice none 0 0⟩) (T := 117) (at_new (by simp only [World.alloc, Array.size_push])) (fun x => x); have hb1 := M1.out.at HB.out (fun x => x); clear hw1 q1; have hcx := hx1.cell; have ix := hx1.inB; have hcb := hb1.cell; have ibb := hb1.inB; have Hx1 := hidIt hx1; have Hz1 := hidIt hz1; clear hx1 hb1 hz1 hc)
    | (go_at_call 97; refine (hV.out _ M1.out).mono ?_; rintro _ w2 ⟨bv, rfl, lv, hv, m2⟩; have M2 := hidIt (M1.out.trans m2); have hb2 := M2.out.at HB.out (fun x => x); have hx2 := m2.at Hx1.out (fun x => x); have hz2 := m2.at Hz1.out (fun x => x); have lz : W.heap.size + 1 < w1.heap.size := Hz1.out.inB; clear m2 hcx ix hcb ibb; obtain ⟨z2, rfl, iz2⟩ := hz2.door; have nx : W.heap.size ≠ W.heap.size + 1 := (by omega); have nb : b ≠ W.heap.size + 1 := (by omega); have nv : bv ≠ W.heap.size + 1 := (by omega); have e1 := (World.At_put_ne' nx).1 hx2; have e2 := (World.At_put_ne' nb).1 hb2; have e3 := (World.At_put_ne' nv).1 hv; have hcx2 := e1.cell; have ix2 := e1.inB; have hcb2 := e2.cell; have ibb2 := e2.inB; have hcv := e3.cell; have iv := e3.inB; clear e1 e2 e3 hz2 hx2 hb2 hv))
  refine bodyPost_ret (v := .agg (DidR.cells ⟨8, .slice none 0 0, .slice none 0 0⟩)) (by simp [results, Tryz.results47, go_sem, DidR.cells, iz2]) rfl ?_
  refine hN.out _ ?_ 8
  exact (by repeat (first | exact (((M2).out.unput (.inr (by omega))).put (.inr (by omega)) _ _) | apply ModP.drew))
theorem c47_c (h : NMp W G b bs bl be bk n) (ok : n.Ok) (c : Cmd) (hcm : cmdOK c = true) (hr : n.sy.el.role = 2) (hu : n.used c.client.toNat = true) : Calls Tryz.prog 47 #[vp b, .agg c.cells] W (DidN G W b bs bl be bk ⟨14, [], []⟩ n) := by
  obtain ⟨_, _, cl0, cl1, _⟩ := cmdOK_bounds hcm
  have hc := h.hb.cell
  have ib := h.hb.inB
  have lb : b < W.heap.size := ib
  have HB := hidIt h.hb
  unfold NoR at hc HB
  have hV := hidIt (fun w' (m : ModP (fun _ => False) W w') => by obtain ⟨G1, g1, -⟩ := (h.frame m (fun _ _ f => f)).hs; exact c97 g1 ok.sy.lg)
  unfold AS.view at hV
  have hN := hidIt (fun w' (m : ModP (fun _ => False) W w') e => (show NB G W b bs bl be bk n w' from (NB.start h).fr m).did e)
  obtain ⟨cop, ccl, csq, ck, cv, co⟩ := c
  have hOk := hidIt (fun w' => c93 w' ⟨cop, ccl, csq, ck, cv, co⟩)
  unfold Tw.Cmd.cells at hOk
  simp only [] at cl0 cl1 hu
  have cl3 : ccl.toNat < 3 := by omega
  rw [hcm] at hOk
  rw [hr] at hV
  clear h ok hcm hr
  go_enter Tryz.func47, Tryz.ntmps47
  go_wp2_with (first
    | (go_at_call 93; refine (hOk.out _).mono ?_; rintro _ w1 ⟨rfl, xo, hw1⟩; have q1 : ModP (fun _ => False) ((W.alloc (.cells (Cmd.cells ⟨cop, ccl, csq, ck, cv, co⟩) 123 (0, 0))).alloc (.cells (DidR.cells ⟨0, .slice none 0 0, .slice none 0 0⟩) 117 (0, 0))) w1 := (by rw [hw1]; exact (ModP.refl _ _).alloc _); have M1 := hidIt ((((ModP.refl _ _).alloc _).alloc _).trans q1); have hx1 := q1.at ((World.At_alloc_new (w := W)).alloc _) (fun x => x); have hz1 := q1.at (b := W.heap.size + 1) (c := DidR.cells ⟨0, .slice none 0 0, .slice none 0 0⟩) (T := 117) (at_new (by simp only [World.alloc, Array.size_push])) (fun x => x); have hb1 := M1.out.at HB.out (fun x => x); clear hw1 q1; have hcx := hx1.cell; have ix := hx1.inB; have hcb := hb1.cell; have ibb := hb1.inB; have Hx1 := hidIt hx1; have Hz1 := hidIt hz1; clear hx1 hb1 hz1 hc)
    | (go_at_call 97; refine (hV.out _ M1.out).mono ?_; rintro _ w2 ⟨bv, rfl, lv, hv, m2⟩; have M2 := hidIt (M1.out.trans m2); have hb2 := M2.out.at HB.out (fun x => x); have hx2 := m2.at Hx1.out (fun x => x); have hz2 := m2.at Hz1.out (fun x => x); have lz : W.heap.size + 1 < w1.heap.size := Hz1.out.inB; clear m2 hcx ix hcb ibb; obtain ⟨z2, rfl, iz2⟩ := hz2.door; have nx : W.heap.size ≠ W.heap.size + 1 := (by omega); have nb : b ≠ W.heap.size + 1 := (by omega); have nv : bv ≠ W.heap.size + 1 := (by omega); have e1 := (World.At_put_ne' nx).1 hx2; have e2 := (World.At_put_ne' nb).1 hb2; have e3 := (World.At_put_ne' nv).1 hv; have hcx2 := e1.cell; have ix2 := e1.inB; have hcb2 := e2.cell; have ibb2 := e2.inB; have hcv := e3.cell; have iv := e3.inB; clear e1 e2 e3 hz2 hx2 hb2 hv))
  refine Ord.region1 [] [0, 1, 2, 3, 4, 5] [6] (by kernel_rfl) (by kernel_rfl) (fun _ _ d _ _ h => by cases d <;> exact h) ?_
  simp only [Ord.pickO, Ord.nth]
  refine wpQuiet_nil ?_
  repeat (go_big_quiet_step (fail))
  refine wpQuiet_nil ?_
  go_wp2_with fail
  refine bodyPost_ret (v := .agg (DidR.cells ⟨14, .slice none 0 0, .slice none 0 0⟩)) (by simp [results, Tryz.results47, go_sem, DidR.cells, iz2]) rfl ?_
  refine hN.out _ ?_ 14
  exact (by repeat (first | exact (((M2).out.unput (.inr (by omega))).put (.inr (by omega)) _ _) | apply ModP.drew))
theorem c47_d (h : NMp W G b bs bl be bk n) (ok : n.Ok) (hn : n.sy.lg.hist.length ≤ 6900) (c : Cmd) (hcm : cmdOK c = true) (hr : n.sy.el.role = 2) (hu : ¬ n.used c.client.toNat = true) (he : (n.sy.propose (encCmd c)).1.2 ≠ 0) :
    Calls Tryz.prog 47 #[vp b, .agg c.cells] W (DidN G W b bs bl be bk ⟨(n.sy.propose (encCmd c)).1.2, [], []⟩ { n with sy := (n.sy.propose (encCmd c)).2 }) := by
  obtain ⟨_, _, cl0, cl1, _⟩ := cmdOK_bounds hcm
  have lG : ∀ k, W.heap.size ≤ k → ¬ G k := fun k a c => by have := h.wi _ c; omega
  have hFr := hidIt (fun w' (m : ModP (fun _ => False) W w') => (NB.start (h.frame m (fun _ _ f => f))).sync (P := fun r => r = .returned (.tuple #[vi (n.sy.propose (encCmd c)).1.1, vi (n.sy.propose (encCmd c)).1.2])) (A' := (n.sy.propose (encCmd c)).2) (fun G1 g1 => c98 (SB.start g1) ok.sy.lg (by omega) (encCmd c)))
  have hEc := hidIt (fun w' => c94 w' c hcm)
  have LG := hidIt lG
  have hc := h.hb.cell
  have ib := h.hb.inB
  have lb : b < W.heap.size := ib
  have HB := hidIt h.hb
  unfold NoR at hc HB
  have hV := hidIt (fun w' (m : ModP (fun _ => False) W w') => by obtain ⟨G1, g1, -⟩ := (h.frame m (fun _ _ f => f)).hs; exact c97 g1 ok.sy.lg)
  unfold AS.view at hV
  have hN := hidIt (fun w' (m : ModP (fun _ => False) W w') e => (show NB G W b bs bl be bk n w' from (NB.start h).fr m).did e)
  obtain ⟨cop, ccl, csq, ck, cv, co⟩ := c
  have hOk := hidIt (fun w' => c93 w' ⟨cop, ccl, csq, ck, cv, co⟩)
  unfold Tw.Cmd.cells at hOk
  simp only [] at cl0 cl1 hu
  have cl3 : ccl.toNat < 3 := by omega
  have hu' : n.used ccl.toNat = false := by simpa using hu
  rw [hcm] at hOk
  rw [hr] at hV
  unfold Tw.Cmd.cells at hEc
  generalize encCmd ⟨cop, ccl, csq, ck, cv, co⟩ = dat at *
  generalize (n.sy.propose dat).1.1 = pi at *
  generalize (n.sy.propose dat).1.2 = pe at *
  generalize (n.sy.propose dat).2 = A1 at *
  have he' : (pe == 0) = false := by simpa using he
  clear h ok hcm hr hu he hn lG
  go_enter Tryz.func47, Tryz.ntmps47
  go_wp2_with (first
    | (go_at_call 93; refine (hOk.out _).mono ?_; rintro _ w1 ⟨rfl, xo, hw1⟩; have q1 : ModP (fun _ => False) ((W.alloc (.cells (Cmd.cells ⟨cop, ccl, csq, ck, cv, co⟩) 123 (0, 0))).alloc (.cells (DidR.cells ⟨0, .slice none 0 0, .slice none 0 0⟩) 117 (0, 0))) w1 := (by rw [hw1]; exact (ModP.refl _ _).alloc _); have M1 := hidIt ((((ModP.refl _ _).alloc _).alloc _).trans q1); have hx1 := q1.at ((World.At_alloc_new (w := W)).alloc _) (fun x => x); have hz1 := q1.at (b := W.heap.size + 1) (c := DidR.cells ⟨0, .slice none 0 0, .slice none 0 0⟩) (T := 117) (at_new (by simp only [World.alloc, Array.size_push])) (fun x => x); have hb1 := M1.out.at HB.out (fun x => x); clear hw1 q1; have hcx := hx1.cell; have ix := hx1.inB; have hcb := hb1.cell; have ibb := hb1.inB; have Hx1 := hidIt hx1; have Hz1 := hidIt hz1; clear hx1 hb1 hz1 hc)
    | (go_at_call 97; refine (hV.out _ M1.out).mono ?_; rintro _ w2 ⟨bv, rfl, lv, hv, m2⟩; have M2 := hidIt (M1.out.trans m2); have hb2 := M2.out.at HB.out (fun x => x); have hx2 := m2.at Hx1.out (fun x => x); have hz2 := m2.at Hz1.out (fun x => x); have lz : W.heap.size + 1 < w1.heap.size := Hz1.out.inB; clear m2 hcx ix hcb ibb; have hcx2 := hx2.cell; have ix2 := hx2.inB; have hcb2 := hb2.cell; have ibb2 := hb2.inB; have hcv := hv.cell; have iv := hv.inB; have Hx2 := hidIt hx2; have Hz2 := hidIt hz2; clear hx2 hb2 hz2 hv))
  refine Ord.region1 [] [0, 1, 2, 3, 4, 5] [6] (by kernel_rfl) (by kernel_rfl) (fun _ _ d _ _ h => by cases d <;> exact h) ?_
  simp only [Ord.pickO, Ord.nth]
  refine wpQuiet_nil ?_
  repeat (go_big_quiet_step (fail))
  refine wpQuiet_nil ?_
  go_wp2_with (first
    | (go_at_call 94; refine (hEc.out _).mono ?_; rintro _ w3 ⟨rfl, m3⟩; have q3 : ModP (fun _ => False) w2 w3 := ModP.trans (by repeat (first | exact ModP.refl _ _ | apply ModP.drew)) m3.toP0; have M3 := hidIt (M2.out.trans q3); have hb3 := M3.out.at HB.out (fun x => x); have hcb3 := hb3.cell; have ibb3 := hb3.inB; have Hx3 := hidIt (q3.at Hx2.out (fun x => x)); have Hz3 := hidIt (q3.at Hz2.out (fun x => x)); clear m3 q3 hb3 hcx2 ix2 hcb2 ibb2 hcv iv)
    | (go_at_call 98; refine (hFr.out _ M3.out).mono ?_; rintro _ w4 ⟨rfl, S4⟩; have H4 := hidIt S4; have hx4 := S4.mod.at Hx3.out (LG.out _ (Nat.le_refl _)); have hz4 := S4.mod.at Hz3.out (LG.out _ (Nat.le_succ _)); clear S4 hcb3 ibb3; obtain ⟨z4, rfl, iz4⟩ := hz4.door; clear hz4 hx4))
  refine bodyPost_ret (v := .agg (DidR.cells ⟨pe, .slice none 0 0, .slice none 0 0⟩)) (by simp [results, Tryz.results47, go_sem, DidR.cells, iz4]) rfl ?_
  have h9 := H4.out.beside (x := W.heap.size + 1) (LG.out _ (Nat.le_succ _)) Hz3.out.inB M3.out (Nat.le_succ _) (DidR.cells ⟨pe, .slice none 0 0, .slice none 0 0⟩) 117
  rw [World.put_put_same] at h9
  exact h9.did pe
theorem c47_e (h : NMp W G b bs bl be bk n) (ok : n.Ok) (hn : n.sy.lg.hist.length ≤ 6900) (c : Cmd) (hcm : cmdOK c = true) (hr : n.sy.el.role = 2) (hu : ¬ n.used c.client.toNat = true) (he : (n.sy.propose (encCmd c)).1.2 = 0) :
    Calls Tryz.prog 47 #[vp b, .agg c.cells] W (DidN G W b bs bl be bk
      (AN.after { n with sy := (n.sy.propose (encCmd c)).2, used := upd n.used c.client.toNat true, seq := upd n.seq c.client.toNat c.seq, idx := upd n.idx c.client.toNat (n.sy.propose (encCmd c)).1.1 } []).1
      (AN.after { n with sy := (n.sy.propose (encCmd c)).2, used := upd n.used c.client.toNat true, seq := upd n.seq c.client.toNat c.seq, idx := upd n.idx c.client.toNat (n.sy.propose (encCmd c)).1.1 } []).2) := by
  have ok1 := ok.with_sy (ok.sy.propose (encCmd c))
  have hl1 : (n.sy.propose (encCmd c)).2.lg.hist.length ≤ 8900 := by have := n.sy.propose_len (encCmd c); omega
  obtain ⟨_, _, cl0, cl1, _⟩ := cmdOK_bounds hcm
  have lG : ∀ k, W.heap.size ≤ k → ¬ G k := fun k a c => by have := h.wi _ c; omega
  have hFr := hidIt (fun w' (m : ModP (fun _ => False) W w') => (NB.start (h.frame m (fun _ _ f => f))).sync (P := fun r => r = .returned (.tuple #[vi (n.sy.propose (encCmd c)).1.1, vi (n.sy.propose (encCmd c)).1.2])) (A' := (n.sy.propose (encCmd c)).2) (fun G1 g1 => c98 (SB.start g1) ok.sy.lg (by omega) (encCmd c)))
  have hEc := hidIt (fun w' => c94 w' c hcm)
  have LG := hidIt lG
  have hc := h.hb.cell
  have ib := h.hb.inB
  have lb : b < W.heap.size := ib
  have HB := hidIt h.hb
  unfold NoR at hc HB
  have hV := hidIt (fun w' (m : ModP (fun _ => False) W w') => by obtain ⟨G1, g1, -⟩ := (h.frame m (fun _ _ f => f)).hs; exact c97 g1 ok.sy.lg)
  unfold AS.view at hV
  have hN := hidIt (fun w' (m : ModP (fun _ => False) W w') e => (show NB G W b bs bl be bk n w' from (NB.start h).fr m).did e)
  obtain ⟨cop, ccl, csq, ck, cv, co⟩ := c
  have hOk := hidIt (fun w' => c93 w' ⟨cop, ccl, csq, ck, cv, co⟩)
  unfold Tw.Cmd.cells at hOk
  simp only [] at cl0 cl1 hu
  have cl3 : ccl.toNat < 3 := by omega
  have hu' : n.used ccl.toNat = false := by simpa using hu
  rw [hcm] at hOk
  rw [hr] at hV
  unfold Tw.Cmd.cells at hEc
  generalize encCmd ⟨cop, ccl, csq, ck, cv, co⟩ = dat at *
  simp only [] at *
  rw [he] at hFr
  generalize (n.sy.propose dat).1.1 = pi at *
  generalize (n.sy.propose dat).2 = A1 at *
  have Hok1 : Hid (AN.Ok { n with sy := A1, used := upd n.used ccl.toNat true, seq := upd n.seq ccl.toNat csq, idx := upd n.idx ccl.toNat pi }) := ⟨ok1.sy, ok1.kv, ok1.a0, ok1.a1⟩
  have Hl1 := hidIt hl1
  clear h ok hcm hr hu he hn lG ok1 hl1
  go_enter Tryz.func47, Tryz.ntmps47
  go_wp2_with (first
    | (go_at_call 93; refine (hOk.out _).mono ?_; rintro _ w1 ⟨rfl, xo, hw1⟩; have q1 : ModP (fun _ => False) ((W.alloc (.cells (Cmd.cells ⟨cop, ccl, csq, ck, cv, co⟩) 123 (0, 0))).alloc (.cells (DidR.cells ⟨0, .slice none 0 0, .slice none 0 0⟩) 117 (0, 0))) w1 := (by rw [hw1]; exact (ModP.refl _ _).alloc _); have M1 := hidIt ((((ModP.refl _ _).alloc _).alloc _).trans q1); have hx1 := q1.at ((World.At_alloc_new (w := W)).alloc _) (fun x => x); have hz1 := q1.at (b := W.heap.size + 1) (c := DidR.cells ⟨0, .slice none 0 0, .slice none 0 0⟩) (T := 117) (at_new (by simp only [World.alloc, Array.size_push])) (fun x => x); have hb1 := M1.out.at HB.out (fun x => x); clear hw1 q1; have hcx := hx1.cell; have ix := hx1.inB; have hcb := hb1.cell; have ibb := hb1.inB; have Hx1 := hidIt hx1; have Hz1 := hidIt hz1; clear hx1 hb1 hz1 hc)
    | (go_at_call 97; refine (hV.out _ M1.out).mono ?_; rintro _ w2 ⟨bv, rfl, lv, hv, m2⟩; have M2 := hidIt (M1.out.trans m2); have hb2 := M2.out.at HB.out (fun x => x); have hx2 := m2.at Hx1.out (fun x => x); have hz2 := m2.at Hz1.out (fun x => x); have lz : W.heap.size + 1 < w1.heap.size := Hz1.out.inB; clear m2 hcx ix hcb ibb; have hcx2 := hx2.cell; have ix2 := hx2.inB; have hcb2 := hb2.cell; have ibb2 := hb2.inB; have hcv := hv.cell; have iv := hv.inB; have Hx2 := hidIt hx2; have Hz2 := hidIt hz2; clear hx2 hb2 hz2 hv))
  refine Ord.region1 [] [0, 1, 2, 3, 4, 5] [6] (by kernel_rfl) (by kernel_rfl) (fun _ _ d _ _ h => by cases d <;> exact h) ?_
  simp only [Ord.pickO, Ord.nth]
  refine wpQuiet_nil ?_
  repeat (go_big_quiet_step (fail))
  refine wpQuiet_nil ?_
  go_wp2_with (first
    | (go_at_call 94; refine (hEc.out _).mono ?_; rintro _ w3 ⟨rfl, m3⟩; have q3 : ModP (fun _ => False) w2 w3 := ModP.trans (by repeat (first | exact ModP.refl _ _ | apply ModP.drew)) m3.toP0; have M3 := hidIt (M2.out.trans q3); have hb3 := M3.out.at HB.out (fun x => x); have hcb3 := hb3.cell; have ibb3 := hb3.inB; have Hx3 := hidIt (q3.at Hx2.out (fun x => x)); have Hz3 := hidIt (q3.at Hz2.out (fun x => x)); clear m3 q3 hb3 hcx2 ix2 hcb2 ibb2 hcv iv)
    | (go_at_call 98; refine (hFr.out _ M3.out).mono ?_; rintro _ w4 ⟨rfl, S4⟩; have H4 := hidIt S4; have hx4 := S4.mod.at Hx3.out (LG.out _ (Nat.le_refl _)); have hz4 := S4.mod.at Hz3.out (LG.out _ (Nat.le_succ _)); clear S4 hcb3 ibb3; have Hx4 := hidIt hx4; clear hx4 hz4))
  have ncx := At.neT Hx4.out H4.out.hb (by decide)
  obtain ⟨y4, rfl, iy4, HS4⟩ := H4.out.door
  have e4 := (World.At_put_ne' ncx).1 Hx4.out
  have hcx4 := e4.cell
  have ix4 := e4.inB
  have E4 := hidIt e4
  clear e4 Hx4 H4
  have Hxc : Hid (∃ y, y = W.heap.size) := ⟨_, rfl⟩
  generalize hxc : W.heap.size = xc at *
  have Hxd := hidIt hxc
  clear hxc
  refine Ord.region3 (fun w' => ∃ u : World, w' = u.force xc (Cmd.cells ⟨cop, ccl, csq, ck, cv, co⟩) 123) [3, 4, 5, 6, 7, 8, 9, 10, 11, 16, 17, 20, 21] [0, 1, 2, 12, 13, 14] (.one 15 true (.one 18 true (.one 19 true (.val 22 (.one 23 false .fin))))) false (fun h => by cases h) (by kernel_rfl) (by kernel_rfl) (fun _ _ d _ _ h => by cases d <;> exact h) ?ca12_1 ?_
  rotate_left
  simp only [Ord.pickO, Ord.nth]
  repeat (go_big_quiet_step (fail))
  refine wpQuiet_nil ?_
  repeat (go_big_quiet_step (fail))
  refine wpQuiet_nil ?_
  -- steps: ['L15', 'L18', 'L19', 'V22', 'N23']
  rotate_left
  · exact ca_of (by repeat (first | exact (World.At_put_ne' ncx).2 E4.out | refine World.At_drew.2 ?_))
  refine Ord.wpS_loose rfl ?_
  intro K hK
  dsimp only [Ord.nth]
  go_wp2_with fail
  refine hK _ _ (ca_of (by repeat (first | exact (World.At_put_ne' ncx).2 E4.out | refine World.At_drew.2 ?_))) ?_
  clear hK K
  refine Ord.wpS_loose rfl ?_
  intro K hK
  dsimp only [Ord.nth]
  go_wp2_with fail
  refine hK _ _ (ca_of (by repeat (first | exact (World.At_put_ne' ncx).2 E4.out | refine World.At_drew.2 ?_))) ?_
  clear hK K
  refine Ord.wpS_loose rfl ?_
  intro K hK
  dsimp only [Ord.nth]
  go_wp2_with fail
  refine hK _ _ (ca_of (by repeat (first | exact (World.At_put_ne' ncx).2 E4.out | refine World.At_drew.2 ?_))) ?_
  clear hK K
  refine Ord.wpS_val rfl ?_
  dsimp only [Ord.nth]
  go_big_quiet_step (fail)
  refine wpQuiet_nil ?_
  refine Ord.wpS_next rfl ?_
  intro K hK
  dsimp only [Ord.nth]
  go_wp2_with fail
  refine Ord.wpS_fin ?_
  have S5 := hidIt (HS4.out n.applied (upd n.used ccl.toNat true) (upd n.seq ccl.toNat csq) (upd n.idx ccl.toNat pi))
  go_wp2_with (first
    | (go_at_call 99; refine (c99 (S5.out.fr (by repeat (first | exact ModP.refl _ _ | apply ModP.drew))).bare' Hok1.out Hl1.out (fun m hm => by simp at hm) (by simp)).mono ?_; intro r9 w9 D9; obtain ⟨v9, rfl⟩ : ∃ v, r9 = .returned v := (by obtain ⟨vo, vr, X, e, -⟩ := D9; exact ⟨_, e⟩); obtain ⟨hz9, vo9, vr9, rfl, ⟨oa, oc, rfl⟩, ⟨ra, rc, rfl⟩, hD9⟩ := D9.cell (x := xc + 1) Hz3.out (LG.out _ (Nat.le_succ _)) Hz3.out.inB; have HD9 := hidIt hD9; clear D9 hD9; simp only [DidR.cells]; obtain ⟨z9, rfl, iz9⟩ := hz9.door; clear hz9))
  have h9 := HD9.out W M3.out (by rw [Hxd.out]; exact Nat.le_succ _)
  generalize (AN.after { n with sy := A1, used := upd n.used ccl.toNat true, seq := upd n.seq ccl.toNat csq, idx := upd n.idx ccl.toNat pi } []).2 = n2 at *
  generalize (AN.after { n with sy := A1, used := upd n.used ccl.toNat true, seq := upd n.seq ccl.toNat csq, idx := upd n.idx ccl.toNat pi } []).1 = D2 at *
  refine bodyPost_ret (v := .agg (DidR.cells ⟨D2.err, .slice oa D2.outs.length oc, .slice ra D2.reps.length rc⟩)) (by simp [results, Tryz.results47, go_sem, DidR.cells, iz9]) rfl ?_
  have h9 := h9 (DidR.cells ⟨D2.err, .slice oa D2.outs.length oc, .slice ra D2.reps.length rc⟩)
  rw [World.put_put_same] at h9
  exact h9
theorem c47 (h : NMp W G b bs bl be bk n) (ok : n.Ok) (hn : n.sy.lg.hist.length ≤ 6900) (c : Cmd) : Calls Tryz.prog 47 #[vp b, .agg c.cells] W (DidN G W b bs bl be bk (n.call c).1 (n.call c).2) := by
  unfold AN.call
  split
  · rename_i h1; exact c47_a h ok c h1
  · rename_i h1
    have h1' : cmdOK c = true := by simpa using h1
    split
    · rename_i h2; exact c47_b h ok c h1' h2
    · rename_i h2
      have h2' : n.sy.el.role = 2 := Decidable.of_not_not h2
      split
      · rename_i h3; exact c47_c h ok c h1' h2' h3
      · rename_i h3
        split
        · rename_i h4; exact c47_d h ok hn c h1' h2' h3 h4
        · rename_i h4; exact c47_e h ok hn c h1' h2' h3 (Decidable.of_not_not h4)
end
end Go.Proofs.Qxb6500990aGreat
