/- package nodem: View -/
import Derived.Test.Qxb6500990aGreatNod2
set_option linter.unusedVariables false
set_option linter.unusedSimpArgs false
namespace Go.Tw
open Go Go.Proofs.Qxb6500990aGreat
/-- a node's view in two new blocks -/
def ViewAt (W : World) (n : AN) (w : World) (b' bv : Nat) : Prop := W.heap.size ≤ b' ∧ W.heap.size ≤ bv ∧ w.At b' (NodeV.cells ⟨vp bv, n.applied, n.used, n.seq, n.idx⟩) 62 ∧ w.At bv n.sy.view.cells 64
end Go.Tw
namespace Go.Proofs.Qxb6500990aGreat
open Go Go.RowKit Go.Tw
attribute [local go_sem] World.cell?_put_same World.cell?_put_ne World.cell?_put_ne' World.frozen?_put_same World.frozen?_put_ne World.frozen?_put_ne' World.setCell_put_same World.setCell_put_ne World.setCell_put_ne' World.inB_put World.inB_alloc World.inB_drew World.inB_drewN World.inB_new World.inB_setCell World.put_drew World.put_drewN World.q_setCell_drew World.q_setCell_drewN World.q_alloc_drew World.q_alloc_drewN World.put_put_same World.put_put_2 World.size_put World.q_cell?_alloc_old World.q_frozen?_alloc_old World.cell?_alloc_new' World.frozen?_alloc_new' World.q_setCell_alloc_old World.q_setCell_alloc_new World.q_put_alloc_old World.cell?_force_same World.frozen?_force_same World.cell?_force2_fst World.cell?_force2_snd NodeM.g0 NodeM.s0 NodeM.g1 NodeM.s1 NodeM.g2 NodeM.s2 NodeM.g3 NodeM.s3 NodeM.g4 NodeM.s4 NodeM.g5 NodeM.s5 NodeM.g6 NodeM.s6 NodeM.g7 NodeM.s7 NodeM.g8 NodeM.s8 NodeM.g9 NodeM.s9 NodeM.g10 NodeM.s10 NodeM.g11 NodeM.s11 NodeM.gi_used_0 NodeM.si_used_0 NodeM.gi_seq_0 NodeM.si_seq_0 NodeM.gi_idx_0 NodeM.si_idx_0 SyncV.g0 SyncV.s0 SyncV.g1 SyncV.s1 SyncV.g2 SyncV.s2 SyncV.g3 SyncV.s3 SyncV.g4 SyncV.s4 SyncV.g5 SyncV.s5 SyncV.g6 SyncV.s6 SyncV.g7 SyncV.s7 SyncV.g8 SyncV.s8 SyncV.g9 SyncV.s9 SyncV.g10 SyncV.s10 SyncV.g11 SyncV.s11 SyncV.g12 SyncV.s12 SyncV.g13 SyncV.s13 SyncV.g14 SyncV.s14 SyncV.g15 SyncV.s15 SyncV.g16 SyncV.s16 SyncV.g17 SyncV.s17 SyncV.g18 SyncV.s18 SyncV.g19 SyncV.s19 SyncV.gi_got_0 SyncV.si_got_0 SyncV.gi_next_0 SyncV.si_next_0 SyncV.gi_mtch_0 SyncV.si_mtch_0 NodeV.g0 NodeV.s0 NodeV.g1 NodeV.s1 NodeV.g2 NodeV.s2 NodeV.g3 NodeV.s3 NodeV.g4 NodeV.s4 NodeV.g5 NodeV.s5 NodeV.g6 NodeV.s6 NodeV.g7 NodeV.s7 NodeV.g8 NodeV.s8 NodeV.g9 NodeV.s9 NodeV.g10 NodeV.s10 NodeV.gi_used_0 NodeV.si_used_0 NodeV.gi_seq_0 NodeV.si_seq_0 NodeV.gi_idx_0 NodeV.si_idx_0 Entry.g0 Entry.s0 Entry.g1 Entry.s1 Ans.g0 Ans.s0 Ans.g1 Ans.s1
attribute [local go_sem] ba_get upd_same upd_upd
set_option maxHeartbeats 4000000
set_option maxRecDepth 100000
section
variable {W w : World} {G : Nat → Prop} {b bs bl be bk : Nat} {n : AN}
theorem c101 (h : NMp W G b bs bl be bk n) (ok : n.sy.lg.now.Ok) : Calls Tryz.prog 101 #[vp b] W fun r w' => ∃ b' bv, r = .returned (vp b') ∧ ViewAt W n w' b' bv ∧ ModP (fun _ => False) W w' := by
  have hc := h.hb.cell
  have ib := h.hb.inB
  have hb := hidIt h.hb
  unfold NoR at hc hb
  have hM := hidIt (by obtain ⟨G1, g1, -⟩ := h.hs; exact c97 g1 ok)
  clear h ok
  go_enter Tryz.func101, Tryz.ntmps101
  go_wp2_with (first
    | (go_at_call 97; refine hM.out.mono ?_; rintro _ w1 ⟨bv, rfl, lv, hv, m1⟩; have hb1 := m1.at hb.out (fun x => x); have hc1 := hb1.cell; have ib1 := hb1.inB; have Hv := hidIt hv; have M1 := hidIt m1; clear hv m1 hc hb1))
  refine Ord.region1 [] [0, 1, 2, 3, 4, 5, 6, 7, 8, 9, 10, 11, 12, 13, 14, 15, 16, 17] [18, 19] (by kernel_rfl) (by kernel_rfl) (fun _ _ d _ _ h => by cases d <;> exact h) ?_
  simp only [Ord.pickO, Ord.nth]
  refine wpQuiet_nil ?_
  repeat (go_big_quiet_step (fail))
  refine wpQuiet_nil ?_
  go_wp2_with fail
  go_ret
  have hz := M1.out.size
  exact ⟨_, _, rfl, ⟨hz, lv, World.At_alloc_new, World.At.alloc (World.At_drew.2 Hv.out) _⟩, (M1.out.drew).alloc _⟩
end
end Go.Proofs.Qxb6500990aGreat
