/- package node: Open -/
import Derived.Test.Qxb6500990aGreatNo18
set_option linter.unusedVariables false
set_option linter.unusedSimpArgs false
namespace Go.Tw
open Go Go.Proofs Go.Proofs.Qxb6500990aGreat Go.RowKit
def zRep : Reply := ⟨0, 0, ⟨0, []⟩⟩
set_option maxRecDepth 100000 in
theorem zero115 : Tryz.zeroCells115 = encC (fun _ => 0) 0 0 := by rfl
section
variable {W w : World} {G G1 : Nat → Prop} {p : SyP} {A : AS} {bx : Nat → MsgR} {bk : Nat} {K : KvX}
theorem RN.made (hs : RSp w G1 p A A.lg.now.last (A.lg.now.termAt A.lg.now.last).1 bx 0) (hk : w.At bk K.cells 175) (hK : KvRel K AK.new) (nk : ¬ G1 bk) (m : ModP (fun _ => False) W w) (hW : ∀ k, G1 k ∨ k = bk → k < W.heap.size) {c1 c2 : Array Value} (e1 : c1 = encC (fun _ => 0) 0 0)
    (e2 : c2 = (RNo ⟨w.heap.size + 1, bk, w.heap.size, p⟩ ⟨A, AK.new, 0, fun _ => false, fun _ => 0, fun _ => 0⟩ (fun _ => zRep) 0).cells) :
    RN (fun k => G1 k ∨ k = bk) W (fun _ => False) ⟨w.heap.size + 1, bk, w.heap.size, p⟩ ⟨A, AK.new, 0, fun _ => false, fun _ => 0, fun _ => 0⟩ [] ((w.alloc (.cells c1 115)).alloc (.cells c2 111)) := by
  subst e1 e2
  have m2 : ModP (fun _ => False) w ((w.alloc (.cells (encC (fun _ => 0) 0 0) 115)).alloc (.cells (RNo ⟨w.heap.size + 1, bk, w.heap.size, p⟩ ⟨A, AK.new, 0, fun _ => false, fun _ => 0, fun _ => 0⟩ (fun _ => zRep) 0).cells 111)) := ((ModP.refl _ _).alloc _).alloc _
  have hz := m.size
  have lk : bk < w.heap.size := hk.inB
  refine ⟨fun k => (G1 k ∨ k = bk) ∨ k = w.heap.size ∨ k = w.heap.size + 1, ⟨⟨fun _ => zRep, at_new (by simp), fun i h => by simp at h, by simp⟩, ⟨K, m2.at hk (fun f => f), hK⟩, ⟨_, 0, 0, (World.At_alloc_new).alloc _, by decide, by decide, by decide, by decide⟩, ⟨G1, bx, hs.frame m2 (fun _ _ f => f), fun k g => .inl (.inl g), fun g => ?_, nk, fun g => ?_⟩, .inr (.inr rfl), .inl (.inr rfl), .inr (.inl rfl), ?_⟩, ?_, (m.trans m2).mono (fun _ f => f.elim), fun _ f => f.elim⟩
  · have := hs.wi _ g; simp only [] at this; omega
  · have := hs.wi _ g; simp only [] at this; omega
  · intro k g
    have hs2 : ((w.alloc (.cells (encC (fun _ => 0) 0 0) 115)).alloc (.cells (RNo ⟨w.heap.size + 1, bk, w.heap.size, p⟩ ⟨A, AK.new, 0, fun _ => false, fun _ => 0, fun _ => 0⟩ (fun _ => zRep) 0).cells 111)).heap.size = w.heap.size + 2 := by simp
    rw [hs2]
    rcases g with g | g | g
    · have := hW k g; omega
    · omega
    · omega
  · rintro k (g | g | g)
    · exact .inl g
    · exact .inr (by omega)
    · exact .inr (by omega)
end
end Go.Tw
namespace Go.Proofs.Qxb6500990aGreat
open Go Go.RowKit Go.Tw
attribute [local go_sem] World.cell?_put_same World.cell?_put_ne World.cell?_put_ne' World.frozen?_put_same World.frozen?_put_ne World.frozen?_put_ne' World.setCell_put_same World.setCell_put_ne World.setCell_put_ne' World.inB_put World.inB_alloc World.inB_drew World.inB_drewN World.inB_new World.inB_setCell World.put_drew World.put_drewN World.q_setCell_drew World.q_setCell_drewN World.q_alloc_drew World.q_alloc_drewN World.put_put_same World.put_put_2 World.size_put World.q_cell?_alloc_old World.q_frozen?_alloc_old World.cell?_alloc_new' World.frozen?_alloc_new' World.q_setCell_alloc_old World.q_setCell_alloc_new World.q_put_alloc_old World.cell?_force_same World.frozen?_force_same World.cell?_force2_fst World.cell?_force2_snd NodeR.g0 NodeR.s0 NodeR.g1 NodeR.s1 NodeR.g2 NodeR.s2 NodeR.g3 NodeR.s3 NodeR.g4 NodeR.s4 NodeR.g5 NodeR.s5 NodeR.g6 NodeR.s6 NodeR.g7 NodeR.s7 NodeR.g8 NodeR.s8 NodeR.g9 NodeR.s9 NodeR.g10 NodeR.s10 NodeR.g11 NodeR.s11 NodeR.g12 NodeR.s12 NodeR.g13 NodeR.s13 NodeR.g14 NodeR.s14 NodeR.g15 NodeR.s15 NodeR.g16 NodeR.s16 NodeR.g17 NodeR.s17 NodeR.g18 NodeR.s18 NodeR.g19 NodeR.s19 NodeR.g20 NodeR.s20 NodeR.g21 NodeR.s21 NodeR.g22 NodeR.s22 NodeR.g23 NodeR.s23 NodeR.g24 NodeR.s24 NodeR.g25 NodeR.s25 NodeR.g26 NodeR.s26 NodeR.gi_used_0 NodeR.si_used_0 NodeR.gi_seq_0 NodeR.si_seq_0 NodeR.gi_idx_0 NodeR.si_idx_0 NodeR.gi_reps_0 NodeR.si_reps_0 NodeR.gi_reps_1 NodeR.si_reps_1 NodeR.gi_reps_2 NodeR.si_reps_2 NodeR.gi_reps_3 NodeR.si_reps_3 SyncV.g0 SyncV.s0 SyncV.g1 SyncV.s1 SyncV.g2 SyncV.s2 SyncV.g3 SyncV.s3 SyncV.g4 SyncV.s4 SyncV.g5 SyncV.s5 SyncV.g6 SyncV.s6 SyncV.g7 SyncV.s7 SyncV.g8 SyncV.s8 SyncV.g9 SyncV.s9 SyncV.g10 SyncV.s10 SyncV.g11 SyncV.s11 SyncV.g12 SyncV.s12 SyncV.g13 SyncV.s13 SyncV.g14 SyncV.s14 SyncV.g15 SyncV.s15 SyncV.g16 SyncV.s16 SyncV.g17 SyncV.s17 SyncV.g18 SyncV.s18 SyncV.g19 SyncV.s19 SyncV.gi_got_0 SyncV.si_got_0 SyncV.gi_next_0 SyncV.si_next_0 SyncV.gi_mtch_0 SyncV.si_mtch_0 NodeV.g0 NodeV.s0 NodeV.g1 NodeV.s1 NodeV.g2 NodeV.s2 NodeV.g3 NodeV.s3 NodeV.g4 NodeV.s4 NodeV.g5 NodeV.s5 NodeV.g6 NodeV.s6 NodeV.g7 NodeV.s7 NodeV.g8 NodeV.s8 NodeV.g9 NodeV.s9 NodeV.g10 NodeV.s10 NodeV.gi_used_0 NodeV.si_used_0 NodeV.gi_seq_0 NodeV.si_seq_0 NodeV.gi_idx_0 NodeV.si_idx_0 Entry.g0 Entry.s0 Entry.g1 Entry.s1 Ans.g0 Ans.s0 Ans.g1 Ans.s1
attribute [local go_sem] ba_get upd_same upd_upd
set_option maxHeartbeats 4000000
set_option maxRecDepth 100000
section
variable {W w : World} {G G1 : Nat → Prop} {p : SyP} {A : AS} {bx : Nat → MsgR} {bk : Nat} {K : KvX}
theorem c36 (hs : RSp W G1 p A A.lg.now.last (A.lg.now.termAt A.lg.now.last).1 bx 0) (hk : W.At bk K.cells 175) (hK : KvRel K AK.new) (nk : ¬ G1 bk) (oe : A.el.Ok) (hsn : A.lg.now.snap.length ≤ 128) :
    Calls Tryz.prog 36 #[vp p.b, vp bk] W fun r w' => ∃ b bw, r = .returned (vp b) ∧ W.heap.size ≤ b ∧ RN (fun k => G1 k ∨ k = bk) W (fun _ => False) ⟨b, bk, bw, p⟩ (AN.open A) [] w' := by
  have hV := hidIt (c40 hs.rs oe)
  unfold AS.view at hV
  have H71 := hidIt (fun (u : World) (m : ModP (fun _ => False) W u) (c1 c2 : Array Value) e1 e2 => c71 (RN.made (c1 := c1) (c2 := c2) (hs.frame m (fun _ _ f => f)) (m.at hk (fun f => f)) hK nk m (fun k g => g.elim (hs.wi k) (fun e => by rw [e]; exact hk.inB)) e1 e2) oe hsn)
  clear hs hk oe hsn hK nk
  go_enter Tryz.func36, Tryz.ntmps36
  go_wp2_with (first
    | (go_at_call 40; refine hV.out.mono ?_; rintro _ w1 ⟨bv, rfl, lv, hv, m1⟩; have hcv := hv.cell; have iv := hv.inB; have M1 := hidIt m1; clear hv m1)
    | (go_at_call 71; refine (H71.out w1 M1.out _ _ zero115 rfl).mono ?_; rintro _ w2 ⟨rfl, S2, -⟩))
  go_ret
  have := M1.out.size
  exact ⟨_, _, rfl, by omega, S2⟩
end
end Go.Proofs.Qxb6500990aGreat
