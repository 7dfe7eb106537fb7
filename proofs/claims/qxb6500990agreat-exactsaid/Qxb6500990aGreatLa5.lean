/- package nodelaw: EventReal, EventModel -/
import Derived.Test.Qxb6500990aGreatLa3
import Derived.Test.Qxb6500990aGreatNo19
import Derived.Test.Qxb6500990aGreatNod12
import Derived.Test.Qxb6500990aGreatNod13
set_option linter.unusedVariables false
set_option linter.unusedSimpArgs false
namespace Go.Tw
open Go Go.Proofs Go.Proofs.Qxb6500990aGreat Go.RowKit
def AN.event (n : AN) (o : OpR) : Did × AN := if o.kind = 1 then n.tick else if o.kind = 2 then n.receive o.s else n.call (cmdOf o)
section
variable {W w W0 : World} {G : Nat → Prop} {b bs bl be bk : Nat} {n : AN}
theorem DidN.cell2 {D : Did} {v : Value} {x : Nat} {c : Array Value} (h : DidN G W b bs bl be bk D n (.returned v) w) (hx : W.At x c 117) (hG : ¬ G x) (m : ModP (fun _ => False) W0 W) (hW : W0.heap.size ≤ x) :
    ∃ (a1 : Option Addr) (l1 c1 : Nat) (a2 : Option Addr) (l2 c2 : Nat) (y : World), v = .agg (DidR.cells ⟨D.err, .slice a1 l1 c1, .slice a2 l2 c2⟩) ∧ w = y.put x c 117 ∧ y.inB x ∧ DidN G W0 b bs bl be bk D n (.returned (.agg (DidR.cells ⟨D.err, .slice a1 l1 c1, .slice a2 l2 c2⟩))) (y.put x (DidR.cells ⟨D.err, .slice a1 l1 c1, .slice a2 l2 c2⟩) 117) := by
  obtain ⟨hz, vo, vr, rfl, ⟨a1, c1, rfl⟩, ⟨a2, c2, rfl⟩, hD⟩ := h.cell hx hG hx.inB
  obtain ⟨y, rfl, iy⟩ := hz.door
  refine ⟨a1, _, c1, a2, _, c2, y, rfl, rfl, iy, ?_⟩
  have := hD W0 m hW (DidR.cells ⟨D.err, .slice a1 D.outs.length c1, .slice a2 D.reps.length c2⟩)
  rw [World.put_put_same] at this
  exact this
theorem DidN.early2 {D : Did} {r : Ending} (h : DidN G W b bs bl be bk D n r w) (m : ModP (fun _ => False) W0 W) : DidN G W0 b bs bl be bk D n r w := h.early m
end
end Go.Tw
namespace Go.Proofs.Qxb6500990aGreat
open Go Go.RowKit Go.Tw
attribute [local go_sem] World.cell?_put_same World.cell?_put_ne World.cell?_put_ne' World.frozen?_put_same World.frozen?_put_ne World.frozen?_put_ne' World.setCell_put_same World.setCell_put_ne World.setCell_put_ne' World.inB_put World.inB_alloc World.inB_drew World.inB_drewN World.inB_new World.inB_setCell World.put_drew World.put_drewN World.q_setCell_drew World.q_setCell_drewN World.q_alloc_drew World.q_alloc_drewN World.put_put_same World.put_put_2 World.size_put World.q_cell?_alloc_old World.q_frozen?_alloc_old World.cell?_alloc_new' World.frozen?_alloc_new' World.q_setCell_alloc_old World.q_setCell_alloc_new World.q_put_alloc_old World.cell?_force_same World.frozen?_force_same World.cell?_force2_fst World.cell?_force2_snd OpR.g0 OpR.s0 OpR.g1 OpR.s1 OpR.g2 OpR.s2 OpR.g3 OpR.s3 OpR.g4 OpR.s4 OpR.g5 OpR.s5 Cmd.g0 Cmd.s0 Cmd.g1 Cmd.s1 Cmd.g2 Cmd.s2 Cmd.g3 Cmd.s3 Cmd.g4 Cmd.s4 Cmd.g5 Cmd.s5 DidR.g0 DidR.s0 DidR.g1 DidR.s1 DidR.g2 DidR.s2
attribute [local go_sem] ba_get upd_same upd_upd
set_option maxHeartbeats 4000000
set_option maxRecDepth 100000
section
variable {W w : World} {G X : Nat → Prop} {q : NoP} {n : AN} {R : List Reply}
theorem c42 (h : RNp W G q n R) (ok : n.Ok) (hT1 : n.sy.el.T1) (hn : n.sy.lg.hist.length ≤ 400) (o : OpR) (ho : o.t.length < 9223372036854775808) (hk : o.kind = 1 ∨ o.kind = 2 ∨ o.kind = 3) :
    Calls Tryz.prog 42 #[vp q.b, .agg o.cells] W (DidRN G W q (n.event o).1 (n.event o).2) := by
  obtain ⟨k, a, b, c, s, t⟩ := o
  simp only [] at ho hk
  unfold AN.event
  simp only []
  rcases hk with rfl | rfl | rfl
  · rw [if_pos rfl]
    have m0 : ModP (fun _ => False) W ((W.alloc (.cells (OpR.cells ⟨1, a, b, c, s, t⟩) 26)).alloc (.cells zDid.cells 117)) := ((ModP.refl _ _).alloc _).alloc _
    have h1 := h.frame m0 (fun _ _ f => f)
    have hx : (((W.alloc (.cells (OpR.cells ⟨1, a, b, c, s, t⟩) 26)).alloc (.cells zDid.cells 117))).At (W.heap.size + 1) zDid.cells 117 := by
      have := World.At_alloc_new (w := W.alloc (.cells (OpR.cells ⟨1, a, b, c, s, t⟩) 26)) (c := zDid.cells) (T := 117)
      simpa using this
    have hG : ¬ G (W.heap.size + 1) := fun g => by have := h.wi _ g; omega
    have q1 := hidIt (c87 h1 ok (by omega))
    have fin := hidIt (fun (w : World) (v : Value) (hd : DidRN G ((W.alloc (.cells (OpR.cells ⟨1, a, b, c, s, t⟩) 26)).alloc (.cells zDid.cells 117)) q n.tick.1 n.tick.2 (.returned v) w) => hd.cell hx hG m0 (by omega))
    generalize n.tick.1 = D at *
    generalize n.tick.2 = n2 at *
    unfold zDid at *
    clear h ok hn h1 hx hG m0 hT1 ho
    go_enter Tryz.func42, Tryz.ntmps42
    go_wp2_with (first
      | (go_at_call 87; refine q1.out.mono ?_; rintro r w2 hd; have hr : ∃ v, r = .returned v := (by obtain ⟨vo, vr, X, R, e, -⟩ := hd; exact ⟨_, e⟩); obtain ⟨v, rfl⟩ := hr; obtain ⟨a1, l1, c1, a2, l2, c2, y, rfl, rfl, iy, hf⟩ := fin.out _ _ hd; have HF := hidIt hf; clear hd hf; unfold Tw.DidR.cells))
    refine bodyPost_ret (v := .agg (DidR.cells ⟨D.err, .slice a1 l1 c1, .slice a2 l2 c2⟩)) ?_ rfl ?_
    · simp [results, Tryz.results42, go_sem, DidR.cells, iy]
    · exact HF.out
  · rw [if_neg (by omega), if_pos rfl]
    have m0 : ModP (fun _ => False) W ((W.alloc (.cells (OpR.cells ⟨2, a, b, c, s, t⟩) 26)).alloc (.cells zDid.cells 117)) := ((ModP.refl _ _).alloc _).alloc _
    have h1 := h.frame m0 (fun _ _ f => f)
    have hx : (((W.alloc (.cells (OpR.cells ⟨2, a, b, c, s, t⟩) 26)).alloc (.cells zDid.cells 117))).At (W.heap.size + 1) zDid.cells 117 := by
      have := World.At_alloc_new (w := W.alloc (.cells (OpR.cells ⟨2, a, b, c, s, t⟩) 26)) (c := zDid.cells) (T := 117)
      simpa using this
    have hG : ¬ G (W.heap.size + 1) := fun g => by have := h.wi _ g; omega
    have q1 := hidIt (c88 h1 ok hT1 (by omega) s)
    have fin := hidIt (fun (w : World) (v : Value) (hd : DidRN G ((W.alloc (.cells (OpR.cells ⟨2, a, b, c, s, t⟩) 26)).alloc (.cells zDid.cells 117)) q (n.receive s).1 (n.receive s).2 (.returned v) w) => hd.cell hx hG m0 (by omega))
    generalize (n.receive s).1 = D at *
    generalize (n.receive s).2 = n2 at *
    unfold zDid at *
    clear h ok hn h1 hx hG m0 hT1 ho
    go_enter Tryz.func42, Tryz.ntmps42
    go_wp2_with (first
      | (go_at_call 88; refine q1.out.mono ?_; rintro r w2 hd; have hr : ∃ v, r = .returned v := (by obtain ⟨vo, vr, X, R, e, -⟩ := hd; exact ⟨_, e⟩); obtain ⟨v, rfl⟩ := hr; obtain ⟨a1, l1, c1, a2, l2, c2, y, rfl, rfl, iy, hf⟩ := fin.out _ _ hd; have HF := hidIt hf; clear hd hf; unfold Tw.DidR.cells))
    refine bodyPost_ret (v := .agg (DidR.cells ⟨D.err, .slice a1 l1 c1, .slice a2 l2 c2⟩)) ?_ rfl ?_
    · simp [results, Tryz.results42, go_sem, DidR.cells, iy]
    · exact HF.out
  · rw [if_neg (by omega), if_neg (by omega)]
    have m0 : ModP (fun _ => False) W ((W.alloc (.cells (OpR.cells ⟨3, a, b, c, s, t⟩) 26)).alloc (.cells zDid.cells 117)) := ((ModP.refl _ _).alloc _).alloc _
    have h1 := h.frame m0 (fun _ _ f => f)
    have hx : (((W.alloc (.cells (OpR.cells ⟨3, a, b, c, s, t⟩) 26)).alloc (.cells zDid.cells 117))).At (W.heap.size + 1) zDid.cells 117 := by
      have := World.At_alloc_new (w := W.alloc (.cells (OpR.cells ⟨3, a, b, c, s, t⟩) 26)) (c := zDid.cells) (T := 117)
      simpa using this
    have hG : ¬ G (W.heap.size + 1) := fun g => by have := h.wi _ g; omega
    have q0 := hidIt (c89 ((W.alloc (.cells (OpR.cells ⟨3, a, b, c, s, t⟩) 26)).alloc (.cells zDid.cells 117)) ⟨3, a, b, c, s, t⟩ ho)
    have q1 := hidIt (fun (u : World) (m : ModP (fun _ => False) ((W.alloc (.cells (OpR.cells ⟨3, a, b, c, s, t⟩) 26)).alloc (.cells zDid.cells 117)) u) => c46 (h1.frame m (fun _ _ f => f)) ok (by omega) (cmdOf ⟨3, a, b, c, s, t⟩))
    have fin0 := hidIt (fun (u : World) (m : ModP (fun _ => False) ((W.alloc (.cells (OpR.cells ⟨3, a, b, c, s, t⟩) 26)).alloc (.cells zDid.cells 117)) u) (w : World) (v : Value) (hd : DidRN G u q (n.call (cmdOf ⟨3, a, b, c, s, t⟩)).1 (n.call (cmdOf ⟨3, a, b, c, s, t⟩)).2 (.returned v) w) => (hd.early m).cell hx hG m0 (by omega))
    generalize (n.call (cmdOf ⟨3, a, b, c, s, t⟩)).1 = D at *
    generalize (n.call (cmdOf ⟨3, a, b, c, s, t⟩)).2 = n2 at *
    generalize cmdOf ⟨3, a, b, c, s, t⟩ = cm at *
    obtain ⟨cop, ccl, csq, cky, cvl, col⟩ := cm
    unfold zDid at *
    clear h ok hn h1 hx hG m0 hT1 ho
    go_enter Tryz.func42, Tryz.ntmps42
    go_wp2_with (first
      | (go_at_call 89; refine q0.out.mono ?_; rintro _ w1 ⟨rfl, m1⟩; have M1 := hidIt m1; clear m1; unfold Tw.Cmd.cells)
      | (go_at_call 46; refine (q1.out _ (M1.out.alloc _)).mono ?_; have fin := hidIt (fin0.out _ (M1.out.alloc (.cells (Cmd.cells ⟨cop, ccl, csq, cky, cvl, col⟩) 123))); rintro r w2 hd; have hr : ∃ v, r = .returned v := (by obtain ⟨vo, vr, X, R, e, -⟩ := hd; exact ⟨_, e⟩); obtain ⟨v, rfl⟩ := hr; obtain ⟨a1, l1, c1, a2, l2, c2, y, rfl, rfl, iy, hf⟩ := fin.out _ _ hd; have HF := hidIt hf; clear hd hf; unfold Tw.DidR.cells))
    refine bodyPost_ret (v := .agg (DidR.cells ⟨D.err, .slice a1 l1 c1, .slice a2 l2 c2⟩)) ?_ rfl ?_
    · simp [results, Tryz.results42, go_sem, DidR.cells, iy]
    · exact HF.out
variable {nb bs bl be bk : Nat}
theorem c43 (h : NMp W G nb bs bl be bk n) (ok : n.Ok) (hn : n.sy.lg.hist.length ≤ 400) (o : OpR) (ho : o.t.length < 9223372036854775808) (hk : o.kind = 1 ∨ o.kind = 2 ∨ o.kind = 3) :
    Calls Tryz.prog 43 #[vp nb, .agg o.cells] W (DidN G W nb bs bl be bk (n.event o).1 (n.event o).2) := by
  obtain ⟨k, a, b, c, s, t⟩ := o
  simp only [] at ho hk
  unfold AN.event
  simp only []
  rcases hk with rfl | rfl | rfl
  · rw [if_pos rfl]
    have m0 : ModP (fun _ => False) W ((W.alloc (.cells (OpR.cells ⟨1, a, b, c, s, t⟩) 26)).alloc (.cells zDid.cells 117)) := ((ModP.refl _ _).alloc _).alloc _
    have h1 := h.frame m0 (fun _ _ f => f)
    have hx : (((W.alloc (.cells (OpR.cells ⟨1, a, b, c, s, t⟩) 26)).alloc (.cells zDid.cells 117))).At (W.heap.size + 1) zDid.cells 117 := by
      have := World.At_alloc_new (w := W.alloc (.cells (OpR.cells ⟨1, a, b, c, s, t⟩) 26)) (c := zDid.cells) (T := 117)
      simpa using this
    have hG : ¬ G (W.heap.size + 1) := fun g => by have := h.wi _ g; omega
    have q1 := hidIt (c90 h1 ok (by omega))
    have fin := hidIt (fun (w : World) (v : Value) (hd : DidN G ((W.alloc (.cells (OpR.cells ⟨1, a, b, c, s, t⟩) 26)).alloc (.cells zDid.cells 117)) nb bs bl be bk n.tick.1 n.tick.2 (.returned v) w) => hd.cell2 hx hG m0 (by omega))
    generalize n.tick.1 = D at *
    generalize n.tick.2 = n2 at *
    unfold zDid at *
    clear h ok hn h1 hx hG m0 ho
    go_enter Tryz.func43, Tryz.ntmps43
    go_wp2_with (first
      | (go_at_call 90; refine q1.out.mono ?_; rintro r w2 hd; have hr : ∃ v, r = .returned v := (by obtain ⟨vo, vr, X, e, -⟩ := hd; exact ⟨_, e⟩); obtain ⟨v, rfl⟩ := hr; obtain ⟨a1, l1, c1, a2, l2, c2, y, rfl, rfl, iy, hf⟩ := fin.out _ _ hd; have HF := hidIt hf; clear hd hf; unfold Tw.DidR.cells))
    refine bodyPost_ret (v := .agg (DidR.cells ⟨D.err, .slice a1 l1 c1, .slice a2 l2 c2⟩)) ?_ rfl ?_
    · simp [results, Tryz.results43, go_sem, DidR.cells, iy]
    · exact HF.out
  · rw [if_neg (by omega), if_pos rfl]
    have m0 : ModP (fun _ => False) W ((W.alloc (.cells (OpR.cells ⟨2, a, b, c, s, t⟩) 26)).alloc (.cells zDid.cells 117)) := ((ModP.refl _ _).alloc _).alloc _
    have h1 := h.frame m0 (fun _ _ f => f)
    have hx : (((W.alloc (.cells (OpR.cells ⟨2, a, b, c, s, t⟩) 26)).alloc (.cells zDid.cells 117))).At (W.heap.size + 1) zDid.cells 117 := by
      have := World.At_alloc_new (w := W.alloc (.cells (OpR.cells ⟨2, a, b, c, s, t⟩) 26)) (c := zDid.cells) (T := 117)
      simpa using this
    have hG : ¬ G (W.heap.size + 1) := fun g => by have := h.wi _ g; omega
    have q1 := hidIt (c91 h1 ok (by omega) s)
    have fin := hidIt (fun (w : World) (v : Value) (hd : DidN G ((W.alloc (.cells (OpR.cells ⟨2, a, b, c, s, t⟩) 26)).alloc (.cells zDid.cells 117)) nb bs bl be bk (n.receive s).1 (n.receive s).2 (.returned v) w) => hd.cell2 hx hG m0 (by omega))
    generalize (n.receive s).1 = D at *
    generalize (n.receive s).2 = n2 at *
    unfold zDid at *
    clear h ok hn h1 hx hG m0 ho
    go_enter Tryz.func43, Tryz.ntmps43
    go_wp2_with (first
      | (go_at_call 91; refine q1.out.mono ?_; rintro r w2 hd; have hr : ∃ v, r = .returned v := (by obtain ⟨vo, vr, X, e, -⟩ := hd; exact ⟨_, e⟩); obtain ⟨v, rfl⟩ := hr; obtain ⟨a1, l1, c1, a2, l2, c2, y, rfl, rfl, iy, hf⟩ := fin.out _ _ hd; have HF := hidIt hf; clear hd hf; unfold Tw.DidR.cells))
    refine bodyPost_ret (v := .agg (DidR.cells ⟨D.err, .slice a1 l1 c1, .slice a2 l2 c2⟩)) ?_ rfl ?_
    · simp [results, Tryz.results43, go_sem, DidR.cells, iy]
    · exact HF.out
  · rw [if_neg (by omega), if_neg (by omega)]
    have m0 : ModP (fun _ => False) W ((W.alloc (.cells (OpR.cells ⟨3, a, b, c, s, t⟩) 26)).alloc (.cells zDid.cells 117)) := ((ModP.refl _ _).alloc _).alloc _
    have h1 := h.frame m0 (fun _ _ f => f)
    have hx : (((W.alloc (.cells (OpR.cells ⟨3, a, b, c, s, t⟩) 26)).alloc (.cells zDid.cells 117))).At (W.heap.size + 1) zDid.cells 117 := by
      have := World.At_alloc_new (w := W.alloc (.cells (OpR.cells ⟨3, a, b, c, s, t⟩) 26)) (c := zDid.cells) (T := 117)
      simpa using this
    have hG : ¬ G (W.heap.size + 1) := fun g => by have := h.wi _ g; omega
    have q0 := hidIt (c89 ((W.alloc (.cells (OpR.cells ⟨3, a, b, c, s, t⟩) 26)).alloc (.cells zDid.cells 117)) ⟨3, a, b, c, s, t⟩ ho)
    have q1 := hidIt (fun (u : World) (m : ModP (fun _ => False) ((W.alloc (.cells (OpR.cells ⟨3, a, b, c, s, t⟩) 26)).alloc (.cells zDid.cells 117)) u) => c47 (h1.frame m (fun _ _ f => f)) ok (by omega) (cmdOf ⟨3, a, b, c, s, t⟩))
    have fin0 := hidIt (fun (u : World) (m : ModP (fun _ => False) ((W.alloc (.cells (OpR.cells ⟨3, a, b, c, s, t⟩) 26)).alloc (.cells zDid.cells 117)) u) (w : World) (v : Value) (hd : DidN G u nb bs bl be bk (n.call (cmdOf ⟨3, a, b, c, s, t⟩)).1 (n.call (cmdOf ⟨3, a, b, c, s, t⟩)).2 (.returned v) w) => (hd.early2 m).cell2 hx hG m0 (by omega))
    generalize (n.call (cmdOf ⟨3, a, b, c, s, t⟩)).1 = D at *
    generalize (n.call (cmdOf ⟨3, a, b, c, s, t⟩)).2 = n2 at *
    generalize cmdOf ⟨3, a, b, c, s, t⟩ = cm at *
    obtain ⟨cop, ccl, csq, cky, cvl, col⟩ := cm
    unfold zDid at *
    clear h ok hn h1 hx hG m0 ho
    go_enter Tryz.func43, Tryz.ntmps43
    go_wp2_with (first
      | (go_at_call 89; refine q0.out.mono ?_; rintro _ w1 ⟨rfl, m1⟩; have M1 := hidIt m1; clear m1; unfold Tw.Cmd.cells)
      | (go_at_call 47; refine (q1.out _ (M1.out.alloc _)).mono ?_; have fin := hidIt (fin0.out _ (M1.out.alloc (.cells (Cmd.cells ⟨cop, ccl, csq, cky, cvl, col⟩) 123))); rintro r w2 hd; have hr : ∃ v, r = .returned v := (by obtain ⟨vo, vr, X, e, -⟩ := hd; exact ⟨_, e⟩); obtain ⟨v, rfl⟩ := hr; obtain ⟨a1, l1, c1, a2, l2, c2, y, rfl, rfl, iy, hf⟩ := fin.out _ _ hd; have HF := hidIt hf; clear hd hf; unfold Tw.DidR.cells))
    refine bodyPost_ret (v := .agg (DidR.cells ⟨D.err, .slice a1 l1 c1, .slice a2 l2 c2⟩)) ?_ rfl ?_
    · simp [results, Tryz.results43, go_sem, DidR.cells, iy]
    · exact HF.out
end
end Go.Proofs.Qxb6500990aGreat
