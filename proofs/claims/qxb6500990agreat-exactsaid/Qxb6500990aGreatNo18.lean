/- package node: what only reads -/
import Derived.Test.Qxb6500990aGreatNo17
set_option linter.unusedVariables false
set_option linter.unusedSimpArgs false
namespace Go.Proofs.Qxb6500990aGreat
open Go Go.RowKit Go.Tw
attribute [local go_sem] World.cell?_put_same World.cell?_put_ne World.cell?_put_ne' World.frozen?_put_same World.frozen?_put_ne World.frozen?_put_ne' World.setCell_put_same World.setCell_put_ne World.setCell_put_ne' World.inB_put World.inB_alloc World.inB_drew World.inB_drewN World.inB_new World.inB_setCell World.put_drew World.put_drewN World.q_setCell_drew World.q_setCell_drewN World.q_alloc_drew World.q_alloc_drewN World.put_put_same World.put_put_2 World.size_put World.q_cell?_alloc_old World.q_frozen?_alloc_old World.cell?_alloc_new' World.frozen?_alloc_new' World.q_setCell_alloc_old World.q_setCell_alloc_new World.q_put_alloc_old World.cell?_force_same World.frozen?_force_same World.cell?_force2_fst World.cell?_force2_snd NodeR.g0 NodeR.s0 NodeR.g1 NodeR.s1 NodeR.g2 NodeR.s2 NodeR.g3 NodeR.s3 NodeR.g4 NodeR.s4 NodeR.g5 NodeR.s5 NodeR.g6 NodeR.s6 NodeR.g7 NodeR.s7 NodeR.g8 NodeR.s8 NodeR.g9 NodeR.s9 NodeR.g10 NodeR.s10 NodeR.g11 NodeR.s11 NodeR.g12 NodeR.s12 NodeR.g13 NodeR.s13 NodeR.g14 NodeR.s14 NodeR.g15 NodeR.s15 NodeR.g16 NodeR.s16 NodeR.g17 NodeR.s17 NodeR.g18 NodeR.s18 NodeR.g19 NodeR.s19 NodeR.g20 NodeR.s20 NodeR.g21 NodeR.s21 NodeR.g22 NodeR.s22 NodeR.g23 NodeR.s23 NodeR.g24 NodeR.s24 NodeR.g25 NodeR.s25 NodeR.g26 NodeR.s26 NodeR.gi_used_0 NodeR.si_used_0 NodeR.gi_seq_0 NodeR.si_seq_0 NodeR.gi_idx_0 NodeR.si_idx_0 NodeR.gi_reps_0 NodeR.si_reps_0 NodeR.gi_reps_1 NodeR.si_reps_1 NodeR.gi_reps_2 NodeR.si_reps_2 NodeR.gi_reps_3 NodeR.si_reps_3 SyncV.g0 SyncV.s0 SyncV.g1 SyncV.s1 SyncV.g2 SyncV.s2 SyncV.g3 SyncV.s3 SyncV.g4 SyncV.s4 SyncV.g5 SyncV.s5 SyncV.g6 SyncV.s6 SyncV.g7 SyncV.s7 SyncV.g8 SyncV.s8 SyncV.g9 SyncV.s9 SyncV.g10 SyncV.s10 SyncV.g11 SyncV.s11 SyncV.g12 SyncV.s12 SyncV.g13 SyncV.s13 SyncV.g14 SyncV.s14 SyncV.g15 SyncV.s15 SyncV.g16 SyncV.s16 SyncV.g17 SyncV.s17 SyncV.g18 SyncV.s18 SyncV.g19 SyncV.s19 SyncV.gi_got_0 SyncV.si_got_0 SyncV.gi_next_0 SyncV.si_next_0 SyncV.gi_mtch_0 SyncV.si_mtch_0 NodeV.g0 NodeV.s0 NodeV.g1 NodeV.s1 NodeV.g2 NodeV.s2 NodeV.g3 NodeV.s3 NodeV.g4 NodeV.s4 NodeV.g5 NodeV.s5 NodeV.g6 NodeV.s6 NodeV.g7 NodeV.s7 NodeV.g8 NodeV.s8 NodeV.g9 NodeV.s9 NodeV.g10 NodeV.s10 NodeV.gi_used_0 NodeV.si_used_0 NodeV.gi_seq_0 NodeV.si_seq_0 NodeV.gi_idx_0 NodeV.si_idx_0 Entry.g0 Entry.s0 Entry.g1 Entry.s1 Ans.g0 Ans.s0 Ans.g1 Ans.s1
attribute [local go_sem] ba_get upd_same upd_upd
set_option maxHeartbeats 4000000
set_option maxRecDepth 100000
section
variable {W w : World} {G : Nat → Prop} {q : NoP} {n : AN} {R : List Reply}
theorem c100 (h : RNp W G q n R) (ok : n.sy.el.Ok) : Calls Tryz.prog 100 #[vp q.b] W fun r w' => ∃ b' bv, r = .returned (vp b') ∧ ViewAt W n w' b' bv ∧ ModP (fun _ => False) W w' := by
  obtain ⟨rs, hb0, -, -⟩ := h.hb
  unfold RNo at hb0
  have hc := hb0.cell
  have ib := hb0.inB
  have hb := hidIt hb0
  clear hb0
  have hM := hidIt (by obtain ⟨G1, bx, g1, -⟩ := h.hs; exact c40 g1.rs ok)
  clear h ok
  go_enter Tryz.func100, Tryz.ntmps100
  go_wp2_with (first
    | (go_at_call 40; refine hM.out.mono ?_; rintro _ w1 ⟨bv, rfl, lv, hv, m1⟩; have hb1 := m1.at hb.out (fun x => x); have hc1 := hb1.cell; have ib1 := hb1.inB; have Hv := hidIt hv; have M1 := hidIt m1; clear hv m1 hc hb1))
  refine Ord.region1 [] [0, 1, 2, 3, 4, 5, 6, 7, 8, 9, 10, 11, 12, 13, 14, 15, 16, 17] [18, 19] (by kernel_rfl) (by kernel_rfl) (fun _ _ d _ _ h => by cases d <;> exact h) ?_
  simp only [Ord.pickO, Ord.nth]
  refine wpQuiet_nil ?_
  repeat (go_big_quiet_step (fail))
  refine wpQuiet_nil ?_
  go_wp2_with fail
  go_ret
  have hz := M1.out.size
  exact ⟨_, _, rfl, ⟨hz, lv, World.At_alloc_new, World.At.alloc (World.At_drew.2 Hv.out) _⟩, (M1.out.drew).alloc _⟩
theorem c169 (h : RNp W G q n R) : Calls Tryz.prog 169 #[vp q.b] W fun r w' => r = .returned (vi n.kv.ps.length) ∧ w' = W := by
  obtain ⟨rs, hb0, -, -⟩ := h.hb
  unfold RNo at hb0
  have hc := hb0.cell
  have ib := hb0.inB
  have hb := hidIt hb0
  clear hb0
  have hM : Hid (Calls Tryz.prog 230 #[vp q.bk] W fun r w' => r = .returned (vi n.kv.ps.length) ∧ w' = W) := by
    obtain ⟨K, h1, h2⟩ := h.hk
    have := c230 h1
    rw [h2.t.lv] at this
    exact this
  clear h
  go_enter Tryz.func169, Tryz.ntmps169
  go_wp2_with (first
    | (go_at_call 230; refine hM.out.mono ?_; rintro _ w1 ⟨rfl, e⟩; obtain rfl := e.symm))
  go_ret
  exact ⟨rfl, rfl⟩
theorem c170 (h : RNp W G q n R) (i : Int) : Calls Tryz.prog 170 #[vp q.b, vi i] W fun r w' => r = .returned (vs (n.kv.keyAt i)) ∧ ModP (fun _ => False) W w' := by
  obtain ⟨rs, hb0, -, -⟩ := h.hb
  unfold RNo at hb0
  have hc := hb0.cell
  have ib := hb0.inB
  have hb := hidIt hb0
  clear hb0
  have hM := hidIt (by obtain ⟨K, h1, h2⟩ := h.hk; exact c231 h1 h2 i)
  clear h
  go_enter Tryz.func170, Tryz.ntmps170
  go_wp2_with (first
    | (go_at_call 231; refine hM.out.mono ?_; rintro _ w1 ⟨rfl, m1⟩))
  go_ret
  exact ⟨rfl, m1⟩
theorem c167 (h : RNp W G q n R) (key : Bs) : Calls Tryz.prog 167 #[vp q.b, vs key] W fun r w' => r = .returned (.tuple #[vs (n.kv.valOf key).1, .bool (n.kv.valOf key).2]) ∧ ModP (fun _ => False) W w' := by
  obtain ⟨rs, hb0, -, -⟩ := h.hb
  unfold RNo at hb0
  have hc := hb0.cell
  have ib := hb0.inB
  have hb := hidIt hb0
  clear hb0
  have hM := hidIt (by obtain ⟨K, h1, h2⟩ := h.hk; exact c228 h1 h2 key)
  clear h
  go_enter Tryz.func167, Tryz.ntmps167
  go_wp2_with (first
    | (go_at_call 228; refine hM.out.mono ?_; rintro _ w1 ⟨rfl, m1⟩))
  go_ret2
  exact ⟨rfl, m1⟩
theorem c165 (h : RNp W G q n R) (i : Int) : Calls Tryz.prog 165 #[vp q.b, vi i] W fun r w' => r = .returned (.tuple #[vi (n.sy.lg.now.termAt i).1, vi (n.sy.lg.now.termAt i).2]) ∧ ModP (fun _ => False) W w' := by
  obtain ⟨rs, hb0, -, -⟩ := h.hb
  unfold RNo at hb0
  have hc := hb0.cell
  have ib := hb0.inB
  have hb := hidIt hb0
  clear hb0
  have hM := hidIt (by obtain ⟨G1, bx, g1, -⟩ := h.hs; exact c226 g1.rs i)
  clear h
  go_enter Tryz.func165, Tryz.ntmps165
  go_wp2_with (first
    | (go_at_call 226; refine hM.out.mono ?_; rintro _ w1 ⟨rfl, m1⟩))
  go_ret2
  exact ⟨rfl, m1⟩
theorem c163 (h : RNp W G q n R) (i : Int) : Calls Tryz.prog 163 #[vp q.b, vi i] W fun r w' => r = .returned (.tuple #[.agg (n.sy.lg.now.at_ i).1.cells, vi (n.sy.lg.now.at_ i).2]) ∧ ModP (fun _ => False) W w' := by
  obtain ⟨rs, hb0, -, -⟩ := h.hb
  unfold RNo at hb0
  have hc := hb0.cell
  have ib := hb0.inB
  have hb := hidIt hb0
  clear hb0
  have hM := hidIt (fun w' (m : ModP (fun _ => False) W w') => by obtain ⟨G1, bx, g1, -⟩ := (h.frame m (fun _ _ f => f)).hs; exact c216 g1.rs i)
  clear h
  obtain ⟨⟨⟨et, ed⟩, er⟩, he⟩ : ∃ x, n.sy.lg.now.at_ i = x := ⟨_, rfl⟩
  rw [he] at hM ⊢
  clear he
  unfold Tw.Entry.cells at hM
  go_enter Tryz.func163, Tryz.ntmps163
  go_wp2_with (first
    | (go_at_call 216; refine (hM.out _ (by repeat (first | assumption | exact ModP.refl _ _ | refine ModP.fromPut ?_ (by assumption) | apply ModP.alloc | apply ModP.drew | apply ModP.drewN | refine ModP.put ?_ (by first | (left; assumption) | (left; rfl) | (right; simp only [World.inB, World.size_put] at *; omega)) _ _))).mono ?_; rintro _ w1 ⟨rfl, m1⟩; have M1 := hidIt (show ModP (fun _ => False) W w1 from ModP.trans (by repeat (first | assumption | exact ModP.refl _ _ | refine ModP.fromPut ?_ (by assumption) | apply ModP.alloc | apply ModP.drew | apply ModP.drewN | refine ModP.put ?_ (by first | (left; assumption) | (left; rfl) | (right; simp only [World.inB, World.size_put] at *; omega)) _ _)) m1); have hz := m1.at (b := W.heap.size) World.At_alloc_new (fun x => x); clear m1; obtain ⟨y, rfl, iy⟩ := hz.door; clear hz))
  refine bodyPost_ret (v := .tuple #[.agg (Entry.cells ⟨et, ed⟩), vi er]) (by simp [results, Tryz.results163, go_sem, Entry.cells, iy]) rfl ?_
  exact ⟨rfl, (M1.out.unput (.inr (Nat.le_refl _))).put (.inr (Nat.le_refl _)) _ _⟩
theorem c171 (h : RNp W G q n R) (c : Int) : Calls Tryz.prog 171 #[vp q.b, vi c] W fun r w' => r = .returned (.tuple #[vi (n.kv.sess c).1, .agg (n.kv.sess c).2.cells]) ∧ ModP (fun _ => False) W w' := by
  obtain ⟨rs, hb0, -, -⟩ := h.hb
  unfold RNo at hb0
  have hc := hb0.cell
  have ib := hb0.inB
  have hb := hidIt hb0
  clear hb0
  have hM := hidIt (fun w' (m : ModP (fun _ => False) W w') => by obtain ⟨K, h1, h2⟩ := (h.frame m (fun _ _ f => f)).hk; exact c232 h1 h2 c)
  clear h
  obtain ⟨⟨es, ⟨ee, ev⟩⟩, he⟩ : ∃ x, n.kv.sess c = x := ⟨_, rfl⟩
  rw [he] at hM ⊢
  clear he
  unfold Tw.Ans.cells at hM
  go_enter Tryz.func171, Tryz.ntmps171
  go_wp2_with (first
    | (go_at_call 232; refine (hM.out _ (by repeat (first | assumption | exact ModP.refl _ _ | refine ModP.fromPut ?_ (by assumption) | apply ModP.alloc | apply ModP.drew | apply ModP.drewN | refine ModP.put ?_ (by first | (left; assumption) | (left; rfl) | (right; simp only [World.inB, World.size_put] at *; omega)) _ _))).mono ?_; rintro _ w1 ⟨rfl, m1⟩; have M1 := hidIt (show ModP (fun _ => False) W w1 from ModP.trans (by repeat (first | assumption | exact ModP.refl _ _ | refine ModP.fromPut ?_ (by assumption) | apply ModP.alloc | apply ModP.drew | apply ModP.drewN | refine ModP.put ?_ (by first | (left; assumption) | (left; rfl) | (right; simp only [World.inB, World.size_put] at *; omega)) _ _)) m1); have hz := m1.at (b := W.heap.size) World.At_alloc_new (fun x => x); clear m1; obtain ⟨y, rfl, iy⟩ := hz.door; clear hz))
  refine bodyPost_ret (v := .tuple #[vi es, .agg (Ans.cells ⟨ee, ev⟩)]) (by simp [results, Tryz.results171, go_sem, Ans.cells, iy]) rfl ?_
  exact ⟨rfl, (M1.out.unput (.inr (Nat.le_refl _))).put (.inr (Nat.le_refl _)) _ _⟩
end
end Go.Proofs.Qxb6500990aGreat
