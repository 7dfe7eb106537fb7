/- package kv: mkSession, ansOf -/
import Derived.Test.Qxb6500990aGreatKv6
import Derived.Test.Qxb6500990aGreatKt4
set_option linter.unusedVariables false
set_option linter.unusedSimpArgs false
namespace Go.Proofs.Qxb6500990aGreat
open Go Go.RowKit Go.Tw
attribute [local go_sem] World.cell?_put_same World.cell?_put_ne World.cell?_put_ne' World.frozen?_put_same World.frozen?_put_ne World.frozen?_put_ne' World.setCell_put_same World.setCell_put_ne World.setCell_put_ne' World.inB_put World.inB_alloc World.inB_drew World.inB_drewN World.inB_new World.inB_setCell World.put_drew World.put_drewN World.q_setCell_drew World.q_setCell_drewN World.q_alloc_drew World.q_alloc_drewN World.put_put_same World.put_put_2 World.size_put World.q_cell?_alloc_old World.q_frozen?_alloc_old World.cell?_alloc_new' World.frozen?_alloc_new' World.q_setCell_alloc_old World.q_setCell_alloc_new World.q_put_alloc_old World.cell?_force_same World.frozen?_force_same World.cell?_force2_fst World.cell?_force2_snd Sess.g0 Sess.s0 Sess.g1 Sess.s1 Sess.g2 Sess.s2 Sess.g3 Sess.s3 Sess.g4 Sess.s4 Sess.g5 Sess.s5 Sess.gi_val_0 Sess.si_val_0 Ans.g0 Ans.s0 Ans.g1 Ans.s1
attribute [local go_sem] ba_get mk127
set_option maxHeartbeats 4000000
set_option maxRecDepth 100000
theorem c182 (W : World) (q : Int) (a : Ans) (h3 : a.val.length ≤ 3) : Calls Tryz.prog 182 #[vi q, .agg a.cells] W fun r w' => r = .returned (.agg (mkSessS q a).cells) ∧ ModP (fun _ => False) W w' := by
  obtain ⟨er, val⟩ := a
  simp only [] at h3
  have z1 := hidIt (preF_0 val)
  have za := hidIt (preF_all val)
  have n1 : W.heap.size ≠ W.heap.size + 1 := by omega
  have n2 : W.heap.size ≠ W.heap.size + 2 := by omega
  have n3 : W.heap.size + 1 ≠ W.heap.size + 2 := by omega
  go_enter Tryz.func182, Tryz.ntmps182
  go_wp2_with fail
  go_loopw [6] (fun kv u => ∃ (k : Nat) (y : World), k ≤ val.length ∧ kv = vi k ∧ u = ((y.put W.heap.size (Ans.cells ⟨er, val⟩) 75).put (W.heap.size + 1) zSess.cells 172).put (W.heap.size + 2) (Sess.cells ⟨q, er, k, preF val k⟩) 172 ∧ y.inB W.heap.size ∧ y.inB (W.heap.size + 1) ∧ y.inB (W.heap.size + 2) ∧ Hid (ModP (fun _ => False) W y)) (fun kv _ => val.length - (intOf kv).toNat)
  case atStart =>
    have a1 : (((W.alloc (.cells (Ans.cells ⟨er, val⟩) 75)).alloc (.cells zSess.cells 172)).alloc (.cells (Sess.cells ⟨q, er, 0, fun _ => 0⟩) 172)).At W.heap.size (Ans.cells ⟨er, val⟩) 75 := (by repeat (first | assumption | exact World.At_alloc_new | exact at_new (by first | rfl | (simp [World.size_put]; done) | (simp [World.size_put]; omega)) | refine World.At.alloc ?_ _ | refine World.At_drew.2 ?_ | refine (World.At_drewN _).2 ?_ | exact World.At_put_same (by first | assumption | (simp only [World.inB, World.size_put, World.alloc, World.drew, World.drewN, Array.size_push] at *; omega)) | refine (World.At_put_ne' (by first | assumption | (exact Ne.symm (by assumption)) | (simp only [World.inB, World.size_put] at *; omega))).2 ?_))
    have a2 : (((W.alloc (.cells (Ans.cells ⟨er, val⟩) 75)).alloc (.cells zSess.cells 172)).alloc (.cells (Sess.cells ⟨q, er, 0, fun _ => 0⟩) 172)).At (W.heap.size + 1) zSess.cells 172 := World.At.alloc (at_new (by simp)) _
    have a3 : (((W.alloc (.cells (Ans.cells ⟨er, val⟩) 75)).alloc (.cells zSess.cells 172)).alloc (.cells (Sess.cells ⟨q, er, 0, fun _ => 0⟩) 172)).At (W.heap.size + 2) (Sess.cells ⟨q, er, 0, fun _ => 0⟩) 172 := at_new (by simp)
    obtain ⟨y, e, i1, i2, i3⟩ := open3 a1 a2 a3 n1 n2 n3
    have m : ModP (fun _ => False) W (((W.alloc (.cells (Ans.cells ⟨er, val⟩) 75)).alloc (.cells zSess.cells 172)).alloc (.cells (Sess.cells ⟨q, er, 0, fun _ => 0⟩) 172)) := (by repeat (first | assumption | exact ModP.refl _ _ | refine ModP.fromPut ?_ (by assumption) | apply ModP.alloc | apply ModP.drew | apply ModP.drewN | refine ModP.put ?_ (by first | (left; assumption) | (left; rfl) | (right; simp only [World.inB, World.size_put] at *; omega)) _ _))
    refine ⟨0, y, by omega, rfl, ?_, i1, i2, i3, ?_⟩
    · rw [z1.out]
      exact (show _ = _ from e)
    · rw [e] at m
      exact ((ModP.unput m (.inr (by omega))).unput (.inr (by omega))).unput (.inr (by omega))
  case round =>
    clear z1
    obtain ⟨k, y, hk, rfl, rfl, i1, i2, i3, my⟩ := hrel
    by_cases hkn : k < val.length
    · have k1 : (k : Int) < val.length := by omega
      have k2 : (k : Int) < 3 := by omega
      have k3 : k < 3 := by omega
      have hs := hidIt (preF_step val k hkn)
      go_wp2_with fail
      go_roundw
      case rel => exact ⟨k + 1, y, by omega, by go_num, by rw [← hs.out]; rfl, i1, i2, i3, my⟩
      case measure => simp [intOf]; omega
    · obtain rfl : k = val.length := by omega
      go_wp2_with fail
      refine bodyPost_ret (v := .agg (mkSessS q ⟨er, val⟩).cells) ?_ rfl ?_
      · simp [results, Tryz.results182, go_sem, i1, i2, i3]
        rw [za.out]
        rfl
      · have := my.out
        exact ⟨rfl, (by repeat (first | assumption | exact ModP.refl _ _ | refine ModP.fromPut ?_ (by assumption) | apply ModP.alloc | apply ModP.drew | apply ModP.drewN | refine ModP.put ?_ (by first | (left; assumption) | (left; rfl) | (right; simp only [World.inB, World.size_put] at *; omega)) _ _))⟩
theorem c262 (W : World) (q : Int) (a : Ans) (h3 : a.val.length ≤ 3) : Calls Tryz.prog 262 #[.agg (mkSessS q a).cells] W fun r w' => r = .returned (.agg a.cells) ∧ ModP (fun _ => False) W w' := by
  obtain ⟨er, val⟩ := a
  simp only [] at h3
  have hg : Hid (∀ k (h : k < val.length), val.getD k 0 = val[k]) := fun k h => by simp [List.getD_eq_getElem?_getD, h]
  have e0 : (mkSessS q ⟨er, val⟩).cells = Sess.cells ⟨q, er, val.length, fun i => val.getD i 0⟩ := rfl
  rw [e0]
  clear e0
  have ex : ∃ cvl : Nat → UInt8, (fun i => val.getD i 0) = cvl := ⟨_, rfl⟩
  obtain ⟨cvl, ec⟩ := ex
  have hg2 : Hid (∀ k (h : k < val.length), cvl k = val[k]) := fun k h => by rw [← ec]; exact hg.out k h
  rw [ec]
  clear ec hg
  have hA : Hid (((W.alloc (.cells (Sess.cells ⟨q, er, val.length, cvl⟩) 172)).alloc (.cells zAns.cells 75)).At W.heap.size (Sess.cells ⟨q, er, val.length, cvl⟩) 172) := World.At.alloc World.At_alloc_new _
  have hB : Hid (((W.alloc (.cells (Sess.cells ⟨q, er, val.length, cvl⟩) 172)).alloc (.cells zAns.cells 75)).At (W.heap.size + 1) zAns.cells 75) := at_new (by simp)
  have n1 : W.heap.size ≠ W.heap.size + 1 := by omega
  have er0 : Hid (Ans.cells ⟨er, val⟩ = #[vi er, vs val]) := rfl
  go_enter Tryz.func262, Tryz.ntmps262
  go_wp2_with fail
  go_loopw [3, 4] (fun v kv u => ∃ k : Nat, k ≤ val.length ∧ kv = vi k ∧ Hid (BytesB (W.heap.size + 2) u v (bi (val.take k))) ∧ Hid (u.At W.heap.size (Sess.cells ⟨q, er, val.length, cvl⟩) 172) ∧ Hid (u.At (W.heap.size + 1) zAns.cells 75) ∧ Hid (ModP (fun _ => False) W u)) (fun _ kv _ => val.length - (intOf kv).toNat)
  case atStart => exact ⟨0, by omega, rfl, by unfold Hid; simp only [List.take_zero]; exact BytesB.made (c := zb 3) (at_new (by simp)) (Nat.le_refl _) (zb_size _) (by unfold maxLen; omega), World.At.alloc hA.out _, World.At.alloc hB.out _, (((ModP.refl _ _).alloc _).alloc _).alloc _⟩
  case round =>
    clear hA hB
    obtain ⟨k, hk', rfl, H1, H2, H4, H3⟩ := hrel
    by_cases hkn : k < val.length
    · have hc := H2.out.cell
      have ib := H2.out.inB
      have k1 : (k : Int) < val.length := by omega
      have k2 : (k : Int) < 3 := by omega
      have k3 : k < 3 := by omega
      have hst : Hid (bi (val.take (k + 1)) = bi (val.take k) ++ [((cvl k).toNat : Int)]) := by
        unfold Hid
        rw [hg2.out k hkn]
        exact take_snoc' val k hkn
      have hbl : Hid ((bi (val.take k)).length ≤ 3) := by unfold Hid; rw [bi_length, List.length_take]; omega
      generalize bi (val.take k) = cur at *
      have z2 := hidIt (show W.heap.size + 2 ≤ wr.heap.size from H4.out.inB)
      have HC := hidIt H2.out
      have HD := hidIt H4.out
      go_wp2_with (first
        | (at_builtin; (refine wp_appB (B := W.heap.size + 2) (l := cur) (m := 1) rfl _ _ rfl [((cvl k).toNat : Int)] rfl rfl (at_new rfl) rfl (H1.out.alloc _) (Nat.le_trans z2.out (by simp)) (Nat.zero_lt_succ _) (by have := hbl.out; omega) ?_; intro v2 w2 b2 bl2 s2; have B2 := hidIt b2; have A2 : Hid (w2.At W.heap.size (Sess.cells ⟨q, er, val.length, cvl⟩) 172) := below_at bl2 (World.At.alloc HC.out _) (by omega); have A3 : Hid (w2.At (W.heap.size + 1) zAns.cells 75) := below_at bl2 (World.At.alloc HD.out _) (by omega); have M2 : Hid (ModP (fun _ => False) W w2) := ⟨bl2.os.trans H3.out.os, bl2.tape.trans H3.out.tape, bl2.output.trans H3.out.output, Nat.le_trans H3.out.size (Nat.le_trans (by simp) s2), fun j hj _ => (bl2.block j (by omega)).trans (((H3.out.alloc _).block j hj (fun f => f)))⟩; clear b2 bl2 s2)))
      go_roundw
      case rel => exact ⟨k + 1, by omega, by go_num, by rw [hst.out]; exact B2, A2, A3, M2⟩
      case measure => simp [intOf]; omega
    · obtain rfl : k = val.length := by omega
      obtain ⟨y, rfl, ib⟩ := H4.out.door
      have H5 := (World.At_put_ne (Ne.symm n1)).1 H2.out
      have hc := H5.cell
      have ib2 := H5.inB
      have M := hidIt (H3.out.unput (.inr (by omega)))
      clear H5 H4 H2 H3
      go_wp2_with (first
        | (refine wp_strB rfl _ rfl (l := bi (val.take val.length)) rfl H1.out ?_))
      refine bodyPost_ret (v := .agg (Ans.cells ⟨er, val⟩)) ?_ rfl ?_
      · rw [er0.out]
        simp [results, Tryz.results262, go_sem, ib, ib_bi]
      · have := M.out
        exact ⟨rfl, (by repeat (first | assumption | exact ModP.refl _ _ | refine ModP.fromPut ?_ (by assumption) | apply ModP.alloc | apply ModP.drew | apply ModP.drewN | refine ModP.put ?_ (by first | (left; assumption) | (left; rfl) | (right; simp only [World.inB, World.size_put] at *; omega)) _ _))⟩
end Go.Proofs.Qxb6500990aGreat
