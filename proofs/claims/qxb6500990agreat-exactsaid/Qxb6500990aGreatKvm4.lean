/- package kvm: Apply -/
import Derived.Test.Qxb6500990aGreatKvm3
import Derived.Test.Qxb6500990aGreatOwn2
import Derived.Test.Qxb6500990aGreatLgm3
import Derived.Test.Qxb6500990aGreatOrder3
set_option linter.unusedVariables false
set_option linter.unusedSimpArgs false
namespace Go.Tw
open Go Go.Proofs Go.Proofs.Qxb6500990aGreat
def AK.apply (k : AK) (l : Bs) : Ans × AK := match decCmd l with
  | none => (⟨9, []⟩, k)
  | some c => if c.seq < k.seq c.client.toNat then (⟨10, []⟩, k) else if c.seq = k.seq c.client.toNat then (k.ans c.client.toNat, k)
    else ((k.run c).1, { (k.run c).2 with seq := upd (k.run c).2.seq c.client.toNat c.seq, ans := upd (k.run c).2.ans c.client.toNat (k.run c).1 })
theorem decCmd_ok {l : Bs} {c : Cmd} (h : decCmd l = some c) : cmdOK c = true := by
  unfold decCmd at h
  split at h
  · cases h
  · cases h1 : decSt l 3 with
    | none => rw [h1] at h; cases h
    | some s =>
      rw [h1] at h
      simp only [Option.bind_some] at h
      split at h
      · rename_i h2; injection h with h; subst h; exact h2.2
      · cases h
end Go.Tw
namespace Go.Proofs.Qxb6500990aGreat
open Go Go.RowKit Go.Tw
attribute [local go_sem] World.cell?_put_same World.cell?_put_ne World.cell?_put_ne' World.frozen?_put_same World.frozen?_put_ne World.frozen?_put_ne' World.setCell_put_same World.setCell_put_ne World.setCell_put_ne' World.inB_put World.inB_alloc World.inB_drew World.inB_drewN World.inB_new World.inB_setCell World.put_drew World.put_drewN World.q_setCell_drew World.q_setCell_drewN World.q_alloc_drew World.q_alloc_drewN World.put_put_same World.put_put_2 World.size_put World.q_cell?_alloc_old World.q_frozen?_alloc_old World.cell?_alloc_new' World.frozen?_alloc_new' World.q_setCell_alloc_old World.q_setCell_alloc_new World.q_put_alloc_old World.cell?_force_same World.frozen?_force_same World.cell?_force2_fst World.cell?_force2_snd KvM.g0 KvM.s0 KvM.g1 KvM.s1 KvM.g2 KvM.s2 KvM.g3 KvM.s3 KvM.g4 KvM.s4 KvM.g5 KvM.s5 KvM.g6 KvM.s6 KvM.g7 KvM.s7 KvM.g8 KvM.s8 KvM.g9 KvM.s9 KvM.g10 KvM.s10 KvM.g11 KvM.s11 KvM.g12 KvM.s12 KvM.g13 KvM.s13 KvM.g14 KvM.s14 KvM.g15 KvM.s15 KvM.g16 KvM.s16 KvM.g17 KvM.s17 KvM.gi_keys_0 KvM.si_keys_0 KvM.gi_vals_0 KvM.si_vals_0 KvM.gi_seq_0 KvM.si_seq_0 KvM.gi_ans_0 KvM.si_ans_0 KvM.gi_ans_1 KvM.si_ans_1 Ans.g0 Ans.s0 Ans.g1 Ans.s1 Cmd.g0 Cmd.s0 Cmd.g1 Cmd.s1 Cmd.g2 Cmd.s2 Cmd.g3 Cmd.s3 Cmd.g4 Cmd.s4 Cmd.g5 Cmd.s5
attribute [local go_sem] KvM.gia_ans_1_ KvM.sia_ans_1
attribute [local go_sem] ba_get ba_eq ba_beq upd_same upd_upd
set_option maxHeartbeats 1000000
set_option maxRecDepth 100000
set_option maxHeartbeats 8000000 in
theorem c160 {W : World} {b : Nat} {k : AK} (h : W.At b k.r.cells 186) (hl : k.ps.length ≤ 4) (l : Bs) (hl2 : l.length ≤ 1000) : Calls Tryz.prog 160 #[vp b, vs l] W fun r w' => r = .returned (.agg (k.apply l).1.cells) ∧ w'.At b (k.apply l).2.r.cells 186 ∧ ModP (fun x => x = b) W w' := by
  have Hh := hidIt h
  have hlt : b < W.heap.size := h.inB
  have hne : b ≠ W.heap.size := by omega
  clear h
  obtain ⟨F, hF, fb⟩ : ∃ F : Nat → Prop, F = (fun x => x = b) ∧ F b := ⟨_, rfl, rfl⟩
  rw [← hF]
  have HF := hidIt hF
  clear hF
  have s1 : ∀ w1, Mod [] (W.alloc (.cells (Ans.cells ⟨0, []⟩) 75 (0, 0))) w1 → ∃ y : World, w1 = (y.put b k.r.cells 186).put W.heap.size (Ans.cells ⟨0, []⟩) 75 ∧ y.inB b ∧ y.inB W.heap.size ∧ ModP F W y := by
    intro w1 m1
    obtain ⟨y, rfl, ib, ir⟩ := open2 (m1.at (World.At.alloc Hh.out _) (by simp)) (m1.at (b := W.heap.size) World.At_alloc_new (by simp)) hne
    exact ⟨y, rfl, ib, ir, (ModP.unput (ModP.trans ((by repeat (first | assumption | exact ModP.refl _ _ | refine ModP.fromPut ?_ (by assumption) | apply ModP.alloc | apply ModP.drew | apply ModP.drewN | refine ModP.put ?_ (by first | (left; assumption) | (left; rfl) | (right; simp only [World.inB, World.size_put] at *; omega)) _ _)) : ModP F W (W.alloc _)) m1.toP0) (.inr (Nat.le_refl _))).unput (.inl fb)⟩
  have S1 := hidIt s1
  clear s1
  cases hd : decCmd l with
  | none =>
    have hk : Hid (k.apply l = (⟨9, []⟩, k)) := by unfold Hid AK.apply; rw [hd]
    have hv : Hid (decCmdV l = .tuple #[.agg zCmd.cells, vi 9]) := by unfold Hid decCmdV; rw [hd]
    clear hd
    go_enter Tryz.func160, Tryz.ntmps160
    go_wp2_with (go_at_call 161; refine (c161 _ l hl2).mono ?_; rintro _ w1 ⟨rfl, m1⟩; rw [hv.out]; unfold Tw.Cmd.cells zCmd; obtain ⟨y, rfl, ib, ir, my⟩ := S1.out _ m1; clear m1)
    refine bodyPost_ret (v := .agg (Ans.cells ⟨9, []⟩)) (by simp [results, Tryz.results160, go_sem, Ans.cells, ib, ir]) rfl ?_
    rw [hk.out]
    exact ⟨rfl, (by repeat (first | assumption | exact World.At_alloc_new | exact at_new (by first | rfl | (simp [World.size_put]; done) | (simp [World.size_put]; omega)) | refine World.At.alloc ?_ _ | refine World.At_drew.2 ?_ | refine (World.At_drewN _).2 ?_ | exact World.At_put_same (by first | assumption | (simp only [World.inB, World.size_put, World.alloc, World.drew, World.drewN, Array.size_push] at *; omega)) | refine (World.At_put_ne' (by first | assumption | (exact Ne.symm (by assumption)) | (simp only [World.inB, World.size_put] at *; omega))).2 ?_)), (by repeat (first | assumption | exact ModP.refl _ _ | refine ModP.fromPut ?_ (by assumption) | apply ModP.alloc | apply ModP.drew | apply ModP.drewN | refine ModP.put ?_ (by first | (left; assumption) | (left; rfl) | (right; simp only [World.inB, World.size_put] at *; omega)) _ _))⟩
  | some c =>
    obtain ⟨o0, o1, k0, k1, q0, q1, l0, l1, l2, l3⟩ := cmdOK_bounds (decCmd_ok hd)
    have hv : Hid (decCmdV l = .tuple #[.agg c.cells, vi 0]) := by unfold Hid decCmdV; rw [hd]
    have hk0 : k.apply l = if c.seq < k.seq c.client.toNat then (⟨10, []⟩, k) else if c.seq = k.seq c.client.toNat then (k.ans c.client.toNat, k)
      else ((k.run c).1, { (k.run c).2 with seq := upd (k.run c).2.seq c.client.toNat c.seq, ans := upd (k.run c).2.ans c.client.toNat (k.run c).1 }) := by unfold AK.apply; rw [hd]
    clear hd
    obtain ⟨op, cl, seq, key, val, old⟩ := c
    simp only [] at *
    obtain ⟨n, rfl⟩ := Int.eq_ofNat_of_zero_le k0
    have n3 : n < 3 := by omega
    have hrun := hidIt (fun (w' : World) (h : w'.At b k.r.cells 186) => c225 h hl ⟨op, n, seq, key, val, old⟩ o0 o1)
    unfold maxT at q1
    rw [show ((n : Nat) : Int).toNat = n from rfl] at hk0
    clear l0 l1 l2 l3 k0
    by_cases h1 : seq < k.seq n
    · have hk : Hid (k.apply l = (⟨10, []⟩, k)) := by unfold Hid; rw [hk0, if_pos h1]
      clear hk0
      unfold AK.r at S1 ⊢
      go_enter Tryz.func160, Tryz.ntmps160
      go_wp2_with (go_at_call 161; refine (c161 _ l hl2).mono ?_; rintro _ w1 ⟨rfl, m1⟩; rw [hv.out]; unfold Tw.Cmd.cells; obtain ⟨y, rfl, ib, ir, my⟩ := S1.out _ m1; clear m1)
      refine Ord.region1 [] [0, 1, 2, 3, 4, 5, 6, 7, 8] [9] (by kernel_rfl) (by kernel_rfl) (fun _ _ d _ _ h => by cases d <;> exact h) ?_
      simp only [Ord.pickO, Ord.nth]
      refine wpQuiet_nil ?_
      repeat (go_big_quiet_step (fail))
      refine wpQuiet_nil ?_
      go_wp2_with fail
      refine bodyPost_ret (v := .agg (Ans.cells ⟨10, []⟩)) (by simp [results, Tryz.results160, go_sem, Ans.cells, ib, ir]) rfl ?_
      rw [hk.out]
      exact ⟨rfl, (by repeat (first | assumption | exact World.At_alloc_new | exact at_new (by first | rfl | (simp [World.size_put]; done) | (simp [World.size_put]; omega)) | refine World.At.alloc ?_ _ | refine World.At_drew.2 ?_ | refine (World.At_drewN _).2 ?_ | exact World.At_put_same (by first | assumption | (simp only [World.inB, World.size_put, World.alloc, World.drew, World.drewN, Array.size_push] at *; omega)) | refine (World.At_put_ne' (by first | assumption | (exact Ne.symm (by assumption)) | (simp only [World.inB, World.size_put] at *; omega))).2 ?_)), (by repeat (first | assumption | exact ModP.refl _ _ | refine ModP.fromPut ?_ (by assumption) | apply ModP.alloc | apply ModP.drew | apply ModP.drewN | refine ModP.put ?_ (by first | (left; assumption) | (left; rfl) | (right; simp only [World.inB, World.size_put] at *; omega)) _ _))⟩
    by_cases h2 : seq = k.seq n
    · have hk : Hid (k.apply l = (k.ans n, k)) := by unfold Hid; rw [hk0, if_neg h1, if_pos h2]
      clear hk0
      unfold AK.r at S1 ⊢
      go_enter Tryz.func160, Tryz.ntmps160
      go_wp2_with (go_at_call 161; refine (c161 _ l hl2).mono ?_; rintro _ w1 ⟨rfl, m1⟩; rw [hv.out]; unfold Tw.Cmd.cells; obtain ⟨y, rfl, ib, ir, my⟩ := S1.out _ m1; clear m1)
      refine Ord.region1 [] [0, 1, 2, 3, 4, 5, 6, 7, 8] [9] (by kernel_rfl) (by kernel_rfl) (fun _ _ d _ _ h => by cases d <;> exact h) ?_
      simp only [Ord.pickO, Ord.nth]
      refine wpQuiet_nil ?_
      repeat (go_big_quiet_step (fail))
      refine wpQuiet_nil ?_
      go_wp2_with fail
      refine Ord.region1 [] [0, 1, 2, 3, 4, 5, 6, 7, 8] [9] (by kernel_rfl) (by kernel_rfl) (fun _ _ d _ _ h => by cases d <;> exact h) ?_
      simp only [Ord.pickO, Ord.nth]
      refine wpQuiet_nil ?_
      repeat (go_big_quiet_step (fail))
      refine wpQuiet_nil ?_
      go_wp2_with fail
      refine Ord.region1 [] [0, 1, 2, 3, 4, 5, 6] [7] (by kernel_rfl) (by kernel_rfl) (fun _ _ d _ _ h => by cases d <;> exact h) ?_
      simp only [Ord.pickO, Ord.nth]
      refine wpQuiet_nil ?_
      repeat (go_big_quiet_step (fail))
      refine wpQuiet_nil ?_
      go_wp2_with fail
      refine bodyPost_ret (v := .agg (Ans.cells (k.ans n))) (by simp [results, Tryz.results160, go_sem, Ans.cells, ib, ir]) rfl ?_
      rw [hk.out]
      exact ⟨rfl, (by repeat (first | assumption | exact World.At_alloc_new | exact at_new (by first | rfl | (simp [World.size_put]; done) | (simp [World.size_put]; omega)) | refine World.At.alloc ?_ _ | refine World.At_drew.2 ?_ | refine (World.At_drewN _).2 ?_ | exact World.At_put_same (by first | assumption | (simp only [World.inB, World.size_put, World.alloc, World.drew, World.drewN, Array.size_push] at *; omega)) | refine (World.At_put_ne' (by first | assumption | (exact Ne.symm (by assumption)) | (simp only [World.inB, World.size_put] at *; omega))).2 ?_)), (by repeat (first | assumption | exact ModP.refl _ _ | refine ModP.fromPut ?_ (by assumption) | apply ModP.alloc | apply ModP.drew | apply ModP.drewN | refine ModP.put ?_ (by first | (left; assumption) | (left; rfl) | (right; simp only [World.inB, World.size_put] at *; omega)) _ _))⟩
    · have hk : Hid (k.apply l = ((k.run ⟨op, n, seq, key, val, old⟩).1, { (k.run ⟨op, n, seq, key, val, old⟩).2 with seq := upd (k.run ⟨op, n, seq, key, val, old⟩).2.seq n seq, ans := upd (k.run ⟨op, n, seq, key, val, old⟩).2.ans n (k.run ⟨op, n, seq, key, val, old⟩).1 })) := by unfold Hid; rw [hk0, if_neg h1, if_neg h2]
      have h2' : (seq == k.seq n) = false := by simpa using h2
      clear hk0
      generalize k.run ⟨op, n, seq, key, val, old⟩ = R at *
      obtain ⟨⟨ae, av⟩, K1⟩ := R
      simp only [] at hrun hk
      unfold Tw.Ans.cells at hrun
      go_enter Tryz.func160, Tryz.ntmps160
      go_wp2_with (go_at_call 161; refine (c161 _ l hl2).mono ?_; rintro _ w1 ⟨rfl, m1⟩; rw [hv.out]; unfold Tw.Cmd.cells; obtain ⟨y, rfl, ib, ir, my⟩ := S1.out _ m1; clear m1; unfold AK.r)
      refine Ord.region1 [] [0, 1, 2, 3, 4, 5, 6, 7, 8] [9] (by kernel_rfl) (by kernel_rfl) (fun _ _ d _ _ h => by cases d <;> exact h) ?_
      simp only [Ord.pickO, Ord.nth]
      refine wpQuiet_nil ?_
      repeat (go_big_quiet_step (fail))
      refine wpQuiet_nil ?_
      go_wp2_with fail
      refine Ord.region1 [] [0, 1, 2, 3, 4, 5, 6, 7, 8] [9] (by kernel_rfl) (by kernel_rfl) (fun _ _ d _ _ h => by cases d <;> exact h) ?_
      simp only [Ord.pickO, Ord.nth]
      refine wpQuiet_nil ?_
      repeat (go_big_quiet_step (fail))
      refine wpQuiet_nil ?_
      go_wp2_with (
        go_at_call 225; refine (hrun.out _ (by repeat (first | assumption | exact World.At_alloc_new | exact at_new (by first | rfl | (simp [World.size_put]; done) | (simp [World.size_put]; omega)) | refine World.At.alloc ?_ _ | refine World.At_drew.2 ?_ | refine (World.At_drewN _).2 ?_ | exact World.At_put_same (by first | assumption | (simp only [World.inB, World.size_put, World.alloc, World.drew, World.drewN, Array.size_push] at *; omega)) | refine (World.At_put_ne' (by first | assumption | (exact Ne.symm (by assumption)) | (simp only [World.inB, World.size_put] at *; omega))).2 ?_))).mono ?_; rintro _ w2 ⟨rfl, hb2, m2⟩
        have iy : b < y.heap.size := ib
        have iz : W.heap.size < y.heap.size := ir
        have hr2 := m2.at (b := W.heap.size) (c := Ans.cells ⟨0, []⟩) (T := 75) (by repeat (first | assumption | exact World.At_alloc_new | exact at_new (by first | rfl | (simp [World.size_put]; done) | (simp [World.size_put]; omega)) | refine World.At.alloc ?_ _ | refine World.At_drew.2 ?_ | refine (World.At_drewN _).2 ?_ | exact World.At_put_same (by first | assumption | (simp only [World.inB, World.size_put, World.alloc, World.drew, World.drewN, Array.size_push] at *; omega)) | refine (World.At_put_ne' (by first | assumption | (exact Ne.symm (by assumption)) | (simp only [World.inB, World.size_put] at *; omega))).2 ?_)) (fun e => hne e.symm)
        have hc2 := m2.at (b := y.heap.size) (c := Cmd.cells ⟨op, n, seq, key, val, old⟩) (T := 123) (by repeat (first | assumption | exact World.At_alloc_new | exact at_new (by first | rfl | (simp [World.size_put]; done) | (simp [World.size_put]; omega)) | refine World.At.alloc ?_ _ | refine World.At_drew.2 ?_ | refine (World.At_drewN _).2 ?_ | exact World.At_put_same (by first | assumption | (simp only [World.inB, World.size_put, World.alloc, World.drew, World.drewN, Array.size_push] at *; omega)) | refine (World.At_put_ne' (by first | assumption | (exact Ne.symm (by assumption)) | (simp only [World.inB, World.size_put] at *; omega))).2 ?_)) (fun e => by omega)
        have my2 : ModP F W w2 := ModP.trans (by repeat (first | assumption | exact ModP.refl _ _ | refine ModP.fromPut ?_ (by assumption) | apply ModP.alloc | apply ModP.drew | apply ModP.drewN | refine ModP.put ?_ (by first | (left; assumption) | (left; rfl) | (right; simp only [World.inB, World.size_put] at *; omega)) _ _)) (m2.mono (fun x e => e ▸ fb))
        clear m2
        obtain ⟨z, rfl, jb, jr, jc⟩ := open3 hb2 hr2 hc2 hne (by omega) (by omega)
        have mz := ((my2.unput (.inr (by omega))).unput (.inr (Nat.le_refl _))).unput (.inl fb)
        clear my2 hb2 hr2 hc2
        unfold AK.r)
      have n1 : y.heap.size ≠ z.heap.size := by have : y.heap.size < z.heap.size := jc; omega
      have n2 : b ≠ y.heap.size := by omega
      have n3' : W.heap.size ≠ y.heap.size := by omega
      refine Ord.region2f (fun w' => ∃ u : World, w' = u.force2 y.heap.size (Cmd.cells ⟨op, n, seq, key, val, old⟩) 123 z.heap.size (Ans.cells ⟨ae, av⟩) 75) [3, 4, 5, 8, 13, 14] [0, 1, 2, 6, 7, 9, 10, 11] [[(12, true), (15, false), (16, false)]] (by kernel_rfl) (by kernel_rfl) (fun _ _ d _ _ h => by cases d <;> exact h) ?ca9_1 ?_
      rotate_left
      simp only [Ord.pickO, Ord.nth]
      repeat (go_big_quiet_step (fail))
      refine wpQuiet_nil ?_
      repeat (go_big_quiet_step (fail))
      refine wpQuiet_nil ?_
      intro T hT
      simp only [List.mem_cons, List.not_mem_nil, or_false] at hT
      subst hT
      rotate_left
      · exact ca_of2 (by repeat (first | assumption | exact World.At_alloc_new | exact at_new (by first | rfl | (simp [World.size_put]; done) | (simp [World.size_put]; omega)) | refine World.At.alloc ?_ _ | refine World.At_drew.2 ?_ | refine (World.At_drewN _).2 ?_ | exact World.At_put_same (by first | assumption | (simp only [World.inB, World.size_put, World.alloc, World.drew, World.drewN, Array.size_push] at *; omega)) | refine (World.At_put_ne' (by first | assumption | (exact Ne.symm (by assumption)) | (simp only [World.inB, World.size_put] at *; omega))).2 ?_)) (by repeat (first | assumption | exact World.At_alloc_new | exact at_new (by first | rfl | (simp [World.size_put]; done) | (simp [World.size_put]; omega)) | refine World.At.alloc ?_ _ | refine World.At_drew.2 ?_ | refine (World.At_drewN _).2 ?_ | exact World.At_put_same (by first | assumption | (simp only [World.inB, World.size_put, World.alloc, World.drew, World.drewN, Array.size_push] at *; omega)) | refine (World.At_put_ne' (by first | assumption | (exact Ne.symm (by assumption)) | (simp only [World.inB, World.size_put] at *; omega))).2 ?_))
      refine Ord.wpT_loose rfl ?_
      intro K hK
      dsimp only [Ord.nth]
      go_wp2_with fail
      refine hK _ _ (ca_of2 (by repeat (first | assumption | exact World.At_alloc_new | exact at_new (by first | rfl | (simp [World.size_put]; done) | (simp [World.size_put]; omega)) | refine World.At.alloc ?_ _ | refine World.At_drew.2 ?_ | refine (World.At_drewN _).2 ?_ | exact World.At_put_same (by first | assumption | (simp only [World.inB, World.size_put, World.alloc, World.drew, World.drewN, Array.size_push] at *; omega)) | refine (World.At_put_ne' (by first | assumption | (exact Ne.symm (by assumption)) | (simp only [World.inB, World.size_put] at *; omega))).2 ?_)) (by repeat (first | assumption | exact World.At_alloc_new | exact at_new (by first | rfl | (simp [World.size_put]; done) | (simp [World.size_put]; omega)) | refine World.At.alloc ?_ _ | refine World.At_drew.2 ?_ | refine (World.At_drewN _).2 ?_ | exact World.At_put_same (by first | assumption | (simp only [World.inB, World.size_put, World.alloc, World.drew, World.drewN, Array.size_push] at *; omega)) | refine (World.At_put_ne' (by first | assumption | (exact Ne.symm (by assumption)) | (simp only [World.inB, World.size_put] at *; omega))).2 ?_))) ?_
      clear hK K
      refine Ord.wpT_next rfl ?_
      intro K hK
      dsimp only [Ord.nth]
      go_wp2_with fail
      refine Ord.wpT_next rfl ?_
      intro K hK
      dsimp only [Ord.nth]
      go_wp2_with fail
      refine Ord.wpT_nil ?_
      go_wp2_with fail
      refine bodyPost_ret (v := .agg (Ans.cells ⟨ae, av⟩)) (by simp [results, Tryz.results160, go_sem, Ans.cells, jb, jr, jc, hne, n2, n3']) rfl ?_
      rw [hk.out]
      exact ⟨rfl, (by repeat (first | assumption | exact World.At_alloc_new | exact at_new (by first | rfl | (simp [World.size_put]; done) | (simp [World.size_put]; omega)) | refine World.At.alloc ?_ _ | refine World.At_drew.2 ?_ | refine (World.At_drewN _).2 ?_ | exact World.At_put_same (by first | assumption | (simp only [World.inB, World.size_put, World.alloc, World.drew, World.drewN, Array.size_push] at *; omega)) | refine (World.At_put_ne' (by first | assumption | (exact Ne.symm (by assumption)) | (simp only [World.inB, World.size_put] at *; omega))).2 ?_)), (by repeat (first | assumption | exact ModP.refl _ _ | refine ModP.fromPut ?_ (by assumption) | apply ModP.alloc | apply ModP.drew | apply ModP.drewN | refine ModP.put ?_ (by first | (left; assumption) | (left; rfl) | (right; simp only [World.inB, World.size_put] at *; omega)) _ _))⟩
end Go.Proofs.Qxb6500990aGreat
