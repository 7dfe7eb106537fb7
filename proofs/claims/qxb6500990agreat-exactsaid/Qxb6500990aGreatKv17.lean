/- package kv: Apply -/
import Derived.Test.Qxb6500990aGreatKv16
set_option linter.unusedVariables false
set_option linter.unusedSimpArgs false
namespace Go.Proofs.Qxb6500990aGreat
open Go Go.RowKit Go.Tw
attribute [local go_sem] World.cell?_put_same World.cell?_put_ne World.cell?_put_ne' World.frozen?_put_same World.frozen?_put_ne World.frozen?_put_ne' World.setCell_put_same World.setCell_put_ne World.setCell_put_ne' World.inB_put World.inB_alloc World.inB_drew World.inB_drewN World.inB_new World.inB_setCell World.put_drew World.put_drewN World.q_setCell_drew World.q_setCell_drewN World.q_alloc_drew World.q_alloc_drewN World.put_put_same World.put_put_2 World.size_put World.q_cell?_alloc_old World.q_frozen?_alloc_old World.cell?_alloc_new' World.frozen?_alloc_new' World.q_setCell_alloc_old World.q_setCell_alloc_new World.q_put_alloc_old World.cell?_force_same World.frozen?_force_same World.cell?_force2_fst World.cell?_force2_snd KvX.g0 KvX.g1 KvX.g2 KvX.g3 KvX.g4 KvX.g5 KvX.g6 KvX.g7 KvX.g8 KvX.g9 KvX.g10 KvX.g11 KvX.g12 KvX.g13 KvX.g14 KvX.g15 KvX.g16 KvX.g17 KvX.g18 KvX.g19 KvX.g20 KvX.g21 KvX.g22 KvX.g23 KvX.g24 KvX.g25 KvX.g26 KvX.g27 KvX.g28 KvX.g29 KvX.g30 KvX.g31 KvX.g32 KvX.g33 KvX.g34 KvX.g35 KvX.g36 KvX.g37 KvX.g38 KvX.g39 KvX.g40 KvX.g41 KvX.g42 KvX.g43 KvX.g44 KvX.g45 KvX.g46 KvX.g47 KvX.g48 KvX.g49 KvX.g50 KvX.g51 KvX.g52 KvX.g53 KvX.g54 KvX.g55 KvX.g56 KvX.g57 KvX.g58 KvX.g59 KvX.g60 KvX.g61 KvX.g62 KvX.g63 KvX.g64 KvX.g65 KvX.g66 KvX.g67 KvX.g68 KvX.g69 KvX.g70 KvX.g71 KvX.g72 KvX.g73 KvX.g74 KvX.g75 KvX.g76 KvX.g77 KvX.g78 KvX.g79 KvX.g80 KvX.g81 KvX.g82 KvX.g83 KvX.gi_cells__0 KvX.gi_cells__1 KvX.gi_cells__2 KvX.gi_cells__3 KvX.gi_cells__4 KvX.gi_cells__5 KvX.gi_cells__6 KvX.gi_cells__7 KvX.gi_ss_0 KvX.gi_ss_1 KvX.gi_ss_2 KvX.gi_ss_3 KvX.gi_ss_4 KvX.gi_ss_5 KvX.gia_cells__1 KvX.gia_cells__2 KvX.gia_cells__3 KvX.gia_cells__4 KvX.gia_cells__5 KvX.gia_cells__6 KvX.gia_cells__7 KvX.gia_ss_1 KvX.gia_ss_2 KvX.gia_ss_3 KvX.gia_ss_4 KvX.gia_ss_5 KvX.pa_cells_ KvX.pa_ss KvX.s64 KvX.s65 Cmd.g0 Cmd.s0 Cmd.g1 Cmd.s1 Cmd.g2 Cmd.s2 Cmd.g3 Cmd.s3 Cmd.g4 Cmd.s4 Cmd.g5 Cmd.s5 Ans.g0 Ans.s0 Ans.g1 Ans.s1 Sess.g0 Sess.s0 Sess.g1 Sess.s1 Sess.g2 Sess.s2 Sess.g3 Sess.s3 Sess.g4 Sess.s4 Sess.g5 Sess.s5 Sess.gi_val_0 Sess.si_val_0
attribute [local go_sem] ba_get upd_same
set_option maxHeartbeats 4000000
set_option maxRecDepth 100000
theorem c217 {W : World} {b : Nat} {Kx : KvX} {A : AK} (h : W.At b Kx.cells 175) (R : KvRel Kx A) (l : Bs) (hl2 : l.length ≤ 1000) : Calls Tryz.prog 217 #[vp b, vs l] W fun r w' => r = .returned (.agg (A.apply l).1.cells) ∧ (∃ K', w'.At b K'.cells 175 ∧ KvRel K' (A.apply l).2) ∧ ModP (fun x => x = b) W w' := by
  have Hh := hidIt h
  have hlt : b < W.heap.size := h.inB
  have hne : b ≠ W.heap.size := by omega
  clear h
  obtain ⟨F, hF, fb⟩ : ∃ F : Nat → Prop, F = (fun x => x = b) ∧ F b := ⟨_, rfl, rfl⟩
  rw [← hF]
  have HF := hidIt hF
  clear hF
  have s1 : ∀ w1, Mod [] (W.alloc (.cells (Ans.cells ⟨0, []⟩) 75 (0, 0))) w1 → ∃ y : World, w1 = (y.put b Kx.cells 175).put W.heap.size (Ans.cells ⟨0, []⟩) 75 ∧ y.inB b ∧ y.inB W.heap.size ∧ ModP F W y := by
    intro w1 m1
    obtain ⟨y, rfl, ib, ir⟩ := open2 (m1.at (World.At.alloc Hh.out _) (by simp)) (m1.at (b := W.heap.size) World.At_alloc_new (by simp)) hne
    exact ⟨y, rfl, ib, ir, (ModP.unput (ModP.trans ((by repeat (first | assumption | exact ModP.refl _ _ | refine ModP.fromPut ?_ (by assumption) | apply ModP.alloc | apply ModP.drew | apply ModP.drewN | refine ModP.put ?_ (by first | (left; assumption) | (left; rfl) | (right; simp only [World.inB, World.size_put] at *; omega)) _ _)) : ModP F W (W.alloc _)) m1.toP0) (.inr (Nat.le_refl _))).unput (.inl fb)⟩
  have S1 := hidIt s1
  clear s1
  cases hd : decCmd l with
  | none =>
    have hk : Hid (A.apply l = (⟨9, []⟩, A)) := by unfold Hid AK.apply; rw [hd]
    have hv : Hid (decCmdV l = .tuple #[.agg zCmd.cells, vi 9]) := by unfold Hid decCmdV; rw [hd]
    clear hd
    have RR := hidIt R
    clear R
    go_enter Tryz.func217, Tryz.ntmps217
    go_wp2_with (go_at_call 161; refine (c161 _ l hl2).mono ?_; rintro _ w1 ⟨rfl, m1⟩; rw [hv.out]; unfold Tw.Cmd.cells zCmd; obtain ⟨y, rfl, ib, ir, my⟩ := S1.out _ m1; clear m1)
    refine bodyPost_ret (v := .agg (Ans.cells ⟨9, []⟩)) (by simp [results, Tryz.results217, go_sem, Ans.cells, ib, ir]) rfl ?_
    rw [hk.out]
    exact ⟨rfl, ⟨Kx, (by repeat (first | assumption | (with_reducible refine World.At_drew.2 ?_) | (with_reducible refine (World.At_drewN _).2 ?_) | (with_reducible exact World.At_put_same (by first | assumption | (simp only [World.inB, World.size_put, World.alloc, World.drew, World.drewN, Array.size_push] at *; omega))) | (with_reducible refine (World.At_put_ne' (by first | assumption | (exact Ne.symm (by assumption)) | (simp only [World.inB, World.size_put] at *; omega))).2 ?_) | (with_reducible exact World.At_alloc_new) | (with_reducible exact at_new (by first | rfl | (simp [World.size_put]; done) | (simp [World.size_put]; omega))) | (with_reducible refine World.At.alloc ?_ _))), RR.out⟩, (by repeat (first | assumption | exact ModP.refl _ _ | refine ModP.fromPut ?_ (by assumption) | apply ModP.alloc | apply ModP.drew | apply ModP.drewN | refine ModP.put ?_ (by first | (left; assumption) | (left; rfl) | (right; simp only [World.inB, World.size_put] at *; omega)) _ _))⟩
  | some c =>
    have hcm := decCmd_ok hd
    obtain ⟨o0, o1, k0, k1, q0, q1, l0, l1, l2, l3⟩ := cmdOK_bounds hcm
    have hv : Hid (decCmdV l = .tuple #[.agg c.cells, vi 0]) := by unfold Hid decCmdV; rw [hd]
    have hk0 : A.apply l = if c.seq < A.seq c.client.toNat then (⟨10, []⟩, A) else if c.seq = A.seq c.client.toNat then (A.ans c.client.toNat, A)
      else ((A.run c).1, { (A.run c).2 with seq := upd (A.run c).2.seq c.client.toNat c.seq, ans := upd (A.run c).2.ans c.client.toNat (A.run c).1 }) := by unfold AK.apply; rw [hd]
    clear hd
    have hrun0 := hidIt (fun (w' : World) (h : w'.At b Kx.cells 175) => c264 h R c hcm)
    have hro := R.ok.run hcm
    obtain ⟨op, cl, seq, key, val, old⟩ := c
    simp only [] at *
    obtain ⟨n, rfl⟩ := Int.eq_ofNat_of_zero_le k0
    have n3 : n < 3 := by omega
    have n9 : (n : Int) < 3 := by omega
    rw [show ((n : Nat) : Int).toNat = n from rfl] at hk0
    have hss := R.s n n3
    have e1 : (Kx.ss n).seq = A.seq n := by rw [hss]; rfl
    have q262 := hidIt (fun u => c262 u (A.seq n) (A.ans n) (R.ok.a3 n))
    rw [← hss] at q262
    simp only [Sess.cells, Ans.cells] at q262
    have RR := hidIt R
    clear l0 l1 l2 l3 k0 hcm R hss
    by_cases h1 : seq < A.seq n
    · have hk : Hid (A.apply l = (⟨10, []⟩, A)) := by unfold Hid; rw [hk0, if_pos h1]
      have d1 : decide (seq < (Kx.ss n).seq) = true := by rw [e1]; simpa using h1
      clear hk0 e1 h1
      go_enter Tryz.func217, Tryz.ntmps217
      go_wp2_with (go_at_call 161; refine (c161 _ l hl2).mono ?_; rintro _ w1 ⟨rfl, m1⟩; rw [hv.out]; unfold Tw.Cmd.cells; obtain ⟨y, rfl, ib, ir, my⟩ := S1.out _ m1; clear m1)
      have n1 : b ≠ y.heap.size := by have : b < y.heap.size := ib; omega
      refine Ord.region2f (fun w' => ∃ u : World, w' = u.force2 b Kx.cells 175 y.heap.size (Cmd.cells ⟨op, n, seq, key, val, old⟩) 123) [0, 1, 2, 3, 4, 5, 6] [] [[(7, true), (8, false)]] (by kernel_rfl) (by kernel_rfl) (fun _ _ d _ _ h => by cases d <;> exact h) ?ca4_1 ?_
      rotate_left
      simp only [Ord.pickO, Ord.nth]
      repeat (go_big_quiet_step (fail))
      refine wpQuiet_nil ?_
      refine wpQuiet_nil ?_
      intro T hT
      simp only [List.mem_cons, List.not_mem_nil, or_false] at hT
      subst hT
      rotate_left
      · exact ca_of2 (by repeat (first | assumption | (with_reducible refine World.At_drew.2 ?_) | (with_reducible refine (World.At_drewN _).2 ?_) | (with_reducible exact World.At_put_same (by first | assumption | (simp only [World.inB, World.size_put, World.alloc, World.drew, World.drewN, Array.size_push] at *; omega))) | (with_reducible refine (World.At_put_ne' (by first | assumption | (exact Ne.symm (by assumption)) | (simp only [World.inB, World.size_put] at *; omega))).2 ?_) | (with_reducible exact World.At_alloc_new) | (with_reducible exact at_new (by first | rfl | (simp [World.size_put]; done) | (simp [World.size_put]; omega))) | (with_reducible refine World.At.alloc ?_ _))) (World.At_drew.2 (at_new (by simp [World.size_put])))
      refine Ord.wpT_loose rfl ?_
      intro K hK
      dsimp only [Ord.nth]
      go_wp2_with fail
      refine hK _ _ (ca_of2 (by repeat (first | assumption | (with_reducible refine World.At_drew.2 ?_) | (with_reducible refine (World.At_drewN _).2 ?_) | (with_reducible exact World.At_put_same (by first | assumption | (simp only [World.inB, World.size_put, World.alloc, World.drew, World.drewN, Array.size_push] at *; omega))) | (with_reducible refine (World.At_put_ne' (by first | assumption | (exact Ne.symm (by assumption)) | (simp only [World.inB, World.size_put] at *; omega))).2 ?_) | (with_reducible exact World.At_alloc_new) | (with_reducible exact at_new (by first | rfl | (simp [World.size_put]; done) | (simp [World.size_put]; omega))) | (with_reducible refine World.At.alloc ?_ _))) (World.At_drew.2 (World.At.alloc (at_new (by simp [World.size_put])) _))) ?_
      clear hK K
      refine Ord.wpT_next rfl ?_
      intro K hK
      dsimp only [Ord.nth]
      go_wp2_with fail
      refine Ord.wpT_nil ?_
      go_wp2_with fail
      refine bodyPost_ret (v := .agg (Ans.cells ⟨10, []⟩)) ?_ rfl ?_
      · simp [results, Tryz.results217, go_sem, Ans.cells, ib, ir, hne]
      · rw [hk.out]
        exact ⟨rfl, ⟨Kx, (by repeat (first | assumption | (with_reducible refine World.At_drew.2 ?_) | (with_reducible refine (World.At_drewN _).2 ?_) | (with_reducible exact World.At_put_same (by first | assumption | (simp only [World.inB, World.size_put, World.alloc, World.drew, World.drewN, Array.size_push] at *; omega))) | (with_reducible refine (World.At_put_ne' (by first | assumption | (exact Ne.symm (by assumption)) | (simp only [World.inB, World.size_put] at *; omega))).2 ?_) | (with_reducible exact World.At_alloc_new) | (with_reducible exact at_new (by first | rfl | (simp [World.size_put]; done) | (simp [World.size_put]; omega))) | (with_reducible refine World.At.alloc ?_ _))), RR.out⟩, (by repeat (first | assumption | exact ModP.refl _ _ | refine ModP.fromPut ?_ (by assumption) | apply ModP.alloc | apply ModP.drew | apply ModP.drewN | refine ModP.put ?_ (by first | (left; assumption) | (left; rfl) | (right; simp only [World.inB, World.size_put] at *; omega)) _ _))⟩
    by_cases h2 : seq = A.seq n
    · have hk : Hid (A.apply l = (A.ans n, A)) := by unfold Hid; rw [hk0, if_neg h1, if_pos h2]
      have d1 : decide (seq < (Kx.ss n).seq) = false := by rw [e1]; simpa using h1
      have d2 : (seq == (Kx.ss n).seq) = true := by rw [e1]; simpa using h2
      clear hk0 e1 h1 h2
      go_enter Tryz.func217, Tryz.ntmps217
      go_wp2_with (go_at_call 161; refine (c161 _ l hl2).mono ?_; rintro _ w1 ⟨rfl, m1⟩; rw [hv.out]; unfold Tw.Cmd.cells; obtain ⟨y, rfl, ib, ir, my⟩ := S1.out _ m1; clear m1)
      have n1 : b ≠ y.heap.size := by have : b < y.heap.size := ib; omega
      refine Ord.region2f (fun w' => ∃ u : World, w' = u.force2 b Kx.cells 175 y.heap.size (Cmd.cells ⟨op, n, seq, key, val, old⟩) 123) [0, 1, 2, 3, 4, 5, 6] [] [[(7, true), (8, false)]] (by kernel_rfl) (by kernel_rfl) (fun _ _ d _ _ h => by cases d <;> exact h) ?ca4_2 ?_
      rotate_left
      simp only [Ord.pickO, Ord.nth]
      repeat (go_big_quiet_step (fail))
      refine wpQuiet_nil ?_
      refine wpQuiet_nil ?_
      intro T hT
      simp only [List.mem_cons, List.not_mem_nil, or_false] at hT
      subst hT
      rotate_left
      · exact ca_of2 (by repeat (first | assumption | (with_reducible refine World.At_drew.2 ?_) | (with_reducible refine (World.At_drewN _).2 ?_) | (with_reducible exact World.At_put_same (by first | assumption | (simp only [World.inB, World.size_put, World.alloc, World.drew, World.drewN, Array.size_push] at *; omega))) | (with_reducible refine (World.At_put_ne' (by first | assumption | (exact Ne.symm (by assumption)) | (simp only [World.inB, World.size_put] at *; omega))).2 ?_) | (with_reducible exact World.At_alloc_new) | (with_reducible exact at_new (by first | rfl | (simp [World.size_put]; done) | (simp [World.size_put]; omega))) | (with_reducible refine World.At.alloc ?_ _))) (World.At_drew.2 (at_new (by simp [World.size_put])))
      refine Ord.wpT_loose rfl ?_
      intro K hK
      dsimp only [Ord.nth]
      go_wp2_with fail
      refine hK _ _ (ca_of2 (by repeat (first | assumption | (with_reducible refine World.At_drew.2 ?_) | (with_reducible refine (World.At_drewN _).2 ?_) | (with_reducible exact World.At_put_same (by first | assumption | (simp only [World.inB, World.size_put, World.alloc, World.drew, World.drewN, Array.size_push] at *; omega))) | (with_reducible refine (World.At_put_ne' (by first | assumption | (exact Ne.symm (by assumption)) | (simp only [World.inB, World.size_put] at *; omega))).2 ?_) | (with_reducible exact World.At_alloc_new) | (with_reducible exact at_new (by first | rfl | (simp [World.size_put]; done) | (simp [World.size_put]; omega))) | (with_reducible refine World.At.alloc ?_ _))) (World.At_drew.2 (World.At.alloc (at_new (by simp [World.size_put])) _))) ?_
      clear hK K
      refine Ord.wpT_next rfl ?_
      intro K hK
      dsimp only [Ord.nth]
      go_wp2_with fail
      refine Ord.wpT_nil ?_
      go_wp2_with (first
        | (go_at_call 262; refine (q262.out _).mono ?_; rintro _ w2 ⟨rfl, m2⟩; have A1 := m2.at (b := b) (c := Kx.cells) (T := 175) (by repeat (first | assumption | (with_reducible refine World.At_drew.2 ?_) | (with_reducible refine (World.At_drewN _).2 ?_) | (with_reducible exact World.At_put_same (by first | assumption | (simp only [World.inB, World.size_put, World.alloc, World.drew, World.drewN, Array.size_push] at *; omega))) | (with_reducible refine (World.At_put_ne' (by first | assumption | (exact Ne.symm (by assumption)) | (simp only [World.inB, World.size_put] at *; omega))).2 ?_) | (with_reducible exact World.At_alloc_new) | (with_reducible exact at_new (by first | rfl | (simp [World.size_put]; done) | (simp [World.size_put]; omega))) | (with_reducible refine World.At.alloc ?_ _))) (fun f => f); have A2 := m2.at (b := W.heap.size) (c := Ans.cells ⟨0, []⟩) (T := 75) (by repeat (first | assumption | (with_reducible refine World.At_drew.2 ?_) | (with_reducible refine (World.At_drewN _).2 ?_) | (with_reducible exact World.At_put_same (by first | assumption | (simp only [World.inB, World.size_put, World.alloc, World.drew, World.drewN, Array.size_push] at *; omega))) | (with_reducible refine (World.At_put_ne' (by first | assumption | (exact Ne.symm (by assumption)) | (simp only [World.inB, World.size_put] at *; omega))).2 ?_) | (with_reducible exact World.At_alloc_new) | (with_reducible exact at_new (by first | rfl | (simp [World.size_put]; done) | (simp [World.size_put]; omega))) | (with_reducible refine World.At.alloc ?_ _))) (fun f => f); have M2 := hidIt (ModP.trans (F := F) (w := W) (by repeat (first | assumption | exact ModP.refl _ _ | refine ModP.fromPut ?_ (by assumption) | apply ModP.alloc | apply ModP.drew | apply ModP.drewN | refine ModP.put ?_ (by first | (left; assumption) | (left; rfl) | (right; simp only [World.inB, World.size_put] at *; omega)) _ _)) (m2.mono fun _ f => f.elim)); obtain ⟨z, rfl, jb, jr⟩ := open2 A1 A2 hne; clear m2 A1 A2))
      refine bodyPost_ret (v := .agg (A.ans n).cells) ?_ rfl ?_
      · simp [results, Tryz.results217, go_sem, Ans.cells, jb, jr, hne]
      · rw [hk.out]
        have := (M2.out.unput (.inr (Nat.le_refl _))).unput (.inl fb)
        exact ⟨rfl, ⟨Kx, (by repeat (first | assumption | (with_reducible refine World.At_drew.2 ?_) | (with_reducible refine (World.At_drewN _).2 ?_) | (with_reducible exact World.At_put_same (by first | assumption | (simp only [World.inB, World.size_put, World.alloc, World.drew, World.drewN, Array.size_push] at *; omega))) | (with_reducible refine (World.At_put_ne' (by first | assumption | (exact Ne.symm (by assumption)) | (simp only [World.inB, World.size_put] at *; omega))).2 ?_) | (with_reducible exact World.At_alloc_new) | (with_reducible exact at_new (by first | rfl | (simp [World.size_put]; done) | (simp [World.size_put]; omega))) | (with_reducible refine World.At.alloc ?_ _))), RR.out⟩, (by repeat (first | assumption | exact ModP.refl _ _ | refine ModP.fromPut ?_ (by assumption) | apply ModP.alloc | apply ModP.drew | apply ModP.drewN | refine ModP.put ?_ (by first | (left; assumption) | (left; rfl) | (right; simp only [World.inB, World.size_put] at *; omega)) _ _))⟩
    · have hk : Hid (A.apply l = ((A.run ⟨op, n, seq, key, val, old⟩).1, { (A.run ⟨op, n, seq, key, val, old⟩).2 with seq := upd (A.run ⟨op, n, seq, key, val, old⟩).2.seq n seq, ans := upd (A.run ⟨op, n, seq, key, val, old⟩).2.ans n (A.run ⟨op, n, seq, key, val, old⟩).1 })) := by unfold Hid; rw [hk0, if_neg h1, if_neg h2]
      have d1 : decide (seq < (Kx.ss n).seq) = false := by rw [e1]; simpa using h1
      have d2 : (seq == (Kx.ss n).seq) = false := by rw [e1]; simpa using h2
      clear hk0 e1 h1 h2 q262
      generalize A.run ⟨op, n, seq, key, val, old⟩ = RN at *
      obtain ⟨⟨ae, av⟩, A1⟩ := RN
      simp only [] at hrun0 hk hro
      obtain ⟨ro, re0, re1, rv⟩ := hro
      have q182 := hidIt (fun u => c182 u seq ⟨ae, av⟩ rv)
      have fin : Hid (∀ K', KvRel K' A1 → KvRel { K' with ss := upd K'.ss n (mkSessS seq ⟨ae, av⟩) } { A1 with seq := upd A1.seq n seq, ans := upd A1.ans n ⟨ae, av⟩ }) := fun K' hr => hr.sess (by omega) q1 re0 re1 rv
      simp only [Cmd.cells, Ans.cells, Sess.cells] at hrun0 q182
      clear ro re0 re1 rv
      go_enter Tryz.func217, Tryz.ntmps217
      go_wp2_with (go_at_call 161; refine (c161 _ l hl2).mono ?_; rintro _ w1 ⟨rfl, m1⟩; rw [hv.out]; unfold Tw.Cmd.cells; obtain ⟨y, rfl, ib, ir, my⟩ := S1.out _ m1; clear m1)
      have n1 : b ≠ y.heap.size := by have : b < y.heap.size := ib; omega
      refine Ord.region2f (fun w' => ∃ u : World, w' = u.force2 b Kx.cells 175 y.heap.size (Cmd.cells ⟨op, n, seq, key, val, old⟩) 123) [0, 1, 2, 3, 4, 5, 6] [] [[(7, true), (8, false)]] (by kernel_rfl) (by kernel_rfl) (fun _ _ d _ _ h => by cases d <;> exact h) ?ca4_3 ?_
      rotate_left
      simp only [Ord.pickO, Ord.nth]
      repeat (go_big_quiet_step (fail))
      refine wpQuiet_nil ?_
      refine wpQuiet_nil ?_
      intro T hT
      simp only [List.mem_cons, List.not_mem_nil, or_false] at hT
      subst hT
      rotate_left
      · exact ca_of2 (by repeat (first | assumption | (with_reducible refine World.At_drew.2 ?_) | (with_reducible refine (World.At_drewN _).2 ?_) | (with_reducible exact World.At_put_same (by first | assumption | (simp only [World.inB, World.size_put, World.alloc, World.drew, World.drewN, Array.size_push] at *; omega))) | (with_reducible refine (World.At_put_ne' (by first | assumption | (exact Ne.symm (by assumption)) | (simp only [World.inB, World.size_put] at *; omega))).2 ?_) | (with_reducible exact World.At_alloc_new) | (with_reducible exact at_new (by first | rfl | (simp [World.size_put]; done) | (simp [World.size_put]; omega))) | (with_reducible refine World.At.alloc ?_ _))) (World.At_drew.2 (at_new (by simp [World.size_put])))
      refine Ord.wpT_loose rfl ?_
      intro K hK
      dsimp only [Ord.nth]
      go_wp2_with fail
      refine hK _ _ (ca_of2 (by repeat (first | assumption | (with_reducible refine World.At_drew.2 ?_) | (with_reducible refine (World.At_drewN _).2 ?_) | (with_reducible exact World.At_put_same (by first | assumption | (simp only [World.inB, World.size_put, World.alloc, World.drew, World.drewN, Array.size_push] at *; omega))) | (with_reducible refine (World.At_put_ne' (by first | assumption | (exact Ne.symm (by assumption)) | (simp only [World.inB, World.size_put] at *; omega))).2 ?_) | (with_reducible exact World.At_alloc_new) | (with_reducible exact at_new (by first | rfl | (simp [World.size_put]; done) | (simp [World.size_put]; omega))) | (with_reducible refine World.At.alloc ?_ _))) (World.At_drew.2 (World.At.alloc (at_new (by simp [World.size_put])) _))) ?_
      clear hK K
      refine Ord.wpT_next rfl ?_
      intro K hK
      dsimp only [Ord.nth]
      go_wp2_with fail
      refine Ord.wpT_nil ?_
      go_wp2_with (first
        | (go_at_call 264; refine (hrun0.out _ (by repeat (first | assumption | (with_reducible refine World.At_drew.2 ?_) | (with_reducible refine (World.At_drewN _).2 ?_) | (with_reducible exact World.At_put_same (by first | assumption | (simp only [World.inB, World.size_put, World.alloc, World.drew, World.drewN, Array.size_push] at *; omega))) | (with_reducible refine (World.At_put_ne' (by first | assumption | (exact Ne.symm (by assumption)) | (simp only [World.inB, World.size_put] at *; omega))).2 ?_) | (with_reducible exact World.At_alloc_new) | (with_reducible exact at_new (by first | rfl | (simp [World.size_put]; done) | (simp [World.size_put]; omega))) | (with_reducible refine World.At.alloc ?_ _)))).mono ?_; rintro _ w2 ⟨rfl, ⟨K2, a1, r2⟩, m2⟩; have R2 := hidIt r2; have A2 := m2.at (b := W.heap.size) (c := Ans.cells ⟨0, []⟩) (T := 75) (by repeat (first | assumption | (with_reducible refine World.At_drew.2 ?_) | (with_reducible refine (World.At_drewN _).2 ?_) | (with_reducible exact World.At_put_same (by first | assumption | (simp only [World.inB, World.size_put, World.alloc, World.drew, World.drewN, Array.size_push] at *; omega))) | (with_reducible refine (World.At_put_ne' (by first | assumption | (exact Ne.symm (by assumption)) | (simp only [World.inB, World.size_put] at *; omega))).2 ?_) | (with_reducible exact World.At_alloc_new) | (with_reducible exact at_new (by first | rfl | (simp [World.size_put]; done) | (simp [World.size_put]; omega))) | (with_reducible refine World.At.alloc ?_ _))) (fun e => hne e.symm); have A3 := m2.at (b := y.heap.size) (c := Cmd.cells ⟨op, n, seq, key, val, old⟩) (T := 123) (World.At_drew.2 (World.At.alloc (at_new (by simp [World.size_put])) _)) (fun e => n1 e.symm); have M2 := hidIt (ModP.trans (F := F) (w := W) (by repeat (first | assumption | exact ModP.refl _ _ | refine ModP.fromPut ?_ (by assumption) | apply ModP.alloc | apply ModP.drew | apply ModP.drewN | refine ModP.put ?_ (by first | (left; assumption) | (left; rfl) | (right; simp only [World.inB, World.size_put] at *; omega)) _ _)) (m2.mono (fun x e => e ▸ fb))); obtain ⟨z, rfl, jb, jr, jc⟩ := open3 a1 A2 A3 hne n1 (by have : W.heap.size < y.heap.size := ir; omega); clear m2 A2 A3 a1 r2))
      have n2 : W.heap.size ≠ y.heap.size := by have : W.heap.size < y.heap.size := ir; omega
      have n4 : y.heap.size ≠ z.heap.size := by have : y.heap.size < z.heap.size := jc; omega
      have n5 : b ≠ z.heap.size := by have : b < z.heap.size := jb; omega
      have n6 : W.heap.size ≠ z.heap.size := by have : W.heap.size < z.heap.size := jr; omega
      have hn0 := hidIt hne
      refine Ord.region2f (fun w' => ∃ u : World, w' = u.force y.heap.size (Cmd.cells ⟨op, n, seq, key, val, old⟩) 123) [0, 1, 2, 7, 8] [3, 4, 5] [[(6, true), (9, false), (10, false)]] (by kernel_rfl) (by kernel_rfl) (fun _ _ d _ _ h => by cases d <;> exact h) ?ca10_4 ?_
      rotate_left
      simp only [Ord.pickO, Ord.nth]
      repeat (go_big_quiet_step (fail))
      refine wpQuiet_nil ?_
      repeat (go_big_quiet_step (fail))
      refine wpQuiet_nil ?_
      intro T hT
      simp only [List.mem_cons, List.not_mem_nil, or_false] at hT
      subst hT
      rotate_left
      · exact ca_of (by repeat (first | assumption | (with_reducible refine World.At_drew.2 ?_) | (with_reducible refine (World.At_drewN _).2 ?_) | (with_reducible exact World.At_put_same (by first | assumption | (simp only [World.inB, World.size_put, World.alloc, World.drew, World.drewN, Array.size_push] at *; omega))) | (with_reducible refine (World.At_put_ne' (by first | assumption | (exact Ne.symm (by assumption)) | (simp only [World.inB, World.size_put] at *; omega))).2 ?_) | (with_reducible exact World.At_alloc_new) | (with_reducible exact at_new (by first | rfl | (simp [World.size_put]; done) | (simp [World.size_put]; omega))) | (with_reducible refine World.At.alloc ?_ _)))
      refine Ord.wpT_loose rfl ?_
      intro K hK
      dsimp only [Ord.nth]
      go_wp2_with (first
        | (go_at_call 182; refine (q182.out _).mono ?_; rintro _ w3 ⟨rfl, m3⟩; have A1 := m3.at (b := b) (c := K2.cells) (T := 175) (by repeat (first | assumption | (with_reducible refine World.At_drew.2 ?_) | (with_reducible refine (World.At_drewN _).2 ?_) | (with_reducible exact World.At_put_same (by first | assumption | (simp only [World.inB, World.size_put, World.alloc, World.drew, World.drewN, Array.size_push] at *; omega))) | (with_reducible refine (World.At_put_ne' (by first | assumption | (exact Ne.symm (by assumption)) | (simp only [World.inB, World.size_put] at *; omega))).2 ?_) | (with_reducible exact World.At_alloc_new) | (with_reducible exact at_new (by first | rfl | (simp [World.size_put]; done) | (simp [World.size_put]; omega))) | (with_reducible refine World.At.alloc ?_ _))) (fun f => f); have A2 := m3.at (b := W.heap.size) (c := Ans.cells ⟨0, []⟩) (T := 75) (by repeat (first | assumption | (with_reducible refine World.At_drew.2 ?_) | (with_reducible refine (World.At_drewN _).2 ?_) | (with_reducible exact World.At_put_same (by first | assumption | (simp only [World.inB, World.size_put, World.alloc, World.drew, World.drewN, Array.size_push] at *; omega))) | (with_reducible refine (World.At_put_ne' (by first | assumption | (exact Ne.symm (by assumption)) | (simp only [World.inB, World.size_put] at *; omega))).2 ?_) | (with_reducible exact World.At_alloc_new) | (with_reducible exact at_new (by first | rfl | (simp [World.size_put]; done) | (simp [World.size_put]; omega))) | (with_reducible refine World.At.alloc ?_ _))) (fun f => f); have A3 := m3.at (b := y.heap.size) (c := Cmd.cells ⟨op, n, seq, key, val, old⟩) (T := 123) (by repeat (first | assumption | (with_reducible refine World.At_drew.2 ?_) | (with_reducible refine (World.At_drewN _).2 ?_) | (with_reducible exact World.At_put_same (by first | assumption | (simp only [World.inB, World.size_put, World.alloc, World.drew, World.drewN, Array.size_push] at *; omega))) | (with_reducible refine (World.At_put_ne' (by first | assumption | (exact Ne.symm (by assumption)) | (simp only [World.inB, World.size_put] at *; omega))).2 ?_) | (with_reducible exact World.At_alloc_new) | (with_reducible exact at_new (by first | rfl | (simp [World.size_put]; done) | (simp [World.size_put]; omega))) | (with_reducible refine World.At.alloc ?_ _))) (fun f => f); have A4 := m3.at (b := z.heap.size) (c := Ans.cells ⟨ae, av⟩) (T := 75) (World.At_drew.2 (at_new (by simp [World.size_put]))) (fun f => f); have M3 := hidIt (ModP.trans (F := F) (w := W) (ModP.drew (ModP.alloc M2.out _)) (m3.mono fun _ f => f.elim)); obtain ⟨z3, rfl, lb, lr, lc⟩ := open3 A1 A2 A3 hne n1 n2; have A5 := (World.At_put_ne' (Ne.symm n5)).1 ((World.At_put_ne' (Ne.symm n6)).1 ((World.At_put_ne' (Ne.symm n4)).1 A4)); have hz := A5.cell; have iz := A5.inB; clear m3 A1 A2 A3 A4 A5))
      refine hK _ _ (ca_of (by repeat (first | assumption | (with_reducible refine World.At_drew.2 ?_) | (with_reducible refine (World.At_drewN _).2 ?_) | (with_reducible exact World.At_put_same (by first | assumption | (simp only [World.inB, World.size_put, World.alloc, World.drew, World.drewN, Array.size_push] at *; omega))) | (with_reducible refine (World.At_put_ne' (by first | assumption | (exact Ne.symm (by assumption)) | (simp only [World.inB, World.size_put] at *; omega))).2 ?_) | (with_reducible exact World.At_alloc_new) | (with_reducible exact at_new (by first | rfl | (simp [World.size_put]; done) | (simp [World.size_put]; omega))) | (with_reducible refine World.At.alloc ?_ _)))) ?_
      clear hK K
      refine Ord.wpT_next rfl ?_
      intro K hK
      dsimp only [Ord.nth]
      go_wp2_with fail
      refine Ord.wpT_next rfl ?_
      intro K hK
      dsimp only [Ord.nth]
      go_wp2_with fail
      refine Ord.wpT_nil ?_
      go_wp2_with fail
      refine bodyPost_ret (v := .agg (Ans.cells ⟨ae, av⟩)) ?_ rfl ?_
      · simp [results, Tryz.results217, go_sem, Ans.cells, lb, lr, lc, hne, n1, n2]
      · rw [hk.out]
        have := ((M3.out.unput (.inr (Nat.le_of_lt ir))).unput (.inr (Nat.le_refl _))).unput (.inl fb)
        exact ⟨rfl, ⟨_, (by repeat (first | assumption | (with_reducible refine World.At_drew.2 ?_) | (with_reducible refine (World.At_drewN _).2 ?_) | (with_reducible exact World.At_put_same (by first | assumption | (simp only [World.inB, World.size_put, World.alloc, World.drew, World.drewN, Array.size_push] at *; omega))) | (with_reducible refine (World.At_put_ne' (by first | assumption | (exact Ne.symm (by assumption)) | (simp only [World.inB, World.size_put] at *; omega))).2 ?_) | (with_reducible exact World.At_alloc_new) | (with_reducible exact at_new (by first | rfl | (simp [World.size_put]; done) | (simp [World.size_put]; omega))) | (with_reducible refine World.At.alloc ?_ _))), fin.out _ R2.out⟩, (by repeat (first | assumption | exact ModP.refl _ _ | refine ModP.fromPut ?_ (by assumption) | apply ModP.alloc | apply ModP.drew | apply ModP.drewN | refine ModP.put ?_ (by first | (left; assumption) | (left; rfl) | (right; simp only [World.inB, World.size_put] at *; omega)) _ _))⟩
end Go.Proofs.Qxb6500990aGreat
