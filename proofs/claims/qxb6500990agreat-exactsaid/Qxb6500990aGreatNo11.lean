/- package node: giveUp, apply -/
import Derived.Test.Qxb6500990aGreatNo10
import Derived.Deep.Cut
set_option linter.unusedVariables false
set_option linter.unusedSimpArgs false
namespace Go.Proofs.Qxb6500990aGreat
open Go Go.RowKit Go.Tw
attribute [local go_sem] World.cell?_put_same World.cell?_put_ne World.cell?_put_ne' World.frozen?_put_same World.frozen?_put_ne World.frozen?_put_ne' World.setCell_put_same World.setCell_put_ne World.setCell_put_ne' World.inB_put World.inB_alloc World.inB_drew World.inB_drewN World.inB_new World.inB_setCell World.put_drew World.put_drewN World.q_setCell_drew World.q_setCell_drewN World.q_alloc_drew World.q_alloc_drewN World.put_put_same World.put_put_2 World.size_put World.q_cell?_alloc_old World.q_frozen?_alloc_old World.cell?_alloc_new' World.frozen?_alloc_new' World.q_setCell_alloc_old World.q_setCell_alloc_new World.q_put_alloc_old World.cell?_force_same World.frozen?_force_same World.cell?_force2_fst World.cell?_force2_snd NodeR.g0 NodeR.s0 NodeR.g1 NodeR.s1 NodeR.g2 NodeR.s2 NodeR.g3 NodeR.s3 NodeR.g4 NodeR.s4 NodeR.g5 NodeR.s5 NodeR.g6 NodeR.s6 NodeR.g7 NodeR.s7 NodeR.g8 NodeR.s8 NodeR.g9 NodeR.s9 NodeR.g10 NodeR.s10 NodeR.g11 NodeR.s11 NodeR.g12 NodeR.s12 NodeR.g13 NodeR.s13 NodeR.g14 NodeR.s14 NodeR.g15 NodeR.s15 NodeR.g16 NodeR.s16 NodeR.g17 NodeR.s17 NodeR.g18 NodeR.s18 NodeR.g19 NodeR.s19 NodeR.g20 NodeR.s20 NodeR.g21 NodeR.s21 NodeR.g22 NodeR.s22 NodeR.g23 NodeR.s23 NodeR.g24 NodeR.s24 NodeR.g25 NodeR.s25 NodeR.g26 NodeR.s26 NodeR.gi_used_0 NodeR.si_used_0 NodeR.gi_seq_0 NodeR.si_seq_0 NodeR.gi_idx_0 NodeR.si_idx_0 NodeR.gi_reps_0 NodeR.si_reps_0 NodeR.gi_reps_1 NodeR.si_reps_1 NodeR.gi_reps_2 NodeR.si_reps_2 NodeR.gi_reps_3 NodeR.si_reps_3 Entry.g0 Entry.s0 Entry.g1 Entry.s1 Ans.g0 Ans.s0 Ans.g1 Ans.s1
attribute [local go_sem] NodeR.gia_reps_1 NodeR.sia_reps_1 NodeR.gia_reps_2 NodeR.sia_reps_2 NodeR.gia_reps_3 NodeR.sia_reps_3
attribute [local go_sem] ba_get upd_same upd_upd
set_option maxHeartbeats 4000000
set_option maxRecDepth 100000
section
variable {W w : World} {G X : Nat → Prop} {q : NoP} {n : AN} {R : List Reply}
theorem c145 (h : RN G W X q n R w) (hR : R.length + n.cnt ≤ 3) : Calls Tryz.prog 145 #[vp q.b, vi n.sy.el.role] w fun r w' => r = .returned (.tuple #[]) ∧ RN G W X q (AN.giveN 3 0 n).1 (R ++ (AN.giveN 3 0 n).2) w' ∧ ModP (fun k => ¬ X k) w w' := by
  have H := hidIt h
  have HR := hidIt hR
  clear h hR
  go_enter Tryz.func145, Tryz.ntmps145
  go_wp2_with fail
  go_loopw [4] (fun cv u => ∃ (c : Nat) (n' : AN) (R' : List Reply), c ≤ 3 ∧ cv = vi c ∧ Hid (RN G W X q n' R' u) ∧ Hid (ModP (fun k => ¬ X k) w u) ∧ Hid (R'.length + n'.cnt ≤ 3) ∧ Hid ((AN.giveN (3 - c) c n').1 = (AN.giveN 3 0 n).1 ∧ R' ++ (AN.giveN (3 - c) c n').2 = R ++ (AN.giveN 3 0 n).2 ∧ n'.sy = n.sy)) (fun cv _ => 3 - (intOf cv).toNat)
  case atStart => exact ⟨0, n, R, by omega, rfl, H, ModP.refl _ _, HR, rfl, rfl, rfl⟩
  case round =>
    clear H HR
    obtain ⟨c, n', R', hc3, rfl, H, M, HR, HE⟩ := hrel
    obtain ⟨rs, hb, -, -⟩ := H.out.hb
    unfold RNo at hb
    have hc := hb.cell
    have ib := hb.inB
    clear hb
    by_cases hcn : c < 3
    · have c4 : (c : Int) < 3 := by omega
      have hg : AN.giveN (3 - c) c n' = ((AN.giveN (3 - (c + 1)) (c + 1) (n'.give c).1).1, (n'.give c).2 ++ (AN.giveN (3 - (c + 1)) (c + 1) (n'.give c).1).2) := by
        rw [show 3 - c = (3 - (c + 1)) + 1 by omega]; rfl
      have hcnt := hidIt (n'.give_cnt hcn)
      have hro : Hid (n'.sy.el.role = n.sy.el.role) := by unfold Hid; rw [HE.out.2.2]
      have HG := hidIt hg
      clear hg
      by_cases hl : n'.lost c
      · have hgv : Hid (n'.give c = (n'.clear c, [⟨c, n'.seq c, ⟨13, []⟩⟩])) := by unfold Hid AN.give; rw [if_pos hl]
        obtain ⟨hu, hor⟩ := hl
        have hRl : R'.length < 3 := by have := AN.cnt_clear hcn hu; have := HR.out; omega
        have qr := hidIt (fun (u : World) (hu : RN G W X q n' R' u) => c219 hu c hcn hRl ⟨13, []⟩)
        simp only [Ans.cells] at qr
        by_cases hr : n'.sy.el.role = 2
        · have d1 : (n.sy.el.role != 2) = false := by rw [← hro.out]; simpa using hr
          have d2 : decide (n'.idx c ≤ n'.applied) = true := by simpa using hor.resolve_left (fun x => x hr)
          clear hor hr
          go_wp2_with fail
          refine Ord.region1 [] [0, 1, 2, 3, 4, 5, 6, 7, 8, 9, 10, 11, 12, 13, 14, 15, 16, 17, 18, 19, 20, 21] [22] (by kernel_rfl) (by kernel_rfl) (fun _ _ d _ _ h => by cases d <;> exact h) ?_
          simp only [Ord.pickO, Ord.nth]
          refine wpQuiet_nil ?_
          repeat (go_big_quiet_step (fail))
          refine wpQuiet_nil ?_
          go_wp2_with (first
            | (go_at_call 219; refine (qr.out _ (H.out.fr ((ModP.refl _ _).drew))).mono ?_; rintro _ w2 ⟨rfl, s2, m2⟩; have S2 := hidIt s2; have M2 := hidIt m2.undrew; clear s2 m2))
          go_roundw
          case rel =>
            refine ⟨c + 1, n'.clear c, R' ++ [⟨c, n'.seq c, ⟨13, []⟩⟩], by omega, by go_num, S2, M.out.trans M2.out, ?_, ?_⟩
            · have h1 := hcnt.out; rw [hgv.out] at h1; have h2 := HR.out; unfold Hid; simp at h1 ⊢; omega
            · obtain ⟨a1, a2, a3⟩ := HE.out
              rw [HG.out, hgv.out] at a1 a2
              exact ⟨a1, by rw [List.append_assoc]; exact a2, a3⟩
          case measure => simp [intOf]; omega
        · have d1 : (n.sy.el.role != 2) = true := by rw [← hro.out]; simpa using hr
          clear hor hr
          go_wp2_with fail
          refine Ord.region1 [] [0, 1, 2, 3, 4, 5, 6, 7, 8, 9, 10, 11, 12, 13, 14, 15, 16, 17, 18, 19, 20, 21] [22] (by kernel_rfl) (by kernel_rfl) (fun _ _ d _ _ h => by cases d <;> exact h) ?_
          simp only [Ord.pickO, Ord.nth]
          refine wpQuiet_nil ?_
          repeat (go_big_quiet_step (fail))
          refine wpQuiet_nil ?_
          go_wp2_with (first
            | (go_at_call 219; refine (qr.out _ (H.out.fr ((ModP.refl _ _).drew))).mono ?_; rintro _ w2 ⟨rfl, s2, m2⟩; have S2 := hidIt s2; have M2 := hidIt m2.undrew; clear s2 m2))
          go_roundw
          case rel =>
            refine ⟨c + 1, n'.clear c, R' ++ [⟨c, n'.seq c, ⟨13, []⟩⟩], by omega, by go_num, S2, M.out.trans M2.out, ?_, ?_⟩
            · have h1 := hcnt.out; rw [hgv.out] at h1; have h2 := HR.out; unfold Hid; simp at h1 ⊢; omega
            · obtain ⟨a1, a2, a3⟩ := HE.out
              rw [HG.out, hgv.out] at a1 a2
              exact ⟨a1, by rw [List.append_assoc]; exact a2, a3⟩
          case measure => simp [intOf]; omega
      · have hgv : Hid (n'.give c = (n', [])) := by unfold Hid AN.give; rw [if_neg hl]
        have rel2 : Hid ((AN.giveN (3 - (c + 1)) (c + 1) n').1 = (AN.giveN 3 0 n).1 ∧ R' ++ (AN.giveN (3 - (c + 1)) (c + 1) n').2 = R ++ (AN.giveN 3 0 n).2 ∧ n'.sy = n.sy) := by
          obtain ⟨a1, a2, a3⟩ := HE.out
          rw [HG.out, hgv.out] at a1 a2
          exact ⟨a1, a2, a3⟩
        by_cases hu : n'.used c = true
        · have hnor : ¬ (n'.sy.el.role ≠ 2 ∨ n'.idx c ≤ n'.applied) := fun x => hl ⟨hu, x⟩
          have d1 : (n.sy.el.role != 2) = false := by rw [← hro.out]; simpa using fun x => hnor (.inl x)
          have d2 : decide (n'.idx c ≤ n'.applied) = false := decide_eq_false (fun x => hnor (.inr x))
          clear hl hnor
          go_wp2_with fail
          refine Ord.region1 [] [0, 1, 2, 3, 4, 5, 6, 7, 8, 9, 10, 11, 12, 13, 14, 15, 16, 17, 18, 19, 20, 21] [22] (by kernel_rfl) (by kernel_rfl) (fun _ _ d _ _ h => by cases d <;> exact h) ?_
          simp only [Ord.pickO, Ord.nth]
          refine wpQuiet_nil ?_
          repeat (go_big_quiet_step (fail))
          refine wpQuiet_nil ?_
          go_wp2_with fail
          go_roundw
          case rel => exact ⟨c + 1, n', R', by omega, by go_num, H.out.fr ((ModP.refl _ _).drew), M.out.drew, HR, rel2⟩
          case measure => simp [intOf]; omega
        · have hu' : n'.used c = false := by simpa using hu
          clear hl hu
          go_wp2_with fail
          refine Ord.region1 [] [0, 1, 2, 3, 4, 5, 6, 7, 8, 9, 10, 11, 12, 13, 14, 15, 16, 17, 18, 19, 20, 21] [22] (by kernel_rfl) (by kernel_rfl) (fun _ _ d _ _ h => by cases d <;> exact h) ?_
          simp only [Ord.pickO, Ord.nth]
          refine wpQuiet_nil ?_
          repeat (go_big_quiet_step (fail))
          refine wpQuiet_nil ?_
          go_wp2_with fail
          go_roundw
          case rel => exact ⟨c + 1, n', R', by omega, by go_num, H.out.fr ((ModP.refl _ _).drew), M.out.drew, HR, rel2⟩
          case measure => simp [intOf]; omega
    · have d3 : decide ((c : Int) < 3) = false := by simp; omega
      have e3 : Hid (3 - c = 0) := by unfold Hid; omega
      go_wp2_with fail
      go_end0
      obtain ⟨a1, a2, a3⟩ := HE.out
      rw [e3.out] at a1 a2
      rw [← a1, ← a2]
      refine ⟨rfl, ?_, M.out⟩
      simp only [AN.giveN, List.append_nil]
      exact H.out
theorem c144 (h : RN G W X q n R w) (hX : ∀ k, X k → W.heap.size ≤ k) (ok : n.Ok) (hR : R.length + n.cnt ≤ 3) : Calls Tryz.prog 144 #[vp q.b, vi n.sy.commit] w fun r w' => r = .returned (.tuple #[]) ∧ RN G W X q n.apply.1 (R ++ n.apply.2) w' ∧ ModP (fun k => ¬ X k) w w' := by
  have H := hidIt h
  have HR := hidIt hR
  have OK := hidIt ok
  have cm1 := ok.sy.c1
  unfold maxT at cm1
  clear h hR ok
  go_enter Tryz.func144, Tryz.ntmps144
  go_wp2_with fail
  go_loopw [] (fun u => ∃ (n' : AN) (R' : List Reply), Hid (RN G W X q n' R' u) ∧ Hid (ModP (fun k => ¬ X k) w u) ∧ Hid (R'.length + n'.cnt ≤ 3) ∧ Hid n'.Ok ∧ Hid ((AN.applyN (n.sy.commit - n'.applied).toNat n').1 = n.apply.1 ∧ R' ++ (AN.applyN (n.sy.commit - n'.applied).toNat n').2 = R ++ n.apply.2 ∧ n'.sy = n.sy)) (fun u => (n.sy.commit - intOf ((u.cell? ⟨q.b, 3, none⟩).getD (vi 0))).toNat)
  case atStart => exact ⟨n, R, H, ModP.refl _ _, HR, OK, rfl, rfl, rfl⟩
  case round =>
    clear H HR OK
    obtain ⟨n', R', H, M, HR, OK, HE⟩ := hrel
    have a0 := OK.out.a0
    have hmz : Hid (intOf ((wr.cell? ⟨q.b, 3, none⟩).getD (vi 0)) = n'.applied) := by
      obtain ⟨rs, hb, -⟩ := H.out.hb
      unfold Hid
      rw [hb.cell]; rfl
    have hmz2 := hmz
    obtain ⟨y, rs, rfl, iy, hrs, hr3, HD⟩ := H.out.door
    have HRS := hidIt hrs
    have HR3 := hidIt hr3
    clear hrs hr3
    by_cases hlt : n'.applied < n.sy.commit
    · have d1 : decide (n'.applied < n.sy.commit) = true := by simpa using hlt
      have hA : Hid (AN.applyN (n.sy.commit - n'.applied).toNat n' = ((AN.applyN (n.sy.commit - (n'.applied + 1)).toNat n'.apply1.1).1, n'.apply1.2 ++ (AN.applyN (n.sy.commit - (n'.applied + 1)).toNat n'.apply1.1).2)) := by
        unfold Hid
        rw [show (n.sy.commit - n'.applied).toNat = (n.sy.commit - (n'.applied + 1)).toNat + 1 by omega]; rfl
      have HN1 := hidIt (HD.out (n'.applied + 1) n'.used n'.seq n'.idx rs R' HRS.out HR3.out)
      have HX := hidIt hX
      have qAt := hidIt (fun (Y : Nat → Prop) (u : World) (hu : RN G W Y q n'.next R' u) => by obtain ⟨G1, g1⟩ := hu.rs; exact c216 g1 (n'.applied + 1))
      have ok1 : Hid n'.apply1.1.Ok := OK.out.apply1 (by rw [HE.out.2.2]; exact hlt)
      have cnt1 := hidIt n'.apply1_cnt
      have sy1 := hidIt n'.apply1_sy
      have dl : (n'.sy.lg.now.at_ (n'.applied + 1)).1.data.length ≤ 24 := (Lg.at_ok OK.out.sy.lg _).2.2
      have hap : n'.apply1 = if (n'.sy.lg.now.at_ (n'.applied + 1)).1.data = [] then (n'.next, []) else n'.next.run (n'.sy.lg.now.at_ (n'.applied + 1)).1.data := rfl
      have HAP := hidIt hap
      have hlt' := hidIt hlt
      rcases hat : n'.sy.lg.now.at_ (n'.applied + 1) with ⟨⟨et, ed⟩, er⟩
      rw [hat] at HAP dl
      have qAt2 : Hid (∀ (Y : Nat → Prop) u, RN G W Y q n'.next R' u → Calls Tryz.prog 216 #[vp q.s.b, vi (n'.applied + 1)] u fun x w' => x = .returned (.tuple #[.agg #[vi et, vs ed], vi er]) ∧ ModP (fun _ => False) u w') := by
        intro Y u hu
        have := qAt.out Y u hu
        rw [show n'.next.sy = n'.sy from rfl, hat] at this
        exact this
      clear qAt hat hap
      go_upto_region 2 with fail
      generalize hwA : y.put q.b (NodeR.cells ⟨vp q.s.b, vp q.bk, n'.sy.el.id, n'.applied + 1, n'.used, n'.seq, n'.idx, rs, R'.length, vp q.bw⟩) 111 = wA at *
      have HBA : Hid (wA.At q.b (NodeR.cells ⟨vp q.s.b, vp q.bk, n'.sy.el.id, n'.applied + 1, n'.used, n'.seq, n'.idx, rs, R'.length, vp q.bw⟩) 111) := by rw [← hwA]; exact World.At_put_same iy
      have SA : Hid (RN G W X q n'.next R' wA) := HN1.out.1
      have MA := hidIt (M.out.trans HN1.out.2)
      have hcA := HBA.out.cell
      have icA := HBA.out.inB
      clear HN1 hwA
      go_cut [4] from 5 (fun s4 wc => ∃ x : Nat, s4 = vp x ∧ Hid (wc.At x #[vi et, vs ed] 232) ∧ Hid (RN G W X q n'.next R' wc) ∧ Hid (ModP (fun k => ¬ X k) w wc))
      case first =>
        refine Ord.region3 (fun w' => ∃ u : World, w' = u.force q.b (NodeR.cells ⟨vp q.s.b, vp q.bk, n'.sy.el.id, n'.applied + 1, n'.used, n'.seq, n'.idx, rs, R'.length, vp q.bw⟩) 111) [0, 1, 2, 3, 4, 5, 6, 7] [] (.two 8 false (.val 9 (.val 10 (.val 11 (.one 12 true (.one 13 false (.val 14 .fin)))))) 12 true (.one 8 false (.val 9 (.val 10 (.val 11 (.one 13 false (.val 14 .fin))))))) false (fun h => by cases h) (by kernel_rfl) (by kernel_rfl) (fun _ _ d _ _ h => by cases d <;> exact h) ?ca2_1 ?_
        rotate_left
        simp only [Ord.pickO, Ord.nth]
        repeat (go_big_quiet_step (fail))
        refine wpQuiet_nil ?_
        refine wpQuiet_nil ?_
        -- steps: [['N8', 'V9', 'V10', 'V11', 'L12', 'N13', 'V14'], ['L12', 'N8', 'V9', 'V10', 'V11', 'N13', 'V14']]
        rotate_left
        · exact ca_of (World.At_drew.2 HBA.out)
        refine Ord.wpS_two ?_ ?_
        · skip
          refine Ord.wpS_next rfl ?_
          intro K hK
          dsimp only [Ord.nth]
          go_wp2_with fail
          refine (qAt2.out X _ (SA.out.fr ((ModP.refl _ _).drew))).mono ?_
          rintro _ w3 ⟨rfl, m3⟩
          have m3' := m3.undrew
          have S3 := hidIt (SA.out.fr m3')
          have M3 := hidIt (MA.out.trans (m3'.mono fun _ f => f.elim))
          have HB3 := hidIt (m3'.at HBA.out (fun f => f))
          refine hK _ _ ?_
          clear hK K m3 m3'
          refine Ord.wpS_val rfl ?_
          dsimp only [Ord.nth]
          go_big_quiet_step (fail)
          refine wpQuiet_nil ?_
          refine Ord.wpS_val rfl ?_
          dsimp only [Ord.nth]
          go_big_quiet_step (fail)
          refine wpQuiet_nil ?_
          refine Ord.wpS_val rfl ?_
          dsimp only [Ord.nth]
          go_big_quiet_step (fail)
          refine wpQuiet_nil ?_
          refine Ord.wpS_loose rfl ?_
          intro K hK
          dsimp only [Ord.nth]
          go_wp2_with fail
          refine hK _ _ (ca_of (World.At.alloc HB3.out _)) ?_
          clear hK K
          refine Ord.wpS_next rfl ?_
          intro K hK
          dsimp only [Ord.nth]
          go_wp2_with fail
          refine Ord.wpS_val rfl ?_
          dsimp only [Ord.nth]
          go_big_quiet_step (fail)
          refine wpQuiet_nil ?_
          refine Ord.wpS_fin ?_
          go_wp2_with fail
          go_meet
          case rel => exact ⟨_, rfl, World.At_alloc_new, S3.out.fr ((ModP.refl _ _).alloc _), M3.out.alloc _⟩
        · skip
          refine Ord.wpS_loose rfl ?_
          intro K hK
          dsimp only [Ord.nth]
          go_wp2_with fail
          refine hK _ _ (ca_of (World.At_drew.2 (World.At.alloc HBA.out _))) ?_
          clear hK K
          refine Ord.wpS_next rfl ?_
          intro K hK
          dsimp only [Ord.nth]
          go_wp2_with fail
          have SY : Hid (RN G W (fun k => X k ∨ k = wA.heap.size) q n'.next R' (wA.alloc (.cells (Entry.cells ⟨0, []⟩) 232))) := SA.out.aside ((ModP.refl _ _).alloc _) HX.out (fun k hk => hk.imp id (fun e => by subst e; simp))
          refine (qAt2.out (fun k => X k ∨ k = wA.heap.size) _ (SY.out.fr ((ModP.refl _ _).drew))).mono ?_
          rintro _ w3 ⟨rfl, m3⟩
          have m3' := m3.undrew
          have S3 := hidIt (SY.out.fr m3')
          have M3 := hidIt ((MA.out.alloc _).trans (m3'.mono fun _ f => f.elim))
          have hb3 := m3'.at (b := wA.heap.size) (c := Entry.cells ⟨0, []⟩) (T := 232) World.At_alloc_new (fun f => f)
          have l3 : W.heap.size ≤ wA.heap.size := SA.out.mod.size
          have hx3 : Hid (w.heap.size ≤ wA.heap.size) := MA.out.size
          obtain ⟨z, e3, iz⟩ := hb3.door
          have S4 : Hid (RN G W X q n'.next R' (z.put wA.heap.size #[vi et, vs ed] 232)) := by
            refine RN.aside S3.out (w1 := z.put wA.heap.size #[vi et, vs ed] 232) ?_ (fun k hk => hk.elim (HX.out k) (fun e => by omega)) (fun k hk => .inl (.inl hk))
            rw [e3]
            exact ModP.fromPut (ModP.put (ModP.refl _ _) (.inl (.inr rfl)) _ _) (.inr rfl)
          have M4 : Hid (ModP (fun k => ¬ X k) w (z.put wA.heap.size #[vi et, vs ed] 232)) := by
            have := M3.out
            rw [e3] at this
            exact (this.unput (.inr hx3.out)).put (.inr hx3.out) _ _
          subst e3
          unfold Entry.cells at *
          refine hK _ _ ?_
          clear hK K m3 m3' S3 M3 hb3 SY
          refine Ord.wpS_val rfl ?_
          dsimp only [Ord.nth]
          go_big_quiet_step (fail)
          refine wpQuiet_nil ?_
          refine Ord.wpS_val rfl ?_
          dsimp only [Ord.nth]
          go_big_quiet_step (fail)
          refine wpQuiet_nil ?_
          refine Ord.wpS_val rfl ?_
          dsimp only [Ord.nth]
          go_big_quiet_step (fail)
          refine wpQuiet_nil ?_
          refine Ord.wpS_next rfl ?_
          intro K hK
          dsimp only [Ord.nth]
          go_wp2_with fail
          refine Ord.wpS_val rfl ?_
          dsimp only [Ord.nth]
          go_big_quiet_step (fail)
          refine wpQuiet_nil ?_
          refine Ord.wpS_fin ?_
          go_wp2_with fail
          go_meet
          case rel => exact ⟨_, rfl, World.At_put_same iz, S4, M4⟩
      case rest =>
        clear SA MA HBA hcA icA HD M H HRS HR3 hmz qAt2
        clear wA
        obtain ⟨x, rfl, HEn, SA, MA⟩ := hcut
        have hcx := HEn.out.cell
        have icx := HEn.out.inB
        by_cases hed : ed = []
        · subst hed
          have e1 : Hid (n'.apply1 = (n'.next, [])) := by unfold Hid; rw [HAP.out, if_pos rfl]
          have hfm : Hid (intOf ((wc.cell? ⟨q.b, 3, none⟩).getD (vi 0)) = n'.applied + 1) := by
            obtain ⟨rs, hb, -⟩ := SA.out.hb
            unfold Hid
            rw [hb.cell]; rfl
          go_wp2_with fail
          go_roundw
          case rel =>
            refine ⟨n'.next, R', SA, MA, ?_, ?_, ?_⟩
            · have h1 := cnt1.out; rw [e1.out] at h1; have h2 := HR.out; unfold Hid; simp at h1; omega
            · have := ok1.out; rw [e1.out] at this; exact this
            · obtain ⟨a1, a2, a3⟩ := HE.out
              rw [hA.out, e1.out] at a1 a2
              exact ⟨a1, a2, a3⟩
          case measure => rw [hfm.out, hmz2.out]; have := hlt'.out; omega
        · have d5 : (ed == []) = false := by simpa using hed
          have e1 : Hid (n'.apply1 = n'.next.run ed) := by unfold Hid; rw [HAP.out, if_neg hed]
          obtain ⟨rs2, hb2, -, -⟩ := SA.out.hb
          unfold RNo at hb2
          have HB2 := hidIt hb2
          have hcb := hb2.cell
          have icb := hb2.inB
          have nx : q.b ≠ x := At.neT hb2 HEn.out (by decide)
          clear hb2 hed
          have dl' : ed.length ≤ 24 := dl
          rcases hap2 : n'.kv.apply ed with ⟨⟨ea, ev⟩, k2⟩
          have qAp : Hid (∀ (Y : Nat → Prop) u, RN G W Y q n'.next R' u → Calls Tryz.prog 217 #[vp q.bk, vs ed] u fun r w' => r = .returned (.agg #[vi ea, vs ev]) ∧ RN G W Y q { n'.next with kv := k2 } R' w' ∧ ModP (fun k => ¬ Y k) u w' ∧ (∀ z c T, T ≠ 175 → u.At z c T → w'.At z c T)) := by
            intro Y u hu
            obtain ⟨Kx, hk1, hk2⟩ := hu.hk
            have := c217 hk1 hk2 ed (by omega)
            rw [show n'.next.kv = n'.kv from rfl, hap2] at this
            refine this.mono ?_
            rintro _ w2 ⟨rfl, ⟨K2, a2, r2⟩, m2⟩
            obtain ⟨s2, x2⟩ := hu.store a2 r2 m2
            exact ⟨rfl, s2, x2, fun z c T hT hz => m2.at hz (At.neT hz hk1 hT)⟩
          have qAn : Hid (∀ u, RN G W X q { n'.next with kv := k2 } R' u → Calls Tryz.prog 218 #[vp q.b, vs ed, .agg #[vi ea, vs ev]] u fun r w' => r = .returned (.tuple #[]) ∧ RN G W X q (AN.ansN { n'.next with kv := k2 } ed) (R' ++ AN.ansR { n'.next with kv := k2 } ed ⟨ea, ev⟩) w' ∧ ModP (fun k => ¬ X k) u w') := by
            intro u hu
            exact c218 hu HR.out ed (by omega) ⟨ea, ev⟩
          have hrun : Hid (n'.apply1 = (AN.ansN { n'.next with kv := k2 } ed, AN.ansR { n'.next with kv := k2 } ed ⟨ea, ev⟩)) := by
            unfold Hid
            rw [e1.out, AN.run_ans, show n'.next.kv = n'.kv from rfl, hap2]
          clear hap2
          go_upto_region 4 with fail
          go_cut [6] from 5 (fun s6 wc => ∃ xa : Nat, s6 = vp xa ∧ Hid (wc.At xa #[vi ea, vs ev] 75) ∧ Hid (wc.At x #[vi et, vs ed] 232) ∧ Hid (RN G W X q { n'.next with kv := k2 } R' wc) ∧ Hid (ModP (fun k => ¬ X k) w wc))
          case first =>
            refine Ord.region3 (fun w' => ∃ u : World, w' = u.force2 q.b (NodeR.cells ⟨vp q.s.b, vp q.bk, n'.sy.el.id, n'.applied + 1, n'.used, n'.seq, n'.idx, rs2, R'.length, vp q.bw⟩) 111 x #[vi et, vs ed] 232) [0, 1, 2, 3, 4, 5] [] (.two 6 false (.one 7 true (.one 8 false .fin)) 7 true (.one 6 false (.one 8 false .fin))) false (fun h => by cases h) (by kernel_rfl) (by kernel_rfl) (fun _ _ d _ _ h => by cases d <;> exact h) ?ca4_2 ?_
            rotate_left
            simp only [Ord.pickO, Ord.nth]
            repeat (go_big_quiet_step (fail))
            refine wpQuiet_nil ?_
            refine wpQuiet_nil ?_
            -- steps: [['N6', 'L7', 'N8'], ['L7', 'N6', 'N8']]
            rotate_left
            · exact ca_of2 (World.At_drew.2 HB2.out) (World.At_drew.2 HEn.out)
            refine Ord.wpS_two ?_ ?_
            · skip
              refine Ord.wpS_next rfl ?_
              intro K hK
              dsimp only [Ord.nth]
              go_wp2_with fail
              refine (qAp.out X _ (SA.out.fr ((ModP.refl _ _).drew))).mono ?_
              rintro _ w3 ⟨rfl, s3, m3, k3⟩
              have S3 := hidIt s3
              have M3 := hidIt (MA.out.trans m3.undrew)
              have HB3 := hidIt (k3 _ _ _ (by decide) (World.At_drew.2 HB2.out))
              have HE3 := hidIt (k3 _ _ _ (by decide) (World.At_drew.2 HEn.out))
              refine hK _ _ ?_
              clear hK K s3 m3 k3
              refine Ord.wpS_loose rfl ?_
              intro K hK
              dsimp only [Ord.nth]
              go_wp2_with fail
              refine hK _ _ (ca_of2 (World.At.alloc HB3.out _) (World.At.alloc HE3.out _)) ?_
              clear hK K
              refine Ord.wpS_next rfl ?_
              intro K hK
              dsimp only [Ord.nth]
              go_wp2_with fail
              refine Ord.wpS_fin ?_
              go_wp2_with fail
              go_meet
              case rel => exact ⟨_, rfl, World.At_alloc_new, World.At.alloc HE3.out _, S3.out.fr ((ModP.refl _ _).alloc _), M3.out.alloc _⟩
            · skip
              refine Ord.wpS_loose rfl ?_
              intro K hK
              dsimp only [Ord.nth]
              go_wp2_with fail
              refine hK _ _ (ca_of2 (World.At_drew.2 (World.At.alloc HB2.out _)) (World.At_drew.2 (World.At.alloc HEn.out _))) ?_
              clear hK K
              refine Ord.wpS_next rfl ?_
              intro K hK
              dsimp only [Ord.nth]
              go_wp2_with fail
              have SY : Hid (RN G W (fun k => X k ∨ k = wc.heap.size) q n'.next R' (wc.alloc (.cells (Ans.cells ⟨0, []⟩) 75))) := SA.out.aside ((ModP.refl _ _).alloc _) HX.out (fun k hk => hk.imp id (fun e => by subst e; simp))
              refine (qAp.out (fun k => X k ∨ k = wc.heap.size) _ (SY.out.fr ((ModP.refl _ _).drew))).mono ?_
              rintro _ w3 ⟨rfl, s3, m3, k3⟩
              have S3 := hidIt s3
              have M3 := hidIt ((MA.out.alloc _).trans (m3.undrew.mono (fun k hk hx => hk (.inl hx))))
              have hb3 := k3 wc.heap.size (Ans.cells ⟨0, []⟩) 75 (by decide) (World.At_drew.2 World.At_alloc_new)
              have HE3 := hidIt (k3 _ _ _ (by decide) (World.At_drew.2 (World.At.alloc HEn.out _)))
              have l3 : W.heap.size ≤ wc.heap.size := SA.out.mod.size
              have hx3 : Hid (w.heap.size ≤ wc.heap.size) := MA.out.size
              have nxx : x ≠ wc.heap.size := Nat.ne_of_lt icx
              obtain ⟨z, e3, iz⟩ := hb3.door
              have S4 : Hid (RN G W X q { n'.next with kv := k2 } R' (z.put wc.heap.size #[vi ea, vs ev] 75)) := by
                refine RN.aside S3.out (w1 := z.put wc.heap.size #[vi ea, vs ev] 75) ?_ (fun k hk => hk.elim (HX.out k) (fun e => by omega)) (fun k hk => .inl (.inl hk))
                rw [e3]
                exact ModP.fromPut (ModP.put (ModP.refl _ _) (.inl (.inr rfl)) _ _) (.inr rfl)
              have M4 : Hid (ModP (fun k => ¬ X k) w (z.put wc.heap.size #[vi ea, vs ev] 75)) := by
                have := M3.out
                rw [e3] at this
                exact (this.unput (.inr hx3.out)).put (.inr hx3.out) _ _
              have HE4 : Hid ((z.put wc.heap.size #[vi ea, vs ev] 75).At x #[vi et, vs ed] 232) := by
                have := HE3.out
                rw [e3] at this
                exact (World.At_put_ne' nxx).2 ((World.At_put_ne' nxx).1 this)
              subst e3
              unfold Ans.cells at *
              refine hK _ _ ?_
              clear hK K s3 m3 k3 S3 M3 hb3 SY HE3
              refine Ord.wpS_next rfl ?_
              intro K hK
              dsimp only [Ord.nth]
              go_wp2_with fail
              refine Ord.wpS_fin ?_
              go_wp2_with fail
              go_meet
              case rel => exact ⟨_, rfl, World.At_put_same iz, HE4, S4, M4⟩
          case rest =>
            clear SA MA HB2 hcb icb hcx icx HEn qAp
            obtain ⟨xa, rfl, HAn, HEn, SA, MA⟩ := hcut
            have hcx := HEn.out.cell
            have icx := HEn.out.inB
            have hca := HAn.out.cell
            have ica := HAn.out.inB
            go_wp2_with (first
              | (go_at_call 218; refine (qAn.out _ SA.out).mono ?_; rintro _ w5 ⟨rfl, s5, m5⟩; have S5 := hidIt s5; have M5 := hidIt (MA.out.trans m5); clear s5 m5))
            have hfm : Hid (intOf ((w5.cell? ⟨q.b, 3, none⟩).getD (vi 0)) = n'.applied + 1) := by
              obtain ⟨rs, hb, -⟩ := S5.out.hb
              unfold Hid
              rw [hb.cell]
              have h2 := sy1.out.2
              rw [hrun.out] at h2
              rw [← h2]; rfl
            go_roundw
            case rel =>
              refine ⟨_, _, S5, M5, ?_, ?_, ?_⟩
              · have h1 := cnt1.out; rw [hrun.out] at h1; have h2 := HR.out; unfold Hid; simp only [List.length_append] at h1 ⊢; omega
              · have := ok1.out; rw [hrun.out] at this; exact this
              · obtain ⟨a1, a2, a3⟩ := HE.out
                have h2 := sy1.out
                rw [hA.out, hrun.out] at a1 a2
                rw [hrun.out] at h2
                rw [h2.2]
                exact ⟨a1, by rw [List.append_assoc]; exact a2, h2.1.trans a3⟩
            case measure => rw [hfm.out, hmz2.out]; have := hlt'.out; omega
    · have d1 : decide (n'.applied < n.sy.commit) = false := by simpa using hlt
      have hz : Hid ((n.sy.commit - n'.applied).toNat = 0) := by unfold Hid; omega
      clear hlt
      go_wp2_with fail
      go_end0
      obtain ⟨a1, a2, a3⟩ := HE.out
      rw [hz.out] at a1 a2
      rw [← a1, ← a2]
      refine ⟨rfl, ?_, M.out⟩
      simp only [AN.applyN, List.append_nil]
      exact H.out
end
end Go.Proofs.Qxb6500990aGreat
