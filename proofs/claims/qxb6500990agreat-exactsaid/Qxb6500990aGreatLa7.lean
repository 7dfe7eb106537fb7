/- package nodelaw: SameView, AlikeLog, AlikeKV, Alike -/
import Derived.Test.Qxb6500990aGreatLa
import Derived.Test.Qxb6500990aGreatLa2
import Derived.Test.Qxb6500990aGreatInv
set_option linter.unusedVariables false
set_option linter.unusedSimpArgs false
namespace Go.Proofs.Qxb6500990aGreat
open Go Go.RowKit Go.Tw
attribute [local go_sem] World.cell?_put_same World.cell?_put_ne World.cell?_put_ne' World.frozen?_put_same World.frozen?_put_ne World.frozen?_put_ne' World.setCell_put_same World.setCell_put_ne World.setCell_put_ne' World.inB_put World.inB_alloc World.inB_drew World.inB_drewN World.inB_new World.inB_setCell World.put_drew World.put_drewN World.q_setCell_drew World.q_setCell_drewN World.q_alloc_drew World.q_alloc_drewN World.put_put_same World.put_put_2 World.size_put World.q_cell?_alloc_old World.q_frozen?_alloc_old World.cell?_alloc_new' World.frozen?_alloc_new' World.q_setCell_alloc_old World.q_setCell_alloc_new World.q_put_alloc_old World.cell?_force_same World.frozen?_force_same World.cell?_force2_fst World.cell?_force2_snd SyncV.g0 SyncV.s0 SyncV.g1 SyncV.s1 SyncV.g2 SyncV.s2 SyncV.g3 SyncV.s3 SyncV.g4 SyncV.s4 SyncV.g5 SyncV.s5 SyncV.g6 SyncV.s6 SyncV.g7 SyncV.s7 SyncV.g8 SyncV.s8 SyncV.g9 SyncV.s9 SyncV.g10 SyncV.s10 SyncV.g11 SyncV.s11 SyncV.g12 SyncV.s12 SyncV.g13 SyncV.s13 SyncV.g14 SyncV.s14 SyncV.g15 SyncV.s15 SyncV.g16 SyncV.s16 SyncV.g17 SyncV.s17 SyncV.g18 SyncV.s18 SyncV.g19 SyncV.s19 SyncV.gi_got_0 SyncV.si_got_0 SyncV.gi_next_0 SyncV.si_next_0 SyncV.gi_mtch_0 SyncV.si_mtch_0 NodeV.g0 NodeV.s0 NodeV.g1 NodeV.s1 NodeV.g2 NodeV.s2 NodeV.g3 NodeV.s3 NodeV.g4 NodeV.s4 NodeV.g5 NodeV.s5 NodeV.g6 NodeV.s6 NodeV.g7 NodeV.s7 NodeV.g8 NodeV.s8 NodeV.g9 NodeV.s9 NodeV.g10 NodeV.s10 NodeV.gi_used_0 NodeV.si_used_0 NodeV.gi_seq_0 NodeV.si_seq_0 NodeV.gi_idx_0 NodeV.si_idx_0
attribute [local go_sem] ba_get ba_eq ba_beq upd_same upd_upd
set_option maxHeartbeats 4000000
set_option maxRecDepth 100000
section
variable {W w : World} {q : NoP} {p : MoP} {n m : AN}
theorem c105 (h : Two W q p n m) (hu : n.used = m.used) (hs : n.seq = m.seq) (hi : n.idx = m.idx) : Calls Tryz.prog 105 #[vp q.b, vp p.b] W fun r w' => ∃ b, r = .returned (.bool b) ∧ (b = true ↔ (n.sy.view.Like m.sy.view ∧ n.applied = m.applied)) ∧ ModP (fun _ => False) W w' := by
  have h1 := hidIt (by obtain ⟨G, R, hr⟩ := h.r; exact c100 hr h.nk.sy.el)
  have h2 := hidIt (fun w' (e : ModP (fun _ => False) W w') => by obtain ⟨G, hm⟩ := (h.fr e).mo; exact c101 hm h.ok.sy.lg)
  clear h
  unfold ViewAt at h1 h2
  rw [← hu, ← hs, ← hi] at h2
  clear hu hs hi
  generalize n.sy.view = x at *
  generalize m.sy.view = y at *
  generalize n.used = xu at *
  generalize n.seq = xs at *
  generalize n.idx = xi at *
  generalize n.applied = xa at *
  generalize m.applied = ya at *
  generalize hP : (fun (r : Ending) (w' : World) => ∃ b, r = .returned (.bool b) ∧ (b = true ↔ (x.Like y ∧ xa = ya)) ∧ ModP (fun _ => False) W w') = P
  have HN : Hid (∀ w', ¬ (x.Like y ∧ xa = ya) → ModP (fun _ => False) W w' → P (.returned (.bool false)) w') := by
    subst hP; exact fun w' a b => ⟨false, rfl, by simpa using a, b⟩
  have HY : Hid (∀ w', (x.Like y ∧ xa = ya) → ModP (fun _ => False) W w' → P (.returned (.bool true)) w') := by
    subst hP; exact fun w' a b => ⟨true, rfl, by simpa using a, b⟩
  clear hP
  go_enter Tryz.func105, Tryz.ntmps105
  go_wp2_with (first
    | (go_at_call 100; refine h1.out.mono ?_; rintro _ w1 ⟨b1, v1, rfl, ⟨l1, l2, a1, a2⟩, m1⟩; have M1 := hidIt m1; have A1 := hidIt a1; have A2 := hidIt a2; clear m1 a1 a2 l1 l2)
    | (go_at_call 101; refine (h2.out _ M1.out).mono ?_; rintro _ w2 ⟨b2, v2, rfl, ⟨l1, l2, a1, a2⟩, m2⟩; have M2 := hidIt m2; have B1 := hidIt a1; have B2 := hidIt a2; have ca := M2.out.at A1.out (fun f => f); have hca := ca.cell; have ica := ca.inB; have hcb := a1.cell; have icb := a1.inB; clear m2 a1 a2 l1 l2 ca))
  refine Ord.region1 [] [0, 1, 2, 3, 4, 5, 6, 7] [8, 9] (by kernel_rfl) (by kernel_rfl) (fun _ _ d _ _ h => by cases d <;> exact h) ?_
  simp only [Ord.pickO, Ord.nth]
  refine wpQuiet_nil ?_
  repeat (go_big_quiet_step (fail))
  refine wpQuiet_nil ?_
  go_wp2_with (first
    | (go_at_call 22; refine (c22 (World.At_drew.2 (M2.out.at A2.out (fun f => f))) (World.At_drew.2 B2.out)).mono ?_; rintro _ w3 ⟨b, rfl, hb, m3⟩; have M3 := hidIt ((ModP.drew (ModP.refl _ _)).trans m3); have hb' : (b = false ∧ ¬ x.Like y) ∨ (b = true ∧ x.Like y) := (by cases b <;> simp_all); clear m3 hb; rcases hb' with ⟨rfl, hl⟩ | ⟨rfl, hl⟩ <;> (have HL := hidIt hl; clear hl)))
  · exact HN.out _ (fun h => HL.out h.1) ((M1.out.trans M2.out).trans M3.out)
  · have d1 := M3.out.at (M2.out.at A1.out (fun f => f)) (fun f => f)
    have d2 := M3.out.at B1.out (fun f => f)
    clear hca ica hcb icb
    have hca := d1.cell
    have ica := d1.inB
    have hcb := d2.cell
    have icb := d2.inB
    have D1 := hidIt d1
    have D2 := hidIt d2
    clear d1 d2
    by_cases ea : xa = ya
    · have HY2 : Hid (∀ w', ModP (fun _ => False) W w' → P (.returned (.bool true)) w') := fun w' b => HY.out w' ⟨HL.out, ea⟩ b
      clear HY HN
      subst ea
      refine Ord.region1 [] [0, 1, 2, 3, 4, 5, 6, 7] [8] (by kernel_rfl) (by kernel_rfl) (fun _ _ d _ _ h => by cases d <;> exact h) ?_
      simp only [Ord.pickO, Ord.nth]
      refine wpQuiet_nil ?_
      repeat (go_big_quiet_step (fail))
      refine wpQuiet_nil ?_
      go_wp2_with fail
      go_loopw [7] (fun cv u => ∃ c : Nat, c ≤ 3 ∧ cv = vi c ∧ Hid (ModP (fun _ => False) w3 u)) (fun cv _ => 3 - (intOf cv).toNat)
      case atStart => exact ⟨0, by omega, rfl, (by repeat (first | assumption | exact ModP.refl _ _ | refine ModP.fromPut ?_ (by assumption) | apply ModP.alloc | apply ModP.drew | apply ModP.drewN | refine ModP.put ?_ (by first | (left; assumption) | (left; rfl) | (right; simp only [World.inB, World.size_put] at *; omega)) _ _))⟩
      case round =>
        obtain ⟨c, hc3, rfl, M⟩ := hrel
        have d1 := M.out.at D1.out (fun f => f)
        have d2 := M.out.at D2.out (fun f => f)
        clear hca ica hcb icb
        have hca := d1.cell
        have ica := d1.inB
        have hcb := d2.cell
        have icb := d2.inB
        clear d1 d2
        by_cases hcn : c < 3
        · have c4 : (c : Int) < 3 := by omega
          have bb : (xu c == xu c) = true := by simp
          go_wp2_with fail
          refine Ord.region3 (fun _ => True) [] [0, 1, 2, 3, 4, 5, 6, 7, 8, 9, 10, 11, 12, 13, 14, 15, 16, 17, 18, 19, 20, 21, 22, 23, 24, 25, 26, 27, 28, 29, 30, 31, 32, 33, 34, 35, 36, 37, 38, 39, 40, 41, 42] .fin true (fun _ _ => trivial) (by kernel_rfl) (Ord.in3q_3 (by kernel_rfl)) (fun _ _ d _ _ h => by cases d <;> exact h) trivial ?_
          simp only [Ord.pickO, Ord.nth]
          refine wpQuiet_nil ?_
          repeat (go_big_quiet_step (fail))
          refine wpQuiet_nil ?_
          refine Ord.wpS_fin ?_
          go_wp2_with fail
          go_roundw
          case rel => exact ⟨c + 1, by omega, by go_num, M.out.drew⟩
          case measure => simp [intOf]; omega
        · have d3 : decide ((c : Int) < 3) = false := by simp; omega
          go_wp2_with fail
          exact HY2.out _ (((M1.out.trans M2.out).trans M3.out).trans M.out)
    · have da : (xa != ya) = true := by simpa using ea
      have EA := hidIt ea
      clear ea
      refine Ord.region1 [] [0, 1, 2, 3, 4, 5, 6, 7] [8] (by kernel_rfl) (by kernel_rfl) (fun _ _ d _ _ h => by cases d <;> exact h) ?_
      simp only [Ord.pickO, Ord.nth]
      refine wpQuiet_nil ?_
      repeat (go_big_quiet_step (fail))
      refine wpQuiet_nil ?_
      go_wp2_with fail
      exact HN.out _ (fun h => EA.out h.2) ((M1.out.trans M2.out).trans M3.out).drew
/-- what AlikeLog tells -/
def LogLike (n m : AN) : Prop := (n.sy.view.Like m.sy.view ∧ n.applied = m.applied) ∧ ∀ i, m.sy.lg.now.base - 1 ≤ i → i ≤ m.sy.lg.now.last + 1 → n.sy.lg.now.at_ i = m.sy.lg.now.at_ i ∧ n.sy.lg.now.termAt i = m.sy.lg.now.termAt i
theorem c52 (h : Two W q p n m) (hu : n.used = m.used) (hs : n.seq = m.seq) (hi : n.idx = m.idx) : Calls Tryz.prog 52 #[vp q.b, vp p.b] W fun r w' => ∃ b, r = .returned (.bool b) ∧ (b = true ↔ LogLike n m) ∧ ModP (fun _ => False) W w' := by
  have h1 := hidIt (c105 h hu hs hi)
  have h2 := hidIt (fun w' (e : ModP (fun _ => False) W w') => by obtain ⟨G, hm⟩ := (h.fr e).mo; exact c101 hm h.ok.sy.lg)
  have h3 := hidIt (fun w' (e : ModP (fun _ => False) W w') i => c102 (h.fr e) i)
  have h4 := hidIt (fun w' (e : ModP (fun _ => False) W w') i => c103 (h.fr e) i)
  have b0 := h.ok.sy.lg.b0
  have bl := Lg.base_last m.sy.lg.now
  have l1 : m.sy.lg.now.last ≤ 72057594037927936 := h.ok.sy.lg.last1
  clear h hu hs hi
  generalize hP : (fun (r : Ending) (w' : World) => ∃ b, r = .returned (.bool b) ∧ (b = true ↔ LogLike n m) ∧ ModP (fun _ => False) W w') = P
  have HN : Hid (∀ w', ¬ LogLike n m → ModP (fun _ => False) W w' → P (.returned (.bool false)) w') := by
    subst hP; exact fun w' a b => ⟨false, rfl, by simpa using a, b⟩
  have HY : Hid (∀ w', LogLike n m → ModP (fun _ => False) W w' → P (.returned (.bool true)) w') := by
    subst hP; exact fun w' a b => ⟨true, rfl, by simpa using a, b⟩
  clear hP
  unfold ViewAt AS.view at h2
  unfold LogLike at HN HY
  generalize hV : (n.sy.view.Like m.sy.view ∧ n.applied = m.applied) = V at *
  clear hV
  generalize m.sy.lg.now.base = B at *
  generalize m.sy.lg.now.last = L at *
  generalize hE1 : (fun i => n.sy.lg.now.at_ i = m.sy.lg.now.at_ i) = E1 at *
  generalize hE2 : (fun i => n.sy.lg.now.termAt i = m.sy.lg.now.termAt i) = E2 at *
  have h3 : Hid (∀ w', ModP (fun _ => False) W w' → ∀ i, Calls Tryz.prog 102 #[vp q.b, vp p.b, vi i] w' fun r w'' => ∃ b, r = .returned (.bool b) ∧ (b = true ↔ E1 i) ∧ ModP (fun _ => False) w' w'') := by subst hE1; exact h3
  have h4 : Hid (∀ w', ModP (fun _ => False) W w' → ∀ i, Calls Tryz.prog 103 #[vp q.b, vp p.b, vi i] w' fun r w'' => ∃ b, r = .returned (.bool b) ∧ (b = true ↔ E2 i) ∧ ModP (fun _ => False) w' w'') := by subst hE2; exact h4
  have HN : Hid (∀ w', ¬ (V ∧ ∀ i, B - 1 ≤ i → i ≤ L + 1 → E1 i ∧ E2 i) → ModP (fun _ => False) W w' → P (.returned (.bool false)) w') := by subst hE1; subst hE2; exact HN
  have HY : Hid (∀ w', (V ∧ ∀ i, B - 1 ≤ i → i ≤ L + 1 → E1 i ∧ E2 i) → ModP (fun _ => False) W w' → P (.returned (.bool true)) w') := by subst hE1; subst hE2; exact HY
  clear hE1 hE2
  go_enter Tryz.func52, Tryz.ntmps52
  go_wp2_with (first
    | (go_at_call 105; refine h1.out.mono ?_; rintro _ w1 ⟨b, rfl, hb, m1⟩; have M1 := hidIt m1; have hb' : (b = false ∧ ¬ V) ∨ (b = true ∧ V) := (by cases b <;> simp_all); clear m1 hb; rcases hb' with ⟨rfl, hl⟩ | ⟨rfl, hl⟩ <;> (have HL := hidIt hl; clear hl))
    | (go_at_call 101; refine (h2.out _ M1.out).mono ?_; rintro _ w2 ⟨b2, v2, rfl, ⟨l1, l2, a1, a2⟩, m2⟩; have M2 := hidIt (M1.out.trans m2); have B1 := hidIt a1; have B2 := hidIt a2; have hcb := a1.cell; have icb := a1.inB; have hcv := a2.cell; have icv := a2.inB; clear m2 a1 a2 l1 l2))
  · exact HN.out _ (fun h => HL.out h.1) M1.out
  · go_loopw [6] (fun iv u => ∃ i : Int, iv = vi i ∧ (B - 1 ≤ i ∧ i ≤ L + 2) ∧ Hid (ModP (fun _ => False) w2 u) ∧ Hid (∀ k, B - 1 ≤ k → k < i → E1 k ∧ E2 k)) (fun iv _ => (L + 2 - intOf iv).toNat)
    case atStart => exact ⟨B - 1, rfl, by omega, ModP.refl _ _, fun k h1 h2 => by omega⟩
    case round =>
      obtain ⟨i, rfl, ⟨i0, i1⟩, M, HE⟩ := hrel
      have a1 := M.out.at B1.out (fun f => f)
      have a2 := M.out.at B2.out (fun f => f)
      clear hcb icb hcv icv
      have hcb := a1.cell
      have icb := a1.inB
      have hcv := a2.cell
      have icv := a2.inB
      clear a1 a2
      by_cases hi : i ≤ L + 1
      · have di : decide (i ≤ L + 1) = true := by simpa using hi
        have HI := hidIt hi
        clear hi
        go_wp2_with (first
          | (go_at_call 102; refine (h3.out _ (M2.out.trans M.out) i).mono ?_; rintro _ w3 ⟨b, rfl, hb, m3⟩; have M3 := hidIt (M.out.trans m3); have hb' : (b = false ∧ ¬ E1 i) ∨ (b = true ∧ E1 i) := (by cases b <;> simp_all); clear m3 hb; rcases hb' with ⟨rfl, hl⟩ | ⟨rfl, hl⟩ <;> (have HA := hidIt hl; clear hl))
          | (go_at_call 103; refine (h4.out _ (M2.out.trans M3.out) i).mono ?_; rintro _ w4 ⟨b, rfl, hb, m4⟩; have M4 := hidIt (M3.out.trans m4); have hb' : (b = false ∧ ¬ E2 i) ∨ (b = true ∧ E2 i) := (by cases b <;> simp_all); clear m4 hb; rcases hb' with ⟨rfl, hl⟩ | ⟨rfl, hl⟩ <;> (have HB := hidIt hl; clear hl)))
        · exact HN.out _ (fun h => HA.out (h.2 i i0 HI.out).1) (M2.out.trans M3.out)
        · exact HN.out _ (fun h => HB.out (h.2 i i0 HI.out).2) (M2.out.trans M4.out)
        · go_roundw
          case rel =>
            have hi := HI.out
            refine ⟨i + 1, by go_num, by omega, M4, fun k h1 h2 => ?_⟩
            by_cases e : k = i
            · subst e; exact ⟨HA.out, HB.out⟩
            · exact HE.out k h1 (by omega)
          case measure => have hi := HI.out; simp only [intOf]; omega
      · have di : decide (i ≤ L + 1) = false := by simpa using hi
        have HI := hidIt hi
        clear hi
        go_wp2_with fail
        exact HY.out _ ⟨HL.out, fun k h1 h2 => HE.out k h1 (by have := HI.out; omega)⟩ (M2.out.trans M.out)
end
end Go.Proofs.Qxb6500990aGreat
