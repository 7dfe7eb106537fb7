/- package store: heads -/
import Derived.Test.Qxb6500990aGreatSt
set_option linter.unusedVariables false
set_option linter.unusedSimpArgs false
namespace Go.Proofs.Qxb6500990aGreat
open Go Go.RowKit Go.Tw
attribute [local go_sem] World.cell?_put_same World.cell?_put_ne World.cell?_put_ne' World.frozen?_put_same World.frozen?_put_ne World.frozen?_put_ne' World.setCell_put_same World.setCell_put_ne World.setCell_put_ne' World.inB_put World.inB_alloc World.inB_drew World.inB_drewN World.inB_new World.inB_setCell World.put_drew World.put_drewN World.q_setCell_drew World.q_setCell_drewN World.q_alloc_drew World.q_alloc_drewN World.put_put_same World.put_put_2 World.size_put World.q_cell?_alloc_old World.q_frozen?_alloc_old World.cell?_alloc_new' World.frozen?_alloc_new' World.q_setCell_alloc_old World.q_setCell_alloc_new World.q_put_alloc_old World.cell?_force_same World.frozen?_force_same World.cell?_force2_fst World.cell?_force2_snd Meta.g0 Meta.s0 Meta.g1 Meta.s1 Meta.g2 Meta.s2 Meta.g3 Meta.s3 Head.g0 Head.s0 Head.g1 Head.s1 Head.g2 Head.s2 Head.g3 Head.s3 Head.g4 Head.s4 Head.g5 Head.s5 Rec.g0 Rec.s0 Rec.g1 Rec.s1 Rec.g2 Rec.s2
attribute [local go_sem] ba_get
set_option maxHeartbeats 4000000
set_option maxRecDepth 100000
theorem c57 (W : World) (x : Bs) (hl : x.length = 64) (hf : wholeB x = true → Fits x [1, 9, 32]) : Calls Tryz.prog 57 #[vs x] W fun r w' => r = .returned (.agg (decHeadS x).cells) ∧ ModP (fun _ => False) W w' := by
  have hw := hidIt (fun w => c116 w x hl)
  have h40 : 40 < x.length := by omega
  have h41 : 41 < x.length := by omega
  have h40' : (40 : Int) < x.length := by omega
  have h41' : (41 : Int) < x.length := by omega
  have e40 : byt x 40 = (x[40].toNat : Int) := by simp [byt, List.getD_eq_getElem?_getD, h40]
  have e41 : byt x 41 = (x[41].toNat : Int) := by simp [byt, List.getD_eq_getElem?_getD, h41]
  have w40 : wrap64 (x[40].toNat : Int) = x[40].toNat := IntWalk.wrap64_in _ (by have := x[40].toNat_lt; omega)
  have w41 : wrap64 (x[41].toNat : Int) = x[41].toNat := IntWalk.wrap64_in _ (by have := x[41].toNat_lt; omega)
  cases hb : wholeB x with
  | false =>
    have hk : Hid (decHeadS x = zHead) := by unfold Hid decHeadS; rw [hb]; rfl
    rw [hb] at hw
    clear hf hb hl e40 e41
    go_enter Tryz.func57, Tryz.ntmps57
    go_wp2_with (first
      | (go_at_call 116; refine (hw.out _).mono ?_; rintro _ w1 ⟨rfl, m1⟩; have M1 := hidIt (show ModP (fun _ => False) W w1 from ModP.trans ((ModP.refl _ _).alloc _) m1.toP0); have hz := m1.at (b := W.heap.size) World.At_alloc_new (by simp); clear m1; obtain ⟨y, rfl, iy⟩ := hz.door; clear hz))
    refine bodyPost_ret (v := .agg (Head.cells ⟨false, 0, 0, 0, 0, 0⟩)) (by simp [results, Tryz.results57, go_sem, Head.cells, iy]) rfl ?_
    rw [hk.out]
    exact ⟨rfl, (M1.out.unput (.inr (Nat.le_refl _))).put (.inr (Nat.le_refl _)) _ _⟩
  | true =>
    rw [hb] at hw
    by_cases q1 : (1 : Int) < x[40].toNat
    · have hk : Hid (decHeadS x = zHead) := by unfold Hid decHeadS; rw [if_neg (fun h => by have := h.2.1; omega)]
      clear hf hb hl e40 e41
      go_enter Tryz.func57, Tryz.ntmps57
      go_wp2_with (first
        | (go_at_call 116; refine (hw.out _).mono ?_; rintro _ w1 ⟨rfl, m1⟩; have M1 := hidIt (show ModP (fun _ => False) W w1 from ModP.trans ((ModP.refl _ _).alloc _) m1.toP0); have hz := m1.at (b := W.heap.size) World.At_alloc_new (by simp); clear m1; obtain ⟨y, rfl, iy⟩ := hz.door; clear hz))
      refine bodyPost_ret (v := .agg (Head.cells ⟨false, 0, 0, 0, 0, 0⟩)) (by simp [results, Tryz.results57, go_sem, Head.cells, iy]) rfl ?_
      rw [hk.out]
      exact ⟨rfl, (M1.out.unput (.inr (Nat.le_refl _))).put (.inr (Nat.le_refl _)) _ _⟩
    · by_cases q2 : (128 : Int) < x[41].toNat
      · have hk : Hid (decHeadS x = zHead) := by unfold Hid decHeadS; rw [if_neg (fun h => by have := h.2.2; omega)]
        have q1' : decide ((1 : Int) < x[40].toNat) = false := by simpa using q1
        clear hf hb hl e40 e41 q1
        go_enter Tryz.func57, Tryz.ntmps57
        go_wp2_with (first
          | (go_at_call 116; refine (hw.out _).mono ?_; rintro _ w1 ⟨rfl, m1⟩; have M1 := hidIt (show ModP (fun _ => False) W w1 from ModP.trans ((ModP.refl _ _).alloc _) m1.toP0); have hz := m1.at (b := W.heap.size) World.At_alloc_new (by simp); clear m1; obtain ⟨y, rfl, iy⟩ := hz.door; clear hz))
        refine bodyPost_ret (v := .agg (Head.cells ⟨false, 0, 0, 0, 0, 0⟩)) (by simp [results, Tryz.results57, go_sem, Head.cells, iy]) rfl ?_
        rw [hk.out]
        exact ⟨rfl, (M1.out.unput (.inr (Nat.le_refl _))).put (.inr (Nat.le_refl _)) _ _⟩
      · have g1 := hidIt (fun w => c117 w x hl 1 (by omega) (hf hb 1 (by simp)))
        have g9 := hidIt (fun w => c117 w x hl 9 (by omega) (hf hb 9 (by simp)))
        have g32 := hidIt (fun w => c117 w x hl 32 (by omega) (hf hb 32 (by simp)))
        have hk : Hid (decHeadS x = ⟨true, beN x 1 8, beN x 9 8, beN x 32 8, x[40].toNat, x[41].toNat⟩) := by unfold Hid decHeadS; rw [if_pos ⟨hb, by omega, by omega⟩, e40, e41]
        have q1' : decide ((1 : Int) < x[40].toNat) = false := by simpa using q1
        have q2' : decide ((128 : Int) < x[41].toNat) = false := by simpa using q2
        clear hf hb hl e40 e41 q1 q2
        generalize beN x 1 8 = n1 at *
        generalize beN x 9 8 = n9 at *
        generalize beN x 32 8 = n32 at *
        go_enter Tryz.func57, Tryz.ntmps57
        go_wp2_with (first
          | (go_at_call 116; refine (hw.out _).mono ?_; rintro _ w1 ⟨rfl, m1⟩; have M1 := hidIt (show ModP (fun _ => False) W w1 from ModP.trans ((ModP.refl _ _).alloc _) m1.toP0); have hz := m1.at (b := W.heap.size) World.At_alloc_new (by simp); clear m1; obtain ⟨y, rfl, iy⟩ := hz.door; clear hz)
          | (go_at_call 117; with_reducible refine Calls.mono (g1.out _) ?_; rintro _ _ ⟨rfl, rfl⟩)
          | (go_at_call 117; with_reducible refine Calls.mono (g9.out _) ?_; rintro _ _ ⟨rfl, rfl⟩)
          | (go_at_call 117; with_reducible refine Calls.mono (g32.out _) ?_; rintro _ _ ⟨rfl, rfl⟩))
        refine Ord.region1 [] [0, 1, 2, 3, 4, 5, 6, 7, 8, 9] [10] (by kernel_rfl) (by kernel_rfl) (fun _ _ d _ _ h => by cases d <;> exact h) ?_
        simp only [Ord.pickO, Ord.nth]
        refine wpQuiet_nil ?_
        repeat (go_big_quiet_step (fail))
        refine wpQuiet_nil ?_
        go_wp2_with fail
        refine bodyPost_ret (v := .agg (Head.cells ⟨true, n1, n9, n32, x[40].toNat, x[41].toNat⟩)) (by simp [results, Tryz.results57, go_sem, Head.cells, iy, w40, w41]) rfl ?_
        rw [hk.out]
        exact ⟨rfl, ((M1.out.unput (.inr (Nat.le_refl _))).put (.inr (Nat.le_refl _)) _ _).drew⟩
end Go.Proofs.Qxb6500990aGreat
