/- The real election rule: the walks, second part. -/
import Derived.Test.Qxb6500990aGreatElect
set_option linter.unusedVariables false
set_option linter.unusedSimpArgs false
namespace Go.Proofs.Qxb6500990aGreat
open Go Go.RowKit Go.Tw
attribute [local go_sem] World.cell?_put_same World.cell?_put_ne World.cell?_put_ne' World.frozen?_put_same World.frozen?_put_ne World.frozen?_put_ne' World.setCell_put_same World.setCell_put_ne World.setCell_put_ne' World.inB_put World.inB_alloc World.inB_drew World.inB_drewN World.inB_new World.inB_setCell World.put_drew World.put_drewN World.q_setCell_drew World.q_setCell_drewN World.q_alloc_drew World.q_alloc_drewN World.put_put_same World.put_put_2 World.size_put World.q_cell?_alloc_old World.q_frozen?_alloc_old World.cell?_alloc_new' World.frozen?_alloc_new' World.q_setCell_alloc_old World.q_setCell_alloc_new World.q_put_alloc_old EL.g0 EL.s0 EL.g1 EL.s1 EL.g2 EL.s2 EL.g3 EL.s3 EL.g4 EL.s4 EL.g5 EL.s5
set_option maxHeartbeats 400000
theorem maskW_no : maskW (fun _ => false) = 0 := rfl
theorem c33 (W : World) (id : Int) : Calls Tryz.prog 33 #[vi id] W fun r w' => r = .returned (vp W.heap.size) ∧ Dr (W.alloc (.cells (EM.new id).el.cells 155)) w' := by
  have key : ∀ (i : Int), 0 ≤ i → i < 3 → (EM.new id).id = i → Dr (W.alloc (.cells (EM.new id).el.cells 155)) (W.alloc (.cells (EL.cells ⟨i, 0, packW 0 (-1) (-1), 0, 0, tmo i⟩) 155)) := by
    intro i h0 h1 h2
    have : (EM.new id).el = ⟨i, 0, packW 0 (-1) (-1), 0, 0, tmo i⟩ := by unfold EM.el; rw [h2]; rfl
    rw [this]; exact Dr.refl _
  have hal : ∀ x : EL, (W.alloc (.cells x.cells 155)).At W.heap.size x.cells 155 := fun x => World.At_alloc_new
  by_cases h : id < 0 ∨ 3 ≤ id
  · have k := key 0 (by omega) (by omega) (by simp [EM.new, h])
    have K : Hid (Dr (W.alloc (.cells (EM.new id).el.cells 155)) (W.alloc (.cells (EL.cells ⟨0, 0, packW 0 (-1) (-1), 0, 0, tmo 0⟩) 155))) := k
    clear k key
    go_enter Tryz.func33, Tryz.ntmps33
    go_wp2_with (first
      | (go_at_call 64; refine (c64 (x := ⟨0, 0, 0, 0, 0, 0⟩) (hal _) (by decide) (by decide) (by decide) (by decide) (by decide) (by decide)).mono ?_; rintro _ _ ⟨rfl, rfl⟩; rw [World.alloc_put rfl])
      | (go_at_call 65; refine (c65 (x := ⟨0, 0, packW 0 (-1) (-1), 0, 0, 0⟩) (hal _) (by decide) (by decide)).mono ?_; rintro _ _ ⟨rfl, rfl⟩; rw [World.alloc_put rfl]))
    all_goals
      go_ret
      exact ⟨rfl, K.out⟩
  · have h1 : 0 ≤ id := by omega
    have h2 : id < 3 := by omega
    have k := key id h1 h2 (by simp [EM.new, h])
    have K : Hid (Dr (W.alloc (.cells (EM.new id).el.cells 155)) (W.alloc (.cells (EL.cells ⟨id, 0, packW 0 (-1) (-1), 0, 0, tmo id⟩) 155))) := k
    clear k key
    go_enter Tryz.func33, Tryz.ntmps33
    go_wp2_with (first
      | (go_at_call 64; refine (c64 (x := ⟨id, 0, 0, 0, 0, 0⟩) (hal _) (by decide) (by decide) (by decide) (by decide) (by decide) (by decide)).mono ?_; rintro _ _ ⟨rfl, rfl⟩; rw [World.alloc_put rfl])
      | (go_at_call 65; refine (c65 (x := ⟨id, 0, packW 0 (-1) (-1), 0, 0, 0⟩) (hal _) h1 h2).mono ?_; rintro _ _ ⟨rfl, rfl⟩; rw [World.alloc_put rfl]))
    all_goals
      go_ret
      exact ⟨rfl, K.out⟩

theorem c68 {W : World} {b : Nat} {e : EM} (h : W.At b e.el.cells 155) (i0 : 0 ≤ e.id) (i1 : e.id < 3) {t v : Int} (t0 : 0 ≤ t) (t1 : t ≤ maxT) (v0 : -1 ≤ v) (v1 : v < 3) :
    Calls Tryz.prog 68 #[vp b, vi t, vi v] W fun r w' => r = .returned (vi 0) ∧ Dr (W.put b (e.restore t v).el.cells 155) w' := by
  obtain ⟨w, rfl, hb⟩ := h.door
  clear h
  unfold maxT at t1
  unfold EM.el
  simp only [World.put_put_same, EM.restore, maskW_no]
  go_enter Tryz.func68, Tryz.ntmps68
  go_wp2_with (first
    | (go_at_call 64; refine (c64 (World.At_put_same hb) (by decide) (by decide) v0 v1 (by decide) (by decide)).mono ?_; rintro _ _ ⟨rfl, rfl⟩; rw [World.put_put_same])
    | (go_at_call 65; refine (c65 (World.At_put_same hb) i0 i1).mono ?_; rintro _ _ ⟨rfl, rfl⟩; rw [World.put_put_same]))
  go_ret
  exact ⟨rfl, Dr.refl _⟩

theorem c249 {W : World} {b : Nat} {e : EM} (h : W.At b e.el.cells 155) (ok : e.Ok) (t : Int) :
    Calls Tryz.prog 249 #[vp b, vi t] W fun r w' => r = .returned (.bool (e.sees t)) ∧ Dr (W.put b (e.see t).el.cells 155) w' := by
  obtain ⟨w, rfl, hb⟩ := h.door
  clear h
  simp only [World.put_put_same]
  have hat : (w.put b e.el.cells 155).At b e.el.cells 155 := World.At_put_same hb
  have r0 := ok.r0; have r1 := ok.r1
  by_cases h1 : e.term < t
  · by_cases h2 : t ≤ maxT
    · have hs : Hid (e.sees t = true) := by unfold Hid; simp [EM.sees, h1, h2]
      have hs2 : Hid ((e.see t).el = ⟨e.id, t, packW 0 (-1) (-1), 0, e.clock, tmo e.id⟩) := by unfold Hid EM.see; rw [hs.out]; rfl
      unfold maxT at h2
      have hf : turnF e.role 1 = 0 := by rcases three r0 r1 with h | h | h <;> rw [h] <;> rfl
      unfold EM.el at hat ⊢
      go_enter Tryz.func249, Tryz.ntmps249
      go_wp2_with (first
        | (go_at_call 80; refine (c80 hat ok).mono ?_; rintro _ _ ⟨rfl, rfl⟩)
        | (go_at_call 239; refine (c239 _ _ _ r0 r1 (by decide) (by decide)).mono ?_; rintro _ _ ⟨rfl, rfl⟩; rw [hf])
        | (go_at_call 64; refine (c64 (World.At_put_same hb) (by decide) (by decide) (by decide) (by decide) (by decide) (by decide)).mono ?_; rintro _ _ ⟨rfl, rfl⟩; rw [World.put_put_same]))
      go_ret
      rw [hs.out]
      have := hs2.out
      unfold EM.el at this
      rw [this]
      exact ⟨rfl, Dr.refl _⟩
    · have hs : Hid (e.sees t = false) := by unfold Hid; simp [EM.sees, h2]
      unfold maxT at h2
      clear hat
      unfold EM.see
      rw [hs.out]
      unfold EM.el
      go_enter Tryz.func249, Tryz.ntmps249
      go_wp2
      go_ret
      exact ⟨rfl, Dr.refl _⟩
  · have hs : Hid (e.sees t = false) := by unfold Hid; simp [EM.sees, h1]
    clear hat
    unfold EM.see
    rw [hs.out]
    unfold EM.el
    go_enter Tryz.func249, Tryz.ntmps249
    go_wp2
    go_ret
    exact ⟨rfl, Dr.refl _⟩
end Go.Proofs.Qxb6500990aGreat
