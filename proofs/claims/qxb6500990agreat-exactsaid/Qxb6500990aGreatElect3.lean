/- The real election rule: the walks, third part. -/
import Derived.Test.Qxb6500990aGreatElect2
set_option linter.unusedVariables false
set_option linter.unusedSimpArgs false
namespace Go.Proofs.Qxb6500990aGreat
open Go Go.RowKit Go.Tw
attribute [local go_sem] World.cell?_put_same World.cell?_put_ne World.cell?_put_ne' World.frozen?_put_same World.frozen?_put_ne World.frozen?_put_ne' World.setCell_put_same World.setCell_put_ne World.setCell_put_ne' World.inB_put World.inB_alloc World.inB_drew World.inB_drewN World.inB_new World.inB_setCell World.put_drew World.put_drewN World.q_setCell_drew World.q_setCell_drewN World.q_alloc_drew World.q_alloc_drewN World.put_put_same World.put_put_2 World.size_put World.q_cell?_alloc_old World.q_frozen?_alloc_old World.cell?_alloc_new' World.frozen?_alloc_new' World.q_setCell_alloc_old World.q_setCell_alloc_new World.q_put_alloc_old EL.g0 EL.s0 EL.g1 EL.s1 EL.g2 EL.s2 EL.g3 EL.s3 EL.g4 EL.s4 EL.g5 EL.s5
set_option maxHeartbeats 400000
theorem maskW_one {id : Int} (h0 : 0 ≤ id) (h1 : id < 3) : maskW (fun j => decide ((j : Int) = id)) = bitF id := by
  rcases three h0 h1 with rfl | rfl | rfl <;> rfl

theorem c185 {W : World} {b : Nat} {e : EM} (h : W.At b e.el.cells 155) (ok : e.Ok) :
    Calls Tryz.prog 185 #[vp b] W fun r w' => r = .returned (vi e.tick.1) ∧ Dr (W.put b e.tick.2.el.cells 155) w' := by
  obtain ⟨w, rfl, hb⟩ := h.door
  clear h
  simp only [World.put_put_same]
  have hat : (w.put b e.el.cells 155).At b e.el.cells 155 := World.At_put_same hb
  obtain ⟨i0, i1, u0, u1, v0, v1, r0, r1, l0, l1, k0, k1⟩ := id ok
  unfold maxT at u1
  by_cases h1 : e.role = 2
  · have ht : Hid (e.tick = (2, e)) := by unfold Hid EM.tick; rw [if_pos h1]
    have hf : turnF e.role 0 = -1 := by simp [turnF, h1]
    clear h1
    go_enter Tryz.func185, Tryz.ntmps185
    go_wp2_with (first
      | (go_at_call 80; refine (c80 hat ok).mono ?_; rintro _ _ ⟨rfl, rfl⟩)
      | (go_at_call 239; refine (c239 _ _ _ r0 r1 (by decide) (by decide)).mono ?_; rintro _ _ ⟨rfl, rfl⟩; rw [hf]))
    go_ret
    rw [ht.out]
    exact ⟨rfl, Dr.refl _⟩
  · have hf : turnF e.role 0 = 1 := by
      rcases three r0 r1 with h | h | h
      · rw [h]; rfl
      · rw [h]; rfl
      · exact absurd h h1
    have k2 : tmo e.id < 9 := by unfold tmo; omega
    have k3 : 0 < tmo e.id := by unfold tmo; omega
    by_cases h2 : e.clock + 1 < tmo e.id
    · have ht : Hid (e.tick = (0, { e with clock := e.clock + 1 })) := by unfold Hid EM.tick; rw [if_neg h1, if_pos h2]
      unfold EM.el at hat ⊢
      go_enter Tryz.func185, Tryz.ntmps185
      go_wp2_with (first
        | (go_at_call 80; refine (c80 hat ok).mono ?_; rintro _ _ ⟨rfl, rfl⟩)
        | (go_at_call 239; refine (c239 _ _ _ r0 r1 (by decide) (by decide)).mono ?_; rintro _ _ ⟨rfl, rfl⟩; rw [hf]))
      refine Ord.region1 [] [0, 1, 2, 3, 4, 5, 6, 7] [8] (by kernel_rfl) (by kernel_rfl) (fun _ _ d _ _ h => by cases d <;> exact h) ?_
      simp only [Ord.pickO, Ord.nth]
      refine wpQuiet_nil ?_
      repeat (go_big_quiet_step (fail))
      refine wpQuiet_nil ?_
      go_wp2_with fail
      go_ret
      rw [ht.out]
      exact ⟨rfl, (Dr.refl _).drew⟩
    · by_cases h3 : maxT ≤ e.term
      · have ht : Hid (e.tick = (0, { e with clock := 0 })) := by unfold Hid EM.tick; rw [if_neg h1, if_neg h2, if_pos h3]
        unfold maxT at h3
        unfold EM.el at hat ⊢
        go_enter Tryz.func185, Tryz.ntmps185
        go_wp2_with (first
          | (go_at_call 80; refine (c80 hat ok).mono ?_; rintro _ _ ⟨rfl, rfl⟩)
          | (go_at_call 239; refine (c239 _ _ _ r0 r1 (by decide) (by decide)).mono ?_; rintro _ _ ⟨rfl, rfl⟩; rw [hf]))
        refine Ord.region1 [] [0, 1, 2, 3, 4, 5, 6, 7] [8] (by kernel_rfl) (by kernel_rfl) (fun _ _ d _ _ h => by cases d <;> exact h) ?_
        simp only [Ord.pickO, Ord.nth]
        refine wpQuiet_nil ?_
        repeat (go_big_quiet_step (fail))
        refine wpQuiet_nil ?_
        go_wp2_with (first
          | (go_at_call 65; refine (c65 (World.At_drew.2 (World.At_put_same hb)) i0 i1).mono ?_; rintro _ _ ⟨rfl, rfl⟩; simp only [World.put_drew, World.put_put_same]))
        go_ret
        rw [ht.out]
        exact ⟨rfl, (Dr.refl _).drew⟩
      · have ht : Hid (e.tick = (1, { e with term := e.term + 1, vote := e.id, role := 1, leader := -1, clock := 0, got := fun j => decide ((j : Int) = e.id) })) := by unfold Hid EM.tick; rw [if_neg h1, if_neg h2, if_neg h3]
        have hm : Hid (maskW (fun j => decide ((j : Int) = e.id)) = bitF e.id) := maskW_one i0 i1
        unfold maxT at h3
        unfold EM.el at hat ⊢
        go_enter Tryz.func185, Tryz.ntmps185
        go_wp2_with (first
          | (go_at_call 80; refine (c80 hat ok).mono ?_; rintro _ _ ⟨rfl, rfl⟩)
          | (go_at_call 239; refine (c239 _ _ _ r0 r1 (by decide) (by decide)).mono ?_; rintro _ _ ⟨rfl, rfl⟩; rw [hf]))
        refine Ord.region1 [] [0, 1, 2, 3, 4, 5, 6, 7] [8] (by kernel_rfl) (by kernel_rfl) (fun _ _ d _ _ h => by cases d <;> exact h) ?_
        simp only [Ord.pickO, Ord.nth]
        refine wpQuiet_nil ?_
        repeat (go_big_quiet_step (fail))
        refine wpQuiet_nil ?_
        go_wp2_with (first
          | (go_at_call 65; refine (c65 (World.At_drew.2 (World.At_put_same hb)) i0 i1).mono ?_; rintro _ _ ⟨rfl, rfl⟩; simp only [World.put_drew, World.put_put_same]))
        refine Ord.region1 [1] [0, 2, 3, 4, 5, 6, 7, 8, 9, 10, 11, 12, 13] [14, 15, 16, 17] (by kernel_rfl) (by kernel_rfl) (fun _ _ d _ _ h => by cases d <;> exact h) ?_
        simp only [Ord.pickO, Ord.nth]
        repeat (go_big_quiet_step (fail))
        refine wpQuiet_nil ?_
        repeat (first | go_big_quiet_step (fail) | (go_big_quiet_want; go_big_quiet_op; refine Exists.intro _ ⟨by first | (go_at_call 132; exact c132 _ _ i0 i1), ?_⟩; go_big_quiet_on))
        refine wpQuiet_nil ?_
        go_wp2_with (first
          | (go_at_call 64; refine (c64 (World.At_drew.2 (World.At_drew.2 (World.At_put_same hb))) (by decide) (by decide) (by omega) i1 (by decide) (by decide)).mono ?_; rintro _ _ ⟨rfl, rfl⟩; simp only [World.put_drew, World.put_put_same]))
        go_ret
        rw [ht.out]
        simp only [hm.out]
        exact ⟨rfl, (Dr.refl _).drew.drew⟩

theorem c243 {W : World} {b : Nat} {e : EM} (h : W.At b e.el.cells 155) (ok : e.Ok) {p t : Int} (up : Bool) (hp : e.peer p = true) (ht : t ≤ maxT) :
    Calls Tryz.prog 243 #[vp b, vi p, vi t, .bool up] W fun r w' => r = .returned (.bool (e.asked p t up).1) ∧ Dr (W.put b (e.asked p t up).2.el.cells 155) w' := by
  obtain ⟨w, rfl, hb⟩ := h.door
  clear h
  simp only [World.put_put_same]
  have hat : (w.put b e.el.cells 155).At b e.el.cells 155 := World.At_put_same hb
  have hat2 : ∀ n, ((w.put b (e.see t).el.cells 155).drewN n).At b (e.see t).el.cells 155 := fun n => World.At_put_same hb
  have Hp : Hid (e.peer p = true) := hp
  have hp0 : 0 ≤ p ∧ p < 3 := by simp [EM.peer] at hp; omega
  obtain ⟨p0, p1⟩ := hp0
  clear hp
  unfold maxT at ht
  have ok' := ok.see t
  obtain ⟨i0, i1, u0, u1, v0, v1, r0, r1, l0, l1, k0, k1⟩ := id ok'
  have hg : ∀ (x : EM) n, ((w.put b x.el.cells 155).drewN n).cell? ⟨b, 1, none⟩ = some (.int .i64 x.term) := fun x n => by simp [World.cell?_put_same hb, EL.g1, EM.el]
  go_enter Tryz.func243, Tryz.ntmps243
  go_wp2_with (first
    | (go_at_call 275; refine (c275 hat _).mono ?_; rintro _ _ ⟨rfl, rfl⟩; rw [Hp.out])
    | (go_at_call 249; refine (c249 hat ok _).mono ?_; rintro _ _ ⟨rfl, n, rfl⟩; simp only [World.put_put_same])
    | (go_at_call 79; refine (c79 (hat2 _) ok').mono ?_; rintro _ _ ⟨rfl, rfl⟩)
    | (go_at_call 80; refine (c80 (hat2 _) ok').mono ?_; rintro _ _ ⟨rfl, rfl⟩)
    | (go_at_call 81; refine (c81 (hat2 _) ok').mono ?_; rintro _ _ ⟨rfl, rfl⟩)
    | (go_at_call 64; refine (c64 (hat2 _) r0 r1 (by omega) p1 l0 l1).mono ?_; rintro _ _ ⟨rfl, rfl⟩; simp only [World.put_drewN, World.put_put_same])
    | (go_at_call 65; refine (c65 (World.At_drewN _ |>.2 (World.At_put_same hb)) i0 i1).mono ?_; rintro _ _ ⟨rfl, rfl⟩; simp only [World.put_drewN, World.put_put_same]))
  all_goals
    go_ret
    go_tidy
    unfold EM.asked
    simp only []
    split <;> first | exact ⟨rfl, (Dr.refl _).drewN _⟩ | (exfalso; simp_all <;> omega)

theorem c246 {W : World} {b : Nat} {e : EM} (h : W.At b e.el.cells 155) (ok : e.Ok) {p t : Int} (hp : e.peer p = true) (ht : t ≤ maxT) :
    Calls Tryz.prog 246 #[vp b, vi p, vi t] W fun r w' => r = .returned (.bool (e.heard p t).1) ∧ Dr (W.put b (e.heard p t).2.el.cells 155) w' := by
  obtain ⟨w, rfl, hb⟩ := h.door
  clear h
  simp only [World.put_put_same]
  have hat : (w.put b e.el.cells 155).At b e.el.cells 155 := World.At_put_same hb
  have hat2 : ∀ n, ((w.put b (e.see t).el.cells 155).drewN n).At b (e.see t).el.cells 155 := fun n => World.At_put_same hb
  have Hp : Hid (e.peer p = true) := hp
  have hp0 : 0 ≤ p ∧ p < 3 := by simp [EM.peer] at hp; omega
  obtain ⟨p0, p1⟩ := hp0
  clear hp
  unfold maxT at ht
  have ok' := ok.see t
  obtain ⟨i0, i1, u0, u1, v0, v1, r0, r1, l0, l1, k0, k1⟩ := id ok'
  have hg : ∀ (x : EM) n, ((w.put b x.el.cells 155).drewN n).cell? ⟨b, 1, none⟩ = some (.int .i64 x.term) := fun x n => by simp [World.cell?_put_same hb, EL.g1, EM.el]
  have hset : ∀ (x : EM), x.el.cells.setIfInBounds 3 (.int .i64 0) = EL.cells { x.el with mask := 0 } := fun x => rfl
  by_cases h2 : (e.see t).role = 2
  · have hf : turnF (e.see t).role 4 = -1 := by simp [turnF, h2]
    have hk : Hid (e.heard p t = (false, e.see t)) := by unfold Hid EM.heard; simp only []; rw [if_pos (.inr h2)]
    clear h2
    go_enter Tryz.func246, Tryz.ntmps246
    go_wp2_with (first
      | (go_at_call 275; refine (c275 hat _).mono ?_; rintro _ _ ⟨rfl, rfl⟩; rw [Hp.out])
      | (go_at_call 249; refine (c249 hat ok _).mono ?_; rintro _ _ ⟨rfl, n, rfl⟩; simp only [World.put_put_same])
      | (go_at_call 80; refine (c80 (hat2 _) ok').mono ?_; rintro _ _ ⟨rfl, rfl⟩)
      | (go_at_call 239; refine (c239 _ _ _ r0 r1 (by decide) (by decide)).mono ?_; rintro _ _ ⟨rfl, rfl⟩; rw [hf]))
    all_goals
      go_ret
      rw [hk.out]
      exact ⟨rfl, (Dr.refl _).drewN _⟩
  · have hf : turnF (e.see t).role 4 = 0 := by
      rcases three r0 r1 with h | h | h
      · rw [h]; rfl
      · rw [h]; rfl
      · exact absurd h h2
    by_cases h3 : t < (e.see t).term
    · have hk : Hid (e.heard p t = (false, e.see t)) := by unfold Hid EM.heard; simp only []; rw [if_pos (.inl h3)]
      go_enter Tryz.func246, Tryz.ntmps246
      go_wp2_with (first
        | (go_at_call 275; refine (c275 hat _).mono ?_; rintro _ _ ⟨rfl, rfl⟩; rw [Hp.out])
        | (go_at_call 249; refine (c249 hat ok _).mono ?_; rintro _ _ ⟨rfl, n, rfl⟩; simp only [World.put_put_same])
        | (go_at_call 80; refine (c80 (hat2 _) ok').mono ?_; rintro _ _ ⟨rfl, rfl⟩)
        | (go_at_call 239; refine (c239 _ _ _ r0 r1 (by decide) (by decide)).mono ?_; rintro _ _ ⟨rfl, rfl⟩; rw [hf]))
      all_goals
        go_ret
        rw [hk.out]
        exact ⟨rfl, (Dr.refl _).drewN _⟩
    · have hk : Hid (e.heard p t = (true, { e.see t with role := 0, leader := p, clock := 0, got := fun _ => false })) := by unfold Hid EM.heard; simp only []; rw [if_neg (by rintro (h | h); exact h3 h; exact h2 h)]
      go_enter Tryz.func246, Tryz.ntmps246
      go_wp2_with (first
        | (go_at_call 275; refine (c275 hat _).mono ?_; rintro _ _ ⟨rfl, rfl⟩; rw [Hp.out])
        | (go_at_call 249; refine (c249 hat ok _).mono ?_; rintro _ _ ⟨rfl, n, rfl⟩; simp only [World.put_put_same])
        | (go_at_call 79; refine (c79 (hat2 _) ok').mono ?_; rintro _ _ ⟨rfl, rfl⟩)
        | (go_at_call 80; refine (c80 (hat2 _) ok').mono ?_; rintro _ _ ⟨rfl, rfl⟩)
        | (go_at_call 239; refine (c239 _ _ _ r0 r1 (by decide) (by decide)).mono ?_; rintro _ _ ⟨rfl, rfl⟩; rw [hf])
        | (go_at_call 64; refine (c64 (x := { (e.see t).el with mask := 0 }) (World.At_drewN _ |>.2 (World.At_put_same hb)) (by decide) (by decide) v0 v1 (by omega) p1).mono ?_; rintro _ _ ⟨rfl, rfl⟩; simp only [World.put_drewN, World.put_put_same])
        | (go_at_call 65; refine (c65 (World.At_drewN _ |>.2 (World.At_put_same hb)) i0 i1).mono ?_; rintro _ _ ⟨rfl, rfl⟩; simp only [World.put_drewN, World.put_put_same]))
      go_ret
      rw [hk.out]
      exact ⟨rfl, (Dr.refl _).drewN _⟩
end Go.Proofs.Qxb6500990aGreat
