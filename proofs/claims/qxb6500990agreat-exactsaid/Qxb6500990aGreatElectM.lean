/- The model's election rule: the walks. -/
import Derived.Test.Qxb6500990aGreatSpec1
import Derived.Test.Qxb6500990aGreatOrder
import Derived.Deep.QuietTactic
import Derived.BigQuiet
set_option linter.unusedVariables false
set_option linter.unusedSimpArgs false
namespace Go.Proofs.Qxb6500990aGreat
open Go Go.RowKit Go.Tw
abbrev vi (n : Int) : Value := .int .i64 n
abbrev vp (b : Nat) : Value := .pointer (some ⟨b, 0, none⟩)
attribute [local go_sem] World.cell?_put_same World.cell?_put_ne World.cell?_put_ne' World.frozen?_put_same World.frozen?_put_ne World.frozen?_put_ne' World.setCell_put_same World.setCell_put_ne World.setCell_put_ne' World.inB_put World.inB_alloc World.inB_drew World.inB_drewN World.inB_new World.inB_setCell World.put_drew World.put_drewN World.q_setCell_drew World.q_setCell_drewN World.q_alloc_drew World.q_alloc_drewN World.put_put_same World.put_put_2 World.size_put World.q_cell?_alloc_old World.q_frozen?_alloc_old World.cell?_alloc_new' World.frozen?_alloc_new' World.q_setCell_alloc_old World.q_setCell_alloc_new World.q_put_alloc_old EM.g0 EM.s0 EM.g1 EM.s1 EM.g2 EM.s2 EM.g3 EM.s3 EM.g4 EM.s4 EM.g5 EM.s5 EM.g6 EM.s6 EM.g7 EM.s7 EM.g8 EM.s8 EM.gi_got_0 EM.si_got_0
set_option maxHeartbeats 400000

theorem c122 (w : World) (id : Int) (h0 : 0 ≤ id) (h1 : id < 3) : Calls Tryz.prog 122 #[vi id] w fun e w' => e = .returned (vi (tmo id)) ∧ w' = w := by
  go_enter Tryz.func122, Tryz.ntmps122
  go_wp2
  go_ret
  exact ⟨by simp [tmo], rfl⟩

theorem c200 {W : World} {b : Nat} {e : EM} (h : W.At b e.cells 218) (ok : e.Ok) :
    Calls Tryz.prog 200 #[vp b] W fun r w' => r = .returned (vi e.tick.1) ∧ Dr (W.put b e.tick.2.cells 218) w' := by
  obtain ⟨i0, i1, u0, u1, v0, v1, r0, r1, l0, l1, c0, c1⟩ := ok
  obtain ⟨w, rfl, hb⟩ := h.door
  clear h
  simp only [World.put_put_same]
  unfold maxT at u1
  unfold tmo at c1
  by_cases h1 : e.role = 2
  · have ht : Hid (e.tick = (2, e)) := by unfold Hid EM.tick; rw [if_pos h1]
    have h1' : (e.role == 2) = true := by simp [h1]
    go_enter Tryz.func200, Tryz.ntmps200
    go_wp2_with fail
    go_ret
    rw [ht.out]
    exact ⟨rfl, Dr.refl _⟩
  · have h1' : (e.role == 2) = false := by simp [h1]
    go_enter Tryz.func200, Tryz.ntmps200
    go_wp2_with fail
    refine Ord.region1 [] [0, 1, 2, 3, 4, 5, 6, 7, 8] [9] (by kernel_rfl) (by kernel_rfl) (fun _ _ d _ _ h => by cases d <;> exact h) ?_
    simp only [Ord.pickO, Ord.nth]
    refine wpQuiet_nil ?_
    repeat (first | go_big_quiet_step (fail) | (go_big_quiet_want; go_big_quiet_op; refine Exists.intro _ ⟨by first | (go_at_call 122; exact c122 _ _ (by omega) (by omega)), ?_⟩; go_big_quiet_on))
    refine wpQuiet_nil ?_
    unfold tmo
    by_cases h2 : e.clock + 1 < 3 + 2 * e.id
    · have ht : Hid (e.tick = (0, { e with clock := e.clock + 1 })) := by unfold Hid EM.tick tmo; rw [if_neg h1, if_pos h2]
      go_wp2_with fail
      go_ret
      rw [ht.out]
      exact ⟨rfl, (Dr.refl _).drew⟩
    · by_cases h3 : maxT ≤ e.term
      · have ht : Hid (e.tick = (0, { e with clock := 0 })) := by unfold Hid EM.tick tmo; rw [if_neg h1, if_neg h2, if_pos h3]
        unfold maxT at h3
        go_wp2_with fail
        go_ret
        rw [ht.out]
        exact ⟨rfl, (Dr.refl _).drew⟩
      · have ht : Hid (e.tick = (1, { e with term := e.term + 1, vote := e.id, role := 1, leader := -1, clock := 0, got := fun j => decide ((j : Int) = e.id) })) := by unfold Hid EM.tick tmo; rw [if_neg h1, if_neg h2, if_neg h3]
        unfold maxT at h3
        obtain hi | hi | hi : e.id = 0 ∨ e.id = 1 ∨ e.id = 2 := by omega
        all_goals
          go_wp2_with fail
          refine Ord.region1 [1, 2, 3] [0, 4, 5, 6, 7, 8, 9, 10, 11, 12, 13, 14] [15, 16, 17, 18, 19, 20, 21, 22, 23, 24] (by kernel_rfl) (by kernel_rfl) (fun _ _ d _ _ h => by cases d <;> exact h) ?_
          simp only [Ord.pickO, Ord.nth]
          repeat (go_big_quiet_step (fail))
          refine wpQuiet_nil ?_
          repeat (go_big_quiet_step (fail))
          refine wpQuiet_nil ?_
          go_wp2_with fail
          refine Ord.region1 [] [0, 1, 2, 3, 4, 5, 6, 7] [8] (by kernel_rfl) (by kernel_rfl) (fun _ _ d _ _ h => by cases d <;> exact h) ?_
          simp only [Ord.pickO, Ord.nth]
          refine wpQuiet_nil ?_
          repeat (go_big_quiet_step (fail))
          refine wpQuiet_nil ?_
          go_wp2_with fail
          go_ret
          rw [ht.out]
          refine ⟨rfl, ?_⟩
          simp only [EM.cells, upd, hi]
          exact (Dr.refl _).drew.drew.drew

theorem c114 {W : World} {b : Nat} {e : EM} (h : W.At b e.cells 218) : Calls Tryz.prog 114 #[vp b] W fun r w' => r = .returned (vi e.id) ∧ w' = W := by
  obtain ⟨w, rfl, hb⟩ := h.door
  clear h
  go_enter Tryz.func114, Tryz.ntmps114
  go_wp2
  go_ret
  exact ⟨rfl, rfl⟩
theorem c147 {W : World} {b : Nat} {e : EM} (h : W.At b e.cells 218) : Calls Tryz.prog 147 #[vp b] W fun r w' => r = .returned (vi e.term) ∧ w' = W := by
  obtain ⟨w, rfl, hb⟩ := h.door
  clear h
  go_enter Tryz.func147, Tryz.ntmps147
  go_wp2
  go_ret
  exact ⟨rfl, rfl⟩
theorem c148 {W : World} {b : Nat} {e : EM} (h : W.At b e.cells 218) : Calls Tryz.prog 148 #[vp b] W fun r w' => r = .returned (vi e.vote) ∧ w' = W := by
  obtain ⟨w, rfl, hb⟩ := h.door
  clear h
  go_enter Tryz.func148, Tryz.ntmps148
  go_wp2
  go_ret
  exact ⟨rfl, rfl⟩
theorem c149 {W : World} {b : Nat} {e : EM} (h : W.At b e.cells 218) : Calls Tryz.prog 149 #[vp b] W fun r w' => r = .returned (vi e.role) ∧ w' = W := by
  obtain ⟨w, rfl, hb⟩ := h.door
  clear h
  go_enter Tryz.func149, Tryz.ntmps149
  go_wp2
  go_ret
  exact ⟨rfl, rfl⟩
theorem c150 {W : World} {b : Nat} {e : EM} (h : W.At b e.cells 218) : Calls Tryz.prog 150 #[vp b] W fun r w' => r = .returned (vi e.leader) ∧ w' = W := by
  obtain ⟨w, rfl, hb⟩ := h.door
  clear h
  go_enter Tryz.func150, Tryz.ntmps150
  go_wp2
  go_ret
  exact ⟨rfl, rfl⟩
theorem c151 {W : World} {b : Nat} {e : EM} (h : W.At b e.cells 218) : Calls Tryz.prog 151 #[vp b] W fun r w' => r = .returned (vi e.clock) ∧ w' = W := by
  obtain ⟨w, rfl, hb⟩ := h.door
  clear h
  go_enter Tryz.func151, Tryz.ntmps151
  go_wp2
  go_ret
  exact ⟨rfl, rfl⟩

theorem c152 {W : World} {b : Nat} {e : EM} (h : W.At b e.cells 218) (p : Nat) (hp : p < 3) :
    Calls Tryz.prog 152 #[vp b, vi p] W fun r w' => r = .returned (.bool (e.got p)) ∧ w' = W := by
  obtain ⟨w, rfl, hb⟩ := h.door
  clear h
  obtain rfl | rfl | rfl : p = 0 ∨ p = 1 ∨ p = 2 := by omega
  all_goals
    go_enter Tryz.func152, Tryz.ntmps152
    go_wp2
    go_ret
    exact ⟨rfl, rfl⟩

theorem c253 {W : World} {b : Nat} {e : EM} (h : W.At b e.cells 218) (p : Int) :
    Calls Tryz.prog 253 #[vp b, vi p] W fun r w' => r = .returned (.bool (e.peer p)) ∧ w' = W := by
  obtain ⟨w, rfl, hb⟩ := h.door
  clear h
  by_cases h1 : 0 ≤ p
  · by_cases h2 : p < 3
    · go_enter Tryz.func253, Tryz.ntmps253
      go_wp2
      go_ret
      exact ⟨by simp [EM.peer, h1, h2, bne, BEq.beq], rfl⟩
    · go_enter Tryz.func253, Tryz.ntmps253
      go_wp2
      go_ret
      exact ⟨by simp [EM.peer]; omega, rfl⟩
  · go_enter Tryz.func253, Tryz.ntmps253
    go_wp2
    go_ret
    exact ⟨by simp [EM.peer]; omega, rfl⟩

theorem c74 (W : World) (id : Int) : Calls Tryz.prog 74 #[vi id] W fun r w' => r = .returned (vp W.heap.size) ∧ Dr (W.alloc (.cells (EM.new id).cells 218)) w' := by
  by_cases h : id < 0 ∨ 3 ≤ id
  · go_enter Tryz.func74, Tryz.ntmps74
    go_wp2
    all_goals
      go_ret
      exact ⟨rfl, by simp only [EM.new, h, if_true]; exact Dr.refl _⟩
  · have h1 : 0 ≤ id := by omega
    have h2 : id < 3 := by omega
    go_enter Tryz.func74, Tryz.ntmps74
    go_wp2
    go_ret
    exact ⟨rfl, by simp only [EM.new, h, if_false]; exact Dr.refl _⟩

theorem c129 {W : World} {b : Nat} {e : EM} (h : W.At b e.cells 218) {t v : Int} (t0 : 0 ≤ t) (t1 : t ≤ maxT) (v0 : -1 ≤ v) (v1 : v < 3) :
    Calls Tryz.prog 129 #[vp b, vi t, vi v] W fun r w' => r = .returned (vi 0) ∧ Dr (W.put b (e.restore t v).cells 218) w' := by
  obtain ⟨w, rfl, hb⟩ := h.door
  clear h
  unfold maxT at t1
  simp only [World.put_put_same]
  go_enter Tryz.func129, Tryz.ntmps129
  go_wp2
  go_ret
  exact ⟨rfl, Dr.refl _⟩

theorem c210 {W : World} {b : Nat} {e : EM} (h : W.At b e.cells 218) (ok : e.Ok) (t : Int) :
    Calls Tryz.prog 210 #[vp b, vi t] W fun r w' => r = .returned (.bool (e.sees t)) ∧ Dr (W.put b (e.see t).cells 218) w' := by
  obtain ⟨w, rfl, hb⟩ := h.door
  clear h
  simp only [World.put_put_same]
  by_cases h1 : e.term < t
  · by_cases h2 : t ≤ maxT
    · have hs : Hid (e.sees t = true) := by unfold Hid; simp [EM.sees, h1, h2]
      unfold maxT at h2
      go_enter Tryz.func210, Tryz.ntmps210
      go_wp2
      go_ret
      unfold EM.see
      rw [hs.out]
      exact ⟨rfl, Dr.refl _⟩
    · have hs : Hid (e.sees t = false) := by unfold Hid; simp [EM.sees, h2]
      unfold maxT at h2
      go_enter Tryz.func210, Tryz.ntmps210
      go_wp2
      go_ret
      unfold EM.see
      rw [hs.out]
      exact ⟨rfl, Dr.refl _⟩
  · have hs : Hid (e.sees t = false) := by unfold Hid; simp [EM.sees, h1]
    go_enter Tryz.func210, Tryz.ntmps210
    go_wp2
    go_ret
    unfold EM.see
    rw [hs.out]
    exact ⟨rfl, Dr.refl _⟩

end Go.Proofs.Qxb6500990aGreat
