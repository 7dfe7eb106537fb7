/- The model's election rule: the walks, second part. -/
import Derived.Test.Qxb6500990aGreatElectM
set_option linter.unusedVariables false
set_option linter.unusedSimpArgs false
namespace Go.Proofs.Qxb6500990aGreat
open Go Go.RowKit Go.Tw
attribute [local go_sem] World.cell?_put_same World.cell?_put_ne World.cell?_put_ne' World.frozen?_put_same World.frozen?_put_ne World.frozen?_put_ne' World.setCell_put_same World.setCell_put_ne World.setCell_put_ne' World.inB_put World.inB_alloc World.inB_drew World.inB_drewN World.inB_new World.inB_setCell World.put_drew World.put_drewN World.q_setCell_drew World.q_setCell_drewN World.q_alloc_drew World.q_alloc_drewN World.put_put_same World.put_put_2 World.size_put World.q_cell?_alloc_old World.q_frozen?_alloc_old World.cell?_alloc_new' World.frozen?_alloc_new' World.q_setCell_alloc_old World.q_setCell_alloc_new World.q_put_alloc_old EM.g0 EM.s0 EM.g1 EM.s1 EM.g2 EM.s2 EM.g3 EM.s3 EM.g4 EM.s4 EM.g5 EM.s5 EM.g6 EM.s6 EM.g7 EM.s7 EM.g8 EM.s8 EM.gi_got_0 EM.si_got_0
set_option maxHeartbeats 400000

theorem c205 {W : World} {b : Nat} {e : EM} (h : W.At b e.cells 218) (ok : e.Ok) {p t : Int} (up : Bool) (hp : e.peer p = true) (ht : t ≤ maxT) :
    Calls Tryz.prog 205 #[vp b, vi p, vi t, .bool up] W fun r w' => r = .returned (.bool (e.asked p t up).1) ∧ Dr (W.put b (e.asked p t up).2.cells 218) w' := by
  obtain ⟨w, rfl, hb⟩ := h.door
  clear h
  simp only [World.put_put_same]
  have Hp : Hid (e.peer p = true) := hp
  clear hp
  unfold maxT at ht
  go_enter Tryz.func205, Tryz.ntmps205
  go_wp2_with (first
    | (go_at_call 253; refine (c253 (e := e) (World.At_put_same hb) _).mono ?_; rintro _ _ ⟨rfl, rfl⟩; rw [Hp.out])
    | (go_at_call 210; refine (c210 (e := e) (World.At_put_same hb) ok _).mono ?_; rintro _ _ ⟨rfl, n, rfl⟩; simp only [World.put_put_same]))
  all_goals
    go_ret
    unfold EM.asked
    simp only []
    split <;> first | exact ⟨rfl, (Dr.refl _).drewN _⟩ | (exfalso; simp_all <;> omega)

theorem c207 {W : World} {b : Nat} {e : EM} (h : W.At b e.cells 218) (ok : e.Ok) {p t : Int} (hp : e.peer p = true) (ht : t ≤ maxT) :
    Calls Tryz.prog 207 #[vp b, vi p, vi t] W fun r w' => r = .returned (.bool (e.heard p t).1) ∧ Dr (W.put b (e.heard p t).2.cells 218) w' := by
  obtain ⟨w, rfl, hb⟩ := h.door
  clear h
  simp only [World.put_put_same]
  have Hp : Hid (e.peer p = true) := hp
  clear hp
  unfold maxT at ht
  go_enter Tryz.func207, Tryz.ntmps207
  go_wp2_with (first
    | (go_at_call 253; refine (c253 (e := e) (World.At_put_same hb) _).mono ?_; rintro _ _ ⟨rfl, rfl⟩; rw [Hp.out])
    | (go_at_call 210; refine (c210 (e := e) (World.At_put_same hb) ok _).mono ?_; rintro _ _ ⟨rfl, n, rfl⟩; simp only [World.put_put_same]))
  all_goals
    go_ret
    unfold EM.heard
    simp only []
    split <;> first | exact ⟨rfl, (Dr.refl _).drewN _⟩ | (exfalso; simp_all <;> omega)

theorem c206 {W : World} {b : Nat} {e : EM} (h : W.At b e.cells 218) (ok : e.Ok) {p t : Int} (g : Bool) (hp : e.peer p = true) (ht : t ≤ maxT) :
    Calls Tryz.prog 206 #[vp b, vi p, vi t, .bool g] W fun r w' => r = .returned (.bool (e.gotVote p t g).1) ∧ Dr (W.put b (e.gotVote p t g).2.cells 218) w' := by
  obtain ⟨w, rfl, hb⟩ := h.door
  clear h
  simp only [World.put_put_same]
  have Hp : Hid (e.peer p = true) := hp
  have hp0 : 0 ≤ p ∧ p < 3 := by simp [EM.peer] at hp; omega
  obtain ⟨p0, p1⟩ := hp0
  clear hp
  unfold maxT at ht
  cases hs : e.sees t
  · have hs' : Hid (e.see t = e) := by unfold Hid; unfold EM.see; rw [hs]; rfl
    have Hs : Hid (e.sees t = false) := hs
    clear hs
    by_cases hc : t < e.term ∨ e.role ≠ 1 ∨ g = false
    · have ht' : Hid (e.gotVote p t g = (false, e)) := by unfold Hid EM.gotVote; rw [Hs.out]; simp only [Bool.false_eq_true, if_false]; rw [if_pos hc]
      rcases hc with hc | hc | hc
      · go_enter Tryz.func206, Tryz.ntmps206
        go_wp2_with (first
          | (go_at_call 253; refine (c253 (e := e) (World.At_put_same hb) _).mono ?_; rintro _ _ ⟨rfl, rfl⟩; rw [Hp.out])
          | (go_at_call 210; refine (c210 (e := e) (World.At_put_same hb) ok _).mono ?_; rintro _ _ ⟨rfl, n, rfl⟩; simp only [World.put_put_same]; rw [Hs.out, hs'.out]))
        go_ret
        rw [ht'.out]
        exact ⟨rfl, (Dr.refl _).drewN _⟩
      · have hc' : (e.role != 1) = true := by simp [hc]
        go_enter Tryz.func206, Tryz.ntmps206
        go_wp2_with (first
          | (go_at_call 253; refine (c253 (e := e) (World.At_put_same hb) _).mono ?_; rintro _ _ ⟨rfl, rfl⟩; rw [Hp.out])
          | (go_at_call 210; refine (c210 (e := e) (World.At_put_same hb) ok _).mono ?_; rintro _ _ ⟨rfl, n, rfl⟩; simp only [World.put_put_same]; rw [Hs.out, hs'.out]))
        all_goals
          go_ret
          rw [ht'.out]
          exact ⟨rfl, (Dr.refl _).drewN _⟩
      · subst hc
        go_enter Tryz.func206, Tryz.ntmps206
        go_wp2_with (first
          | (go_at_call 253; refine (c253 (e := e) (World.At_put_same hb) _).mono ?_; rintro _ _ ⟨rfl, rfl⟩; rw [Hp.out])
          | (go_at_call 210; refine (c210 (e := e) (World.At_put_same hb) ok _).mono ?_; rintro _ _ ⟨rfl, n, rfl⟩; simp only [World.put_put_same]; rw [Hs.out, hs'.out]))
        all_goals
          go_ret
          rw [ht'.out]
          exact ⟨rfl, (Dr.refl _).drewN _⟩
    · obtain rfl : g = true := by cases g <;> simp at hc ⊢
      have h1 : e.term ≤ t := by omega
      have h2 : e.role = 1 := by omega
      have h2' : (e.role != 1) = false := by simp [h2]
      have ht' : Hid (e.gotVote p t true = if EM.votes { e with got := upd e.got p.toNat true } < 2 then (false, { e with got := upd e.got p.toNat true }) else (true, { e with got := upd e.got p.toNat true, role := 2, leader := e.id, clock := 0 })) := by
        unfold Hid EM.gotVote; rw [Hs.out]; simp only [Bool.false_eq_true, if_false]; rw [if_neg hc]
      clear hc
      obtain hp | hp | hp : p = 0 ∨ p = 1 ∨ p = 2 := by omega
      all_goals
        subst hp
        go_enter Tryz.func206, Tryz.ntmps206
        go_wp2_with (first
          | (go_at_call 253; refine (c253 (e := e) (World.At_put_same hb) _).mono ?_; rintro _ _ ⟨rfl, rfl⟩; rw [Hp.out])
          | (go_at_call 210; refine (c210 (e := e) (World.At_put_same hb) ok _).mono ?_; rintro _ _ ⟨rfl, n, rfl⟩; simp only [World.put_put_same]; rw [Hs.out, hs'.out])
          | (with_reducible refine Ord.wp_loop_n 4 ?_) | (with_reducible refine Ord.loopN_succ ?_))
      all_goals
        go_ret
        go_tidy
        rw [ht'.out]
        simp only [Int.toNat_zero, Int.toNat_one, Int.reduceToNat, EM.votes, b2i, *, if_true, if_false, Bool.false_eq_true, Int.reduceAdd, Int.reduceLT]
        exact ⟨rfl, (Dr.refl _).drewN _⟩
  · have hs' : Hid (e.see t = e.seen t) := by unfold Hid; unfold EM.see; rw [hs]; rfl
    have Hs : Hid (e.sees t = true) := hs
    clear hs
    go_enter Tryz.func206, Tryz.ntmps206
    go_wp2_with (first
      | (go_at_call 253; refine (c253 (e := e) (World.At_put_same hb) _).mono ?_; rintro _ _ ⟨rfl, rfl⟩; rw [Hp.out])
      | (go_at_call 210; refine (c210 (e := e) (World.At_put_same hb) ok _).mono ?_; rintro _ _ ⟨rfl, n, rfl⟩; simp only [World.put_put_same]; rw [Hs.out, hs'.out]))
    all_goals
      go_ret
      unfold EM.gotVote
      rw [Hs.out]
      exact ⟨rfl, (Dr.refl _).drewN _⟩
end Go.Proofs.Qxb6500990aGreat
