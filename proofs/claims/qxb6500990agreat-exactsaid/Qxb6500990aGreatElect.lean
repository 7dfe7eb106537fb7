/- The real election rule: the walks. -/
import Derived.Test.Qxb6500990aGreatElectM2
set_option linter.unusedVariables false
set_option linter.unusedSimpArgs false
namespace Go.Tw
def packW (r v l : Int) : Int := r + 4 * (v + 1) + 16 * (l + 1)
def maskW (g : Nat → Bool) : Int := b2i (g 0) + 2 * b2i (g 1) + 4 * b2i (g 2)
def EM.el (e : EM) : EL := ⟨e.id, e.term, packW e.role e.vote e.leader, maskW e.got, e.clock, tmo e.id⟩
def turnF (role ev : Int) : Int :=
  if role = 0 then (if ev = 0 then 1 else if ev = 1 ∨ ev = 4 then 0 else -1)
  else if role = 1 then (if ev = 0 ∨ ev = 2 then 1 else if ev = 1 ∨ ev = 4 then 0 else 2)
  else (if ev = 1 then 0 else -1)
def bitF (p : Int) : Int := if p = 0 then 1 else if p = 1 then 2 else 4
theorem three {r : Int} (h0 : 0 ≤ r) (h1 : r < 3) : r = 0 ∨ r = 1 ∨ r = 2 := by omega
theorem four {r : Int} (h0 : -1 ≤ r) (h1 : r < 3) : r = -1 ∨ r = 0 ∨ r = 1 ∨ r = 2 := by omega
theorem pack_role {r v l : Int} (r0 : 0 ≤ r) (r1 : r < 3) (v0 : -1 ≤ v) (v1 : v < 3) (l0 : -1 ≤ l) (l1 : l < 3) : bits .and .i64 (packW r v l) 3 = r := by
  rcases three r0 r1 with rfl | rfl | rfl <;> rcases four v0 v1 with rfl | rfl | rfl | rfl <;> rcases four l0 l1 with rfl | rfl | rfl | rfl <;> decide +kernel
theorem pack_vote {r v l : Int} (r0 : 0 ≤ r) (r1 : r < 3) (v0 : -1 ≤ v) (v1 : v < 3) (l0 : -1 ≤ l) (l1 : l < 3) : bits .and .i64 (packW r v l / 4) 3 = v + 1 := by
  rcases three r0 r1 with rfl | rfl | rfl <;> rcases four v0 v1 with rfl | rfl | rfl | rfl <;> rcases four l0 l1 with rfl | rfl | rfl | rfl <;> decide +kernel
theorem pack_leader {r v l : Int} (r0 : 0 ≤ r) (r1 : r < 3) (v0 : -1 ≤ v) (v1 : v < 3) (l0 : -1 ≤ l) (l1 : l < 3) : bits .and .i64 (packW r v l / 16) 3 = l + 1 := by
  rcases three r0 r1 with rfl | rfl | rfl <;> rcases four v0 v1 with rfl | rfl | rfl | rfl <;> rcases four l0 l1 with rfl | rfl | rfl | rfl <;> decide +kernel
theorem pack_make {r v l : Int} (r0 : 0 ≤ r) (r1 : r < 3) (v0 : -1 ≤ v) (v1 : v < 3) (l0 : -1 ≤ l) (l1 : l < 3) : bits .or .i64 (bits .or .i64 r ((v + 1) * 4)) ((l + 1) * 16) = packW r v l := by
  rcases three r0 r1 with rfl | rfl | rfl <;> rcases four v0 v1 with rfl | rfl | rfl | rfl <;> rcases four l0 l1 with rfl | rfl | rfl | rfl <;> decide +kernel
theorem mask_bit (g : Nat → Bool) (p : Nat) (hp : p < 3) : (bits .and .i64 (maskW g) (bitF p) != 0) = g p := by
  unfold maskW
  obtain rfl | rfl | rfl : p = 0 ∨ p = 1 ∨ p = 2 := by omega
  all_goals
    cases g 0 <;> cases g 1 <;> cases g 2 <;> decide +kernel
theorem mask_or (g : Nat → Bool) (p : Nat) (hp : p < 3) : bits .or .i64 (maskW g) (bitF p) = maskW (upd g p true) := by
  unfold maskW
  obtain rfl | rfl | rfl : p = 0 ∨ p = 1 ∨ p = 2 := by omega
  all_goals
    simp only [upd]
    cases g 0 <;> cases g 1 <;> cases g 2 <;> decide +kernel
theorem pack_bd {r v l : Int} (r0 : 0 ≤ r) (r1 : r < 3) (v0 : -1 ≤ v) (v1 : v < 3) (l0 : -1 ≤ l) (l1 : l < 3) : 0 ≤ packW r v l ∧ packW r v l < 64 := by
  unfold packW; omega
theorem mask_bd (g : Nat → Bool) : 0 ≤ maskW g ∧ maskW g < 8 := by
  unfold maskW b2i
  cases g 0 <;> cases g 1 <;> cases g 2 <;> decide
end Go.Tw
namespace Go.Proofs.Qxb6500990aGreat
open Go Go.RowKit Go.Tw
attribute [local go_sem] World.cell?_put_same World.cell?_put_ne World.cell?_put_ne' World.frozen?_put_same World.frozen?_put_ne World.frozen?_put_ne' World.setCell_put_same World.setCell_put_ne World.setCell_put_ne' World.inB_put World.inB_alloc World.inB_drew World.inB_drewN World.inB_new World.inB_setCell World.put_drew World.put_drewN World.q_setCell_drew World.q_setCell_drewN World.q_alloc_drew World.q_alloc_drewN World.put_put_same World.put_put_2 World.size_put World.q_cell?_alloc_old World.q_frozen?_alloc_old World.cell?_alloc_new' World.frozen?_alloc_new' World.q_setCell_alloc_old World.q_setCell_alloc_new World.q_put_alloc_old EL.g0 EL.s0 EL.g1 EL.s1 EL.g2 EL.s2 EL.g3 EL.s3 EL.g4 EL.s4 EL.g5 EL.s5
set_option maxHeartbeats 400000
theorem ret_int {k : IntKind} {a b : Int} (h : a = b) : Ending.returned (.int k a) = .returned (.int k b) := by rw [h]
theorem ret_bool {a b : Bool} (h : a = b) : Ending.returned (.bool a) = .returned (.bool b) := by rw [h]
theorem c132 (w : World) (p : Int) (h0 : 0 ≤ p) (h1 : p < 3) : Calls Tryz.prog 132 #[vi p] w fun e w' => e = .returned (vi (bitF p)) ∧ w' = w := by
  rcases three h0 h1 with rfl | rfl | rfl
  all_goals
    go_enter Tryz.func132, Tryz.ntmps132
    go_wp2_with (first | (with_reducible refine Ord.wp_loop_n 4 ?_) | (with_reducible refine Ord.loopN_succ ?_))
    go_ret
    exact ⟨rfl, rfl⟩
theorem c276 (w : World) (g : Nat → Bool) : Calls Tryz.prog 276 #[vi (maskW g)] w fun e w' => e = .returned (vi (b2i (g 0) + b2i (g 1) + b2i (g 2))) ∧ w' = w := by
  obtain ⟨m0, m1⟩ := mask_bd g
  unfold maskW at *
  cases g 0 <;> cases g 1 <;> cases g 2
  all_goals
    simp only [b2i, if_true, if_false, Bool.false_eq_true, Int.reduceMul, Int.reduceAdd]
    go_enter Tryz.func276, Tryz.ntmps276
    go_wp2_with (first | (with_reducible refine Ord.wp_loop_n 4 ?_) | (with_reducible refine Ord.loopN_succ ?_))
    go_ret
    exact ⟨ret_int (by decide +kernel), rfl⟩
theorem c239 (w : World) (r ev : Int) (h0 : 0 ≤ r) (h1 : r < 3) (e0 : 0 ≤ ev) (e1 : ev < 5) : Calls Tryz.prog 239 #[vi r, vi ev] w fun e w' => e = .returned (vi (turnF r ev)) ∧ w' = w := by
  obtain rfl | rfl | rfl | rfl | rfl : ev = 0 ∨ ev = 1 ∨ ev = 2 ∨ ev = 3 ∨ ev = 4 := by omega
  all_goals
    rcases three h0 h1 with rfl | rfl | rfl
    all_goals
      go_enter Tryz.func239, Tryz.ntmps239
      go_wp2
      go_ret
      exact ⟨rfl, rfl⟩
theorem c64 {W : World} {b : Nat} {x : EL} (h : W.At b x.cells 155) {r v l : Int} (r0 : 0 ≤ r) (r1 : r < 3) (v0 : -1 ≤ v) (v1 : v < 3) (l0 : -1 ≤ l) (l1 : l < 3) :
    Calls Tryz.prog 64 #[vp b, vi r, vi v, vi l] W fun e w' => e = .returned (.tuple #[]) ∧ w' = W.put b { x with word := packW r v l }.cells 155 := by
  obtain ⟨w, rfl, hb⟩ := h.door
  clear h
  simp only [World.put_put_same]
  have hk : Hid (bits .or .i64 (bits .or .i64 r ((v + 1) * 4)) ((l + 1) * 16) = packW r v l) := pack_make r0 r1 v0 v1 l0 l1
  go_enter Tryz.func64, Tryz.ntmps64
  go_wp2
  go_end0
  refine ⟨rfl, ?_⟩
  rw [hk.out]

theorem c65 {W : World} {b : Nat} {x : EL} (h : W.At b x.cells 155) (i0 : 0 ≤ x.id) (i1 : x.id < 3) :
    Calls Tryz.prog 65 #[vp b] W fun e w' => e = .returned (.tuple #[]) ∧ w' = W.put b { x with now := 0, due := tmo x.id }.cells 155 := by
  obtain ⟨w, rfl, hb⟩ := h.door
  clear h
  simp only [World.put_put_same]
  go_enter Tryz.func65, Tryz.ntmps65
  go_wp2_with (first | (go_at_call 122; refine (c122 _ _ i0 i1).mono ?_; rintro _ _ ⟨rfl, rfl⟩))
  go_end0
  exact ⟨rfl, rfl⟩

theorem c77 {W : World} {b : Nat} {e : EM} (h : W.At b e.el.cells 155) : Calls Tryz.prog 77 #[vp b] W fun r w' => r = .returned (vi e.id) ∧ w' = W := by
  obtain ⟨w, rfl, hb⟩ := h.door
  clear h
  unfold EM.el
  go_enter Tryz.func77, Tryz.ntmps77
  go_wp2
  go_ret
  exact ⟨rfl, rfl⟩
theorem c78 {W : World} {b : Nat} {e : EM} (h : W.At b e.el.cells 155) : Calls Tryz.prog 78 #[vp b] W fun r w' => r = .returned (vi e.term) ∧ w' = W := by
  obtain ⟨w, rfl, hb⟩ := h.door
  clear h
  unfold EM.el
  go_enter Tryz.func78, Tryz.ntmps78
  go_wp2
  go_ret
  exact ⟨rfl, rfl⟩
theorem c79 {W : World} {b : Nat} {e : EM} (h : W.At b e.el.cells 155) (ok : e.Ok) : Calls Tryz.prog 79 #[vp b] W fun r w' => r = .returned (vi e.vote) ∧ w' = W := by
  obtain ⟨w, rfl, hb⟩ := h.door
  clear h
  unfold EM.el
  obtain ⟨p0, p1⟩ := pack_bd ok.r0 ok.r1 ok.v0 ok.v1 ok.l0 ok.l1
  have hk := pack_vote ok.r0 ok.r1 ok.v0 ok.v1 ok.l0 ok.l1
  have v0 := ok.v0; have v1 := ok.v1
  go_enter Tryz.func79, Tryz.ntmps79
  go_wp2
  go_ret
  exact ⟨ret_int (by omega), rfl⟩
theorem c80 {W : World} {b : Nat} {e : EM} (h : W.At b e.el.cells 155) (ok : e.Ok) : Calls Tryz.prog 80 #[vp b] W fun r w' => r = .returned (vi e.role) ∧ w' = W := by
  obtain ⟨w, rfl, hb⟩ := h.door
  clear h
  unfold EM.el
  have hk := pack_role ok.r0 ok.r1 ok.v0 ok.v1 ok.l0 ok.l1
  go_enter Tryz.func80, Tryz.ntmps80
  go_wp2
  go_ret
  exact ⟨rfl, rfl⟩
theorem c81 {W : World} {b : Nat} {e : EM} (h : W.At b e.el.cells 155) (ok : e.Ok) : Calls Tryz.prog 81 #[vp b] W fun r w' => r = .returned (vi e.leader) ∧ w' = W := by
  obtain ⟨w, rfl, hb⟩ := h.door
  clear h
  unfold EM.el
  obtain ⟨p0, p1⟩ := pack_bd ok.r0 ok.r1 ok.v0 ok.v1 ok.l0 ok.l1
  have hk := pack_leader ok.r0 ok.r1 ok.v0 ok.v1 ok.l0 ok.l1
  have v0 := ok.l0; have v1 := ok.l1
  go_enter Tryz.func81, Tryz.ntmps81
  go_wp2
  go_ret
  exact ⟨ret_int (by omega), rfl⟩
theorem c82 {W : World} {b : Nat} {e : EM} (h : W.At b e.el.cells 155) (ok : e.Ok) : Calls Tryz.prog 82 #[vp b] W fun r w' => r = .returned (vi e.clock) ∧ Dr W w' := by
  obtain ⟨w, rfl, hb⟩ := h.door
  clear h
  unfold EM.el
  have i0 := ok.id0; have i1 := ok.id1; have k0 := ok.c0; have k1 := ok.c1
  have k2 : 0 ≤ tmo e.id := by unfold tmo; omega
  have k3 : tmo e.id < 9 := by unfold tmo; omega
  go_enter Tryz.func82, Tryz.ntmps82
  go_wp2_with fail
  refine Ord.region1 [] [0, 1, 2, 3, 4, 5, 6, 7, 8, 9, 10, 11, 12, 13, 14] [15] (by kernel_rfl) (by kernel_rfl) (fun _ _ d _ _ h => by cases d <;> exact h) ?_
  simp only [Ord.pickO, Ord.nth]
  refine wpQuiet_nil ?_
  repeat (first | go_big_quiet_step (fail) | (go_big_quiet_want; go_big_quiet_op; refine Exists.intro _ ⟨by first | (go_at_call 122; exact c122 _ _ i0 i1), ?_⟩; go_big_quiet_on))
  refine wpQuiet_nil ?_
  go_wp2_with fail
  go_ret
  exact ⟨ret_int (by omega), (Dr.refl _).drew⟩
theorem c83 {W : World} {b : Nat} {e : EM} (h : W.At b e.el.cells 155) (p : Nat) (hp : p < 3) : Calls Tryz.prog 83 #[vp b, vi p] W fun r w' => r = .returned (.bool (e.got p)) ∧ Dr W w' := by
  obtain ⟨w, rfl, hb⟩ := h.door
  clear h
  unfold EM.el
  have hk := mask_bit e.got p hp
  have h0 : (0 : Int) ≤ p := by omega
  have h1 : (p : Int) < 3 := by omega
  have d0 : decide ((0 : Int) ≤ p) = true := by simp
  have d1 : decide ((p : Int) < 3) = true := by simp; omega
  go_enter Tryz.func83, Tryz.ntmps83
  go_wp2_with fail
  refine Ord.region1 [] [0, 1, 2, 3, 4, 5, 6, 7, 8, 9, 10, 11, 12, 13, 14, 15] [16] (by kernel_rfl) (by kernel_rfl) (fun _ _ d _ _ h => by cases d <;> exact h) ?_
  simp only [Ord.pickO, Ord.nth]
  refine wpQuiet_nil ?_
  repeat (first | go_big_quiet_step (fail) | (go_big_quiet_want; go_big_quiet_op; refine Exists.intro _ ⟨by first | (go_at_call 132; exact c132 _ _ h0 h1), ?_⟩; go_big_quiet_on))
  refine wpQuiet_nil ?_
  go_wp2_with fail
  go_ret
  exact ⟨rfl, (Dr.refl _).drew⟩
theorem c275 {W : World} {b : Nat} {e : EM} (h : W.At b e.el.cells 155) (p : Int) :
    Calls Tryz.prog 275 #[vp b, vi p] W fun r w' => r = .returned (.bool (e.peer p)) ∧ w' = W := by
  obtain ⟨w, rfl, hb⟩ := h.door
  clear h
  unfold EM.el
  by_cases h1 : 0 ≤ p
  · by_cases h2 : p < 3
    · go_enter Tryz.func275, Tryz.ntmps275
      go_wp2
      go_ret
      exact ⟨by simp [EM.peer, h1, h2, bne, BEq.beq], rfl⟩
    · go_enter Tryz.func275, Tryz.ntmps275
      go_wp2
      go_ret
      exact ⟨by simp [EM.peer]; omega, rfl⟩
  · go_enter Tryz.func275, Tryz.ntmps275
    go_wp2
    go_ret
    exact ⟨by simp [EM.peer]; omega, rfl⟩
end Go.Proofs.Qxb6500990aGreat
