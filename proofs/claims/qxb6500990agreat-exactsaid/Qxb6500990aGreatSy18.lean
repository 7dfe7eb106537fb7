/- package sync: sorted, advance -/
import Derived.Test.Qxb6500990aGreatSy17
set_option linter.unusedVariables false
set_option linter.unusedSimpArgs false
namespace Go.Tw
open Go Go.Proofs Go.Proofs.Qxb6500990aGreat
def mid3 (x y z : Int) : Int := max (min x y) (min (max x y) z)
def heldF (A : AS) : Nat → Int := upd A.mtch A.el.id.toNat A.lg.now.last
/-- the commit rule by sorting: what a majority holds -/
theorem mid_have (A : AS) (i0 : 0 ≤ A.el.id) (i1 : A.el.id < 3) {n : Int} (hn : n ≤ A.lg.now.last) : 2 ≤ A.haveK n 3 ↔ n ≤ mid3 (heldF A 0) (heldF A 1) (heldF A 2) := by
  obtain ⟨i, hi⟩ := Int.eq_ofNat_of_zero_le i0
  have : i = 0 ∨ i = 1 ∨ i = 2 := by omega
  unfold mid3 heldF
  simp only [AS.haveK]
  rw [hi]
  simp only [Int.toNat_natCast]
  rcases this with rfl | rfl | rfl
  · simp only [upd]
    simp
    omega
  · simp only [upd]
    simp
    omega
  · simp only [upd]
    simp
    omega
end Go.Tw
namespace Go.Proofs.Qxb6500990aGreat
open Go Go.RowKit Go.Tw
attribute [local go_sem] World.cell?_put_same World.cell?_put_ne World.cell?_put_ne' World.frozen?_put_same World.frozen?_put_ne World.frozen?_put_ne' World.setCell_put_same World.setCell_put_ne World.setCell_put_ne' World.inB_put World.inB_alloc World.inB_drew World.inB_drewN World.inB_new World.inB_setCell World.put_drew World.put_drewN World.q_setCell_drew World.q_setCell_drewN World.q_alloc_drew World.q_alloc_drewN World.put_put_same World.put_put_2 World.size_put World.q_cell?_alloc_old World.q_frozen?_alloc_old World.cell?_alloc_new' World.frozen?_alloc_new' World.q_setCell_alloc_old World.q_setCell_alloc_new World.q_put_alloc_old World.cell?_force_same World.frozen?_force_same World.cell?_force2_fst World.cell?_force2_snd SyncR.g0 SyncR.s0 SyncR.g1 SyncR.s1 SyncR.g2 SyncR.s2 SyncR.g3 SyncR.s3 SyncR.g4 SyncR.s4 SyncR.g5 SyncR.s5 SyncR.g6 SyncR.s6 SyncR.g7 SyncR.s7 SyncR.g8 SyncR.s8 SyncR.g9 SyncR.s9 SyncR.g10 SyncR.s10 SyncR.g11 SyncR.s11 SyncR.g12 SyncR.s12 SyncR.g13 SyncR.s13 SyncR.g14 SyncR.s14 SyncR.g15 SyncR.s15 SyncR.g16 SyncR.s16 SyncR.g17 SyncR.s17 SyncR.g18 SyncR.s18 SyncR.g19 SyncR.s19 SyncR.g20 SyncR.s20 SyncR.g21 SyncR.s21 SyncR.g22 SyncR.s22 SyncR.g23 SyncR.s23 SyncR.g24 SyncR.s24 SyncR.g25 SyncR.s25 SyncR.g26 SyncR.s26 SyncR.g27 SyncR.s27 SyncR.g28 SyncR.s28 SyncR.g29 SyncR.s29 SyncR.g30 SyncR.s30 SyncR.g31 SyncR.s31 SyncR.g32 SyncR.s32 SyncR.g33 SyncR.s33 SyncR.g34 SyncR.s34 SyncR.g35 SyncR.s35 SyncR.g36 SyncR.s36 SyncR.g37 SyncR.s37 SyncR.g38 SyncR.s38 SyncR.g39 SyncR.s39 SyncR.g40 SyncR.s40 SyncR.g41 SyncR.s41 SyncR.gi_next_0 SyncR.si_next_0 SyncR.gi_mtch_0 SyncR.si_mtch_0 SyncR.gi_box_0 SyncR.si_box_0 SyncR.gi_box_1 SyncR.si_box_1 SyncR.gi_box_2 SyncR.si_box_2 SyncR.gi_box_3 SyncR.si_box_3 SyncR.gi_box_4 SyncR.si_box_4 SyncR.gi_box_5 SyncR.si_box_5 SyncR.gi_box_6 SyncR.si_box_6 SyncR.gi_box_7 SyncR.si_box_7 SyncR.gi_box_8 SyncR.si_box_8 SyncR.gi_box_9 SyncR.si_box_9
attribute [local go_sem] ba_get upd_same upd_upd
set_option maxHeartbeats 4000000
set_option maxRecDepth 100000
theorem c292_a (W : World) (x y z : Int) (h1 : x ≤ y) (h2 : y ≤ z) : Calls Tryz.prog 292 #[.agg #[vi x, vi y, vi z]] W fun r w' => r = .returned (.agg #[vi x, vi y, vi z]) ∧ ModP (fun _ => False) W w' := by
  go_enter Tryz.func292, Tryz.ntmps292
  go_wp2_with (first | (with_reducible refine Ord.wp_loop_n 4 ?_) | (with_reducible refine Ord.loopN_succ ?_))
  refine bodyPost_ret (v := .agg #[vi x, vi y, vi z]) (by simp [results, Tryz.results292, go_sem]) rfl ?_
  exact ⟨rfl, (by repeat (first | assumption | exact ModP.refl _ _ | refine ModP.fromPut ?_ (by assumption) | apply ModP.alloc | apply ModP.drew | apply ModP.drewN | refine ModP.put ?_ (by first | (left; assumption) | (left; rfl) | (right; simp only [World.inB, World.size_put] at *; omega)) _ _))⟩
theorem c292_b (W : World) (x y z : Int) (h1 : x ≤ y) (h2 : z < y) (h3 : x ≤ z) : Calls Tryz.prog 292 #[.agg #[vi x, vi y, vi z]] W fun r w' => r = .returned (.agg #[vi x, vi z, vi y]) ∧ ModP (fun _ => False) W w' := by
  go_enter Tryz.func292, Tryz.ntmps292
  go_wp2_with (first | (with_reducible refine Ord.wp_loop_n 4 ?_) | (with_reducible refine Ord.loopN_succ ?_))
  refine bodyPost_ret (v := .agg #[vi x, vi z, vi y]) (by simp [results, Tryz.results292, go_sem]) rfl ?_
  exact ⟨rfl, (by repeat (first | assumption | exact ModP.refl _ _ | refine ModP.fromPut ?_ (by assumption) | apply ModP.alloc | apply ModP.drew | apply ModP.drewN | refine ModP.put ?_ (by first | (left; assumption) | (left; rfl) | (right; simp only [World.inB, World.size_put] at *; omega)) _ _))⟩
theorem c292_c (W : World) (x y z : Int) (h1 : x ≤ y) (h2 : z < y) (h3 : z < x) : Calls Tryz.prog 292 #[.agg #[vi x, vi y, vi z]] W fun r w' => r = .returned (.agg #[vi z, vi x, vi y]) ∧ ModP (fun _ => False) W w' := by
  go_enter Tryz.func292, Tryz.ntmps292
  go_wp2_with (first | (with_reducible refine Ord.wp_loop_n 4 ?_) | (with_reducible refine Ord.loopN_succ ?_))
  refine bodyPost_ret (v := .agg #[vi z, vi x, vi y]) (by simp [results, Tryz.results292, go_sem]) rfl ?_
  exact ⟨rfl, (by repeat (first | assumption | exact ModP.refl _ _ | refine ModP.fromPut ?_ (by assumption) | apply ModP.alloc | apply ModP.drew | apply ModP.drewN | refine ModP.put ?_ (by first | (left; assumption) | (left; rfl) | (right; simp only [World.inB, World.size_put] at *; omega)) _ _))⟩
theorem c292_d (W : World) (x y z : Int) (h1 : y < x) (h2 : x ≤ z) : Calls Tryz.prog 292 #[.agg #[vi x, vi y, vi z]] W fun r w' => r = .returned (.agg #[vi y, vi x, vi z]) ∧ ModP (fun _ => False) W w' := by
  go_enter Tryz.func292, Tryz.ntmps292
  go_wp2_with (first | (with_reducible refine Ord.wp_loop_n 4 ?_) | (with_reducible refine Ord.loopN_succ ?_))
  refine bodyPost_ret (v := .agg #[vi y, vi x, vi z]) (by simp [results, Tryz.results292, go_sem]) rfl ?_
  exact ⟨rfl, (by repeat (first | assumption | exact ModP.refl _ _ | refine ModP.fromPut ?_ (by assumption) | apply ModP.alloc | apply ModP.drew | apply ModP.drewN | refine ModP.put ?_ (by first | (left; assumption) | (left; rfl) | (right; simp only [World.inB, World.size_put] at *; omega)) _ _))⟩
theorem c292_e (W : World) (x y z : Int) (h1 : y < x) (h2 : z < x) (h3 : y ≤ z) : Calls Tryz.prog 292 #[.agg #[vi x, vi y, vi z]] W fun r w' => r = .returned (.agg #[vi y, vi z, vi x]) ∧ ModP (fun _ => False) W w' := by
  go_enter Tryz.func292, Tryz.ntmps292
  go_wp2_with (first | (with_reducible refine Ord.wp_loop_n 4 ?_) | (with_reducible refine Ord.loopN_succ ?_))
  refine bodyPost_ret (v := .agg #[vi y, vi z, vi x]) (by simp [results, Tryz.results292, go_sem]) rfl ?_
  exact ⟨rfl, (by repeat (first | assumption | exact ModP.refl _ _ | refine ModP.fromPut ?_ (by assumption) | apply ModP.alloc | apply ModP.drew | apply ModP.drewN | refine ModP.put ?_ (by first | (left; assumption) | (left; rfl) | (right; simp only [World.inB, World.size_put] at *; omega)) _ _))⟩
theorem c292_f (W : World) (x y z : Int) (h1 : y < x) (h2 : z < x) (h3 : z < y) : Calls Tryz.prog 292 #[.agg #[vi x, vi y, vi z]] W fun r w' => r = .returned (.agg #[vi z, vi y, vi x]) ∧ ModP (fun _ => False) W w' := by
  go_enter Tryz.func292, Tryz.ntmps292
  go_wp2_with (first | (with_reducible refine Ord.wp_loop_n 4 ?_) | (with_reducible refine Ord.loopN_succ ?_))
  refine bodyPost_ret (v := .agg #[vi z, vi y, vi x]) (by simp [results, Tryz.results292, go_sem]) rfl ?_
  exact ⟨rfl, (by repeat (first | assumption | exact ModP.refl _ _ | refine ModP.fromPut ?_ (by assumption) | apply ModP.alloc | apply ModP.drew | apply ModP.drewN | refine ModP.put ?_ (by first | (left; assumption) | (left; rfl) | (right; simp only [World.inB, World.size_put] at *; omega)) _ _))⟩
theorem c292 (W : World) (x y z : Int) : Calls Tryz.prog 292 #[.agg #[vi x, vi y, vi z]] W fun r w' => ∃ lo hi, r = .returned (.agg #[vi lo, vi (mid3 x y z), vi hi]) ∧ ModP (fun _ => False) W w' := by
  by_cases h1 : x ≤ y
  · by_cases h2 : y ≤ z
    · rw [show mid3 x y z = y by unfold mid3; omega]
      exact (c292_a W x y z h1 h2).mono fun _ _ q => ⟨_, _, q⟩
    · by_cases h3 : x ≤ z
      · rw [show mid3 x y z = z by unfold mid3; omega]
        exact (c292_b W x y z h1 (by omega) h3).mono fun _ _ q => ⟨_, _, q⟩
      · rw [show mid3 x y z = x by unfold mid3; omega]
        exact (c292_c W x y z h1 (by omega) (by omega)).mono fun _ _ q => ⟨_, _, q⟩
  · by_cases h2 : x ≤ z
    · rw [show mid3 x y z = x by unfold mid3; omega]
      exact (c292_d W x y z (by omega) h2).mono fun _ _ q => ⟨_, _, q⟩
    · by_cases h3 : y ≤ z
      · rw [show mid3 x y z = z by unfold mid3; omega]
        exact (c292_e W x y z (by omega) (by omega) h3).mono fun _ _ q => ⟨_, _, q⟩
      · rw [show mid3 x y z = y by unfold mid3; omega]
        exact (c292_f W x y z (by omega) (by omega) (by omega)).mono fun _ _ q => ⟨_, _, q⟩
end Go.Proofs.Qxb6500990aGreat
