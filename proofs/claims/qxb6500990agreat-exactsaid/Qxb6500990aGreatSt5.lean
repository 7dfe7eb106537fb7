/- package store: what only reads -/
import Derived.Test.Qxb6500990aGreatSt4
import Derived.Test.Qxb6500990aGreatStructs2
set_option linter.unusedVariables false
set_option linter.unusedSimpArgs false
namespace Go.Proofs.Qxb6500990aGreat
open Go Go.RowKit Go.Tw
attribute [local go_sem] World.cell?_put_same World.cell?_put_ne World.cell?_put_ne' World.frozen?_put_same World.frozen?_put_ne World.frozen?_put_ne' World.setCell_put_same World.setCell_put_ne World.setCell_put_ne' World.inB_put World.inB_alloc World.inB_drew World.inB_drewN World.inB_new World.inB_setCell World.put_drew World.put_drewN World.q_setCell_drew World.q_setCell_drewN World.q_alloc_drew World.q_alloc_drewN World.put_put_same World.put_put_2 World.size_put World.q_cell?_alloc_old World.q_frozen?_alloc_old World.cell?_alloc_new' World.frozen?_alloc_new' World.q_setCell_alloc_old World.q_setCell_alloc_new World.q_put_alloc_old World.cell?_force_same World.frozen?_force_same World.cell?_force2_fst World.cell?_force2_snd StoreR.g0 StoreR.s0 StoreR.g1 StoreR.s1 StoreR.g2 StoreR.s2 StoreR.g3 StoreR.s3 StoreR.g4 StoreR.s4 StoreR.g5 StoreR.s5 StoreR.g6 StoreR.s6 StoreR.g7 StoreR.s7 StoreR.g8 StoreR.s8 StoreR.g9 StoreR.s9 StoreR.g10 StoreR.s10 StoreR.g11 StoreR.s11 StoreR.g12 StoreR.s12 StoreR.g13 StoreR.s13 StoreR.g14 StoreR.s14 StoreR.g15 StoreR.s15 StoreR.g16 StoreR.s16 StoreR.g17 StoreR.s17 StoreR.g18 StoreR.s18 StoreR.g19 StoreR.s19 StoreR.g20 StoreR.s20 StoreR.g21 StoreR.s21 StoreR.g22 StoreR.s22 StoreR.g23 StoreR.s23 StoreR.g24 StoreR.s24 StoreR.g25 StoreR.s25 StoreR.g26 StoreR.s26 StoreR.g27 StoreR.s27 StoreR.g28 StoreR.s28 StoreR.g29 StoreR.s29 StoreR.g30 StoreR.s30 StoreR.g31 StoreR.s31 StoreR.g32 StoreR.s32 StoreR.g33 StoreR.s33 StoreR.g34 StoreR.s34 StoreR.g35 StoreR.s35 StoreR.g36 StoreR.s36 StoreR.g37 StoreR.s37 StoreR.g38 StoreR.s38 StoreR.g39 StoreR.s39 StoreR.g40 StoreR.s40 StoreR.g41 StoreR.s41 StoreR.g42 StoreR.s42 StoreR.g43 StoreR.s43 StoreR.g44 StoreR.s44 StoreR.g45 StoreR.s45 StoreR.g46 StoreR.s46 StoreR.g47 StoreR.s47 StoreR.g48 StoreR.s48 StoreR.g49 StoreR.s49 StoreR.g50 StoreR.s50 StoreR.g51 StoreR.s51 StoreR.gi_stamp_0 StoreR.si_stamp_0 StoreR.gi_used_0 StoreR.si_used_0 StoreR.gi_recs_0 StoreR.si_recs_0 StoreR.gi_recs_1 StoreR.si_recs_1 StoreR.gi_recs_2 StoreR.si_recs_2 Rec.g0 Rec.s0 Rec.g1 Rec.s1 Rec.g2 Rec.s2
attribute [local go_sem] StoreR.gia_recs_1 StoreR.sia_recs_1 StoreR.gia_recs_2 StoreR.sia_recs_2
attribute [local go_sem] ba_get
set_option maxHeartbeats 4000000
set_option maxRecDepth 100000
section
variable {W : World} {b : Nat} {S : StoreR}
theorem c60 (h : W.At b S.cells 139) : Calls Tryz.prog 60 #[vp b] W fun r w' => r = .returned (.tuple #[vi S.m.term, vi S.m.vote]) ∧ ModP (fun _ => False) W w' := by
  have hc := h.cell
  have ib := h.inB
  clear h
  go_enter Tryz.func60, Tryz.ntmps60
  go_wp2_with fail
  refine Ord.region1 [] [0, 1, 2, 3, 4, 5, 6, 7, 8, 9, 10] [11] (by kernel_rfl) (by kernel_rfl) (fun _ _ d _ _ h => by cases d <;> exact h) ?_
  simp only [Ord.pickO, Ord.nth]
  refine wpQuiet_nil ?_
  repeat (go_big_quiet_step (fail))
  refine wpQuiet_nil ?_
  go_wp2_with fail
  go_ret2
  exact ⟨rfl, (by repeat (first | assumption | exact ModP.refl _ _ | refine ModP.fromPut ?_ (by assumption) | apply ModP.alloc | apply ModP.drew | apply ModP.drewN | refine ModP.put ?_ (by first | (left; assumption) | (left; rfl) | (right; simp only [World.inB, World.size_put] at *; omega)) _ _))⟩
theorem c61 (h : W.At b S.cells 139) : Calls Tryz.prog 61 #[vp b] W fun r w' => r = .returned (.tuple #[vi S.h.idx, vi S.h.term, vs S.snap]) ∧ ModP (fun _ => False) W w' := by
  have hc := h.cell
  have ib := h.inB
  clear h
  go_enter Tryz.func61, Tryz.ntmps61
  go_wp2_with fail
  refine Ord.region1 [] [0, 1, 2, 3, 4, 5, 6, 7, 8, 9, 10, 11, 12, 13, 14, 15] [16] (by kernel_rfl) (by kernel_rfl) (fun _ _ d _ _ h => by cases d <;> exact h) ?_
  simp only [Ord.pickO, Ord.nth]
  refine wpQuiet_nil ?_
  repeat (go_big_quiet_step (fail))
  refine wpQuiet_nil ?_
  go_wp2_with fail
  refine bodyPost_ret (v := .tuple #[vi S.h.idx, vi S.h.term, vs S.snap]) (by simp [results, Tryz.results61, go_sem]) rfl ?_
  exact ⟨rfl, (by repeat (first | assumption | exact ModP.refl _ _ | refine ModP.fromPut ?_ (by assumption) | apply ModP.alloc | apply ModP.drew | apply ModP.drewN | refine ModP.put ?_ (by first | (left; assumption) | (left; rfl) | (right; simp only [World.inB, World.size_put] at *; omega)) _ _))⟩
def _root_.Go.Tw.StoreR.slot (S : StoreR) (i : Int) : Rec × Int := if i < 0 ∨ 6 ≤ i then (zRec, 1) else if S.used i.toNat = true then (S.recs i.toNat, 0) else (zRec, 2)
theorem c119 (h : W.At b S.cells 139) (i : Int) : Calls Tryz.prog 119 #[vp b, vi i] W fun r w' => r = .returned (.tuple #[.agg (S.slot i).1.cells, vi (S.slot i).2]) ∧ ModP (fun _ => False) W w' := by
  have hc := h.cell
  have ib := h.inB
  clear h
  by_cases h0 : i < 0
  · have hk : Hid (S.slot i = (zRec, 1)) := by unfold Hid StoreR.slot; rw [if_pos (.inl h0)]
    go_enter Tryz.func119, Tryz.ntmps119
    go_wp2_with fail
    refine bodyPost_ret (v := .tuple #[.agg (Rec.cells ⟨0, 0, []⟩), vi 1]) (by simp [results, Tryz.results119, go_sem, Rec.cells]) rfl ?_
    rw [hk.out]
    exact ⟨rfl, (by repeat (first | assumption | exact ModP.refl _ _ | refine ModP.fromPut ?_ (by assumption) | apply ModP.alloc | apply ModP.drew | apply ModP.drewN | refine ModP.put ?_ (by first | (left; assumption) | (left; rfl) | (right; simp only [World.inB, World.size_put] at *; omega)) _ _))⟩
  have h0' : 0 ≤ i := by omega
  by_cases h6 : 6 ≤ i
  · have hk : Hid (S.slot i = (zRec, 1)) := by unfold Hid StoreR.slot; rw [if_pos (.inr h6)]
    clear h0
    go_enter Tryz.func119, Tryz.ntmps119
    go_wp2_with fail
    refine bodyPost_ret (v := .tuple #[.agg (Rec.cells ⟨0, 0, []⟩), vi 1]) (by simp [results, Tryz.results119, go_sem, Rec.cells]) rfl ?_
    rw [hk.out]
    exact ⟨rfl, (by repeat (first | assumption | exact ModP.refl _ _ | refine ModP.fromPut ?_ (by assumption) | apply ModP.alloc | apply ModP.drew | apply ModP.drewN | refine ModP.put ?_ (by first | (left; assumption) | (left; rfl) | (right; simp only [World.inB, World.size_put] at *; omega)) _ _))⟩
  obtain ⟨j, rfl⟩ := Int.eq_ofNat_of_zero_le h0'
  have j6 : j < 6 := by omega
  have j6' : (j : Int) < 6 := by omega
  clear h0 h0' h6
  by_cases hu : S.used j = true
  · have hk : Hid (S.slot j = (S.recs j, 0)) := by unfold Hid StoreR.slot; rw [if_neg (by omega)]; simp [hu]
    go_enter Tryz.func119, Tryz.ntmps119
    go_wp2_with fail
    refine bodyPost_ret (v := .tuple #[.agg (S.recs j).cells, vi 0]) (by simp [results, Tryz.results119, go_sem, Rec.cells]) rfl ?_
    rw [hk.out]
    exact ⟨rfl, (by repeat (first | assumption | exact ModP.refl _ _ | refine ModP.fromPut ?_ (by assumption) | apply ModP.alloc | apply ModP.drew | apply ModP.drewN | refine ModP.put ?_ (by first | (left; assumption) | (left; rfl) | (right; simp only [World.inB, World.size_put] at *; omega)) _ _))⟩
  · have hu' : S.used j = false := by simpa using hu
    have hk : Hid (S.slot j = (zRec, 2)) := by unfold Hid StoreR.slot; rw [if_neg (by omega)]; simp [hu']
    clear hu
    go_enter Tryz.func119, Tryz.ntmps119
    go_wp2_with fail
    refine bodyPost_ret (v := .tuple #[.agg (Rec.cells ⟨0, 0, []⟩), vi 2]) (by simp [results, Tryz.results119, go_sem, Rec.cells]) rfl ?_
    rw [hk.out]
    exact ⟨rfl, (by repeat (first | assumption | exact ModP.refl _ _ | refine ModP.fromPut ?_ (by assumption) | apply ModP.alloc | apply ModP.drew | apply ModP.drewN | refine ModP.put ?_ (by first | (left; assumption) | (left; rfl) | (right; simp only [World.inB, World.size_put] at *; omega)) _ _))⟩
end
end Go.Proofs.Qxb6500990aGreat
