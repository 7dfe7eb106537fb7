/- package kv: add, drop -/
import Derived.Test.Qxb6500990aGreatKv8
set_option linter.unusedVariables false
set_option linter.unusedSimpArgs false
namespace Go.Proofs.Qxb6500990aGreat
open Go Go.RowKit Go.Tw
attribute [local go_sem] World.cell?_put_same World.cell?_put_ne World.cell?_put_ne' World.frozen?_put_same World.frozen?_put_ne World.frozen?_put_ne' World.setCell_put_same World.setCell_put_ne World.setCell_put_ne' World.inB_put World.inB_alloc World.inB_drew World.inB_drewN World.inB_new World.inB_setCell World.put_drew World.put_drewN World.q_setCell_drew World.q_setCell_drewN World.q_alloc_drew World.q_alloc_drewN World.put_put_same World.put_put_2 World.size_put World.q_cell?_alloc_old World.q_frozen?_alloc_old World.cell?_alloc_new' World.frozen?_alloc_new' World.q_setCell_alloc_old World.q_setCell_alloc_new World.q_put_alloc_old World.cell?_force_same World.frozen?_force_same World.cell?_force2_fst World.cell?_force2_snd KvX.g0 KvX.g1 KvX.g2 KvX.g3 KvX.g4 KvX.g5 KvX.g6 KvX.g7 KvX.g8 KvX.g9 KvX.g10 KvX.g11 KvX.g12 KvX.g13 KvX.g14 KvX.g15 KvX.g16 KvX.g17 KvX.g18 KvX.g19 KvX.g20 KvX.g21 KvX.g22 KvX.g23 KvX.g24 KvX.g25 KvX.g26 KvX.g27 KvX.g28 KvX.g29 KvX.g30 KvX.g31 KvX.g32 KvX.g33 KvX.g34 KvX.g35 KvX.g36 KvX.g37 KvX.g38 KvX.g39 KvX.g40 KvX.g41 KvX.g42 KvX.g43 KvX.g44 KvX.g45 KvX.g46 KvX.g47 KvX.g48 KvX.g49 KvX.g50 KvX.g51 KvX.g52 KvX.g53 KvX.g54 KvX.g55 KvX.g56 KvX.g57 KvX.g58 KvX.g59 KvX.g60 KvX.g61 KvX.g62 KvX.g63 KvX.g64 KvX.g65 KvX.g66 KvX.g67 KvX.g68 KvX.g69 KvX.g70 KvX.g71 KvX.g72 KvX.g73 KvX.g74 KvX.g75 KvX.g76 KvX.g77 KvX.g78 KvX.g79 KvX.g80 KvX.g81 KvX.g82 KvX.g83 KvX.gi_cells__0 KvX.gi_cells__1 KvX.gi_cells__2 KvX.gi_cells__3 KvX.gi_cells__4 KvX.gi_cells__5 KvX.gi_cells__6 KvX.gi_cells__7 KvX.gi_ss_0 KvX.gi_ss_1 KvX.gi_ss_2 KvX.gi_ss_3 KvX.gi_ss_4 KvX.gi_ss_5 KvX.gia_cells__1 KvX.gia_cells__2 KvX.gia_cells__3 KvX.gia_cells__4 KvX.gia_cells__5 KvX.gia_cells__6 KvX.gia_cells__7 KvX.gia_ss_1 KvX.gia_ss_2 KvX.gia_ss_3 KvX.gia_ss_4 KvX.gia_ss_5 KvX.pa_cells_ KvX.pa_ss KvX.s64 KvX.s65 Cell.g0 Cell.s0 Cell.g1 Cell.s1 Cell.g2 Cell.s2 Cell.g3 Cell.s3 Cell.g4 Cell.s4 Cell.g5 Cell.s5 Cell.g6 Cell.s6 Cell.g7 Cell.s7 Cell.gi_key_0 Cell.si_key_0 Cell.gi_val_0 Cell.si_val_0
attribute [local go_sem] ba_get KvX.pz KvX.pt
set_option maxHeartbeats 4000000
set_option maxRecDepth 100000
theorem c180 {W : World} {b : Nat} {K : KvX} (h : W.At b K.cells 175) {ps : List (Bs × Bs)} (T : TabK K.cells_ K.live K.tombs ps) (n3 : ps.length < 4) {key val : Bs} (k1 : 1 ≤ key.length) (k2 : key.length ≤ 2) (v3 : val.length ≤ 3) (ha : ∀ p ∈ ps, p.1 ≠ key) : Calls Tryz.prog 180 #[vp b, vs key, vs val] W fun r w' => r = .returned (.tuple #[]) ∧ ∃ f' l' t', w'.At b (KvX.cells { K with cells_ := f', live := l', tombs := t' }) 175 ∧ TabK f' l' t' ((key, val) :: ps) ∧ ModP (fun x => x = b) W w' := by
  obtain ⟨d, d8, hn, hbb⟩ := T.tab.room (by omega) key
  have q1 := hidIt (c236_at h T.tab (by omega) key (by omega) hn hbb)
  have q2 := hidIt (fun u => c237 u key val k2 v3)
  obtain ⟨t1, t2⟩ := T.add k1 k2 v3 ha d8 hn hbb
  have q3 := hidIt (fun (l t : Int) (u : World) (hu : u.At b (KvX.cells { K with cells_ := upd K.cells_ ((hN key + d) % 8) (mkCellS key val), live := l, tombs := t }) 175) => c238 hu t1 (by simp; omega))
  have hst := T.tab.st ((hN key + d) % 8) (by omega)
  have i8 : (hN key + d) % 8 < 8 := by omega
  clear hbb
  generalize (hN key + d) % 8 = i at *
  have i9 : (i : Int) < 8 := by omega
  have T1 := hidIt t1
  have T2 := hidIt t2
  have TT := hidIt T
  have lv := hidIt T.lv
  have bd := T.bd
  have l0 : 0 ≤ K.live := by rw [T.lv]; omega
  have tb0 : 0 ≤ K.tombs := by rw [T.tb]; omega
  obtain ⟨y, rfl, ib⟩ := h.door
  have HN := hidIt hn
  have N3 := hidIt n3
  clear h T t1 t2 ha k1 k2 v3 hn n3
  simp only [Cell.cells] at q2
  have hs : (K.cells_ i).state = 2 ∨ (K.cells_ i).state = 0 := by rcases hst with h | h | h; exact .inr h; exact absurd h HN.out; exact .inl h
  clear hst HN
  rcases hs with hs | hs
  · have d9 : decide (K.live + 1 + (K.tombs - 1) ≥ 6) = false := by simp; omega
    have d2 : ((K.cells_ i).state == 2) = true := by simpa using hs
    have fin : Hid (TabK (upd K.cells_ i (mkCellS key val)) (K.live + 1) (K.tombs - 1) ((key, val) :: ps)) := by
      have a1 := T2.out
      have a2 := lv.out
      have a3 := N3.out
      rw [if_pos hs] at a1
      exact ⟨T1.out, by simp only [List.length_cons]; omega, by omega, by simp only [List.length_cons]; omega, by omega⟩
    clear hs
    go_enter Tryz.func180, Tryz.ntmps180
    go_wp2_with (first
      | (go_at_call 236; refine q1.out.mono ?_; rintro _ w0 ⟨rfl, rfl⟩))
    refine Ord.region1 [0, 1, 5, 6] [2, 3] [4, 7, 8] (by kernel_rfl) (by kernel_rfl) (fun _ _ d _ _ h => by cases d <;> exact h) ?_
    simp only [Ord.pickO, Ord.nth]
    repeat (go_big_quiet_step (fail))
    refine wpQuiet_nil ?_
    repeat (go_big_quiet_step (fail))
    refine wpQuiet_nil ?_
    go_wp2_with (first
      | (go_at_call 237; refine (q2.out _).mono ?_; rintro _ w1 ⟨rfl, m1⟩; obtain ⟨y1, rfl, j1, M1⟩ := ModP.put1 (F := fun x => x = b) (W := y) (y := y.drew) m1 ib ((ModP.refl _ _).drew) (.inl rfl); have MY := hidIt M1; clear m1 M1))
    refine Ord.region1 [] [0, 1, 2, 3, 4, 5, 6, 7, 8] [9] (by kernel_rfl) (by kernel_rfl) (fun _ _ d _ _ h => by cases d <;> exact h) ?_
    simp only [Ord.pickO, Ord.nth]
    refine wpQuiet_nil ?_
    repeat (go_big_quiet_step (fail))
    refine wpQuiet_nil ?_
    go_wp2_with fail
    go_end0
    have := MY.out
    exact ⟨rfl, _, _, _, (by repeat (first | assumption | (with_reducible refine World.At_drew.2 ?_) | (with_reducible refine (World.At_drewN _).2 ?_) | (with_reducible exact World.At_put_same (by first | assumption | (simp only [World.inB, World.size_put, World.alloc, World.drew, World.drewN, Array.size_push] at *; omega))) | (with_reducible refine (World.At_put_ne' (by first | assumption | (exact Ne.symm (by assumption)) | (simp only [World.inB, World.size_put] at *; omega))).2 ?_) | (with_reducible exact World.At_alloc_new) | (with_reducible exact at_new (by first | rfl | (simp [World.size_put]; done) | (simp [World.size_put]; omega))) | (with_reducible refine World.At.alloc ?_ _))), fin.out, ModP.fromPut (by repeat (first | assumption | exact ModP.refl _ _ | refine ModP.fromPut ?_ (by assumption) | apply ModP.alloc | apply ModP.drew | apply ModP.drewN | refine ModP.put ?_ (by first | (left; assumption) | (left; rfl) | (right; simp only [World.inB, World.size_put] at *; omega)) _ _)) rfl⟩
  · have d2 : ((K.cells_ i).state == 2) = false := by simp [hs]
    have a1 := T2.out
    rw [if_neg (by omega)] at a1
    have A1 := hidIt a1
    clear hs a1
    by_cases h6 : K.live + 1 + K.tombs ≥ 6
    · have d9 : decide (K.live + 1 + K.tombs ≥ 6) = true := by simp; omega
      have l9 : Hid (((((key, val) :: ps).length : Nat) : Int) = K.live + 1) := by have := lv.out; unfold Hid; simp only [List.length_cons]; omega
      clear h6
      go_enter Tryz.func180, Tryz.ntmps180
      go_wp2_with (first
        | (go_at_call 236; refine q1.out.mono ?_; rintro _ w0 ⟨rfl, rfl⟩))
      refine Ord.region1 [0, 1, 5, 6] [2, 3] [4, 7, 8] (by kernel_rfl) (by kernel_rfl) (fun _ _ d _ _ h => by cases d <;> exact h) ?_
      simp only [Ord.pickO, Ord.nth]
      repeat (go_big_quiet_step (fail))
      refine wpQuiet_nil ?_
      repeat (go_big_quiet_step (fail))
      refine wpQuiet_nil ?_
      go_wp2_with (first
        | (go_at_call 237; refine (q2.out _).mono ?_; rintro _ w1 ⟨rfl, m1⟩; obtain ⟨y1, rfl, j1, M1⟩ := ModP.put1 (F := fun x => x = b) (W := y) (y := y.drew) m1 ib ((ModP.refl _ _).drew) (.inl rfl); have MY := hidIt M1; clear m1 M1))
      refine Ord.region1 [] [0, 1, 2, 3, 4, 5, 6, 7, 8] [9] (by kernel_rfl) (by kernel_rfl) (fun _ _ d _ _ h => by cases d <;> exact h) ?_
      simp only [Ord.pickO, Ord.nth]
      refine wpQuiet_nil ?_
      repeat (go_big_quiet_step (fail))
      refine wpQuiet_nil ?_
      go_wp2_with (first
        | (go_at_call 238; refine (q3.out _ _ _ (by repeat (first | assumption | (with_reducible refine World.At_drew.2 ?_) | (with_reducible refine (World.At_drewN _).2 ?_) | (with_reducible exact World.At_put_same (by first | assumption | (simp only [World.inB, World.size_put, World.alloc, World.drew, World.drewN, Array.size_push] at *; omega))) | (with_reducible refine (World.At_put_ne' (by first | assumption | (exact Ne.symm (by assumption)) | (simp only [World.inB, World.size_put] at *; omega))).2 ?_) | (with_reducible exact World.At_alloc_new) | (with_reducible exact at_new (by first | rfl | (simp [World.size_put]; done) | (simp [World.size_put]; omega))) | (with_reducible refine World.At.alloc ?_ _)))).mono ?_; rintro _ w2 ⟨rfl, f', a2, t2, m2⟩; have A2 := hidIt a2; have TT2 := hidIt t2; have M2 := hidIt m2; clear a2 t2 m2))
      go_end0
      have := MY.out
      exact ⟨rfl, f', _, _, A2.out, TT2.out, ModP.trans (ModP.fromPut (by repeat (first | assumption | exact ModP.refl _ _ | refine ModP.fromPut ?_ (by assumption) | apply ModP.alloc | apply ModP.drew | apply ModP.drewN | refine ModP.put ?_ (by first | (left; assumption) | (left; rfl) | (right; simp only [World.inB, World.size_put] at *; omega)) _ _)) rfl) M2.out⟩
    · have d9 : decide (K.live + 1 + K.tombs ≥ 6) = false := by simp; omega
      have fin : Hid (TabK (upd K.cells_ i (mkCellS key val)) (K.live + 1) K.tombs ((key, val) :: ps)) := by
        have a1 := A1.out
        have a2 := lv.out
        have a3 := N3.out
        exact ⟨T1.out, by simp only [List.length_cons]; omega, by omega, by simp only [List.length_cons]; omega, by omega⟩
      clear h6
      go_enter Tryz.func180, Tryz.ntmps180
      go_wp2_with (first
        | (go_at_call 236; refine q1.out.mono ?_; rintro _ w0 ⟨rfl, rfl⟩))
      refine Ord.region1 [0, 1, 5, 6] [2, 3] [4, 7, 8] (by kernel_rfl) (by kernel_rfl) (fun _ _ d _ _ h => by cases d <;> exact h) ?_
      simp only [Ord.pickO, Ord.nth]
      repeat (go_big_quiet_step (fail))
      refine wpQuiet_nil ?_
      repeat (go_big_quiet_step (fail))
      refine wpQuiet_nil ?_
      go_wp2_with (first
        | (go_at_call 237; refine (q2.out _).mono ?_; rintro _ w1 ⟨rfl, m1⟩; obtain ⟨y1, rfl, j1, M1⟩ := ModP.put1 (F := fun x => x = b) (W := y) (y := y.drew) m1 ib ((ModP.refl _ _).drew) (.inl rfl); have MY := hidIt M1; clear m1 M1))
      refine Ord.region1 [] [0, 1, 2, 3, 4, 5, 6, 7, 8] [9] (by kernel_rfl) (by kernel_rfl) (fun _ _ d _ _ h => by cases d <;> exact h) ?_
      simp only [Ord.pickO, Ord.nth]
      refine wpQuiet_nil ?_
      repeat (go_big_quiet_step (fail))
      refine wpQuiet_nil ?_
      go_wp2_with fail
      go_end0
      have := MY.out
      exact ⟨rfl, _, _, _, (by repeat (first | assumption | (with_reducible refine World.At_drew.2 ?_) | (with_reducible refine (World.At_drewN _).2 ?_) | (with_reducible exact World.At_put_same (by first | assumption | (simp only [World.inB, World.size_put, World.alloc, World.drew, World.drewN, Array.size_push] at *; omega))) | (with_reducible refine (World.At_put_ne' (by first | assumption | (exact Ne.symm (by assumption)) | (simp only [World.inB, World.size_put] at *; omega))).2 ?_) | (with_reducible exact World.At_alloc_new) | (with_reducible exact at_new (by first | rfl | (simp [World.size_put]; done) | (simp [World.size_put]; omega))) | (with_reducible refine World.At.alloc ?_ _))), fin.out, ModP.fromPut (by repeat (first | assumption | exact ModP.refl _ _ | refine ModP.fromPut ?_ (by assumption) | apply ModP.alloc | apply ModP.drew | apply ModP.drewN | refine ModP.put ?_ (by first | (left; assumption) | (left; rfl) | (right; simp only [World.inB, World.size_put] at *; omega)) _ _)) rfl⟩
theorem c285 {W : World} {b : Nat} {K : KvX} (h : W.At b K.cells 175) (n : Nat) (n8 : n < 8) (l0 : -100 ≤ K.live) (l1 : K.live ≤ 100) (t0 : -100 ≤ K.tombs) (t1 : K.tombs ≤ 100) : Calls Tryz.prog 285 #[vp b, vi n] W fun r w' => r = .returned (.tuple #[]) ∧ w'.At b (KvX.cells { K with cells_ := upd K.cells_ n tCell, live := K.live - 1, tombs := K.tombs + 1 }) 175 ∧ ModP (fun x => x = b) W w' := by
  obtain ⟨y, rfl, ib⟩ := h.door
  clear h
  have n9 : (n : Int) < 8 := by omega
  go_enter Tryz.func285, Tryz.ntmps285
  go_wp2_with fail
  go_end0
  exact ⟨rfl, (by repeat (first | assumption | (with_reducible refine World.At_drew.2 ?_) | (with_reducible refine (World.At_drewN _).2 ?_) | (with_reducible exact World.At_put_same (by first | assumption | (simp only [World.inB, World.size_put, World.alloc, World.drew, World.drewN, Array.size_push] at *; omega))) | (with_reducible refine (World.At_put_ne' (by first | assumption | (exact Ne.symm (by assumption)) | (simp only [World.inB, World.size_put] at *; omega))).2 ?_) | (with_reducible exact World.At_alloc_new) | (with_reducible exact at_new (by first | rfl | (simp [World.size_put]; done) | (simp [World.size_put]; omega))) | (with_reducible refine World.At.alloc ?_ _))), ModP.fromPut (by repeat (first | assumption | exact ModP.refl _ _ | refine ModP.fromPut ?_ (by assumption) | apply ModP.alloc | apply ModP.drew | apply ModP.drewN | refine ModP.put ?_ (by first | (left; assumption) | (left; rfl) | (right; simp only [World.inB, World.size_put] at *; omega)) _ _)) rfl⟩
end Go.Proofs.Qxb6500990aGreat
namespace Go.Proofs.Qxb6500990aGreat
open Go Go.RowKit Go.Tw
attribute [local go_sem] World.cell?_put_same World.cell?_put_ne World.cell?_put_ne' World.frozen?_put_same World.frozen?_put_ne World.frozen?_put_ne' World.setCell_put_same World.setCell_put_ne World.setCell_put_ne' World.inB_put World.inB_alloc World.inB_drew World.inB_drewN World.inB_new World.inB_setCell World.put_drew World.put_drewN World.q_setCell_drew World.q_setCell_drewN World.q_alloc_drew World.q_alloc_drewN World.put_put_same World.put_put_2 World.size_put World.q_cell?_alloc_old World.q_frozen?_alloc_old World.cell?_alloc_new' World.frozen?_alloc_new' World.q_setCell_alloc_old World.q_setCell_alloc_new World.q_put_alloc_old World.cell?_force_same World.frozen?_force_same World.cell?_force2_fst World.cell?_force2_snd TableR.g0 TableR.g1 TableR.g2 TableR.g3 TableR.g4 TableR.g5 TableR.g6 TableR.g7 TableR.g8 TableR.g9 TableR.g10 TableR.g11 TableR.g12 TableR.g13 TableR.g14 TableR.g15 TableR.g16 TableR.g17 TableR.g18 TableR.g19 TableR.g20 TableR.g21 TableR.g22 TableR.g23 TableR.g24 TableR.g25 TableR.g26 TableR.g27 TableR.g28 TableR.g29 TableR.g30 TableR.g31 TableR.g32 TableR.g33 TableR.g34 TableR.g35 TableR.g36 TableR.g37 TableR.g38 TableR.g39 TableR.g40 TableR.g41 TableR.g42 TableR.g43 TableR.g44 TableR.g45 TableR.g46 TableR.g47 TableR.g48 TableR.g49 TableR.g50 TableR.g51 TableR.g52 TableR.g53 TableR.g54 TableR.g55 TableR.g56 TableR.g57 TableR.g58 TableR.g59 TableR.g60 TableR.g61 TableR.g62 TableR.g63 TableR.g64 TableR.g65 TableR.gi_cells__0 TableR.gi_cells__1 TableR.gi_cells__2 TableR.gi_cells__3 TableR.gi_cells__4 TableR.gi_cells__5 TableR.gi_cells__6 TableR.gi_cells__7 TableR.gia_cells__1 TableR.gia_cells__2 TableR.gia_cells__3 TableR.gia_cells__4 TableR.gia_cells__5 TableR.gia_cells__6 TableR.gia_cells__7 TableR.s64 TableR.s65 TableR.pa_cells_ Cell.g0 Cell.s0 Cell.g1 Cell.s1 Cell.g2 Cell.s2 Cell.g3 Cell.s3 Cell.g4 Cell.s4 Cell.g5 Cell.s5 Cell.g6 Cell.s6 Cell.g7 Cell.s7 Cell.gi_key_0 Cell.si_key_0 Cell.gi_val_0 Cell.si_val_0
attribute [local go_sem] ba_get TableR.pz TableR.pt
set_option maxHeartbeats 4000000
set_option maxRecDepth 100000
theorem t180 {W : World} {b : Nat} {K : TableR} (h : W.At b K.cells 170) {ps : List (Bs × Bs)} (T : TabK K.cells_ K.live K.tombs ps) (n3 : ps.length < 4) {key val : Bs} (k1 : 1 ≤ key.length) (k2 : key.length ≤ 2) (v3 : val.length ≤ 3) (ha : ∀ p ∈ ps, p.1 ≠ key) : Calls Tryz.prog 180 #[vp b, vs key, vs val] W fun r w' => r = .returned (.tuple #[]) ∧ ∃ f' l' t', w'.At b (TableR.cells { K with cells_ := f', live := l', tombs := t' }) 170 ∧ TabK f' l' t' ((key, val) :: ps) ∧ ModP (fun x => x = b) W w' := by
  obtain ⟨d, d8, hn, hbb⟩ := T.tab.room (by omega) key
  have q1 := hidIt (t236_at h T.tab (by omega) key (by omega) hn hbb)
  have q2 := hidIt (fun u => c237 u key val k2 v3)
  obtain ⟨t1, t2⟩ := T.add k1 k2 v3 ha d8 hn hbb
  have q3 := hidIt (fun (l t : Int) (u : World) (hu : u.At b (TableR.cells { K with cells_ := upd K.cells_ ((hN key + d) % 8) (mkCellS key val), live := l, tombs := t }) 170) => t238 hu t1 (by simp; omega))
  have hst := T.tab.st ((hN key + d) % 8) (by omega)
  have i8 : (hN key + d) % 8 < 8 := by omega
  clear hbb
  generalize (hN key + d) % 8 = i at *
  have i9 : (i : Int) < 8 := by omega
  have T1 := hidIt t1
  have T2 := hidIt t2
  have TT := hidIt T
  have lv := hidIt T.lv
  have bd := T.bd
  have l0 : 0 ≤ K.live := by rw [T.lv]; omega
  have tb0 : 0 ≤ K.tombs := by rw [T.tb]; omega
  obtain ⟨y, rfl, ib⟩ := h.door
  have HN := hidIt hn
  have N3 := hidIt n3
  clear h T t1 t2 ha k1 k2 v3 hn n3
  simp only [Cell.cells] at q2
  have hs : (K.cells_ i).state = 2 ∨ (K.cells_ i).state = 0 := by rcases hst with h | h | h; exact .inr h; exact absurd h HN.out; exact .inl h
  clear hst HN
  rcases hs with hs | hs
  · have d9 : decide (K.live + 1 + (K.tombs - 1) ≥ 6) = false := by simp; omega
    have d2 : ((K.cells_ i).state == 2) = true := by simpa using hs
    have fin : Hid (TabK (upd K.cells_ i (mkCellS key val)) (K.live + 1) (K.tombs - 1) ((key, val) :: ps)) := by
      have a1 := T2.out
      have a2 := lv.out
      have a3 := N3.out
      rw [if_pos hs] at a1
      exact ⟨T1.out, by simp only [List.length_cons]; omega, by omega, by simp only [List.length_cons]; omega, by omega⟩
    clear hs
    go_enter Tryz.func180, Tryz.ntmps180
    go_wp2_with (first
      | (go_at_call 236; refine q1.out.mono ?_; rintro _ w0 ⟨rfl, rfl⟩))
    refine Ord.region1 [0, 1, 5, 6] [2, 3] [4, 7, 8] (by kernel_rfl) (by kernel_rfl) (fun _ _ d _ _ h => by cases d <;> exact h) ?_
    simp only [Ord.pickO, Ord.nth]
    repeat (go_big_quiet_step (fail))
    refine wpQuiet_nil ?_
    repeat (go_big_quiet_step (fail))
    refine wpQuiet_nil ?_
    go_wp2_with (first
      | (go_at_call 237; refine (q2.out _).mono ?_; rintro _ w1 ⟨rfl, m1⟩; obtain ⟨y1, rfl, j1, M1⟩ := ModP.put1 (F := fun x => x = b) (W := y) (y := y.drew) m1 ib ((ModP.refl _ _).drew) (.inl rfl); have MY := hidIt M1; clear m1 M1))
    refine Ord.region1 [] [0, 1, 2, 3, 4, 5, 6, 7, 8] [9] (by kernel_rfl) (by kernel_rfl) (fun _ _ d _ _ h => by cases d <;> exact h) ?_
    simp only [Ord.pickO, Ord.nth]
    refine wpQuiet_nil ?_
    repeat (go_big_quiet_step (fail))
    refine wpQuiet_nil ?_
    go_wp2_with fail
    go_end0
    have := MY.out
    exact ⟨rfl, _, _, _, (by repeat (first | assumption | (with_reducible refine World.At_drew.2 ?_) | (with_reducible refine (World.At_drewN _).2 ?_) | (with_reducible exact World.At_put_same (by first | assumption | (simp only [World.inB, World.size_put, World.alloc, World.drew, World.drewN, Array.size_push] at *; omega))) | (with_reducible refine (World.At_put_ne' (by first | assumption | (exact Ne.symm (by assumption)) | (simp only [World.inB, World.size_put] at *; omega))).2 ?_) | (with_reducible exact World.At_alloc_new) | (with_reducible exact at_new (by first | rfl | (simp [World.size_put]; done) | (simp [World.size_put]; omega))) | (with_reducible refine World.At.alloc ?_ _))), fin.out, ModP.fromPut (by repeat (first | assumption | exact ModP.refl _ _ | refine ModP.fromPut ?_ (by assumption) | apply ModP.alloc | apply ModP.drew | apply ModP.drewN | refine ModP.put ?_ (by first | (left; assumption) | (left; rfl) | (right; simp only [World.inB, World.size_put] at *; omega)) _ _)) rfl⟩
  · have d2 : ((K.cells_ i).state == 2) = false := by simp [hs]
    have a1 := T2.out
    rw [if_neg (by omega)] at a1
    have A1 := hidIt a1
    clear hs a1
    by_cases h6 : K.live + 1 + K.tombs ≥ 6
    · have d9 : decide (K.live + 1 + K.tombs ≥ 6) = true := by simp; omega
      have l9 : Hid (((((key, val) :: ps).length : Nat) : Int) = K.live + 1) := by have := lv.out; unfold Hid; simp only [List.length_cons]; omega
      clear h6
      go_enter Tryz.func180, Tryz.ntmps180
      go_wp2_with (first
        | (go_at_call 236; refine q1.out.mono ?_; rintro _ w0 ⟨rfl, rfl⟩))
      refine Ord.region1 [0, 1, 5, 6] [2, 3] [4, 7, 8] (by kernel_rfl) (by kernel_rfl) (fun _ _ d _ _ h => by cases d <;> exact h) ?_
      simp only [Ord.pickO, Ord.nth]
      repeat (go_big_quiet_step (fail))
      refine wpQuiet_nil ?_
      repeat (go_big_quiet_step (fail))
      refine wpQuiet_nil ?_
      go_wp2_with (first
        | (go_at_call 237; refine (q2.out _).mono ?_; rintro _ w1 ⟨rfl, m1⟩; obtain ⟨y1, rfl, j1, M1⟩ := ModP.put1 (F := fun x => x = b) (W := y) (y := y.drew) m1 ib ((ModP.refl _ _).drew) (.inl rfl); have MY := hidIt M1; clear m1 M1))
      refine Ord.region1 [] [0, 1, 2, 3, 4, 5, 6, 7, 8] [9] (by kernel_rfl) (by kernel_rfl) (fun _ _ d _ _ h => by cases d <;> exact h) ?_
      simp only [Ord.pickO, Ord.nth]
      refine wpQuiet_nil ?_
      repeat (go_big_quiet_step (fail))
      refine wpQuiet_nil ?_
      go_wp2_with (first
        | (go_at_call 238; refine (q3.out _ _ _ (by repeat (first | assumption | (with_reducible refine World.At_drew.2 ?_) | (with_reducible refine (World.At_drewN _).2 ?_) | (with_reducible exact World.At_put_same (by first | assumption | (simp only [World.inB, World.size_put, World.alloc, World.drew, World.drewN, Array.size_push] at *; omega))) | (with_reducible refine (World.At_put_ne' (by first | assumption | (exact Ne.symm (by assumption)) | (simp only [World.inB, World.size_put] at *; omega))).2 ?_) | (with_reducible exact World.At_alloc_new) | (with_reducible exact at_new (by first | rfl | (simp [World.size_put]; done) | (simp [World.size_put]; omega))) | (with_reducible refine World.At.alloc ?_ _)))).mono ?_; rintro _ w2 ⟨rfl, f', a2, t2, m2⟩; have A2 := hidIt a2; have TT2 := hidIt t2; have M2 := hidIt m2; clear a2 t2 m2))
      go_end0
      have := MY.out
      exact ⟨rfl, f', _, _, A2.out, TT2.out, ModP.trans (ModP.fromPut (by repeat (first | assumption | exact ModP.refl _ _ | refine ModP.fromPut ?_ (by assumption) | apply ModP.alloc | apply ModP.drew | apply ModP.drewN | refine ModP.put ?_ (by first | (left; assumption) | (left; rfl) | (right; simp only [World.inB, World.size_put] at *; omega)) _ _)) rfl) M2.out⟩
    · have d9 : decide (K.live + 1 + K.tombs ≥ 6) = false := by simp; omega
      have fin : Hid (TabK (upd K.cells_ i (mkCellS key val)) (K.live + 1) K.tombs ((key, val) :: ps)) := by
        have a1 := A1.out
        have a2 := lv.out
        have a3 := N3.out
        exact ⟨T1.out, by simp only [List.length_cons]; omega, by omega, by simp only [List.length_cons]; omega, by omega⟩
      clear h6
      go_enter Tryz.func180, Tryz.ntmps180
      go_wp2_with (first
        | (go_at_call 236; refine q1.out.mono ?_; rintro _ w0 ⟨rfl, rfl⟩))
      refine Ord.region1 [0, 1, 5, 6] [2, 3] [4, 7, 8] (by kernel_rfl) (by kernel_rfl) (fun _ _ d _ _ h => by cases d <;> exact h) ?_
      simp only [Ord.pickO, Ord.nth]
      repeat (go_big_quiet_step (fail))
      refine wpQuiet_nil ?_
      repeat (go_big_quiet_step (fail))
      refine wpQuiet_nil ?_
      go_wp2_with (first
        | (go_at_call 237; refine (q2.out _).mono ?_; rintro _ w1 ⟨rfl, m1⟩; obtain ⟨y1, rfl, j1, M1⟩ := ModP.put1 (F := fun x => x = b) (W := y) (y := y.drew) m1 ib ((ModP.refl _ _).drew) (.inl rfl); have MY := hidIt M1; clear m1 M1))
      refine Ord.region1 [] [0, 1, 2, 3, 4, 5, 6, 7, 8] [9] (by kernel_rfl) (by kernel_rfl) (fun _ _ d _ _ h => by cases d <;> exact h) ?_
      simp only [Ord.pickO, Ord.nth]
      refine wpQuiet_nil ?_
      repeat (go_big_quiet_step (fail))
      refine wpQuiet_nil ?_
      go_wp2_with fail
      go_end0
      have := MY.out
      exact ⟨rfl, _, _, _, (by repeat (first | assumption | (with_reducible refine World.At_drew.2 ?_) | (with_reducible refine (World.At_drewN _).2 ?_) | (with_reducible exact World.At_put_same (by first | assumption | (simp only [World.inB, World.size_put, World.alloc, World.drew, World.drewN, Array.size_push] at *; omega))) | (with_reducible refine (World.At_put_ne' (by first | assumption | (exact Ne.symm (by assumption)) | (simp only [World.inB, World.size_put] at *; omega))).2 ?_) | (with_reducible exact World.At_alloc_new) | (with_reducible exact at_new (by first | rfl | (simp [World.size_put]; done) | (simp [World.size_put]; omega))) | (with_reducible refine World.At.alloc ?_ _))), fin.out, ModP.fromPut (by repeat (first | assumption | exact ModP.refl _ _ | refine ModP.fromPut ?_ (by assumption) | apply ModP.alloc | apply ModP.drew | apply ModP.drewN | refine ModP.put ?_ (by first | (left; assumption) | (left; rfl) | (right; simp only [World.inB, World.size_put] at *; omega)) _ _)) rfl⟩
end Go.Proofs.Qxb6500990aGreat
