/- package kv: put -/
import Derived.Test.Qxb6500990aGreatKv9
import Derived.Test.Qxb6500990aGreatKv11
set_option linter.unusedVariables false
set_option linter.unusedSimpArgs false
namespace Go.Proofs.Qxb6500990aGreat
open Go Go.RowKit Go.Tw
attribute [local go_sem] World.cell?_put_same World.cell?_put_ne World.cell?_put_ne' World.frozen?_put_same World.frozen?_put_ne World.frozen?_put_ne' World.setCell_put_same World.setCell_put_ne World.setCell_put_ne' World.inB_put World.inB_alloc World.inB_drew World.inB_drewN World.inB_new World.inB_setCell World.put_drew World.put_drewN World.q_setCell_drew World.q_setCell_drewN World.q_alloc_drew World.q_alloc_drewN World.put_put_same World.put_put_2 World.size_put World.q_cell?_alloc_old World.q_frozen?_alloc_old World.cell?_alloc_new' World.frozen?_alloc_new' World.q_setCell_alloc_old World.q_setCell_alloc_new World.q_put_alloc_old World.cell?_force_same World.frozen?_force_same World.cell?_force2_fst World.cell?_force2_snd KvX.g0 KvX.g1 KvX.g2 KvX.g3 KvX.g4 KvX.g5 KvX.g6 KvX.g7 KvX.g8 KvX.g9 KvX.g10 KvX.g11 KvX.g12 KvX.g13 KvX.g14 KvX.g15 KvX.g16 KvX.g17 KvX.g18 KvX.g19 KvX.g20 KvX.g21 KvX.g22 KvX.g23 KvX.g24 KvX.g25 KvX.g26 KvX.g27 KvX.g28 KvX.g29 KvX.g30 KvX.g31 KvX.g32 KvX.g33 KvX.g34 KvX.g35 KvX.g36 KvX.g37 KvX.g38 KvX.g39 KvX.g40 KvX.g41 KvX.g42 KvX.g43 KvX.g44 KvX.g45 KvX.g46 KvX.g47 KvX.g48 KvX.g49 KvX.g50 KvX.g51 KvX.g52 KvX.g53 KvX.g54 KvX.g55 KvX.g56 KvX.g57 KvX.g58 KvX.g59 KvX.g60 KvX.g61 KvX.g62 KvX.g63 KvX.g64 KvX.g65 KvX.g66 KvX.g67 KvX.g68 KvX.g69 KvX.g70 KvX.g71 KvX.g72 KvX.g73 KvX.g74 KvX.g75 KvX.g76 KvX.g77 KvX.g78 KvX.g79 KvX.g80 KvX.g81 KvX.g82 KvX.g83 KvX.gi_cells__0 KvX.gi_cells__1 KvX.gi_cells__2 KvX.gi_cells__3 KvX.gi_cells__4 KvX.gi_cells__5 KvX.gi_cells__6 KvX.gi_cells__7 KvX.gi_ss_0 KvX.gi_ss_1 KvX.gi_ss_2 KvX.gi_ss_3 KvX.gi_ss_4 KvX.gi_ss_5 KvX.gia_cells__1 KvX.gia_cells__2 KvX.gia_cells__3 KvX.gia_cells__4 KvX.gia_cells__5 KvX.gia_cells__6 KvX.gia_cells__7 KvX.gia_ss_1 KvX.gia_ss_2 KvX.gia_ss_3 KvX.gia_ss_4 KvX.gia_ss_5 KvX.pa_cells_ KvX.pa_ss KvX.s64 KvX.s65 Cell.g0 Cell.s0 Cell.g1 Cell.s1 Cell.g2 Cell.s2 Cell.g3 Cell.s3 Cell.g4 Cell.s4 Cell.g5 Cell.s5 Cell.g6 Cell.s6 Cell.g7 Cell.s7 Cell.gi_key_0 Cell.si_key_0 Cell.gi_val_0 Cell.si_val_0 Cmd.g0 Cmd.s0 Cmd.g1 Cmd.s1 Cmd.g2 Cmd.s2 Cmd.g3 Cmd.s3 Cmd.g4 Cmd.s4 Cmd.g5 Cmd.s5 Ans.g0 Ans.s0 Ans.g1 Ans.s1
attribute [local go_sem] ba_get KvX.pz KvX.pt
set_option maxHeartbeats 4000000
set_option maxRecDepth 100000
section
variable {W : World} {b : Nat} {K : KvX} {A : AK}
theorem c284_set (h : W.At b K.cells 175) (n : Nat) (n8 : n < 8) (c : Cmd) (k2 : c.key.length ≤ 2) (v3 : c.val.length ≤ 3) : Calls Tryz.prog 284 #[vp b, vi n, .agg c.cells] W fun r w' => r = .returned (.agg (Ans.cells ⟨0, []⟩)) ∧ w'.At b (KvX.cells { K with cells_ := upd K.cells_ n (mkCellS c.key c.val) }) 175 ∧ ModP (fun x => x = b) W w' := by
  obtain ⟨op, cl, seq, key, val, old⟩ := c
  simp only [] at *
  have q2 := hidIt (fun u => c237 u key val k2 v3)
  simp only [Cell.cells] at q2
  have hb : b < W.heap.size := h.inB
  have n1 : b ≠ W.heap.size := by omega
  have n2 : b ≠ W.heap.size + 1 := by omega
  have n3 : W.heap.size ≠ W.heap.size + 1 := by omega
  have n9 : (n : Int) < 8 := by omega
  have H := hidIt h
  clear h
  go_enter Tryz.func284, Tryz.ntmps284
  go_wp2_with fail
  refine Ord.region1 [0, 1, 7, 8, 9] [2, 3, 4, 5] [6, 10, 11] (by kernel_rfl) (by kernel_rfl) (fun _ _ d _ _ h => by cases d <;> exact h) ?_
  simp only [Ord.pickO, Ord.nth]
  repeat (go_big_quiet_step (fail))
  refine wpQuiet_nil ?_
  repeat (go_big_quiet_step (fail))
  refine wpQuiet_nil ?_
  go_wp2_with (first
    | (go_at_call 237; refine (q2.out _).mono ?_; rintro _ w1 ⟨rfl, m1⟩; obtain ⟨y, rfl, i1, i2, i3, my⟩ := m1.undrew.two H.out; have MY := hidIt my; clear m1 my H))
  refine bodyPost_ret (v := .agg (Ans.cells ⟨0, []⟩)) ?_ rfl ?_
  · simp [results, Tryz.results284, go_sem, i1, i2, i3, n1, n2, n3]
    rfl
  · have := MY.out.mono (G := fun x => x = b) (fun _ f => f.elim)
    exact ⟨rfl, (by repeat (first | assumption | (with_reducible refine World.At_drew.2 ?_) | (with_reducible refine (World.At_drewN _).2 ?_) | (with_reducible exact World.At_put_same (by first | assumption | (simp only [World.inB, World.size_put, World.alloc, World.drew, World.drewN, Array.size_push] at *; omega))) | (with_reducible refine (World.At_put_ne' (by first | assumption | (exact Ne.symm (by assumption)) | (simp only [World.inB, World.size_put] at *; omega))).2 ?_) | (with_reducible exact World.At_alloc_new) | (with_reducible exact at_new (by first | rfl | (simp [World.size_put]; done) | (simp [World.size_put]; omega))) | (with_reducible refine World.At.alloc ?_ _))), (by repeat (first | assumption | exact ModP.refl _ _ | refine ModP.fromPut ?_ (by assumption) | apply ModP.alloc | apply ModP.drew | apply ModP.drewN | refine ModP.put ?_ (by first | (left; assumption) | (left; rfl) | (right; simp only [World.inB, World.size_put] at *; omega)) _ _))⟩
theorem c284_full (h : W.At b K.cells 175) (hl : 4 ≤ K.live) (c : Cmd) : Calls Tryz.prog 284 #[vp b, vi (-1), .agg c.cells] W fun r w' => r = .returned (.agg (Ans.cells ⟨6, []⟩)) ∧ ModP (fun _ => False) W w' := by
  have hc := h.cell
  have ib := h.inB
  have d1 : decide (K.live ≥ 4) = true := by simpa using hl
  clear h hl
  go_enter Tryz.func284, Tryz.ntmps284
  go_wp2_with fail
  refine bodyPost_ret (v := .agg (Ans.cells ⟨6, []⟩)) ?_ rfl ?_
  · simp [results, Tryz.results284, go_sem]
    rfl
  · exact ⟨rfl, (by repeat (first | assumption | exact ModP.refl _ _ | refine ModP.fromPut ?_ (by assumption) | apply ModP.alloc | apply ModP.drew | apply ModP.drewN | refine ModP.put ?_ (by first | (left; assumption) | (left; rfl) | (right; simp only [World.inB, World.size_put] at *; omega)) _ _))⟩
theorem c284_add (h : W.At b K.cells 175) (R : KvRel K A) (hl : A.ps.length < 4) (c : Cmd) (hf : A.find c.key = none) (k1 : 1 ≤ c.key.length) (k2 : c.key.length ≤ 2) (v3 : c.val.length ≤ 3) : Calls Tryz.prog 284 #[vp b, vi (-1), .agg c.cells] W fun r w' => r = .returned (.agg (Ans.cells ⟨0, []⟩)) ∧ (∃ K', w'.At b K'.cells 175 ∧ KvRel K' (A.ins c.key c.val)) ∧ ModP (fun x => x = b) W w' := by
  obtain ⟨op, cl, seq, key, val, old⟩ := c
  simp only [] at *
  have q2 := hidIt (fun (u : World) (hu : u.At b K.cells 175) => c180 hu R.t hl k1 k2 v3 (AK.find_none hf))
  have fin : Hid (∀ f' l' t', TabK f' l' t' ((key, val) :: A.ps) → KvRel { K with cells_ := f', live := l', tombs := t' } (A.ins key val)) := fun f' l' t' ht => R.add ht hf hl k1 k2 v3
  have hb : b < W.heap.size := h.inB
  have n1 : b ≠ W.heap.size := by omega
  have n2 : b ≠ W.heap.size + 1 := by omega
  have n3 : W.heap.size ≠ W.heap.size + 1 := by omega
  have d1 : decide (K.live ≥ 4) = false := by have := R.t.lv; simp; omega
  have H := hidIt h
  have hc := h.cell
  have ib := h.inB
  clear h R
  go_enter Tryz.func284, Tryz.ntmps284
  go_wp2_with fail
  refine Ord.region1 [] [0, 1, 2, 3, 4, 5, 6] [7] (by kernel_rfl) (by kernel_rfl) (fun _ _ d _ _ h => by cases d <;> exact h) ?_
  simp only [Ord.pickO, Ord.nth]
  refine wpQuiet_nil ?_
  repeat (go_big_quiet_step (fail))
  refine wpQuiet_nil ?_
  go_wp2_with (first
    | (go_at_call 180; refine (q2.out _ (World.At_drew.2 (World.At.alloc (World.At.alloc H.out _) _))).mono ?_; rintro _ w1 ⟨rfl, f', l', t', a1, t1, m1⟩; obtain ⟨y, rfl, i1, i2, i3, my⟩ := m1.undrew.twoC ib a1; have T1 := hidIt t1; have MY := hidIt my; clear a1 t1 m1 my))
  refine bodyPost_ret (v := .agg (Ans.cells ⟨0, []⟩)) ?_ rfl ?_
  · simp [results, Tryz.results284, go_sem, i1, i2, i3, n1, n2, n3]
    rfl
  · have := MY.out
    exact ⟨rfl, ⟨_, (by repeat (first | assumption | (with_reducible refine World.At_drew.2 ?_) | (with_reducible refine (World.At_drewN _).2 ?_) | (with_reducible exact World.At_put_same (by first | assumption | (simp only [World.inB, World.size_put, World.alloc, World.drew, World.drewN, Array.size_push] at *; omega))) | (with_reducible refine (World.At_put_ne' (by first | assumption | (exact Ne.symm (by assumption)) | (simp only [World.inB, World.size_put] at *; omega))).2 ?_) | (with_reducible exact World.At_alloc_new) | (with_reducible exact at_new (by first | rfl | (simp [World.size_put]; done) | (simp [World.size_put]; omega))) | (with_reducible refine World.At.alloc ?_ _))), fin.out _ _ _ T1.out⟩, (by repeat (first | assumption | exact ModP.refl _ _ | refine ModP.fromPut ?_ (by assumption) | apply ModP.alloc | apply ModP.drew | apply ModP.drewN | refine ModP.put ?_ (by first | (left; assumption) | (left; rfl) | (right; simp only [World.inB, World.size_put] at *; omega)) _ _))⟩
end
end Go.Proofs.Qxb6500990aGreat
