/- package kv: rebuild -/
import Derived.Test.Qxb6500990aGreatKv7
import Derived.Test.Qxb6500990aGreatKt2
set_option linter.unusedVariables false
set_option linter.unusedSimpArgs false
namespace Go.Tw
open Go
def tCell : Cell := ⟨2, 0, fun _ => 0, 0, fun _ => 0⟩
theorem KvX.pz (s : KvX) (i : Nat) (h : i < 8) : ((((((((s.cells.setIfInBounds (i * 8) (.int .i64 0)).setIfInBounds (i * 8 + 1) (.int .i64 0)).setIfInBounds (i * 8 + 2) (.int .u8 0)).setIfInBounds (i * 8 + 3) (.int .u8 0)).setIfInBounds (i * 8 + 4) (.int .i64 0)).setIfInBounds (i * 8 + 5) (.int .u8 0)).setIfInBounds (i * 8 + 6) (.int .u8 0)).setIfInBounds (i * 8 + 7) (.int .u8 0)) = KvX.cells { s with cells_ := upd s.cells_ i zCell } := KvX.pa_cells_ s i h zCell
theorem KvX.pt (s : KvX) (i : Nat) (h : i < 8) : ((((((((s.cells.setIfInBounds (i * 8) (.int .i64 2)).setIfInBounds (i * 8 + 1) (.int .i64 0)).setIfInBounds (i * 8 + 2) (.int .u8 0)).setIfInBounds (i * 8 + 3) (.int .u8 0)).setIfInBounds (i * 8 + 4) (.int .i64 0)).setIfInBounds (i * 8 + 5) (.int .u8 0)).setIfInBounds (i * 8 + 6) (.int .u8 0)).setIfInBounds (i * 8 + 7) (.int .u8 0)) = KvX.cells { s with cells_ := upd s.cells_ i tCell } := KvX.pa_cells_ s i h tCell
theorem TableR.pz (s : TableR) (i : Nat) (h : i < 8) : ((((((((s.cells.setIfInBounds (i * 8) (.int .i64 0)).setIfInBounds (i * 8 + 1) (.int .i64 0)).setIfInBounds (i * 8 + 2) (.int .u8 0)).setIfInBounds (i * 8 + 3) (.int .u8 0)).setIfInBounds (i * 8 + 4) (.int .i64 0)).setIfInBounds (i * 8 + 5) (.int .u8 0)).setIfInBounds (i * 8 + 6) (.int .u8 0)).setIfInBounds (i * 8 + 7) (.int .u8 0)) = TableR.cells { s with cells_ := upd s.cells_ i zCell } := TableR.pa_cells_ s i h zCell
theorem TableR.pt (s : TableR) (i : Nat) (h : i < 8) : ((((((((s.cells.setIfInBounds (i * 8) (.int .i64 2)).setIfInBounds (i * 8 + 1) (.int .i64 0)).setIfInBounds (i * 8 + 2) (.int .u8 0)).setIfInBounds (i * 8 + 3) (.int .u8 0)).setIfInBounds (i * 8 + 4) (.int .i64 0)).setIfInBounds (i * 8 + 5) (.int .u8 0)).setIfInBounds (i * 8 + 6) (.int .u8 0)).setIfInBounds (i * 8 + 7) (.int .u8 0)) = TableR.cells { s with cells_ := upd s.cells_ i tCell } := TableR.pa_cells_ s i h tCell
end Go.Tw
namespace Go.Proofs.Qxb6500990aGreat
open Go Go.RowKit Go.Tw
attribute [local go_sem] World.cell?_put_same World.cell?_put_ne World.cell?_put_ne' World.frozen?_put_same World.frozen?_put_ne World.frozen?_put_ne' World.setCell_put_same World.setCell_put_ne World.setCell_put_ne' World.inB_put World.inB_alloc World.inB_drew World.inB_drewN World.inB_new World.inB_setCell World.put_drew World.put_drewN World.q_setCell_drew World.q_setCell_drewN World.q_alloc_drew World.q_alloc_drewN World.put_put_same World.put_put_2 World.size_put World.q_cell?_alloc_old World.q_frozen?_alloc_old World.cell?_alloc_new' World.frozen?_alloc_new' World.q_setCell_alloc_old World.q_setCell_alloc_new World.q_put_alloc_old World.cell?_force_same World.frozen?_force_same World.cell?_force2_fst World.cell?_force2_snd KvX.g0 KvX.g1 KvX.g2 KvX.g3 KvX.g4 KvX.g5 KvX.g6 KvX.g7 KvX.g8 KvX.g9 KvX.g10 KvX.g11 KvX.g12 KvX.g13 KvX.g14 KvX.g15 KvX.g16 KvX.g17 KvX.g18 KvX.g19 KvX.g20 KvX.g21 KvX.g22 KvX.g23 KvX.g24 KvX.g25 KvX.g26 KvX.g27 KvX.g28 KvX.g29 KvX.g30 KvX.g31 KvX.g32 KvX.g33 KvX.g34 KvX.g35 KvX.g36 KvX.g37 KvX.g38 KvX.g39 KvX.g40 KvX.g41 KvX.g42 KvX.g43 KvX.g44 KvX.g45 KvX.g46 KvX.g47 KvX.g48 KvX.g49 KvX.g50 KvX.g51 KvX.g52 KvX.g53 KvX.g54 KvX.g55 KvX.g56 KvX.g57 KvX.g58 KvX.g59 KvX.g60 KvX.g61 KvX.g62 KvX.g63 KvX.g64 KvX.g65 KvX.g66 KvX.g67 KvX.g68 KvX.g69 KvX.g70 KvX.g71 KvX.g72 KvX.g73 KvX.g74 KvX.g75 KvX.g76 KvX.g77 KvX.g78 KvX.g79 KvX.g80 KvX.g81 KvX.g82 KvX.g83 KvX.gi_cells__0 KvX.gi_cells__1 KvX.gi_cells__2 KvX.gi_cells__3 KvX.gi_cells__4 KvX.gi_cells__5 KvX.gi_cells__6 KvX.gi_cells__7 KvX.gi_ss_0 KvX.gi_ss_1 KvX.gi_ss_2 KvX.gi_ss_3 KvX.gi_ss_4 KvX.gi_ss_5 KvX.gia_cells__1 KvX.gia_cells__2 KvX.gia_cells__3 KvX.gia_cells__4 KvX.gia_cells__5 KvX.gia_cells__6 KvX.gia_cells__7 KvX.gia_ss_1 KvX.gia_ss_2 KvX.gia_ss_3 KvX.gia_ss_4 KvX.gia_ss_5 KvX.pa_cells_ KvX.pa_ss KvX.s64 KvX.s65 Cell.g0 Cell.s0 Cell.g1 Cell.s1 Cell.g2 Cell.s2 Cell.g3 Cell.s3 Cell.g4 Cell.s4 Cell.g5 Cell.s5 Cell.g6 Cell.s6 Cell.g7 Cell.s7 Cell.gi_key_0 Cell.si_key_0 Cell.gi_val_0 Cell.si_val_0 Keep4.g0 Keep4.g1 Keep4.g2 Keep4.g3 Keep4.g4 Keep4.g5 Keep4.g6 Keep4.g7 Keep4.g8 Keep4.g9 Keep4.g10 Keep4.g11 Keep4.g12 Keep4.g13 Keep4.g14 Keep4.g15 Keep4.g16 Keep4.g17 Keep4.g18 Keep4.g19 Keep4.g20 Keep4.g21 Keep4.g22 Keep4.g23 Keep4.g24 Keep4.g25 Keep4.g26 Keep4.g27 Keep4.g28 Keep4.g29 Keep4.g30 Keep4.g31 Keep4.gi_kp_0 Keep4.gi_kp_1 Keep4.gi_kp_2 Keep4.gi_kp_3 Keep4.gi_kp_4 Keep4.gi_kp_5 Keep4.gi_kp_6 Keep4.gi_kp_7 Keep4.gia_kp_1 Keep4.gia_kp_2 Keep4.gia_kp_3 Keep4.gia_kp_4 Keep4.gia_kp_5 Keep4.gia_kp_6 Keep4.gia_kp_7 Keep4.pa_kp
attribute [local go_sem] ba_get KvX.pz KvX.pt
set_option maxHeartbeats 4000000
set_option maxRecDepth 100000
theorem c238 {W : World} {b : Nat} {K : KvX} (h : W.At b K.cells 175) {ps : List (Bs × Bs)} (T : Tab K.cells_ ps) (n4 : ps.length ≤ 4) : Calls Tryz.prog 238 #[vp b] W fun r w' => r = .returned (.tuple #[]) ∧ ∃ f', w'.At b (KvX.cells { K with cells_ := f', live := ps.length, tombs := 0 }) 175 ∧ TabK f' ps.length 0 ps ∧ ModP (fun x => x = b) W w' := by
  obtain ⟨lok, lp⟩ := T.lives n4
  have LOK := hidIt lok
  have LP := hidIt lp
  have hb : b < W.heap.size := h.inB
  have hne : b ≠ W.heap.size := by omega
  have H := hidIt h
  have HT := hidIt T
  have hle : Hid (∀ i, i ≤ 8 → (livesTo K.cells_ i).length ≤ 4) := fun i hi => Nat.le_trans (livesTo_le hi) lok.n4
  clear lok lp h T
  go_enter Tryz.func238, Tryz.ntmps238
  go_wp2_with fail
  go_loopw [3, 4] (fun nv iv u => ∃ (i : Nat) (y : World), i ≤ 8 ∧ iv = vi i ∧ nv = vi ((livesTo K.cells_ i).length : Nat) ∧ u = (y.put b K.cells 175).put W.heap.size (Keep4.cells ⟨keepF (livesTo K.cells_ i)⟩) 288 ∧ y.inB b ∧ y.inB W.heap.size ∧ Hid (ModP (fun x => x = b) W y)) (fun _ iv _ => 8 - (intOf iv).toNat)
  case atStart =>
    obtain ⟨y, e, i1, i2⟩ := open2 (World.At.alloc H.out (.cells (Keep4.cells ⟨keepF []⟩) 288)) World.At_alloc_new hne
    refine ⟨0, y, by omega, rfl, rfl, e, i1, i2, ?_⟩
    have m : ModP (fun x => x = b) W (W.alloc (.cells (Keep4.cells ⟨keepF []⟩) 288)) := (by repeat (first | assumption | exact ModP.refl _ _ | refine ModP.fromPut ?_ (by assumption) | apply ModP.alloc | apply ModP.drew | apply ModP.drewN | refine ModP.put ?_ (by first | (left; assumption) | (left; rfl) | (right; simp only [World.inB, World.size_put] at *; omega)) _ _))
    rw [e] at m
    exact (ModP.unput m (.inr (by omega))).unput (.inl rfl)
  case round =>
    clear H
    obtain ⟨i, y, hi, rfl, rfl, rfl, i1, i2, my⟩ := hrel
    by_cases hi8 : i < 8
    · have i3 : (i : Int) < 8 := by omega
      by_cases hs : (K.cells_ i).state = 1
      · have e1 := hidIt (livesTo_live hs)
        have e2 := hidIt (keepF_snoc (livesTo K.cells_ i) (K.cells_ i) _ rfl)
        have l4 : (livesTo K.cells_ i).length < 4 := by have := hle.out (i + 1) (by omega); rw [e1.out, List.length_append] at this; simp at this; omega
        have e3 : Hid ((livesTo K.cells_ (i + 1)).length = (livesTo K.cells_ i).length + 1) := by unfold Hid; rw [e1.out]; simp
        have d1 : ((K.cells_ i).state == 1) = true := by simpa using hs
        clear hs
        generalize (livesTo K.cells_ i).length = n at *
        have l5 : (n : Int) < 4 := by omega
        go_wp2_with fail
        go_roundw
        case rel => exact ⟨i + 1, y, by omega, by go_num, by rw [e3.out]; go_num, by rw [e1.out, ← e2.out], i1, i2, my⟩
        case measure => simp [intOf]; omega
      · have e1 := hidIt (livesTo_dead hs)
        have d1 : ((K.cells_ i).state == 1) = false := by simpa using hs
        clear hs
        go_wp2_with fail
        go_roundw
        case rel => exact ⟨i + 1, y, by omega, by go_num, by rw [e1.out], by rw [e1.out], i1, i2, my⟩
        case measure => simp [intOf]; omega
    · have e8 : i = 8 := by omega
      have d8 : decide ((i : Int) < 8) = false := by simp; omega
      have eL : livesTo K.cells_ i = livesTo K.cells_ 8 := by rw [e8]
      rw [eL]
      generalize livesTo K.cells_ 8 = L at *
      clear hle eL e8
      go_wp2_with fail
      go_loopw [5] (fun iv u => ∃ (i : Nat) (y : World), i ≤ 8 ∧ iv = vi i ∧ u = (y.put b (KvX.cells { K with cells_ := wipeF K.cells_ i }) 175).put W.heap.size (Keep4.cells ⟨keepF L⟩) 288 ∧ y.inB b ∧ y.inB W.heap.size ∧ Hid (ModP (fun x => x = b) W y)) (fun iv _ => 8 - (intOf iv).toNat)
      case atStart => exact ⟨0, y, by omega, rfl, by rw [wipeF_0], i1, i2, my⟩
      case round =>
        clear i1 i2 my hi hi8 d8
        clear y
        obtain ⟨i2', y, hi, rfl, rfl, i1, i2, my⟩ := hrel
        by_cases hi8 : i2' < 8
        · have i3 : (i2' : Int) < 8 := by omega
          have e2 := hidIt (wipeF_step K.cells_ i2')
          go_wp2_with fail
          go_roundw
          case rel => exact ⟨i2' + 1, y, by omega, by go_num, by rw [← e2.out], i1, i2, my⟩
          case measure => simp [intOf]; omega
        · have e8 : Hid (i2' = 8) := by unfold Hid; omega
          have d8 : decide ((i2' : Int) < 8) = false := by simp; omega
          go_wp2_with fail
          go_loopw [6, 7, 8] (fun jv _ _ u => ∃ (j : Nat) (f : Nat → Cell) (y : World), j ≤ L.length ∧ jv = vi j ∧ Hid (Reb L j f) ∧ u = (y.put b (KvX.cells { K with cells_ := f, live := j, tombs := 0 }) 175).put W.heap.size (Keep4.cells ⟨keepF L⟩) 288 ∧ y.inB b ∧ y.inB W.heap.size ∧ Hid (ModP (fun x => x = b) W y)) (fun jv _ _ _ => L.length - (intOf jv).toNat)
          case atStart => exact ⟨0, wipeF K.cells_ i2', y, by omega, rfl, Reb.start L (fun i hi => by unfold wipeF; rw [if_pos (by have := e8.out; omega)]), rfl, i1, i2, my⟩
          case round =>
            clear i1 i2 my hi hi8 e8 d8
            clear y
            obtain ⟨j, f, y, hj, rfl, R, rfl, i1, i2, my⟩ := hrel
            by_cases hjl : j < L.length
            · have j4 : j < 4 := by have := LOK.out.n4; omega
              have j5 : (j : Int) < 4 := by omega
              have hc := hidIt (LOK.out.st _ (List.getElem_mem hjl))
              have hk : Hid (keepF L j = L[j]) := by unfold Hid keepF; simp [hjl]
              have bk : 0 ≤ (keepF L j).klen ∧ (keepF L j).klen ≤ 2 := by rw [hk.out]; have := hc.out; omega
              obtain ⟨b1, b2⟩ := bk
              have kl : (keyS (keepF L j)).length ≤ 1000 := by have := keyS_len b1 b2; omega
              obtain ⟨d, d8, hn, hbb⟩ := R.out.tab.room (R.out.room LOK.out) (keyS (keepF L j))
              have stp : Hid (Reb L (j + 1) (upd f ((hN (keyS (keepF L j)) + d) % 8) (keepF L j))) := R.out.step LOK.out (by rw [hk.out]; exact List.getElem?_eq_getElem hjl) d8 hn hbb
              have q1 := hidIt (fun u => c259 u (keepF L j) b1 b2)
              have q2 := hidIt (fun (u : World) (hu : u.At b (KvX.cells { K with cells_ := f, live := j, tombs := 0 }) 175) => c236_at hu R.out.tab (R.out.room LOK.out) (keyS (keepF L j)) kl hn hbb)
              clear hk hc hn hbb kl b1 b2
              generalize hi : (hN (keyS (keepF L j)) + d) % 8 = i at *
              have i8 : i < 8 := by omega
              have i9 : (i : Int) < 8 := by omega
              clear hi d8
              generalize keyS (keepF L j) = key at *
              simp only [Cell.cells] at q1
              go_wp2_with (first
                | (go_at_call 259; refine (q1.out _).mono ?_; rintro _ w1 ⟨rfl, m1⟩; obtain ⟨y1, rfl, j1, j2, M1⟩ := m1.put2 (F := fun x => x = b) i1 i2 hne my.out (.inl rfl) (.inr (Nat.le_refl _)); have MY := hidIt M1; clear m1 M1 i1 i2 my)
                | (go_at_call 236; refine (q2.out _ (by repeat (first | assumption | (with_reducible refine World.At_drew.2 ?_) | (with_reducible refine (World.At_drewN _).2 ?_) | (with_reducible exact World.At_put_same (by first | assumption | (simp only [World.inB, World.size_put, World.alloc, World.drew, World.drewN, Array.size_push] at *; omega))) | (with_reducible refine (World.At_put_ne' (by first | assumption | (exact Ne.symm (by assumption)) | (simp only [World.inB, World.size_put] at *; omega))).2 ?_) | (with_reducible exact World.At_alloc_new) | (with_reducible exact at_new (by first | rfl | (simp [World.size_put]; done) | (simp [World.size_put]; omega))) | (with_reducible refine World.At.alloc ?_ _)))).mono ?_; rintro _ w0 ⟨rfl, rfl⟩))
              refine Ord.region1 [] [0, 1, 2, 3, 4, 5, 6, 7] [8] (by kernel_rfl) (by kernel_rfl) (fun _ _ d _ _ h => by cases d <;> exact h) ?_
              simp only [Ord.pickO, Ord.nth]
              refine wpQuiet_nil ?_
              repeat (go_big_quiet_step (fail))
              refine wpQuiet_nil ?_
              go_wp2_with fail
              go_roundw
              case rel => exact ⟨j + 1, _, y1.drew, by omega, by go_num, stp, by rw [show ((j + 1 : Nat) : Int) = (j : Int) + 1 from rfl]; rfl, j1, j2, MY.out.drew⟩
              case measure => simp [intOf]; omega
            · obtain rfl : j = L.length := by omega
              have dn := hidIt (R.out.done LOK.out LP.out)
              have le : Hid ((L.length : Int) = ps.length) := by have := LP.out.length_eq; rw [List.length_map] at this; unfold Hid; omega
              go_wp2_with fail
              go_end0
              refine ⟨rfl, f, ?_, dn.out, ?_⟩
              · rw [← le.out]; exact (by repeat (first | assumption | (with_reducible refine World.At_drew.2 ?_) | (with_reducible refine (World.At_drewN _).2 ?_) | (with_reducible exact World.At_put_same (by first | assumption | (simp only [World.inB, World.size_put, World.alloc, World.drew, World.drewN, Array.size_push] at *; omega))) | (with_reducible refine (World.At_put_ne' (by first | assumption | (exact Ne.symm (by assumption)) | (simp only [World.inB, World.size_put] at *; omega))).2 ?_) | (with_reducible exact World.At_alloc_new) | (with_reducible exact at_new (by first | rfl | (simp [World.size_put]; done) | (simp [World.size_put]; omega))) | (with_reducible refine World.At.alloc ?_ _)))
              · have := my.out
                exact (by repeat (first | assumption | exact ModP.refl _ _ | refine ModP.fromPut ?_ (by assumption) | apply ModP.alloc | apply ModP.drew | apply ModP.drewN | refine ModP.put ?_ (by first | (left; assumption) | (left; rfl) | (right; simp only [World.inB, World.size_put] at *; omega)) _ _))
end Go.Proofs.Qxb6500990aGreat
namespace Go.Proofs.Qxb6500990aGreat
open Go Go.RowKit Go.Tw
attribute [local go_sem] World.cell?_put_same World.cell?_put_ne World.cell?_put_ne' World.frozen?_put_same World.frozen?_put_ne World.frozen?_put_ne' World.setCell_put_same World.setCell_put_ne World.setCell_put_ne' World.inB_put World.inB_alloc World.inB_drew World.inB_drewN World.inB_new World.inB_setCell World.put_drew World.put_drewN World.q_setCell_drew World.q_setCell_drewN World.q_alloc_drew World.q_alloc_drewN World.put_put_same World.put_put_2 World.size_put World.q_cell?_alloc_old World.q_frozen?_alloc_old World.cell?_alloc_new' World.frozen?_alloc_new' World.q_setCell_alloc_old World.q_setCell_alloc_new World.q_put_alloc_old World.cell?_force_same World.frozen?_force_same World.cell?_force2_fst World.cell?_force2_snd TableR.g0 TableR.g1 TableR.g2 TableR.g3 TableR.g4 TableR.g5 TableR.g6 TableR.g7 TableR.g8 TableR.g9 TableR.g10 TableR.g11 TableR.g12 TableR.g13 TableR.g14 TableR.g15 TableR.g16 TableR.g17 TableR.g18 TableR.g19 TableR.g20 TableR.g21 TableR.g22 TableR.g23 TableR.g24 TableR.g25 TableR.g26 TableR.g27 TableR.g28 TableR.g29 TableR.g30 TableR.g31 TableR.g32 TableR.g33 TableR.g34 TableR.g35 TableR.g36 TableR.g37 TableR.g38 TableR.g39 TableR.g40 TableR.g41 TableR.g42 TableR.g43 TableR.g44 TableR.g45 TableR.g46 TableR.g47 TableR.g48 TableR.g49 TableR.g50 TableR.g51 TableR.g52 TableR.g53 TableR.g54 TableR.g55 TableR.g56 TableR.g57 TableR.g58 TableR.g59 TableR.g60 TableR.g61 TableR.g62 TableR.g63 TableR.g64 TableR.g65 TableR.gi_cells__0 TableR.gi_cells__1 TableR.gi_cells__2 TableR.gi_cells__3 TableR.gi_cells__4 TableR.gi_cells__5 TableR.gi_cells__6 TableR.gi_cells__7 TableR.gia_cells__1 TableR.gia_cells__2 TableR.gia_cells__3 TableR.gia_cells__4 TableR.gia_cells__5 TableR.gia_cells__6 TableR.gia_cells__7 TableR.s64 TableR.s65 TableR.pa_cells_ Cell.g0 Cell.s0 Cell.g1 Cell.s1 Cell.g2 Cell.s2 Cell.g3 Cell.s3 Cell.g4 Cell.s4 Cell.g5 Cell.s5 Cell.g6 Cell.s6 Cell.g7 Cell.s7 Cell.gi_key_0 Cell.si_key_0 Cell.gi_val_0 Cell.si_val_0 Keep4.g0 Keep4.g1 Keep4.g2 Keep4.g3 Keep4.g4 Keep4.g5 Keep4.g6 Keep4.g7 Keep4.g8 Keep4.g9 Keep4.g10 Keep4.g11 Keep4.g12 Keep4.g13 Keep4.g14 Keep4.g15 Keep4.g16 Keep4.g17 Keep4.g18 Keep4.g19 Keep4.g20 Keep4.g21 Keep4.g22 Keep4.g23 Keep4.g24 Keep4.g25 Keep4.g26 Keep4.g27 Keep4.g28 Keep4.g29 Keep4.g30 Keep4.g31 Keep4.gi_kp_0 Keep4.gi_kp_1 Keep4.gi_kp_2 Keep4.gi_kp_3 Keep4.gi_kp_4 Keep4.gi_kp_5 Keep4.gi_kp_6 Keep4.gi_kp_7 Keep4.gia_kp_1 Keep4.gia_kp_2 Keep4.gia_kp_3 Keep4.gia_kp_4 Keep4.gia_kp_5 Keep4.gia_kp_6 Keep4.gia_kp_7 Keep4.pa_kp
attribute [local go_sem] ba_get TableR.pz TableR.pt
set_option maxHeartbeats 4000000
set_option maxRecDepth 100000
theorem t238 {W : World} {b : Nat} {K : TableR} (h : W.At b K.cells 170) {ps : List (Bs × Bs)} (T : Tab K.cells_ ps) (n4 : ps.length ≤ 4) : Calls Tryz.prog 238 #[vp b] W fun r w' => r = .returned (.tuple #[]) ∧ ∃ f', w'.At b (TableR.cells { K with cells_ := f', live := ps.length, tombs := 0 }) 170 ∧ TabK f' ps.length 0 ps ∧ ModP (fun x => x = b) W w' := by
  obtain ⟨lok, lp⟩ := T.lives n4
  have LOK := hidIt lok
  have LP := hidIt lp
  have hb : b < W.heap.size := h.inB
  have hne : b ≠ W.heap.size := by omega
  have H := hidIt h
  have HT := hidIt T
  have hle : Hid (∀ i, i ≤ 8 → (livesTo K.cells_ i).length ≤ 4) := fun i hi => Nat.le_trans (livesTo_le hi) lok.n4
  clear lok lp h T
  go_enter Tryz.func238, Tryz.ntmps238
  go_wp2_with fail
  go_loopw [3, 4] (fun nv iv u => ∃ (i : Nat) (y : World), i ≤ 8 ∧ iv = vi i ∧ nv = vi ((livesTo K.cells_ i).length : Nat) ∧ u = (y.put b K.cells 170).put W.heap.size (Keep4.cells ⟨keepF (livesTo K.cells_ i)⟩) 288 ∧ y.inB b ∧ y.inB W.heap.size ∧ Hid (ModP (fun x => x = b) W y)) (fun _ iv _ => 8 - (intOf iv).toNat)
  case atStart =>
    obtain ⟨y, e, i1, i2⟩ := open2 (World.At.alloc H.out (.cells (Keep4.cells ⟨keepF []⟩) 288)) World.At_alloc_new hne
    refine ⟨0, y, by omega, rfl, rfl, e, i1, i2, ?_⟩
    have m : ModP (fun x => x = b) W (W.alloc (.cells (Keep4.cells ⟨keepF []⟩) 288)) := (by repeat (first | assumption | exact ModP.refl _ _ | refine ModP.fromPut ?_ (by assumption) | apply ModP.alloc | apply ModP.drew | apply ModP.drewN | refine ModP.put ?_ (by first | (left; assumption) | (left; rfl) | (right; simp only [World.inB, World.size_put] at *; omega)) _ _))
    rw [e] at m
    exact (ModP.unput m (.inr (by omega))).unput (.inl rfl)
  case round =>
    clear H
    obtain ⟨i, y, hi, rfl, rfl, rfl, i1, i2, my⟩ := hrel
    by_cases hi8 : i < 8
    · have i3 : (i : Int) < 8 := by omega
      by_cases hs : (K.cells_ i).state = 1
      · have e1 := hidIt (livesTo_live hs)
        have e2 := hidIt (keepF_snoc (livesTo K.cells_ i) (K.cells_ i) _ rfl)
        have l4 : (livesTo K.cells_ i).length < 4 := by have := hle.out (i + 1) (by omega); rw [e1.out, List.length_append] at this; simp at this; omega
        have e3 : Hid ((livesTo K.cells_ (i + 1)).length = (livesTo K.cells_ i).length + 1) := by unfold Hid; rw [e1.out]; simp
        have d1 : ((K.cells_ i).state == 1) = true := by simpa using hs
        clear hs
        generalize (livesTo K.cells_ i).length = n at *
        have l5 : (n : Int) < 4 := by omega
        go_wp2_with fail
        go_roundw
        case rel => exact ⟨i + 1, y, by omega, by go_num, by rw [e3.out]; go_num, by rw [e1.out, ← e2.out], i1, i2, my⟩
        case measure => simp [intOf]; omega
      · have e1 := hidIt (livesTo_dead hs)
        have d1 : ((K.cells_ i).state == 1) = false := by simpa using hs
        clear hs
        go_wp2_with fail
        go_roundw
        case rel => exact ⟨i + 1, y, by omega, by go_num, by rw [e1.out], by rw [e1.out], i1, i2, my⟩
        case measure => simp [intOf]; omega
    · have e8 : i = 8 := by omega
      have d8 : decide ((i : Int) < 8) = false := by simp; omega
      have eL : livesTo K.cells_ i = livesTo K.cells_ 8 := by rw [e8]
      rw [eL]
      generalize livesTo K.cells_ 8 = L at *
      clear hle eL e8
      go_wp2_with fail
      go_loopw [5] (fun iv u => ∃ (i : Nat) (y : World), i ≤ 8 ∧ iv = vi i ∧ u = (y.put b (TableR.cells { K with cells_ := wipeF K.cells_ i }) 170).put W.heap.size (Keep4.cells ⟨keepF L⟩) 288 ∧ y.inB b ∧ y.inB W.heap.size ∧ Hid (ModP (fun x => x = b) W y)) (fun iv _ => 8 - (intOf iv).toNat)
      case atStart => exact ⟨0, y, by omega, rfl, by rw [wipeF_0], i1, i2, my⟩
      case round =>
        clear i1 i2 my hi hi8 d8
        clear y
        obtain ⟨i2', y, hi, rfl, rfl, i1, i2, my⟩ := hrel
        by_cases hi8 : i2' < 8
        · have i3 : (i2' : Int) < 8 := by omega
          have e2 := hidIt (wipeF_step K.cells_ i2')
          go_wp2_with fail
          go_roundw
          case rel => exact ⟨i2' + 1, y, by omega, by go_num, by rw [← e2.out], i1, i2, my⟩
          case measure => simp [intOf]; omega
        · have e8 : Hid (i2' = 8) := by unfold Hid; omega
          have d8 : decide ((i2' : Int) < 8) = false := by simp; omega
          go_wp2_with fail
          go_loopw [6, 7, 8] (fun jv _ _ u => ∃ (j : Nat) (f : Nat → Cell) (y : World), j ≤ L.length ∧ jv = vi j ∧ Hid (Reb L j f) ∧ u = (y.put b (TableR.cells { K with cells_ := f, live := j, tombs := 0 }) 170).put W.heap.size (Keep4.cells ⟨keepF L⟩) 288 ∧ y.inB b ∧ y.inB W.heap.size ∧ Hid (ModP (fun x => x = b) W y)) (fun jv _ _ _ => L.length - (intOf jv).toNat)
          case atStart => exact ⟨0, wipeF K.cells_ i2', y, by omega, rfl, Reb.start L (fun i hi => by unfold wipeF; rw [if_pos (by have := e8.out; omega)]), rfl, i1, i2, my⟩
          case round =>
            clear i1 i2 my hi hi8 e8 d8
            clear y
            obtain ⟨j, f, y, hj, rfl, R, rfl, i1, i2, my⟩ := hrel
            by_cases hjl : j < L.length
            · have j4 : j < 4 := by have := LOK.out.n4; omega
              have j5 : (j : Int) < 4 := by omega
              have hc := hidIt (LOK.out.st _ (List.getElem_mem hjl))
              have hk : Hid (keepF L j = L[j]) := by unfold Hid keepF; simp [hjl]
              have bk : 0 ≤ (keepF L j).klen ∧ (keepF L j).klen ≤ 2 := by rw [hk.out]; have := hc.out; omega
              obtain ⟨b1, b2⟩ := bk
              have kl : (keyS (keepF L j)).length ≤ 1000 := by have := keyS_len b1 b2; omega
              obtain ⟨d, d8, hn, hbb⟩ := R.out.tab.room (R.out.room LOK.out) (keyS (keepF L j))
              have stp : Hid (Reb L (j + 1) (upd f ((hN (keyS (keepF L j)) + d) % 8) (keepF L j))) := R.out.step LOK.out (by rw [hk.out]; exact List.getElem?_eq_getElem hjl) d8 hn hbb
              have q1 := hidIt (fun u => c259 u (keepF L j) b1 b2)
              have q2 := hidIt (fun (u : World) (hu : u.At b (TableR.cells { K with cells_ := f, live := j, tombs := 0 }) 170) => t236_at hu R.out.tab (R.out.room LOK.out) (keyS (keepF L j)) kl hn hbb)
              clear hk hc hn hbb kl b1 b2
              generalize hi : (hN (keyS (keepF L j)) + d) % 8 = i at *
              have i8 : i < 8 := by omega
              have i9 : (i : Int) < 8 := by omega
              clear hi d8
              generalize keyS (keepF L j) = key at *
              simp only [Cell.cells] at q1
              go_wp2_with (first
                | (go_at_call 259; refine (q1.out _).mono ?_; rintro _ w1 ⟨rfl, m1⟩; obtain ⟨y1, rfl, j1, j2, M1⟩ := m1.put2 (F := fun x => x = b) i1 i2 hne my.out (.inl rfl) (.inr (Nat.le_refl _)); have MY := hidIt M1; clear m1 M1 i1 i2 my)
                | (go_at_call 236; refine (q2.out _ (by repeat (first | assumption | (with_reducible refine World.At_drew.2 ?_) | (with_reducible refine (World.At_drewN _).2 ?_) | (with_reducible exact World.At_put_same (by first | assumption | (simp only [World.inB, World.size_put, World.alloc, World.drew, World.drewN, Array.size_push] at *; omega))) | (with_reducible refine (World.At_put_ne' (by first | assumption | (exact Ne.symm (by assumption)) | (simp only [World.inB, World.size_put] at *; omega))).2 ?_) | (with_reducible exact World.At_alloc_new) | (with_reducible exact at_new (by first | rfl | (simp [World.size_put]; done) | (simp [World.size_put]; omega))) | (with_reducible refine World.At.alloc ?_ _)))).mono ?_; rintro _ w0 ⟨rfl, rfl⟩))
              refine Ord.region1 [] [0, 1, 2, 3, 4, 5, 6, 7] [8] (by kernel_rfl) (by kernel_rfl) (fun _ _ d _ _ h => by cases d <;> exact h) ?_
              simp only [Ord.pickO, Ord.nth]
              refine wpQuiet_nil ?_
              repeat (go_big_quiet_step (fail))
              refine wpQuiet_nil ?_
              go_wp2_with fail
              go_roundw
              case rel => exact ⟨j + 1, _, y1.drew, by omega, by go_num, stp, by rw [show ((j + 1 : Nat) : Int) = (j : Int) + 1 from rfl]; rfl, j1, j2, MY.out.drew⟩
              case measure => simp [intOf]; omega
            · obtain rfl : j = L.length := by omega
              have dn := hidIt (R.out.done LOK.out LP.out)
              have le : Hid ((L.length : Int) = ps.length) := by have := LP.out.length_eq; rw [List.length_map] at this; unfold Hid; omega
              go_wp2_with fail
              go_end0
              refine ⟨rfl, f, ?_, dn.out, ?_⟩
              · rw [← le.out]; exact (by repeat (first | assumption | (with_reducible refine World.At_drew.2 ?_) | (with_reducible refine (World.At_drewN _).2 ?_) | (with_reducible exact World.At_put_same (by first | assumption | (simp only [World.inB, World.size_put, World.alloc, World.drew, World.drewN, Array.size_push] at *; omega))) | (with_reducible refine (World.At_put_ne' (by first | assumption | (exact Ne.symm (by assumption)) | (simp only [World.inB, World.size_put] at *; omega))).2 ?_) | (with_reducible exact World.At_alloc_new) | (with_reducible exact at_new (by first | rfl | (simp [World.size_put]; done) | (simp [World.size_put]; omega))) | (with_reducible refine World.At.alloc ?_ _)))
              · have := my.out
                exact (by repeat (first | assumption | exact ModP.refl _ _ | refine ModP.fromPut ?_ (by assumption) | apply ModP.alloc | apply ModP.drew | apply ModP.drewN | refine ModP.put ?_ (by first | (left; assumption) | (left; rfl) | (right; simp only [World.inB, World.size_put] at *; omega)) _ _))
end Go.Proofs.Qxb6500990aGreat
