/- package kv: New, next, Len -/
import Derived.Test.Qxb6500990aGreatKt
set_option linter.unusedVariables false
set_option linter.unusedSimpArgs false
namespace Go.Proofs.Qxb6500990aGreat
open Go Go.RowKit Go.Tw
attribute [local go_sem] World.cell?_put_same World.cell?_put_ne World.cell?_put_ne' World.frozen?_put_same World.frozen?_put_ne World.frozen?_put_ne' World.setCell_put_same World.setCell_put_ne World.setCell_put_ne' World.inB_put World.inB_alloc World.inB_drew World.inB_drewN World.inB_new World.inB_setCell World.put_drew World.put_drewN World.q_setCell_drew World.q_setCell_drewN World.q_alloc_drew World.q_alloc_drewN World.put_put_same World.put_put_2 World.size_put World.q_cell?_alloc_old World.q_frozen?_alloc_old World.cell?_alloc_new' World.frozen?_alloc_new' World.q_setCell_alloc_old World.q_setCell_alloc_new World.q_put_alloc_old World.cell?_force_same World.frozen?_force_same World.cell?_force2_fst World.cell?_force2_snd KvX.g0 KvX.g1 KvX.g2 KvX.g3 KvX.g4 KvX.g5 KvX.g6 KvX.g7 KvX.g8 KvX.g9 KvX.g10 KvX.g11 KvX.g12 KvX.g13 KvX.g14 KvX.g15 KvX.g16 KvX.g17 KvX.g18 KvX.g19 KvX.g20 KvX.g21 KvX.g22 KvX.g23 KvX.g24 KvX.g25 KvX.g26 KvX.g27 KvX.g28 KvX.g29 KvX.g30 KvX.g31 KvX.g32 KvX.g33 KvX.g34 KvX.g35 KvX.g36 KvX.g37 KvX.g38 KvX.g39 KvX.g40 KvX.g41 KvX.g42 KvX.g43 KvX.g44 KvX.g45 KvX.g46 KvX.g47 KvX.g48 KvX.g49 KvX.g50 KvX.g51 KvX.g52 KvX.g53 KvX.g54 KvX.g55 KvX.g56 KvX.g57 KvX.g58 KvX.g59 KvX.g60 KvX.g61 KvX.g62 KvX.g63 KvX.g64 KvX.g65 KvX.g66 KvX.g67 KvX.g68 KvX.g69 KvX.g70 KvX.g71 KvX.g72 KvX.g73 KvX.g74 KvX.g75 KvX.g76 KvX.g77 KvX.g78 KvX.g79 KvX.g80 KvX.g81 KvX.g82 KvX.g83 KvX.gi_cells__0 KvX.gi_cells__1 KvX.gi_cells__2 KvX.gi_cells__3 KvX.gi_cells__4 KvX.gi_cells__5 KvX.gi_cells__6 KvX.gi_cells__7 KvX.gi_ss_0 KvX.gi_ss_1 KvX.gi_ss_2 KvX.gi_ss_3 KvX.gi_ss_4 KvX.gi_ss_5 KvX.gia_cells__1 KvX.gia_cells__2 KvX.gia_cells__3 KvX.gia_cells__4 KvX.gia_cells__5 KvX.gia_cells__6 KvX.gia_cells__7 KvX.gia_ss_1 KvX.gia_ss_2 KvX.gia_ss_3 KvX.gia_ss_4 KvX.gia_ss_5 KvX.pa_cells_ KvX.pa_ss KvX.s64 KvX.s65
attribute [local go_sem] ba_get upd_same upd_upd
set_option maxHeartbeats 4000000
set_option maxRecDepth 100000
def zKv : KvX := ⟨fun _ => zCell, 0, 0, fun _ => zSess⟩
theorem c35 (W : World) : Calls Tryz.prog 35 #[] W fun r w' => r = .returned (vp W.heap.size) ∧ w' = W.alloc (.cells zKv.cells 175) := by
  go_enter Tryz.func35, Tryz.ntmps35
  go_wp2_with fail
  go_ret
  exact ⟨rfl, rfl⟩
theorem c273 (W : World) (i : Int) (h0 : 0 ≤ i) (h1 : i < 8) : Calls Tryz.prog 273 #[vi i] W fun r w' => r = .returned (vi ((i + 1) % 8)) ∧ w' = W := by
  have : i = 0 ∨ i = 1 ∨ i = 2 ∨ i = 3 ∨ i = 4 ∨ i = 5 ∨ i = 6 ∨ i = 7 := by omega
  rcases this with rfl | rfl | rfl | rfl | rfl | rfl | rfl | rfl
  all_goals
    go_enter Tryz.func273, Tryz.ntmps273
    go_wp2_with fail
    go_ret
    exact ⟨rfl, rfl⟩
theorem c230 {W : World} {b : Nat} {K : KvX} (h : W.At b K.cells 175) : Calls Tryz.prog 230 #[vp b] W fun r w' => r = .returned (vi K.live) ∧ w' = W := by
  have hc := h.cell
  have ib := h.inB
  clear h
  go_enter Tryz.func230, Tryz.ntmps230
  go_wp2_with fail
  go_ret
  exact ⟨rfl, rfl⟩
end Go.Proofs.Qxb6500990aGreat
