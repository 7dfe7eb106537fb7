/- package towerexact: looks -/
import Derived.Test.Qxb6500990aGreatEx4
import Derived.Test.Qxb6500990aGreatStructs6
import Derived.Deep.MidRow
import Derived.Deep.WholeRow
set_option linter.unusedVariables false
set_option linter.unusedSimpArgs false
namespace Go.Tw
open Go Go.Proofs Go.Proofs.Qxb6500990aGreat Go.RowKit
theorem ViewX.gi_got (s : ViewX) (i : Nat) (h : i < 3) : s.cells[20 + i]? = some (.bool (s.inn.got i)) := by
  have : i = 0 ∨ i = 1 ∨ i = 2 := by omega
  rcases this with rfl | rfl | rfl <;> rfl
theorem ViewX.gi_next (s : ViewX) (i : Nat) (h : i < 3) : s.cells[28 + i]? = some (.int .i64 (s.inn.next i)) := by
  have : i = 0 ∨ i = 1 ∨ i = 2 := by omega
  rcases this with rfl | rfl | rfl <;> rfl
theorem ViewX.gi_mtch (s : ViewX) (i : Nat) (h : i < 3) : s.cells[31 + i]? = some (.int .i64 (s.inn.mtch i)) := by
  have : i = 0 ∨ i = 1 ∨ i = 2 := by omega
  rcases this with rfl | rfl | rfl <;> rfl
def VC.x (c : VC) : ViewX := ⟨vp c.br, vp c.bs, ptr c.at_, c.nv, c.sv⟩
theorem wpList_load_arr {P : Program} {ops : Array Oper} {rest : List Oper} {op : Oper} {a : Act} {w : World} {Q : Exit → Act → World → Prop} (hgd : op.guard = none) (ty : TypeId) (x : Operand) (ho : op.op = .load ty x)
    (b o : Nat) (hx : a.eval x = .pointer (some ⟨b, o, none⟩)) (cs : Array Value) (d : TypeDesc) (hc : ∀ j v, cs[j]? = some v → w.cell? ⟨b, o + j, none⟩ = some v)
    (hu : P.underlying ty = some d) (hd : d.isRow = true) (hi : (P.info? ty).map (·.size) = some cs.size)
    (h : wpList P ops Q rest (a.put op.dst (.agg cs)) w) : wpList P ops Q (op :: rest) a w := by
  refine wpList_load_mid hgd ty x ho b o hx cs.toList d (fun j v hv => hc j v (by simpa using hv)) hu hd (by simpa using hi) ?_
  simpa using h
theorem wpList_store_new {P : Program} {ops : Array Oper} {rest : List Oper} {op : Oper} {a : Act} {w : World} {Q : Exit → Act → World → Prop} (hgd : op.guard = none) (ty : TypeId) (x y : Operand) (ho : op.op = .store ty x y)
    (c c' : Array Value) (hx : a.eval x = .pointer (some ⟨w.heap.size, 0, none⟩)) (hy : a.eval y = .agg c')
    (hi : (P.info? ty).map (·.size) = some c'.size) (hz : c.size = c'.size) (h1 : c'.all (·.oneCell') = true)
    (h : wpList P ops Q rest (a.put op.dst undef) (w.alloc (.cells c' ty))) : wpList P ops Q (op :: rest) a (w.alloc (.cells c ty)) := by
  refine wpList_plain hgd fun K hK => ?_
  unfold Oper.wp execOp
  simp only [ho, hx, hy, Instr.storeAt, Instr.sureAddr, Sem.run_bind, Sem.run_pure, Result.andThen_ok, run_storeVar_new w ty c c' hi hz h1]
  exact hK _ _ h
theorem VC.x_cells (c : VC) : c.x.cells.toList = c.cells := rfl
end Go.Tw
namespace Go.Proofs.Qxb6500990aGreat
open Go Go.RowKit Go.Tw
attribute [local go_sem] World.cell?_put_same World.cell?_put_ne World.cell?_put_ne' World.frozen?_put_same World.frozen?_put_ne World.frozen?_put_ne' World.setCell_put_same World.setCell_put_ne World.setCell_put_ne' World.inB_put World.inB_alloc World.inB_drew World.inB_drewN World.inB_new World.inB_setCell World.put_drew World.put_drewN World.q_setCell_drew World.q_setCell_drewN World.q_alloc_drew World.q_alloc_drewN World.put_put_same World.put_put_2 World.size_put World.q_cell?_alloc_old World.q_frozen?_alloc_old World.cell?_alloc_new' World.frozen?_alloc_new' World.q_setCell_alloc_old World.q_setCell_alloc_new World.q_put_alloc_old World.cell?_force_same World.frozen?_force_same World.cell?_force2_fst World.cell?_force2_snd SyncV.g0 SyncV.s0 SyncV.g1 SyncV.s1 SyncV.g2 SyncV.s2 SyncV.g3 SyncV.s3 SyncV.g4 SyncV.s4 SyncV.g5 SyncV.s5 SyncV.g6 SyncV.s6 SyncV.g7 SyncV.s7 SyncV.g8 SyncV.s8 SyncV.g9 SyncV.s9 SyncV.g10 SyncV.s10 SyncV.g11 SyncV.s11 SyncV.g12 SyncV.s12 SyncV.g13 SyncV.s13 SyncV.g14 SyncV.s14 SyncV.g15 SyncV.s15 SyncV.g16 SyncV.s16 SyncV.g17 SyncV.s17 SyncV.g18 SyncV.s18 SyncV.g19 SyncV.s19 SyncV.gi_got_0 SyncV.si_got_0 SyncV.gi_next_0 SyncV.si_next_0 SyncV.gi_mtch_0 SyncV.si_mtch_0 ViewX.g0 ViewX.s0 ViewX.g1 ViewX.s1 ViewX.g2 ViewX.s2 ViewX.g3 ViewX.s3 ViewX.g4 ViewX.s4 ViewX.g5 ViewX.s5 ViewX.g6 ViewX.s6 ViewX.g7 ViewX.s7 ViewX.g8 ViewX.s8 ViewX.g9 ViewX.s9 ViewX.g10 ViewX.s10 ViewX.g11 ViewX.s11 ViewX.g12 ViewX.s12 ViewX.g13 ViewX.s13 ViewX.g14 ViewX.s14 ViewX.g15 ViewX.s15 ViewX.g16 ViewX.s16 ViewX.g17 ViewX.s17 ViewX.g18 ViewX.s18 ViewX.g19 ViewX.s19 ViewX.g20 ViewX.s20 ViewX.g21 ViewX.s21 ViewX.g22 ViewX.s22 ViewX.g23 ViewX.s23 ViewX.g24 ViewX.s24 ViewX.g25 ViewX.s25 ViewX.g26 ViewX.s26 ViewX.g27 ViewX.s27 ViewX.g28 ViewX.s28 ViewX.g29 ViewX.s29 ViewX.g30 ViewX.s30 ViewX.g31 ViewX.s31 ViewX.g32 ViewX.s32 ViewX.g33 ViewX.s33
attribute [local go_sem] ba_get ba_eq ba_beq upd_same upd_upd ViewX.gi_got ViewX.gi_next ViewX.gi_mtch
set_option maxHeartbeats 4000000
set_option maxRecDepth 100000
section
variable {W w : World} {x : SyncV} {bx bv : Nat}
theorem c22v {r s a : Value} {nv : NodeV} (hx : W.At bx x.cells 64) (hy : W.At bv (ViewX.cells ⟨r, s, a, nv, x⟩) 66) : Calls Tryz.prog 22 #[vp bx, .pointer (some ⟨bv, 14, none⟩)] W fun r w' => r = .returned (.bool true) ∧ ModP (fun _ => False) W w' := by
  obtain ⟨x1, x2, x3, x4, x5, x6, xg, x7, x8, x9, x10, x11, xn, xm⟩ := x
  have hcx := hx.cell
  have ix := hx.inB
  have hcy := hy.cell
  have iy := hy.inB
  have HX := hidIt hx
  have HY := hidIt hy
  clear hx hy
  go_enter Tryz.func22, Tryz.ntmps22
  go_wp2_with fail
  refine Ord.region3 (fun _ => True) [] [0, 1, 2, 3, 4, 5, 6, 7, 8, 9, 10, 11, 12, 13, 14, 15, 16, 17, 18, 19, 20, 21, 22, 23, 24, 25, 26, 27, 28, 29, 30, 31, 32, 33, 34, 35, 36, 37, 38, 39, 40, 41, 42, 43, 44, 45, 46, 47, 48, 49, 50, 51, 52, 53, 54, 55, 56, 57, 58, 59, 60, 61, 62, 63] .fin true (fun _ _ => trivial) (by kernel_rfl) (Ord.in3q_3 (by kernel_rfl)) (fun _ _ d _ _ h => by cases d <;> exact h) trivial ?_
  simp only [Ord.pickO, Ord.nth]
  refine wpQuiet_nil ?_
  repeat (go_big_quiet_step (fail))
  refine wpQuiet_nil ?_
  refine Ord.wpS_fin ?_
  go_wp2_with fail
  refine Ord.region3 (fun _ => True) [] [0, 1, 2, 3, 4, 5, 6, 7, 8, 9, 10, 11, 12, 13, 14, 15, 16, 17, 18, 19, 20, 21, 22, 23, 24, 25, 26, 27, 28, 29, 30, 31, 32, 33, 34, 35, 36, 37, 38, 39, 40, 41, 42, 43, 44, 45, 46, 47, 48, 49, 50, 51, 52] .fin true (fun _ _ => trivial) (by kernel_rfl) (Ord.in3q_3 (by kernel_rfl)) (fun _ _ d _ _ h => by cases d <;> exact h) trivial ?_
  simp only [Ord.pickO, Ord.nth]
  refine wpQuiet_nil ?_
  repeat (go_big_quiet_step (fail))
  refine wpQuiet_nil ?_
  refine Ord.wpS_fin ?_
  go_wp2_with fail
  go_loopw [5] (fun cv u => ∃ c : Nat, c ≤ 3 ∧ cv = vi c ∧ Hid (ModP (fun _ => False) W u)) (fun cv _ => 3 - (intOf cv).toNat)
  case atStart => exact ⟨0, by omega, rfl, (by repeat (first | assumption | exact ModP.refl _ _ | refine ModP.fromPut ?_ (by assumption) | apply ModP.alloc | apply ModP.drew | apply ModP.drewN | refine ModP.put ?_ (by first | (left; assumption) | (left; rfl) | (right; simp only [World.inB, World.size_put] at *; omega)) _ _))⟩
  case round =>
    obtain ⟨c, hc3, rfl, M⟩ := hrel
    have a1 := M.out.at HX.out (fun f => f)
    have a2 := M.out.at HY.out (fun f => f)
    clear hcx hcy ix iy
    have hcx := a1.cell
    have ix := a1.inB
    have hcy := a2.cell
    have iy := a2.inB
    clear a1 a2
    by_cases hcn : c < 3
    · have c4 : (c : Int) < 3 := by omega
      have bb : (xg c == xg c) = true := by simp
      go_wp2_with fail
      refine Ord.region3 (fun _ => True) [] [0, 1, 2, 3, 4, 5, 6, 7, 8, 9, 10, 11, 12, 13, 14, 15, 16, 17, 18, 19, 20, 21, 22, 23, 24, 25, 26, 27, 28, 29, 30, 31, 32, 33, 34, 35, 36, 37, 38, 39, 40, 41, 42] .fin true (fun _ _ => trivial) (by kernel_rfl) (Ord.in3q_3 (by kernel_rfl)) (fun _ _ d _ _ h => by cases d <;> exact h) trivial ?_
      simp only [Ord.pickO, Ord.nth]
      refine wpQuiet_nil ?_
      repeat (go_big_quiet_step (fail))
      refine wpQuiet_nil ?_
      refine Ord.wpS_fin ?_
      go_wp2_with fail
      go_roundw
      case rel => exact ⟨c + 1, by omega, by go_num, M.out.drew⟩
      case measure => simp [intOf]; omega
    · have d3 : decide ((c : Int) < 3) = false := by simp; omega
      go_wp2_with fail
      go_ret
      exact ⟨rfl, M.out⟩
end
end Go.Proofs.Qxb6500990aGreat
