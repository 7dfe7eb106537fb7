/- package kv: Restore, where it fails at once -/
import Derived.Test.Qxb6500990aGreatKt5
import Derived.Test.Qxb6500990aGreatKv9
set_option linter.unusedVariables false
set_option linter.unusedSimpArgs false
namespace Go.Proofs.Qxb6500990aGreat
open Go Go.RowKit Go.Tw
attribute [local go_sem] World.cell?_put_same World.cell?_put_ne World.cell?_put_ne' World.frozen?_put_same World.frozen?_put_ne World.frozen?_put_ne' World.setCell_put_same World.setCell_put_ne World.setCell_put_ne' World.inB_put World.inB_alloc World.inB_drew World.inB_drewN World.inB_new World.inB_setCell World.put_drew World.put_drewN World.q_setCell_drew World.q_setCell_drewN World.q_alloc_drew World.q_alloc_drewN World.put_put_same World.put_put_2 World.size_put World.q_cell?_alloc_old World.q_frozen?_alloc_old World.cell?_alloc_new' World.frozen?_alloc_new' World.q_setCell_alloc_old World.q_setCell_alloc_new World.q_put_alloc_old World.cell?_force_same World.frozen?_force_same World.cell?_force2_fst World.cell?_force2_snd KvX.g0 KvX.g1 KvX.g2 KvX.g3 KvX.g4 KvX.g5 KvX.g6 KvX.g7 KvX.g8 KvX.g9 KvX.g10 KvX.g11 KvX.g12 KvX.g13 KvX.g14 KvX.g15 KvX.g16 KvX.g17 KvX.g18 KvX.g19 KvX.g20 KvX.g21 KvX.g22 KvX.g23 KvX.g24 KvX.g25 KvX.g26 KvX.g27 KvX.g28 KvX.g29 KvX.g30 KvX.g31 KvX.g32 KvX.g33 KvX.g34 KvX.g35 KvX.g36 KvX.g37 KvX.g38 KvX.g39 KvX.g40 KvX.g41 KvX.g42 KvX.g43 KvX.g44 KvX.g45 KvX.g46 KvX.g47 KvX.g48 KvX.g49 KvX.g50 KvX.g51 KvX.g52 KvX.g53 KvX.g54 KvX.g55 KvX.g56 KvX.g57 KvX.g58 KvX.g59 KvX.g60 KvX.g61 KvX.g62 KvX.g63 KvX.g64 KvX.g65 KvX.g66 KvX.g67 KvX.g68 KvX.g69 KvX.g70 KvX.g71 KvX.g72 KvX.g73 KvX.g74 KvX.g75 KvX.g76 KvX.g77 KvX.g78 KvX.g79 KvX.g80 KvX.g81 KvX.g82 KvX.g83 KvX.gi_cells__0 KvX.gi_cells__1 KvX.gi_cells__2 KvX.gi_cells__3 KvX.gi_cells__4 KvX.gi_cells__5 KvX.gi_cells__6 KvX.gi_cells__7 KvX.gi_ss_0 KvX.gi_ss_1 KvX.gi_ss_2 KvX.gi_ss_3 KvX.gi_ss_4 KvX.gi_ss_5 KvX.gia_cells__1 KvX.gia_cells__2 KvX.gia_cells__3 KvX.gia_cells__4 KvX.gia_cells__5 KvX.gia_cells__6 KvX.gia_cells__7 KvX.gia_ss_1 KvX.gia_ss_2 KvX.gia_ss_3 KvX.gia_ss_4 KvX.gia_ss_5 KvX.pa_cells_ KvX.pa_ss KvX.s64 KvX.s65 Reader.g0 Reader.s0 Reader.g1 Reader.s1 Reader.g2 Reader.s2
attribute [local go_sem] ba_get
set_option maxHeartbeats 4000000
set_option maxRecDepth 100000
section
variable {W : World} {b : Nat} {Kx : KvX}
theorem ReB.start (h : W.At b Kx.cells 175) (s : Bs) : ReB W b Kx (((W.alloc (.cells (Reader.cells ⟨s, 0, false⟩) 252)).alloc (.cells (TableR.cells ⟨fun _ => zCell, 0, 0⟩) 170)).alloc (.cells (Sess3.cells ⟨fun _ => zSess⟩) 173)) ⟨s, 0, false⟩ ⟨fun _ => zCell, 0, 0⟩ ⟨fun _ => zSess⟩ :=
  ⟨((h.alloc _).alloc _).alloc _, World.At.alloc (World.At.alloc World.At_alloc_new _) _, World.At.alloc (at_new (by simp)) _, at_new (by simp), h.inB, (((ModP.refl _ _).alloc _).alloc _).alloc _⟩
theorem c125_big (h : W.At b Kx.cells 175) (s : Bs) (hl : s.length ≤ 1000) (h1 : 1 ≤ s.length) (h4 : 4 < byt s 0) : Calls Tryz.prog 125 #[vp b, vs s] W fun r w' => r = .returned (vi 15) ∧ ModP (fun _ => False) W w' := by
  have H0 := hidIt (ReB.start h s)
  have q1 := hidIt (c178_ok (q := 0) H0.out.hr hl h1)
  have d1 : decide (byt s 0 > 4) = true := by simpa using h4
  generalize byt s 0 = n at *
  clear h h4
  go_enter Tryz.func125, Tryz.ntmps125
  go_wp2_with (first
    | (go_at_call 178; refine q1.out.mono ?_; rintro _ w1 ⟨rfl, a1, m1⟩; have H1 := hidIt (H0.out.setR a1 m1); clear a1 m1 q1 H0))
  go_ret
  exact ⟨rfl, H1.out.md⟩
theorem c125_nil (h : W.At b Kx.cells 175) : Calls Tryz.prog 125 #[vp b, vs []] W fun r w' => r = .returned (vi 15) ∧ ModP (fun _ => False) W w' := by
  have H0 := hidIt (ReB.start h [])
  have q1 := hidIt (c178_end (p := 0) (s := []) H0.out.hr (by simp))
  clear h
  go_enter Tryz.func125, Tryz.ntmps125
  go_wp2_with (first
    | (go_at_call 178; refine q1.out.mono ?_; rintro _ w1 ⟨rfl, a1, m1⟩; have H1 := hidIt (H0.out.setR (rd' := ⟨[], 0, true⟩) a1 m1); clear a1 m1 q1 H0))
  go_loopw [9, 10] (fun _ iv u => iv = vi 0 ∧ Hid (ReB W b Kx u ⟨[], 0, true⟩ ⟨fun _ => zCell, 0, 0⟩ ⟨fun _ => zSess⟩)) (fun _ _ _ => 0)
  case atStart => exact ⟨rfl, H1⟩
  case round =>
    clear H1
    obtain ⟨rfl, H1⟩ := hrel
    go_wp2_with fail
    go_loopw [13] (fun iv u => iv = vi 0 ∧ Hid (ReB W b Kx u ⟨[], 0, true⟩ ⟨fun _ => zCell, 0, 0⟩ ⟨fun _ => zSess⟩)) (fun _ _ => 0)
    case atStart => exact ⟨rfl, H1⟩
    case round =>
      clear H1
      obtain ⟨rfl, H1⟩ := hrel
      have q2 := hidIt (c181_bad H1.out.hr (by simp) (by omega) (by omega))
      go_wp2_with (first
        | (go_at_call 181; refine q2.out.mono ?_; rintro _ w1 ⟨rfl, a1, m1⟩; have H2 := hidIt (H1.out.setR (rd' := ⟨[], 0, true⟩) a1 m1); have q3 := hidIt (c178_bad H2.out.hr); clear a1 m1 q2 H1)
        | (go_at_call 178; refine q3.out.mono ?_; rintro _ w2 ⟨rfl, a2, m2⟩; have H3 := hidIt (H2.out.setR (rd' := ⟨[], 0, true⟩) a2 m2); have q4 := hidIt (c179_bad H3.out.hr 0 3); clear a2 m2 q3 H2)
        | (go_at_call 179; refine q4.out.mono ?_; rintro _ w3 ⟨rfl, a3, m3⟩; have H4 := hidIt (H3.out.setR (rd' := ⟨[], 0, true⟩) a3 m3); have hc := H4.out.hr.cell; have ib := H4.out.hr.inB; clear a3 m3 q4 H3))
      go_ret
      exact ⟨rfl, H4.out.md⟩
end
end Go.Proofs.Qxb6500990aGreat
