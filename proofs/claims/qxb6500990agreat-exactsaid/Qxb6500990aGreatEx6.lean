/- package towerexact: looks -/
import Derived.Test.Qxb6500990aGreatEx5
import Derived.Test.Qxb6500990aGreatOrder6
import Derived.Lib.Builder
import Derived.Deep.Cut
set_option linter.unusedVariables false
set_option linter.unusedSimpArgs false
namespace Go.Proofs.Qxb6500990aGreat
open Go Go.RowKit Go.Tw
attribute [local go_sem] World.cell?_put_same World.cell?_put_ne World.cell?_put_ne' World.frozen?_put_same World.frozen?_put_ne World.frozen?_put_ne' World.setCell_put_same World.setCell_put_ne World.setCell_put_ne' World.inB_put World.inB_alloc World.inB_drew World.inB_drewN World.inB_new World.inB_setCell World.put_drew World.put_drewN World.q_setCell_drew World.q_setCell_drewN World.q_alloc_drew World.q_alloc_drewN World.put_put_same World.put_put_2 World.size_put World.q_cell?_alloc_old World.q_frozen?_alloc_old World.cell?_alloc_new' World.frozen?_alloc_new' World.q_setCell_alloc_old World.q_setCell_alloc_new World.q_put_alloc_old World.cell?_force_same World.frozen?_force_same World.cell?_force2_fst World.cell?_force2_snd WorldR.g0 WorldR.s0 WorldR.g1 WorldR.s1 WorldR.g2 WorldR.s2 WorldR.g3 WorldR.s3 WorldR.g4 WorldR.s4 WorldR.g5 WorldR.s5 WorldR.g6 WorldR.s6 WorldR.g7 WorldR.s7 WorldR.g8 WorldR.s8 NodeV.g0 NodeV.s0 NodeV.g1 NodeV.s1 NodeV.g2 NodeV.s2 NodeV.g3 NodeV.s3 NodeV.g4 NodeV.s4 NodeV.g5 NodeV.s5 NodeV.g6 NodeV.s6 NodeV.g7 NodeV.s7 NodeV.g8 NodeV.s8 NodeV.g9 NodeV.s9 NodeV.g10 NodeV.s10 NodeV.gi_used_0 NodeV.si_used_0 NodeV.gi_seq_0 NodeV.si_seq_0 NodeV.gi_idx_0 NodeV.si_idx_0 SyncV.g0 SyncV.s0 SyncV.g1 SyncV.s1 SyncV.g2 SyncV.s2 SyncV.g3 SyncV.s3 SyncV.g4 SyncV.s4 SyncV.g5 SyncV.s5 SyncV.g6 SyncV.s6 SyncV.g7 SyncV.s7 SyncV.g8 SyncV.s8 SyncV.g9 SyncV.s9 SyncV.g10 SyncV.s10 SyncV.g11 SyncV.s11 SyncV.g12 SyncV.s12 SyncV.g13 SyncV.s13 SyncV.g14 SyncV.s14 SyncV.g15 SyncV.s15 SyncV.g16 SyncV.s16 SyncV.g17 SyncV.s17 SyncV.g18 SyncV.s18 SyncV.g19 SyncV.s19 SyncV.gi_got_0 SyncV.si_got_0 SyncV.gi_next_0 SyncV.si_next_0 SyncV.gi_mtch_0 SyncV.si_mtch_0 ViewX.g0 ViewX.s0 ViewX.g1 ViewX.s1 ViewX.g2 ViewX.s2 ViewX.g3 ViewX.s3 ViewX.g4 ViewX.s4 ViewX.g5 ViewX.s5 ViewX.g6 ViewX.s6 ViewX.g7 ViewX.s7 ViewX.g8 ViewX.s8 ViewX.g9 ViewX.s9 ViewX.g10 ViewX.s10 ViewX.g11 ViewX.s11 ViewX.g12 ViewX.s12 ViewX.g13 ViewX.s13 ViewX.g14 ViewX.s14 ViewX.g15 ViewX.s15 ViewX.g16 ViewX.s16 ViewX.g17 ViewX.s17 ViewX.g18 ViewX.s18 ViewX.g19 ViewX.s19 ViewX.g20 ViewX.s20 ViewX.g21 ViewX.s21 ViewX.g22 ViewX.s22 ViewX.g23 ViewX.s23 ViewX.g24 ViewX.s24 ViewX.g25 ViewX.s25 ViewX.g26 ViewX.s26 ViewX.g27 ViewX.s27 ViewX.g28 ViewX.s28 ViewX.g29 ViewX.s29 ViewX.g30 ViewX.s30 ViewX.g31 ViewX.s31 ViewX.g32 ViewX.s32 ViewX.g33 ViewX.s33
attribute [local go_sem] ba_get ba_eq ba_beq upd_same upd_upd
set_option maxHeartbeats 4000000
set_option maxRecDepth 100000
section
variable {B bw S : Nat} {W w : World} {own : Own} {c : Conf} {vb vo vr vv : Value}
theorem neqP (w : World) (e : Option Addr) : (binOp .neq 58 (.pointer e) (.pointer e)).run Tryz.prog w = .ok (.bool false) w := by
  cases e with
  | none => rw [run_neq_pointer_nil _ _ _ (by kernel_rfl)]; rfl
  | some a => exact Lib.run_neq_ptr_same w a (te := 64) (j := (Tryz.prog.info? 64).getD default) (by kernel_rfl) (by kernel_rfl)
attribute [local go_sem] neqP
theorem w64i {i n : Nat} (h : i < n) (hn : n ≤ 1073741824) : wrap64 ((i : Int) + 1) = (i : Int) + 1 := by unfold wrap64; omega
theorem c7 (h : WI B W bw own c vb vo vr vv S) : Calls Tryz.prog 7 #[vp bw] W fun r w' => r = .returned (.bool true) ∧ ModP (fun _ => False) W w' := by
  obtain ⟨ado, capo, rfl, -⟩ := ownsRow_form h.ro.1
  obtain ⟨adr, capr, rfl, -⟩ := ownsRow_form h.rr.1
  obtain ⟨adv, capv, rfl, -⟩ := ownsRow_form h.rv.1
  obtain ⟨adb, capb, rfl, -⟩ := ownsRow_form h.rb.1
  have hc0 := h.hw.cell
  have ic0 := h.hw.inB
  have H := hidIt h
  have lo : c.os.length ≤ 1073741824 := by have := h.ln; have := h.sz; omega
  have lr : c.rs.length ≤ 1073741824 := by have := h.ln; have := h.sz; omega
  have lv : c.vs.length ≤ 1073741824 := by have := h.ln; have := h.sz; omega
  have LO := hidIt lo
  have LR := hidIt lr
  have LV := hidIt lv
  clear h lo lr lv
  go_enter Tryz.func7, Tryz.ntmps7
  go_wp2_with fail
  go_loopw [3] (fun cv u => ∃ i : Nat, i ≤ c.os.length ∧ cv = vi i ∧ Hid (ModP (fun _ => False) W u)) (fun cv _ => c.os.length - (intOf cv).toNat)
  case atStart => exact ⟨0, by omega, rfl, ModP.refl _ _⟩
  case round =>
    obtain ⟨i, hi3, rfl, M⟩ := hrel
    have aw := M.out.at H.out.hw (fun f => f)
    clear hc0 ic0
    have hc0 := aw.cell
    have ic0 := aw.inB
    clear aw
    by_cases hcn : i < c.os.length
    · have d4 : decide (i < c.os.length) = true := by simpa using hcn
      have c4 : (i : Int) < c.os.length := by omega
      obtain ⟨⟨xg, xh, xs⟩, hxe⟩ : ∃ x, c.os[i]? = some x := ⟨_, List.getElem?_eq_getElem hcn⟩
      have ok := (H.out.os i _ hxe).frame M.out (fun _ f => f.elim) (.refl _ _)
      have hx := flat_get LC.cells 2 (fun _ => rfl) c.os i _ hxe
      have hne : c.os.flatMap LC.cells ≠ [] := fun e => by have := hx 0 (by omega); rw [e] at this; cases this
      have r1 := (Rd.of_row H.out.ro.1).mod M.out (fun _ _ f => f)
      obtain ⟨_, _, e1, q1⟩ := r1
      injection e1 with e1 e1b e1c
      subst e1 e1c
      obtain ⟨g, rfl, g2, g3⟩ := q1 hne
      have u1 := g3 (i * 2) (.slice (some ⟨xg, 0, none⟩) xs.length xs.length) (hx 0 (by omega))
      have u2 := g3 (i * 2 + 1) (.slice (some ⟨xh, 0, none⟩) xs.length xs.length) (hx 1 (by omega))
      have HC := hidIt hcn
      have q19 := hidIt (fun u (m : ModP (fun _ => False) wr u) => c19 xs ((Rd.of_at (m := xs.length) (c := xs.length) ok.a).mod m (fun _ _ f => f)) ((Rd.of_at (m := xs.length) (c := xs.length) ok.a').mod m (fun _ _ f => f)) ok.l)
      clear hx hxe hne q1 g3 ok e1b
      go_wp2_with fail
      refine Ord.region1 [] [0, 1, 2, 3, 4, 5, 6, 7, 8, 9, 10, 11, 12, 13, 14, 15] [16, 17] (by kernel_rfl) (by kernel_rfl) (fun _ _ d _ _ h => by cases d <;> exact h) ?_
      simp only [Ord.pickO, Ord.nth]
      refine wpQuiet_nil ?_
      repeat (go_big_quiet_step (fail))
      refine wpQuiet_nil ?_
      go_wp2_with (first
        | (go_at_call 19; refine (q19.out _ ((ModP.refl _ _).drew)).mono ?_; rintro _ w2 ⟨rfl, m2⟩; have M2 := hidIt m2; clear m2))
      go_roundw
      case rel => exact ⟨i + 1, by have := HC.out; omega, by rw [w64i HC.out LO.out]; rfl, (M.out.drew).trans M2.out⟩
      case measure => have := HC.out; rw [w64i HC.out LO.out]; simp [intOf]; omega
    · have d4 : decide (i < c.os.length) = false := by simpa using hcn
      clear hcn
      go_wp2_with fail
      go_loopw [4] (fun cv u => ∃ i : Nat, i ≤ c.rs.length ∧ cv = vi i ∧ Hid (ModP (fun _ => False) W u)) (fun cv _ => c.rs.length - (intOf cv).toNat)
      case atStart => exact ⟨0, by omega, rfl, M⟩
      case round =>
        clear hc0 ic0 M
        obtain ⟨i, hi3, rfl, M⟩ := hrel
        have aw := M.out.at H.out.hw (fun f => f)
        have hc0 := aw.cell
        have ic0 := aw.inB
        clear aw
        by_cases hcn : i < c.rs.length
        · have d5 : decide (i < c.rs.length) = true := by simpa using hcn
          have c4 : (i : Int) < c.rs.length := by omega
          obtain ⟨⟨xg, xh, xs⟩, hxe⟩ : ∃ x, c.rs[i]? = some x := ⟨_, List.getElem?_eq_getElem hcn⟩
          have ok := (H.out.rs i _ hxe).frame M.out (fun _ f => f.elim) (.refl _ _)
          have hx := flat_get LC.cells 2 (fun _ => rfl) c.rs i _ hxe
          have hne : c.rs.flatMap LC.cells ≠ [] := fun e => by have := hx 0 (by omega); rw [e] at this; cases this
          have r1 := (Rd.of_row H.out.rr.1).mod M.out (fun _ _ f => f)
          obtain ⟨_, _, e1, q1⟩ := r1
          injection e1 with e1 e1b e1c
          subst e1 e1c
          obtain ⟨g, rfl, g2, g3⟩ := q1 hne
          have u1 := g3 (i * 2) (.slice (some ⟨xg, 0, none⟩) xs.length xs.length) (hx 0 (by omega))
          have u2 := g3 (i * 2 + 1) (.slice (some ⟨xh, 0, none⟩) xs.length xs.length) (hx 1 (by omega))
          have HC := hidIt hcn
          have q19 := hidIt (fun u (m : ModP (fun _ => False) wr u) => c20 xs ((Rd.of_at (m := xs.length) (c := xs.length) ok.a).mod m (fun _ _ f => f)) ((Rd.of_at (m := xs.length) (c := xs.length) ok.a').mod m (fun _ _ f => f)) ok.l)
          clear hx hxe hne q1 g3 ok e1b
          go_wp2_with fail
          refine Ord.region1 [] [0, 1, 2, 3, 4, 5, 6, 7, 8, 9, 10, 11, 12, 13, 14, 15] [16, 17] (by kernel_rfl) (by kernel_rfl) (fun _ _ d _ _ h => by cases d <;> exact h) ?_
          simp only [Ord.pickO, Ord.nth]
          refine wpQuiet_nil ?_
          repeat (go_big_quiet_step (fail))
          refine wpQuiet_nil ?_
          go_wp2_with (first
            | (go_at_call 20; refine (q19.out _ ((ModP.refl _ _).drew)).mono ?_; rintro _ w2 ⟨rfl, m2⟩; have M2 := hidIt m2; clear m2))
          go_roundw
          case rel => exact ⟨i + 1, by have := HC.out; omega, by rw [w64i HC.out LR.out]; rfl, (M.out.drew).trans M2.out⟩
          case measure => have := HC.out; rw [w64i HC.out LR.out]; simp [intOf]; omega
        · have d5 : decide (i < c.rs.length) = false := by simpa using hcn
          clear hcn
          go_wp2_with fail
          go_loopw [5] (fun cv u => ∃ i : Nat, i ≤ c.vs.length ∧ cv = vi i ∧ Hid (ModP (fun _ => False) W u)) (fun cv _ => c.vs.length - (intOf cv).toNat)
          case atStart => exact ⟨0, by omega, rfl, M⟩
          case round =>
            clear hc0 ic0 M
            obtain ⟨i, hi3, rfl, M⟩ := hrel
            have aw := M.out.at H.out.hw (fun f => f)
            have hc0 := aw.cell
            have ic0 := aw.inB
            clear aw
            by_cases hcn : i < c.vs.length
            · have d6 : decide (i < c.vs.length) = true := by simpa using hcn
              have c4 : (i : Int) < c.vs.length := by omega
              obtain ⟨⟨xbr, xbs, xat, ⟨ns, na, nu, nq, ni⟩, ⟨x1, x2, x3, x4, x5, x6, xg, x7, x8, x9, x10, x11, xn, xm⟩⟩, hxe⟩ : ∃ x, c.vs[i]? = some x := ⟨_, List.getElem?_eq_getElem hcn⟩
              have ok := (H.out.vs i _ hxe).frame M.out (fun _ f => f.elim) (.refl _ _)
              have va1 := ok.a
              have va2 := ok.a'
              obtain rfl : ns = vp xbs := ok.e
              have hx := flat_get VC.cells 34 VC.len c.vs i _ hxe
              have hne : c.vs.flatMap VC.cells ≠ [] := fun e => by have := hx 0 (by omega); rw [e] at this; cases this
              have r1 := (Rd.of_row H.out.rv.1).mod M.out (fun _ _ f => f)
              obtain ⟨_, _, e1, q1⟩ := r1
              injection e1 with e1 e1b e1c
              subst e1 e1c
              obtain ⟨g, rfl, g2, g3⟩ := q1 hne
              obtain ⟨e, he⟩ : ∃ e, xat.map (fun b => (⟨b, 0, none⟩ : Addr)) = e := ⟨_, rfl⟩
              unfold ptr at va1
              rw [he] at va1
              obtain ⟨X, hX⟩ : ∃ X : ViewX, X = ⟨vp xbr, vp xbs, .pointer e, ⟨vp xbs, na, nu, nq, ni⟩, ⟨x1, x2, x3, x4, x5, x6, xg, x7, x8, x9, x10, x11, xn, xm⟩⟩ := ⟨_, rfl⟩
              have kk : Hid (∀ j v, (ViewX.cells ⟨vp xbr, vp xbs, .pointer e, ⟨vp xbs, na, nu, nq, ni⟩, ⟨x1, x2, x3, x4, x5, x6, xg, x7, x8, x9, x10, x11, xn, xm⟩⟩)[j]? = some v → wr.cell? ⟨g, i * 34 + j, none⟩ = some v) := by
                intro j v hv
                have hj : j < 34 := (Array.getElem?_eq_some_iff.1 hv).1
                refine g3 _ _ ?_
                rw [hx j hj, ← VC.x_cells, Array.getElem?_toList]
                subst he
                exact hv
              have HC := hidIt hcn
              have q21 := hidIt (fun u => c21 u (.pointer e) (vp xbs) na nu nq ni)
              have V1 := hidIt va1
              have V2 := hidIt va2
              have hv1 := va1.cell
              have iv1 := va1.inB
              have hv2 := va2.cell
              have iv2 := va2.inB
              clear hx hxe hne q1 g3 ok e1b va1 va2 hX he
              go_wp2_with (first
                | (refine wpList_load_arr (P := Tryz.prog) rfl 66 _ rfl g (i * 34) rfl (ViewX.cells ⟨vp xbr, vp xbs, .pointer e, ⟨vp xbs, na, nu, nq, ni⟩, ⟨x1, x2, x3, x4, x5, x6, xg, x7, x8, x9, x10, x11, xn, xm⟩⟩) (.struct (Tryz.prog.fieldsOf 66)) kk.out (by kernel_rfl) rfl (by kernel_rfl) ?_)
                | (refine wpList_store_new (P := Tryz.prog) rfl 66 _ _ rfl _ (ViewX.cells ⟨vp xbr, vp xbs, .pointer e, ⟨vp xbs, na, nu, nq, ni⟩, ⟨x1, x2, x3, x4, x5, x6, xg, x7, x8, x9, x10, x11, xn, xm⟩⟩) rfl rfl (by kernel_rfl) rfl (by simp [ViewX.cells, Value.oneCell']) ?_))
              refine Ord.region3g (fun _ => True) [] [0, 1, 2, 3, 4, 5, 6, 7, 8, 9, 10, 11, 12, 13, 14] (.one 15 false (.val 16 (.val 17 (.val 18 (.val 19 (.val 21 (.one 20 false (.one 22 false (.val 23 (.val 24 .fin)))))))))) true (fun _ _ => trivial) (by kernel_rfl) (by kernel_rfl) (fun _ _ d _ _ h => by cases d <;> exact h) trivial ?_
              simp only [Ord.pickO, Ord.nth]
              refine wpQuiet_nil ?_
              repeat (go_big_quiet_step (fail))
              refine wpQuiet_nil ?_
              -- steps: ['N15', 'V16', 'V17', 'V18', 'V19', 'V21', 'N20', 'N22', 'V23', 'V24']
              refine Ord.wpG_next rfl (by first | rfl | simp [Region.wanted, yielded]) ?_
              intro K hK
              dsimp only [Ord.nth]
              go_wp2_with (first
                | (go_at_call 21; refine (q21.out _).mono ?_; rintro _ w5 ⟨rfl, m5⟩; have M5 := hidIt ((ModP.drew (ModP.refl _ _)).trans m5); clear m5))
              have N2 := M5.out.at (World.At.alloc V2.out (.cells (ViewX.cells ⟨vp xbr, vp xbs, .pointer e, ⟨vp xbs, na, nu, nq, ni⟩, ⟨x1, x2, x3, x4, x5, x6, xg, x7, x8, x9, x10, x11, xn, xm⟩⟩) 66)) (fun f => f)
              have N3 := M5.out.at (World.At_alloc_new (w := wr) (c := ViewX.cells ⟨vp xbr, vp xbs, .pointer e, ⟨vp xbs, na, nu, nq, ni⟩, ⟨x1, x2, x3, x4, x5, x6, xg, x7, x8, x9, x10, x11, xn, xm⟩⟩) (T := 66)) (fun f => f)
              have q22 := hidIt (c22v N2 N3)
              have hn3 := N3.cell
              have in3 := N3.inB
              clear N2 N3 hv1 iv1 hv2 iv2
              refine Ord.wpG_val rfl ?_
              dsimp only [Ord.nth]
              go_big_quiet_step (fail)
              refine wpQuiet_nil ?_
              refine Ord.wpG_val rfl ?_
              dsimp only [Ord.nth]
              go_big_quiet_step (fail)
              refine wpQuiet_nil ?_
              refine Ord.wpG_val rfl ?_
              dsimp only [Ord.nth]
              go_big_quiet_step (fail)
              refine wpQuiet_nil ?_
              refine Ord.wpG_val rfl ?_
              dsimp only [Ord.nth]
              go_big_quiet_step (fail)
              refine wpQuiet_nil ?_
              refine Ord.wpG_val rfl ?_
              dsimp only [Ord.nth]
              go_big_quiet_step (fail)
              refine wpQuiet_nil ?_
              refine Ord.wpG_next rfl (by first | rfl | simp [Region.wanted, yielded]) ?_
              intro K hK
              dsimp only [Ord.nth]
              go_wp2_with fail
              refine Ord.wpG_next rfl (by first | rfl | simp [Region.wanted, yielded]) ?_
              intro K hK
              dsimp only [Ord.nth]
              go_wp2_with (first
                | (go_at_call 22; refine q22.out.mono ?_; rintro _ w6 ⟨rfl, m6⟩; have M6 := hidIt m6; clear m6))
              refine Ord.wpG_val rfl ?_
              dsimp only [Ord.nth]
              go_big_quiet_step (fail)
              refine wpQuiet_nil ?_
              refine Ord.wpG_val rfl ?_
              dsimp only [Ord.nth]
              go_big_quiet_step (fail)
              refine wpQuiet_nil ?_
              refine Ord.wpG_fin ?_
              go_wp2_with fail
              go_roundw
              case rel => exact ⟨i + 1, by have := HC.out; omega, by rw [w64i HC.out LV.out]; rfl, ((M.out.alloc _).trans M5.out).trans M6.out⟩
              case measure => have := HC.out; rw [w64i HC.out LV.out]; simp [intOf]; omega
            · have d6 : decide (i < c.vs.length) = false := by simpa using hcn
              clear hcn
              go_wp2_with fail
              go_ret
              exact ⟨rfl, M.out⟩
end
end Go.Proofs.Qxb6500990aGreat
