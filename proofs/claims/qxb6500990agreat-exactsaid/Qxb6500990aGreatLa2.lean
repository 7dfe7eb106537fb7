/- package nodelaw: SameSync -/
import Derived.Test.Qxb6500990aGreatNod6
import Derived.Test.Qxb6500990aGreatOrder5
set_option linter.unusedVariables false
set_option linter.unusedSimpArgs false
namespace Go.Tw
open Go Go.Proofs Go.Proofs.Qxb6500990aGreat Go.RowKit
def SyncV.Row (x y : SyncV) (c : Nat) : Prop := x.got c = y.got c ∧ x.next c = y.next c ∧ x.mtch c = y.mtch c
def SyncV.Like (x y : SyncV) : Prop := (x.id = y.id ∧ x.term = y.term ∧ x.vote = y.vote ∧ x.role = y.role ∧ x.leader = y.leader ∧ x.clock = y.clock ∧ x.commit = y.commit ∧ x.base = y.base ∧ x.baseTerm = y.baseTerm ∧ x.last = y.last ∧ x.snap = y.snap) ∧ ∀ c, c < 3 → x.Row y c
end Go.Tw
namespace Go.Proofs.Qxb6500990aGreat
open Go Go.RowKit Go.Tw
attribute [local go_sem] World.cell?_put_same World.cell?_put_ne World.cell?_put_ne' World.frozen?_put_same World.frozen?_put_ne World.frozen?_put_ne' World.setCell_put_same World.setCell_put_ne World.setCell_put_ne' World.inB_put World.inB_alloc World.inB_drew World.inB_drewN World.inB_new World.inB_setCell World.put_drew World.put_drewN World.q_setCell_drew World.q_setCell_drewN World.q_alloc_drew World.q_alloc_drewN World.put_put_same World.put_put_2 World.size_put World.q_cell?_alloc_old World.q_frozen?_alloc_old World.cell?_alloc_new' World.frozen?_alloc_new' World.q_setCell_alloc_old World.q_setCell_alloc_new World.q_put_alloc_old World.cell?_force_same World.frozen?_force_same World.cell?_force2_fst World.cell?_force2_snd SyncV.g0 SyncV.s0 SyncV.g1 SyncV.s1 SyncV.g2 SyncV.s2 SyncV.g3 SyncV.s3 SyncV.g4 SyncV.s4 SyncV.g5 SyncV.s5 SyncV.g6 SyncV.s6 SyncV.g7 SyncV.s7 SyncV.g8 SyncV.s8 SyncV.g9 SyncV.s9 SyncV.g10 SyncV.s10 SyncV.g11 SyncV.s11 SyncV.g12 SyncV.s12 SyncV.g13 SyncV.s13 SyncV.g14 SyncV.s14 SyncV.g15 SyncV.s15 SyncV.g16 SyncV.s16 SyncV.g17 SyncV.s17 SyncV.g18 SyncV.s18 SyncV.g19 SyncV.s19 SyncV.gi_got_0 SyncV.si_got_0 SyncV.gi_next_0 SyncV.si_next_0 SyncV.gi_mtch_0 SyncV.si_mtch_0

attribute [local go_sem] ba_get ba_eq ba_beq upd_same upd_upd
set_option maxHeartbeats 4000000
set_option maxRecDepth 100000
section
variable {W w : World} {x y : SyncV} {bx by_ : Nat}
theorem c22 (hx : W.At bx x.cells 64) (hy : W.At by_ y.cells 64) : Calls Tryz.prog 22 #[vp bx, vp by_] W fun r w' => ∃ b, r = .returned (.bool b) ∧ (b = true ↔ x.Like y) ∧ ModP (fun _ => False) W w' := by
  obtain ⟨x1, x2, x3, x4, x5, x6, xg, x7, x8, x9, x10, x11, xn, xm⟩ := x
  obtain ⟨y1, y2, y3, y4, y5, y6, yg, y7, y8, y9, y10, y11, yn, ym⟩ := y
  have hcx := hx.cell
  have ix := hx.inB
  have hcy := hy.cell
  have iy := hy.inB
  have HX := hidIt hx
  have HY := hidIt hy
  clear hx hy
  generalize hP : (fun (r : Ending) (w' : World) => ∃ b, r = .returned (.bool b) ∧ (b = true ↔ SyncV.Like ⟨x1, x2, x3, x4, x5, x6, xg, x7, x8, x9, x10, x11, xn, xm⟩ ⟨y1, y2, y3, y4, y5, y6, yg, y7, y8, y9, y10, y11, yn, ym⟩) ∧ ModP (fun _ => False) W w') = P
  have HN : Hid (∀ w', ¬ SyncV.Like ⟨x1, x2, x3, x4, x5, x6, xg, x7, x8, x9, x10, x11, xn, xm⟩ ⟨y1, y2, y3, y4, y5, y6, yg, y7, y8, y9, y10, y11, yn, ym⟩ → ModP (fun _ => False) W w' → P (.returned (.bool false)) w') := by
    subst hP; exact fun w' a b => ⟨false, rfl, by simp [a], b⟩
  have HY1 : Hid (∀ w', SyncV.Like ⟨x1, x2, x3, x4, x5, x6, xg, x7, x8, x9, x10, x11, xn, xm⟩ ⟨y1, y2, y3, y4, y5, y6, yg, y7, y8, y9, y10, y11, yn, ym⟩ → ModP (fun _ => False) W w' → P (.returned (.bool true)) w') := by
    subst hP; exact fun w' a b => ⟨true, rfl, by simp [a], b⟩
  clear hP
  go_enter Tryz.func22, Tryz.ntmps22
  go_wp2_with fail
  refine Ord.region3 (fun _ => True) [] [0, 1, 2, 3, 4, 5, 6, 7, 8, 9, 10, 11, 12, 13, 14, 15, 16, 17, 18, 19, 20, 21, 22, 23, 24, 25, 26, 27, 28, 29, 30, 31, 32, 33, 34, 35, 36, 37, 38, 39, 40, 41, 42, 43, 44, 45, 46, 47, 48, 49, 50, 51, 52, 53, 54, 55, 56, 57, 58, 59, 60, 61, 62, 63] .fin true (fun _ _ => trivial) (by kernel_rfl) (Ord.in3q_3 (by kernel_rfl)) (fun _ _ d _ _ h => by cases d <;> exact h) trivial ?_
  simp only [Ord.pickO, Ord.nth]
  refine wpQuiet_nil ?_
  by_cases e1 : x1 = y1
  rotate_left
  · have d1 : (x1 != y1) = true := by simpa using e1
    have E1 := hidIt e1
    clear e1
    repeat (go_big_quiet_step (fail))
    refine wpQuiet_nil ?_
    refine Ord.wpS_fin ?_
    go_wp2_with fail
    exact HN.out _ (fun a => E1.out (by exact a.1.1)) (by repeat (first | assumption | exact ModP.refl _ _ | refine ModP.fromPut ?_ (by assumption) | apply ModP.alloc | apply ModP.drew | apply ModP.drewN | refine ModP.put ?_ (by first | (left; assumption) | (left; rfl) | (right; simp only [World.inB, World.size_put] at *; omega)) _ _))
  subst e1
  by_cases e2 : x2 = y2
  rotate_left
  · have d2 : (x2 != y2) = true := by simpa using e2
    have E2 := hidIt e2
    clear e2
    repeat (go_big_quiet_step (fail))
    refine wpQuiet_nil ?_
    refine Ord.wpS_fin ?_
    go_wp2_with fail
    exact HN.out _ (fun a => E2.out (by exact a.1.2.1)) (by repeat (first | assumption | exact ModP.refl _ _ | refine ModP.fromPut ?_ (by assumption) | apply ModP.alloc | apply ModP.drew | apply ModP.drewN | refine ModP.put ?_ (by first | (left; assumption) | (left; rfl) | (right; simp only [World.inB, World.size_put] at *; omega)) _ _))
  subst e2
  by_cases e3 : x3 = y3
  rotate_left
  · have d3 : (x3 != y3) = true := by simpa using e3
    have E3 := hidIt e3
    clear e3
    repeat (go_big_quiet_step (fail))
    refine wpQuiet_nil ?_
    refine Ord.wpS_fin ?_
    go_wp2_with fail
    exact HN.out _ (fun a => E3.out (by exact a.1.2.2.1)) (by repeat (first | assumption | exact ModP.refl _ _ | refine ModP.fromPut ?_ (by assumption) | apply ModP.alloc | apply ModP.drew | apply ModP.drewN | refine ModP.put ?_ (by first | (left; assumption) | (left; rfl) | (right; simp only [World.inB, World.size_put] at *; omega)) _ _))
  subst e3
  by_cases e4 : x4 = y4
  rotate_left
  · have d4 : (x4 != y4) = true := by simpa using e4
    have E4 := hidIt e4
    clear e4
    repeat (go_big_quiet_step (fail))
    refine wpQuiet_nil ?_
    refine Ord.wpS_fin ?_
    go_wp2_with fail
    exact HN.out _ (fun a => E4.out (by exact a.1.2.2.2.1)) (by repeat (first | assumption | exact ModP.refl _ _ | refine ModP.fromPut ?_ (by assumption) | apply ModP.alloc | apply ModP.drew | apply ModP.drewN | refine ModP.put ?_ (by first | (left; assumption) | (left; rfl) | (right; simp only [World.inB, World.size_put] at *; omega)) _ _))
  subst e4
  by_cases e5 : x5 = y5
  rotate_left
  · have d5 : (x5 != y5) = true := by simpa using e5
    have E5 := hidIt e5
    clear e5
    repeat (go_big_quiet_step (fail))
    refine wpQuiet_nil ?_
    refine Ord.wpS_fin ?_
    go_wp2_with fail
    exact HN.out _ (fun a => E5.out (by exact a.1.2.2.2.2.1)) (by repeat (first | assumption | exact ModP.refl _ _ | refine ModP.fromPut ?_ (by assumption) | apply ModP.alloc | apply ModP.drew | apply ModP.drewN | refine ModP.put ?_ (by first | (left; assumption) | (left; rfl) | (right; simp only [World.inB, World.size_put] at *; omega)) _ _))
  subst e5
  by_cases e6 : x6 = y6
  rotate_left
  · have d6 : (x6 != y6) = true := by simpa using e6
    have E6 := hidIt e6
    clear e6
    repeat (go_big_quiet_step (fail))
    refine wpQuiet_nil ?_
    refine Ord.wpS_fin ?_
    go_wp2_with fail
    exact HN.out _ (fun a => E6.out (by exact a.1.2.2.2.2.2.1)) (by repeat (first | assumption | exact ModP.refl _ _ | refine ModP.fromPut ?_ (by assumption) | apply ModP.alloc | apply ModP.drew | apply ModP.drewN | refine ModP.put ?_ (by first | (left; assumption) | (left; rfl) | (right; simp only [World.inB, World.size_put] at *; omega)) _ _))
  subst e6
  repeat (go_big_quiet_step (fail))
  refine wpQuiet_nil ?_
  refine Ord.wpS_fin ?_
  go_wp2_with fail
  refine Ord.region3 (fun _ => True) [] [0, 1, 2, 3, 4, 5, 6, 7, 8, 9, 10, 11, 12, 13, 14, 15, 16, 17, 18, 19, 20, 21, 22, 23, 24, 25, 26, 27, 28, 29, 30, 31, 32, 33, 34, 35, 36, 37, 38, 39, 40, 41, 42, 43, 44, 45, 46, 47, 48, 49, 50, 51, 52] .fin true (fun _ _ => trivial) (by kernel_rfl) (Ord.in3q_3 (by kernel_rfl)) (fun _ _ d _ _ h => by cases d <;> exact h) trivial ?_
  simp only [Ord.pickO, Ord.nth]
  refine wpQuiet_nil ?_
  by_cases e7 : x7 = y7
  rotate_left
  · have d7 : (x7 != y7) = true := by simpa using e7
    have E7 := hidIt e7
    clear e7
    repeat (go_big_quiet_step (fail))
    refine wpQuiet_nil ?_
    refine Ord.wpS_fin ?_
    go_wp2_with fail
    exact HN.out _ (fun a => E7.out (by exact a.1.2.2.2.2.2.2.1)) (by repeat (first | assumption | exact ModP.refl _ _ | refine ModP.fromPut ?_ (by assumption) | apply ModP.alloc | apply ModP.drew | apply ModP.drewN | refine ModP.put ?_ (by first | (left; assumption) | (left; rfl) | (right; simp only [World.inB, World.size_put] at *; omega)) _ _))
  subst e7
  by_cases e8 : x8 = y8
  rotate_left
  · have d8 : (x8 != y8) = true := by simpa using e8
    have E8 := hidIt e8
    clear e8
    repeat (go_big_quiet_step (fail))
    refine wpQuiet_nil ?_
    refine Ord.wpS_fin ?_
    go_wp2_with fail
    exact HN.out _ (fun a => E8.out (by exact a.1.2.2.2.2.2.2.2.1)) (by repeat (first | assumption | exact ModP.refl _ _ | refine ModP.fromPut ?_ (by assumption) | apply ModP.alloc | apply ModP.drew | apply ModP.drewN | refine ModP.put ?_ (by first | (left; assumption) | (left; rfl) | (right; simp only [World.inB, World.size_put] at *; omega)) _ _))
  subst e8
  by_cases e9 : x9 = y9
  rotate_left
  · have d9 : (x9 != y9) = true := by simpa using e9
    have E9 := hidIt e9
    clear e9
    repeat (go_big_quiet_step (fail))
    refine wpQuiet_nil ?_
    refine Ord.wpS_fin ?_
    go_wp2_with fail
    exact HN.out _ (fun a => E9.out (by exact a.1.2.2.2.2.2.2.2.2.1)) (by repeat (first | assumption | exact ModP.refl _ _ | refine ModP.fromPut ?_ (by assumption) | apply ModP.alloc | apply ModP.drew | apply ModP.drewN | refine ModP.put ?_ (by first | (left; assumption) | (left; rfl) | (right; simp only [World.inB, World.size_put] at *; omega)) _ _))
  subst e9
  by_cases e10 : x10 = y10
  rotate_left
  · have d10 : (x10 != y10) = true := by simpa using e10
    have E10 := hidIt e10
    clear e10
    repeat (go_big_quiet_step (fail))
    refine wpQuiet_nil ?_
    refine Ord.wpS_fin ?_
    go_wp2_with fail
    exact HN.out _ (fun a => E10.out (by exact a.1.2.2.2.2.2.2.2.2.2.1)) (by repeat (first | assumption | exact ModP.refl _ _ | refine ModP.fromPut ?_ (by assumption) | apply ModP.alloc | apply ModP.drew | apply ModP.drewN | refine ModP.put ?_ (by first | (left; assumption) | (left; rfl) | (right; simp only [World.inB, World.size_put] at *; omega)) _ _))
  subst e10
  by_cases e11 : x11 = y11
  rotate_left
  · have d11 : (x11 == y11) = false := by simpa using e11
    have E11 := hidIt e11
    clear e11
    repeat (go_big_quiet_step (fail))
    refine wpQuiet_nil ?_
    refine Ord.wpS_fin ?_
    go_wp2_with fail
    exact HN.out _ (fun a => E11.out (by exact a.1.2.2.2.2.2.2.2.2.2.2)) (by repeat (first | assumption | exact ModP.refl _ _ | refine ModP.fromPut ?_ (by assumption) | apply ModP.alloc | apply ModP.drew | apply ModP.drewN | refine ModP.put ?_ (by first | (left; assumption) | (left; rfl) | (right; simp only [World.inB, World.size_put] at *; omega)) _ _))
  subst e11
  repeat (go_big_quiet_step (fail))
  refine wpQuiet_nil ?_
  refine Ord.wpS_fin ?_
  go_wp2_with fail
  go_loopw [5] (fun cv u => ∃ c : Nat, c ≤ 3 ∧ cv = vi c ∧ Hid (ModP (fun _ => False) W u) ∧ Hid (∀ k, k < c → xg k = yg k ∧ xn k = yn k ∧ xm k = ym k)) (fun cv _ => 3 - (intOf cv).toNat)
  case atStart => exact ⟨0, by omega, rfl, (by repeat (first | assumption | exact ModP.refl _ _ | refine ModP.fromPut ?_ (by assumption) | apply ModP.alloc | apply ModP.drew | apply ModP.drewN | refine ModP.put ?_ (by first | (left; assumption) | (left; rfl) | (right; simp only [World.inB, World.size_put] at *; omega)) _ _)), fun k hk => by omega⟩
  case round =>
    obtain ⟨c, hc3, rfl, M, HE⟩ := hrel
    have a1 := M.out.at HX.out (fun f => f)
    have a2 := M.out.at HY.out (fun f => f)
    clear hcx hcy ix iy
    have hcx := a1.cell
    have ix := a1.inB
    have hcy := a2.cell
    have iy := a2.inB
    clear a1 a2
    by_cases hcn : c < 3
    · have c4 : (c : Int) < 3 := by omega
      go_wp2_with fail
      refine Ord.region3 (fun _ => True) [] [0, 1, 2, 3, 4, 5, 6, 7, 8, 9, 10, 11, 12, 13, 14, 15, 16, 17, 18, 19, 20, 21, 22, 23, 24, 25, 26, 27, 28, 29, 30, 31, 32, 33, 34, 35, 36, 37, 38, 39, 40, 41, 42] .fin true (fun _ _ => trivial) (by kernel_rfl) (Ord.in3q_3 (by kernel_rfl)) (fun _ _ d _ _ h => by cases d <;> exact h) trivial ?_
      simp only [Ord.pickO, Ord.nth]
      refine wpQuiet_nil ?_
      by_cases eg : xg c = yg c
      rotate_left
      · have dg : (xg c == yg c) = false := by simpa using eg
        have Eg := hidIt eg
        clear eg
        repeat (go_big_quiet_step (fail))
        refine wpQuiet_nil ?_
        refine Ord.wpS_fin ?_
        go_wp2_with fail
        exact HN.out _ (fun a => Eg.out (a.2 c hcn).1) (M.out.trans (by repeat (first | assumption | exact ModP.refl _ _ | refine ModP.fromPut ?_ (by assumption) | apply ModP.alloc | apply ModP.drew | apply ModP.drewN | refine ModP.put ?_ (by first | (left; assumption) | (left; rfl) | (right; simp only [World.inB, World.size_put] at *; omega)) _ _)))
      have dg : (xg c == yg c) = true := by simpa using eg
      have Eg := hidIt eg
      clear eg
      by_cases en : xn c = yn c
      rotate_left
      · have dn : (xn c != yn c) = true := by simpa using en
        have En := hidIt en
        clear en
        repeat (go_big_quiet_step (fail))
        refine wpQuiet_nil ?_
        refine Ord.wpS_fin ?_
        go_wp2_with fail
        exact HN.out _ (fun a => En.out (a.2 c hcn).2.1) (M.out.trans (by repeat (first | assumption | exact ModP.refl _ _ | refine ModP.fromPut ?_ (by assumption) | apply ModP.alloc | apply ModP.drew | apply ModP.drewN | refine ModP.put ?_ (by first | (left; assumption) | (left; rfl) | (right; simp only [World.inB, World.size_put] at *; omega)) _ _)))
      have dn : (xn c != yn c) = false := by simpa using en
      have En := hidIt en
      clear en
      by_cases em : xm c = ym c
      rotate_left
      · have dm : (xm c != ym c) = true := by simpa using em
        have Em := hidIt em
        clear em
        repeat (go_big_quiet_step (fail))
        refine wpQuiet_nil ?_
        refine Ord.wpS_fin ?_
        go_wp2_with fail
        exact HN.out _ (fun a => Em.out (a.2 c hcn).2.2) (M.out.trans (by repeat (first | assumption | exact ModP.refl _ _ | refine ModP.fromPut ?_ (by assumption) | apply ModP.alloc | apply ModP.drew | apply ModP.drewN | refine ModP.put ?_ (by first | (left; assumption) | (left; rfl) | (right; simp only [World.inB, World.size_put] at *; omega)) _ _)))
      have dm : (xm c != ym c) = false := by simpa using em
      have Em := hidIt em
      clear em
      repeat (go_big_quiet_step (fail))
      refine wpQuiet_nil ?_
      refine Ord.wpS_fin ?_
      go_wp2_with fail
      go_roundw
      case rel => exact ⟨c + 1, by omega, by go_num, M.out.drew, fun k hk => by rcases Nat.lt_succ_iff_lt_or_eq.1 hk with h | h; exact HE.out k h; subst h; exact ⟨Eg.out, En.out, Em.out⟩⟩
      case measure => simp [intOf]; omega
    · have d3 : decide ((c : Int) < 3) = false := by simp; omega
      have hc' : c = 3 := by omega
      have Hc := hidIt hc'
      clear hc'
      go_wp2_with fail
      exact HY1.out _ ⟨⟨rfl, rfl, rfl, rfl, rfl, rfl, rfl, rfl, rfl, rfl, rfl⟩, fun k hk => HE.out k (by rw [Hc.out]; exact hk)⟩ M.out
end
end Go.Proofs.Qxb6500990aGreat
