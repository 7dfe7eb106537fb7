/- package towerexact: sameOuts, sameReps, sameView -/
import Derived.Test.Qxb6500990aGreatLa10
import Derived.Test.Qxb6500990aGreatLa6
import Derived.Test.Qxb6500990aGreatPk
import Derived.Test.Qxb6500990aGreatTo
import Derived.ChangeKeysEq
set_option linter.unusedVariables false
set_option linter.unusedSimpArgs false
namespace Go.Proofs.Qxb6500990aGreat
open Go Go.RowKit Go.Tw
theorem eq59 (w : World) (a b c : Bool) : (Op.equalIn 10000 59 (.agg #[.bool a, .bool b, .bool c]) (.agg #[.bool a, .bool b, .bool c])).run Tryz.prog w = .ok true w := by
  rw [run_equalIn_array w 9999 _ _ (t := 59) (e := 4) (n := 3) (i := (Tryz.prog.info? 4).getD default) (by kernel_rfl) (by kernel_rfl)]
  rw [show Tryz.prog.cellsOf 4 = 1 by kernel_rfl, show List.range 3 = [0, 1, 2] from rfl]
  simp [Op.eqItems, part, go_sem]
theorem eq60 (w : World) (a b c : Int) : (Op.equalIn 10000 60 (.agg #[.int .i64 a, .int .i64 b, .int .i64 c]) (.agg #[.int .i64 a, .int .i64 b, .int .i64 c])).run Tryz.prog w = .ok true w := by
  rw [run_equalIn_array w 9999 _ _ (t := 60) (e := 3) (n := 3) (i := (Tryz.prog.info? 3).getD default) (by kernel_rfl) (by kernel_rfl)]
  rw [show Tryz.prog.cellsOf 3 = 1 by kernel_rfl, show List.range 3 = [0, 1, 2] from rfl]
  simp [Op.eqItems, part, go_sem]
attribute [local go_sem] World.cell?_put_same World.cell?_put_ne World.cell?_put_ne' World.frozen?_put_same World.frozen?_put_ne World.frozen?_put_ne' World.setCell_put_same World.setCell_put_ne World.setCell_put_ne' World.inB_put World.inB_alloc World.inB_drew World.inB_drewN World.inB_new World.inB_setCell World.put_drew World.put_drewN World.q_setCell_drew World.q_setCell_drewN World.q_alloc_drew World.q_alloc_drewN World.put_put_same World.put_put_2 World.size_put World.q_cell?_alloc_old World.q_frozen?_alloc_old World.cell?_alloc_new' World.frozen?_alloc_new' World.q_setCell_alloc_old World.q_setCell_alloc_new World.q_put_alloc_old World.cell?_force_same World.frozen?_force_same World.cell?_force2_fst World.cell?_force2_snd OutM.g0 OutM.s0 OutM.g1 OutM.s1 Reply.g0 Reply.s0 Reply.g1 Reply.s1 Reply.g2 Reply.s2 Reply.g3 Reply.s3 Ans.g0 Ans.s0 Ans.g1 Ans.s1 NodeV.g0 NodeV.s0 NodeV.g1 NodeV.s1 NodeV.g2 NodeV.s2 NodeV.g3 NodeV.s3 NodeV.g4 NodeV.s4 NodeV.g5 NodeV.s5 NodeV.g6 NodeV.s6 NodeV.g7 NodeV.s7 NodeV.g8 NodeV.s8 NodeV.g9 NodeV.s9 NodeV.g10 NodeV.s10 NodeV.gi_used_0 NodeV.si_used_0 NodeV.gi_seq_0 NodeV.si_seq_0 NodeV.gi_idx_0 NodeV.si_idx_0
attribute [local go_sem] ba_get ba_eq ba_beq upd_same upd_upd eq59 eq60
set_option maxHeartbeats 4000000
set_option maxRecDepth 100000
section
variable {W w : World}
theorem c19 {a1 b1 : Option Addr} {k1 l1 : Nat} (os : List OutM) (ho : Rd W (.slice a1 os.length k1) os.length (outsC os)) (ho' : Rd W (.slice b1 os.length l1) os.length (outsC os)) (hl : os.length ≤ 1000) :
    Calls Tryz.prog 19 #[.slice a1 os.length k1, .slice b1 os.length l1] W fun r w' => r = .returned (.bool true) ∧ ModP (fun _ => False) W w' := by
  have HO := hidIt ho
  have HO' := hidIt ho'
  clear ho ho'
  go_enter Tryz.func19, Tryz.ntmps19
  go_wp2_with fail
  go_loopw [5] (fun cv u => ∃ c : Nat, c ≤ os.length ∧ cv = vi c ∧ Hid (ModP (fun _ => False) W u)) (fun cv _ => os.length - (intOf cv).toNat)
  case atStart => exact ⟨0, by omega, rfl, ModP.refl _ _⟩
  case round =>
    obtain ⟨c, hc3, rfl, M⟩ := hrel
    by_cases hcn : c < os.length
    · have d4 : decide (c < os.length) = true := by simpa using hcn
      have c4 : (c : Int) < os.length := by omega
      obtain ⟨⟨xt, xr⟩, hxe⟩ : ∃ x, os[c]? = some x := ⟨_, List.getElem?_eq_getElem hcn⟩
      have hx := outsC_get hxe
      simp only [] at hx
      have hne : outsC os ≠ [] := fun e => by rw [e] at hx; simp at hx
      have r1 := HO.out.mod M.out (fun _ _ f => f)
      have r2 := HO'.out.mod M.out (fun _ _ f => f)
      obtain ⟨_, _, e1, q1⟩ := r1
      obtain ⟨_, _, e2, q2⟩ := r2
      injection e1 with e1 e1b e1c
      injection e2 with e2 e2b e2c
      subst e1 e1c e2 e2c
      obtain ⟨g, rfl, g2, g3⟩ := q1 hne
      obtain ⟨g', rfl, g2', g3'⟩ := q2 hne
      have u1 := g3 _ _ hx.1
      have u2 := g3 _ _ hx.2
      have v1 := g3' _ _ hx.1
      have v2 := g3' _ _ hx.2
      have HC := hidIt hcn
      clear hx hxe hne q1 q2 g3 g3'
      go_wp2_with fail
      refine Ord.region1 [] [0, 1, 2, 3, 4, 5, 6, 7] [8] (by kernel_rfl) (by kernel_rfl) (fun _ _ d _ _ h => by cases d <;> exact h) ?_
      simp only [Ord.pickO, Ord.nth]
      refine wpQuiet_nil ?_
      repeat (go_big_quiet_step (fail))
      refine wpQuiet_nil ?_
      go_wp2_with fail
      go_roundw
      case rel => exact ⟨c + 1, by have := HC.out; omega, by go_num, M.out.drew⟩
      case measure => have := HC.out; simp [intOf]; omega
    · have d4 : decide (c < os.length) = false := by simpa using hcn
      clear hcn
      go_wp2_with fail
      go_ret
      exact ⟨rfl, M.out⟩
theorem c20 {a1 b1 : Option Addr} {k1 l1 : Nat} (os : List Reply) (ho : Rd W (.slice a1 os.length k1) os.length (repsC os)) (ho' : Rd W (.slice b1 os.length l1) os.length (repsC os)) (hl : os.length ≤ 1000) :
    Calls Tryz.prog 20 #[.slice a1 os.length k1, .slice b1 os.length l1] W fun r w' => r = .returned (.bool true) ∧ ModP (fun _ => False) W w' := by
  have HO := hidIt ho
  have HO' := hidIt ho'
  clear ho ho'
  go_enter Tryz.func20, Tryz.ntmps20
  go_wp2_with fail
  go_loopw [5] (fun cv u => ∃ c : Nat, c ≤ os.length ∧ cv = vi c ∧ Hid (ModP (fun _ => False) W u)) (fun cv _ => os.length - (intOf cv).toNat)
  case atStart => exact ⟨0, by omega, rfl, ModP.refl _ _⟩
  case round =>
    obtain ⟨c, hc3, rfl, M⟩ := hrel
    by_cases hcn : c < os.length
    · have d4 : decide (c < os.length) = true := by simpa using hcn
      have c4 : (c : Int) < os.length := by omega
      obtain ⟨⟨xc, xs, ⟨xe, xv⟩⟩, hxe⟩ : ∃ x, os[c]? = some x := ⟨_, List.getElem?_eq_getElem hcn⟩
      have hx := repsC_get hxe
      simp only [] at hx
      have hne : repsC os ≠ [] := fun e => by rw [e] at hx; simp at hx
      have r1 := HO.out.mod M.out (fun _ _ f => f)
      have r2 := HO'.out.mod M.out (fun _ _ f => f)
      obtain ⟨_, _, e1, q1⟩ := r1
      obtain ⟨_, _, e2, q2⟩ := r2
      injection e1 with e1 e1b e1c
      injection e2 with e2 e2b e2c
      subst e1 e1c e2 e2c
      obtain ⟨g, rfl, g2, g3⟩ := q1 hne
      obtain ⟨g', rfl, g2', g3'⟩ := q2 hne
      have u1 := g3 _ _ hx.1
      have u2 := g3 _ _ hx.2.1
      have u3 := g3 _ _ hx.2.2.1
      have u4 := g3 _ _ hx.2.2.2
      have v1 := g3' _ _ hx.1
      have v2 := g3' _ _ hx.2.1
      have v3 := g3' _ _ hx.2.2.1
      have v4 := g3' _ _ hx.2.2.2
      have HC := hidIt hcn
      clear hx hxe hne q1 q2 g3 g3'
      go_wp2_with fail
      refine Ord.region1 [] [0, 1, 2, 3, 4, 5, 6, 7] [8] (by kernel_rfl) (by kernel_rfl) (fun _ _ d _ _ h => by cases d <;> exact h) ?_
      simp only [Ord.pickO, Ord.nth]
      refine wpQuiet_nil ?_
      repeat (go_big_quiet_step (fail))
      refine wpQuiet_nil ?_
      go_wp2_with fail
      go_roundw
      case rel => exact ⟨c + 1, by have := HC.out; omega, by go_num, M.out.drew⟩
      case measure => have := HC.out; simp [intOf]; omega
    · have d4 : decide (c < os.length) = false := by simpa using hcn
      clear hcn
      go_wp2_with fail
      go_ret
      exact ⟨rfl, M.out⟩
theorem c21 (W : World) (s1 s2 : Value) (a : Int) (u : Nat → Bool) (s i : Nat → Int) : Calls Tryz.prog 21 #[.agg (NodeV.cells ⟨s1, a, u, s, i⟩), .agg (NodeV.cells ⟨s2, a, u, s, i⟩)] W fun r w' => r = .returned (.bool true) ∧ ModP (fun _ => False) W w' := by
  go_enter Tryz.func21, Tryz.ntmps21
  go_wp2_with fail
  go_ret
  exact ⟨rfl, ((ModP.refl _ _).alloc _).alloc _⟩
end
end Go.Proofs.Qxb6500990aGreat
