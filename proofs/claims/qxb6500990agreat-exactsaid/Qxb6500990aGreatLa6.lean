/- package nodelaw: SameDid -/
import Derived.Test.Qxb6500990aGreatLa
import Derived.Test.Qxb6500990aGreatFl
set_option linter.unusedVariables false
set_option linter.unusedSimpArgs false
namespace Go.Proofs.Qxb6500990aGreat
open Go Go.RowKit Go.Tw
attribute [local go_sem] World.cell?_put_same World.cell?_put_ne World.cell?_put_ne' World.frozen?_put_same World.frozen?_put_ne World.frozen?_put_ne' World.setCell_put_same World.setCell_put_ne World.setCell_put_ne' World.inB_put World.inB_alloc World.inB_drew World.inB_drewN World.inB_new World.inB_setCell World.put_drew World.put_drewN World.q_setCell_drew World.q_setCell_drewN World.q_alloc_drew World.q_alloc_drewN World.put_put_same World.put_put_2 World.size_put World.q_cell?_alloc_old World.q_frozen?_alloc_old World.cell?_alloc_new' World.frozen?_alloc_new' World.q_setCell_alloc_old World.q_setCell_alloc_new World.q_put_alloc_old World.cell?_force_same World.frozen?_force_same World.cell?_force2_fst World.cell?_force2_snd DidR.g0 DidR.s0 DidR.g1 DidR.s1 DidR.g2 DidR.s2 OutM.g0 OutM.s0 OutM.g1 OutM.s1 Reply.g0 Reply.s0 Reply.g1 Reply.s1 Reply.g2 Reply.s2 Reply.g3 Reply.s3 Ans.g0 Ans.s0 Ans.g1 Ans.s1
attribute [local go_sem] ba_get ba_eq ba_beq upd_same upd_upd
set_option maxHeartbeats 4000000
set_option maxRecDepth 100000
section
variable {W w : World}
theorem c44 {a1 a2 b1 b2 : Option Addr} {k1 k2 l1 l2 : Nat} (D : Did) (ho : Rd W (.slice a1 D.outs.length k1) D.outs.length (outsC D.outs)) (hr : Rd W (.slice a2 D.reps.length k2) D.reps.length (repsC D.reps))
    (ho' : Rd W (.slice b1 D.outs.length l1) D.outs.length (outsC D.outs)) (hr' : Rd W (.slice b2 D.reps.length l2) D.reps.length (repsC D.reps)) (h1 : D.outs.length ≤ 1000) (h2 : D.reps.length ≤ 1000) :
    Calls Tryz.prog 44 #[.agg (DidR.cells ⟨D.err, .slice a1 D.outs.length k1, .slice a2 D.reps.length k2⟩), .agg (DidR.cells ⟨D.err, .slice b1 D.outs.length l1, .slice b2 D.reps.length l2⟩)] W fun r w' => r = .returned (.bool true) ∧ ModP (fun _ => False) W w' := by
  obtain ⟨er, os, rs⟩ := D
  simp only [] at *
  have HO := hidIt ho
  have HR := hidIt hr
  have HO' := hidIt ho'
  have HR' := hidIt hr'
  have A1 : Hid (((W.alloc (.cells (DidR.cells ⟨er, .slice a1 os.length k1, .slice a2 rs.length k2⟩) 117)).alloc (.cells (DidR.cells ⟨er, .slice b1 os.length l1, .slice b2 rs.length l2⟩) 117)).At W.heap.size (DidR.cells ⟨er, .slice a1 os.length k1, .slice a2 rs.length k2⟩) 117) := World.At.alloc World.At_alloc_new _
  have A2 : Hid (((W.alloc (.cells (DidR.cells ⟨er, .slice a1 os.length k1, .slice a2 rs.length k2⟩) 117)).alloc (.cells (DidR.cells ⟨er, .slice b1 os.length l1, .slice b2 rs.length l2⟩) 117)).At (W.heap.size + 1) (DidR.cells ⟨er, .slice b1 os.length l1, .slice b2 rs.length l2⟩) 117) := by
    have := World.At_alloc_new (w := W.alloc (.cells (DidR.cells ⟨er, .slice a1 os.length k1, .slice a2 rs.length k2⟩) 117)) (c := DidR.cells ⟨er, .slice b1 os.length l1, .slice b2 rs.length l2⟩) (T := 117)
    unfold Hid; simpa using this
  have M0 : Hid (ModP (fun _ => False) W ((W.alloc (.cells (DidR.cells ⟨er, .slice a1 os.length k1, .slice a2 rs.length k2⟩) 117)).alloc (.cells (DidR.cells ⟨er, .slice b1 os.length l1, .slice b2 rs.length l2⟩) 117))) := ((ModP.refl _ _).alloc _).alloc _
  clear ho hr ho' hr'
  go_enter Tryz.func44, Tryz.ntmps44
  go_wp2_with fail
  go_loopw [5] (fun cv u => ∃ c : Nat, c ≤ os.length ∧ cv = vi c ∧ Hid (ModP (fun _ => False) ((W.alloc (.cells (DidR.cells ⟨er, .slice a1 os.length k1, .slice a2 rs.length k2⟩) 117)).alloc (.cells (DidR.cells ⟨er, .slice b1 os.length l1, .slice b2 rs.length l2⟩) 117)) u)) (fun cv _ => os.length - (intOf cv).toNat)
  case atStart => exact ⟨0, by omega, rfl, ModP.refl _ _⟩
  case round =>
    obtain ⟨c, hc3, rfl, M⟩ := hrel
    generalize ((W.alloc (.cells (DidR.cells ⟨er, .slice a1 os.length k1, .slice a2 rs.length k2⟩) 117)).alloc (.cells (DidR.cells ⟨er, .slice b1 os.length l1, .slice b2 rs.length l2⟩) 117)) = W2 at *
    have p1 := M.out.at A1.out (fun f => f)
    have p2 := M.out.at A2.out (fun f => f)
    have hc1 := p1.cell
    have ib1 := p1.inB
    have hc2 := p2.cell
    have ib2 := p2.inB
    have nz : W.heap.size + 1 ≠ W.heap.size := by omega
    by_cases hcn : c < os.length
    · have d4 : decide (c < os.length) = true := by simpa using hcn
      have c4 : (c : Int) < os.length := by omega
      obtain ⟨⟨xt, xr⟩, hxe⟩ : ∃ x, os[c]? = some x := ⟨_, List.getElem?_eq_getElem hcn⟩
      have hx := outsC_get hxe
      simp only [] at hx
      have hne : outsC os ≠ [] := fun e => by rw [e] at hx; simp at hx
      have r1 := (HO.out.mod M0.out (fun _ _ f => f)).mod M.out (fun _ _ f => f)
      have r2 := (HO'.out.mod M0.out (fun _ _ f => f)).mod M.out (fun _ _ f => f)
      obtain ⟨_, _, e1, q1⟩ := r1
      obtain ⟨_, _, e2, q2⟩ := r2
      injection e1 with e1 e1b e1c
      injection e2 with e2 e2b e2c
      subst e1 e1c e2 e2c
      obtain ⟨g, rfl, g2, g3⟩ := q1 hne
      obtain ⟨g', rfl, g2', g3'⟩ := q2 hne
      have u1 := g3 _ _ hx.1
      have u2 := g3 _ _ hx.2
      have v1 := g3' _ _ hx.1
      have v2 := g3' _ _ hx.2
      have HC := hidIt hcn
      clear hx hxe hne q1 q2 g3 g3' p1 p2
      go_wp2_with fail
      refine Ord.region1 [] [0, 1, 2, 3, 4, 5, 6, 7, 8, 9, 10, 11, 12, 13, 14, 15, 16, 17, 18, 19, 20, 21, 22, 23, 24, 25, 26] [27] (by kernel_rfl) (by kernel_rfl) (fun _ _ d _ _ h => by cases d <;> exact h) ?_
      simp only [Ord.pickO, Ord.nth]
      refine wpQuiet_nil ?_
      repeat (go_big_quiet_step (fail))
      refine wpQuiet_nil ?_
      go_wp2_with fail
      go_roundw
      case rel => exact ⟨c + 1, by have := HC.out; omega, by go_num, M.out.drew⟩
      case measure => have := HC.out; simp [intOf]; omega
    · have d4 : decide (c < os.length) = false := by simpa using hcn
      have HP1 := hidIt p1
      have HP2 := hidIt p2
      clear hcn p1 p2
      go_wp2_with fail
      go_loopw [6] (fun cv u => ∃ c : Nat, c ≤ rs.length ∧ cv = vi c ∧ Hid (ModP (fun _ => False) wr u)) (fun cv _ => rs.length - (intOf cv).toNat)
      case atStart => exact ⟨0, by omega, rfl, ModP.refl _ _⟩
      case round =>
        clear hc1 ib1 hc2 ib2
        obtain ⟨c, hc3, rfl, M2⟩ := hrel
        have p1 := M2.out.at HP1.out (fun f => f)
        have p2 := M2.out.at HP2.out (fun f => f)
        have hc1 := p1.cell
        have ib1 := p1.inB
        have hc2 := p2.cell
        have ib2 := p2.inB
        by_cases hcn : c < rs.length
        · have d5 : decide (c < rs.length) = true := by simpa using hcn
          have c4 : (c : Int) < rs.length := by omega
          obtain ⟨⟨xc, xs, ⟨xe, xv⟩⟩, hxe⟩ : ∃ x, rs[c]? = some x := ⟨_, List.getElem?_eq_getElem hcn⟩
          have hx := repsC_get hxe
          simp only [] at hx
          have hne : repsC rs ≠ [] := fun e => by rw [e] at hx; simp at hx
          have MM := (M0.out.trans M.out).trans M2.out
          have r1 := HR.out.mod MM (fun _ _ f => f)
          have r2 := HR'.out.mod MM (fun _ _ f => f)
          obtain ⟨_, _, e1, q1⟩ := r1
          obtain ⟨_, _, e2, q2⟩ := r2
          injection e1 with e1 e1b e1c
          injection e2 with e2 e2b e2c
          subst e1 e1c e2 e2c
          obtain ⟨g, rfl, g2, g3⟩ := q1 hne
          obtain ⟨g', rfl, g2', g3'⟩ := q2 hne
          have u1 := g3 _ _ hx.1
          have u2 := g3 _ _ hx.2.1
          have u3 := g3 _ _ hx.2.2.1
          have u4 := g3 _ _ hx.2.2.2
          have v1 := g3' _ _ hx.1
          have v2 := g3' _ _ hx.2.1
          have v3 := g3' _ _ hx.2.2.1
          have v4 := g3' _ _ hx.2.2.2
          have HC := hidIt hcn
          have q92 := hidIt (fun u => c92 u ⟨xe, xv⟩ ⟨xe, xv⟩)
          clear hx hxe hne q1 q2 g3 g3' p1 p2 MM
          go_wp2_with fail
          refine Ord.region1 [] [0, 1, 2, 3, 4, 5, 6, 7, 8, 9, 10, 11, 12, 13, 14, 15, 16, 17, 18, 19, 20, 21, 22, 23, 24, 25, 26] [27] (by kernel_rfl) (by kernel_rfl) (fun _ _ d _ _ h => by cases d <;> exact h) ?_
          simp only [Ord.pickO, Ord.nth]
          refine wpQuiet_nil ?_
          repeat (go_big_quiet_step (fail))
          refine wpQuiet_nil ?_
          go_wp2_with fail
          refine Ord.region1 [] [0, 1, 2, 3, 4, 5, 6, 7, 8, 9, 10, 11] [12, 13] (by kernel_rfl) (by kernel_rfl) (fun _ _ d _ _ h => by cases d <;> exact h) ?_
          simp only [Ord.pickO, Ord.nth]
          refine wpQuiet_nil ?_
          repeat (go_big_quiet_step (fail))
          refine wpQuiet_nil ?_
          go_wp2_with (first
            | (go_at_call 92; refine (q92.out _).mono ?_; rintro _ w9 ⟨b9, rfl, hb9, m9⟩; obtain rfl := hb9.2 trivial; have M9 := hidIt m9; clear m9 hb9))
          go_roundw
          case rel => exact ⟨c + 1, by have := HC.out; omega, by go_num, (M2.out.drew.drew.trans M9.out)⟩
          case measure => have := HC.out; simp [intOf]; omega
        · have d5 : decide (c < rs.length) = false := by simpa using hcn
          clear hcn p1 p2
          go_wp2_with fail
          go_ret
          exact ⟨rfl, (M0.out.trans M.out).trans M2.out⟩
end
end Go.Proofs.Qxb6500990aGreat
