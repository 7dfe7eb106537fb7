/- package nodelaw: SplitBar -/
import Derived.Test.Qxb6500990aGreatNod6
set_option linter.unusedVariables false
set_option linter.unusedSimpArgs false
namespace Go.Tw
open Go Go.Proofs Go.Proofs.Qxb6500990aGreat Go.RowKit
def splitFrom (l : Bs) : Nat → Nat → Bs × Bs
  | 0, _ => (l, [])
  | k + 1, c => if l.getD c 0 = 124 then (l.take c, l.drop (c + 1)) else splitFrom l k (c + 1)
def splitBar (l : Bs) : Bs × Bs := splitFrom l l.length 0
end Go.Tw
namespace Go.Proofs.Qxb6500990aGreat
open Go Go.RowKit Go.Tw
attribute [local go_sem] ba_get ByteArray.extract_mk ba_eq ba_beq upd_same upd_upd
set_option maxHeartbeats 4000000
set_option maxRecDepth 100000
section
variable {W w : World}
theorem c136 (W : World) (l : Bs) (hl : l.length < 9223372036854775808) : Calls Tryz.prog 136 #[vs l] W fun r w' => r = .returned (.tuple #[vs (splitBar l).1, vs (splitBar l).2]) ∧ Dr W w' := by
  have HL := hidIt hl
  clear hl
  go_enter Tryz.func136, Tryz.ntmps136
  go_wp2_with fail
  go_loopw [4] (fun cv u => ∃ c : Nat, c ≤ l.length ∧ cv = vi c ∧ u = W ∧ Hid (splitFrom l (l.length - c) c = splitBar l)) (fun cv _ => l.length - (intOf cv).toNat)
  case atStart => exact ⟨0, by omega, rfl, rfl, rfl⟩
  case round =>
    obtain ⟨c, hc3, rfl, rfl, HE⟩ := hrel
    by_cases hcn : c < l.length
    · have hw : Hid (wrap64 ((c : Int) + 1) = (c : Int) + 1) := by have := HL.out; unfold Hid wrap64; omega
      have c4 : (c : Int) < l.length := by omega
      have d4 : decide (c < l.length) = true := by simpa using hcn
      have hs : Hid (splitBar l = if l.getD c 0 = 124 then (l.take c, l.drop (c + 1)) else splitFrom l (l.length - (c + 1)) (c + 1)) := by
        unfold Hid; rw [← HE.out, show l.length - c = (l.length - (c + 1)) + 1 by omega]; rfl
      have hg : l.getD c 0 = l[c] := by simp [List.getD, hcn]
      by_cases hb : l[c] = 124
      · have db : (((l[c]).toNat : Int) == 124) = true := by rw [hb]; rfl
        have HB := hidIt hb
        clear hb
        obtain ⟨c1, hc1⟩ : ∃ c1 : Nat, c1 = c + 1 := ⟨_, rfl⟩
        have e1 : (c : Int) + 1 = c1 := by omega
        have e2 : (c1 : Int) ≤ l.length := by omega
        have hw1 : wrap64 (c1 : Int) = (c1 : Int) := by have := HL.out; unfold wrap64; omega
        have H1 := hidIt hc1
        have HG := hidIt hg
        clear hc1 hg
        go_wp2_with fail
        refine Ord.region1 [] [0, 1, 2, 3, 4, 5, 6, 7] [8] (by kernel_rfl) (by kernel_rfl) (fun _ _ d _ _ h => by cases d <;> exact h) ?_
        simp only [Ord.pickO, Ord.nth]
        refine wpQuiet_nil ?_
        repeat (go_big_quiet_step (fail))
        refine wpQuiet_nil ?_
        go_wp2_with fail
        go_ret2
        refine ⟨?_, (Dr.refl _).drew⟩
        have hs1 := hs.out
        rw [if_pos (by rw [HG.out]; exact HB.out)] at hs1
        rw [hs1]
        simp [H1.out]
        exact List.take_of_length_le (by simp)
      · have db : (((l[c]).toNat : Int) == 124) = false := by
          have h2 : (l[c]).toNat ≠ 124 := fun h => hb (UInt8.toNat_inj.1 (by rw [h]; rfl))
          simp; omega
        have HB := hidIt hb
        have HG := hidIt hg
        clear hb hg
        go_wp2_with fail
        go_roundw
        case rel =>
          have hl9 := HL.out
          refine ⟨c + 1, by omega, by rw [hw.out]; rfl, trivial, ?_⟩
          unfold Hid
          rw [hs.out, if_neg (by rw [HG.out]; exact HB.out)]
        case measure => rw [hw.out]; simp [intOf]; omega
    · have d4 : decide (c < l.length) = false := by simpa using hcn
      have HN := hidIt hcn
      clear hcn
      go_wp2_with fail
      go_ret2
      refine ⟨?_, Dr.refl _⟩
      rw [← HE.out, show l.length - c = 0 by have := HN.out; omega]
      rfl
end
end Go.Proofs.Qxb6500990aGreat
namespace Go.Tw
open Go Go.Proofs Go.Proofs.Qxb6500990aGreat Go.RowKit
def cmdOf (o : OpR) : Cmd := if o.a = 1 then ⟨o.a, o.b, o.c, o.s, o.t, []⟩ else ⟨o.a, o.b, o.c, o.s, (splitBar o.t).2, (splitBar o.t).1⟩
end Go.Tw
namespace Go.Proofs.Qxb6500990aGreat
open Go Go.RowKit Go.Tw
attribute [local go_sem] World.cell?_put_same World.cell?_put_ne World.cell?_put_ne' World.frozen?_put_same World.frozen?_put_ne World.frozen?_put_ne' World.setCell_put_same World.setCell_put_ne World.setCell_put_ne' World.inB_put World.inB_alloc World.inB_drew World.inB_drewN World.inB_new World.inB_setCell World.put_drew World.put_drewN World.q_setCell_drew World.q_setCell_drewN World.q_alloc_drew World.q_alloc_drewN World.put_put_same World.put_put_2 World.size_put World.q_cell?_alloc_old World.q_frozen?_alloc_old World.cell?_alloc_new' World.frozen?_alloc_new' World.q_setCell_alloc_old World.q_setCell_alloc_new World.q_put_alloc_old World.cell?_force_same World.frozen?_force_same World.cell?_force2_fst World.cell?_force2_snd OpR.g0 OpR.s0 OpR.g1 OpR.s1 OpR.g2 OpR.s2 OpR.g3 OpR.s3 OpR.g4 OpR.s4 OpR.g5 OpR.s5 Cmd.g0 Cmd.s0 Cmd.g1 Cmd.s1 Cmd.g2 Cmd.s2 Cmd.g3 Cmd.s3 Cmd.g4 Cmd.s4 Cmd.g5 Cmd.s5
attribute [local go_sem] ba_get ba_eq ba_beq
set_option maxHeartbeats 4000000
set_option maxRecDepth 100000
theorem c89 (W : World) (o : OpR) (hl : o.t.length < 9223372036854775808) : Calls Tryz.prog 89 #[.agg o.cells] W fun r w' => r = .returned (.agg (cmdOf o).cells) ∧ ModP (fun _ => False) W w' := by
  obtain ⟨k, a, b, c, s, t⟩ := o
  have hS := hidIt (fun w => c136 w t hl)
  clear hl
  unfold cmdOf
  by_cases ha : a = 1
  · subst ha
    rw [if_pos rfl]
    go_enter Tryz.func89, Tryz.ntmps89
    go_wp2_with fail
    refine bodyPost_ret (v := .agg (Cmd.cells ⟨1, b, c, s, t, []⟩)) (by simp [results, Tryz.results89, go_sem, Cmd.cells]) rfl ?_
    exact ⟨rfl, ((((ModP.refl _ _).alloc _).alloc _).alloc _)⟩
  · rw [if_neg ha]
    have da : (a == 1) = false := by simpa using ha
    generalize (splitBar t).1 = x at *
    generalize (splitBar t).2 = y at *
    clear ha
    go_enter Tryz.func89, Tryz.ntmps89
    go_wp2_with (first
      | (go_at_call 136; refine (hS.out _).mono ?_; rintro _ w1 ⟨rfl, ⟨dn, rfl⟩⟩))
    refine bodyPost_ret (v := .agg (Cmd.cells ⟨a, b, c, s, y, x⟩)) (by simp [results, Tryz.results89, go_sem, Cmd.cells]) rfl ?_
    exact ⟨rfl, ((((ModP.refl _ _).alloc _).alloc _).alloc _).drewN _⟩
end Go.Proofs.Qxb6500990aGreat
