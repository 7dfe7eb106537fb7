/- package towerexact: small -/
import Derived.Test.Qxb6500990aGreatFl
set_option linter.unusedVariables false
set_option linter.unusedSimpArgs false
namespace Go.Tw
open Go Go.Proofs Go.Proofs.Qxb6500990aGreat Go.RowKit
def opsC (ops : List OpR) : List Value := ops.flatMap fun o => o.cells.toList
/-- what small has looked for -/
def SmallOk (ops : List OpR) : Prop := ops.length ≤ 1073741824
/-- a row that came in: it may begin anywhere in its block -/
def RdO (w : World) (v : Value) (m : Nat) (xs : List Value) : Prop := ∃ a c, v = .slice a m c ∧ (xs ≠ [] → ∃ g so, a = some ⟨g, so, none⟩ ∧ w.inB g ∧ ∀ k u, xs[k]? = some u → w.cell? ⟨g, so + k, none⟩ = some u)
theorem RdO.mod {w w1 : World} {v : Value} {m : Nat} {xs : List Value} (h : RdO w v m xs) (e : ModP (fun _ => False) w w1) : RdO w1 v m xs := by
  obtain ⟨a, c, h1, h2⟩ := h
  refine ⟨a, c, h1, fun hx => ?_⟩
  obtain ⟨g, so, g1, g2, g3⟩ := h2 hx
  exact ⟨g, so, g1, e.inB g2, fun k u hu => by rw [e.cell g2 (fun f => f)]; exact g3 k u hu⟩
end Go.Tw
namespace Go.Proofs.Qxb6500990aGreat
open Go Go.RowKit Go.Tw
attribute [local go_sem] World.cell?_put_same World.cell?_put_ne World.cell?_put_ne' World.frozen?_put_same World.frozen?_put_ne World.frozen?_put_ne' World.setCell_put_same World.setCell_put_ne World.setCell_put_ne' World.inB_put World.inB_alloc World.inB_drew World.inB_drewN World.inB_new World.inB_setCell World.put_drew World.put_drewN World.q_setCell_drew World.q_setCell_drewN World.q_alloc_drew World.q_alloc_drewN World.put_put_same World.put_put_2 World.size_put World.q_cell?_alloc_old World.q_frozen?_alloc_old World.cell?_alloc_new' World.frozen?_alloc_new' World.q_setCell_alloc_old World.q_setCell_alloc_new World.q_put_alloc_old World.cell?_force_same World.frozen?_force_same World.cell?_force2_fst World.cell?_force2_snd OpR.g0 OpR.s0 OpR.g1 OpR.s1 OpR.g2 OpR.s2 OpR.g3 OpR.s3 OpR.g4 OpR.s4 OpR.g5 OpR.s5
attribute [local go_sem] ba_get ba_eq ba_beq
set_option maxHeartbeats 4000000
set_option maxRecDepth 100000
section
variable {W : World} {ad : Option Addr} {cap : Nat} {ops : List OpR}
theorem c4 (h : RdO W (.slice ad ops.length cap) ops.length (opsC ops)) :
    Calls Tryz.prog 4 #[.slice ad ops.length cap] W fun r w' => ∃ b, r = .returned (.bool b) ∧ (b = true → SmallOk ops) ∧ ModP (fun _ => False) W w' := by
  generalize hP : (fun (r : Ending) (w' : World) => ∃ b, r = .returned (.bool b) ∧ (b = true → SmallOk ops) ∧ ModP (fun _ => False) W w') = P
  have HN : Hid (∀ w', ModP (fun _ => False) W w' → P (.returned (.bool false)) w') := by subst hP; exact fun w' b => ⟨false, rfl, fun e => absurd e (by simp), b⟩
  have HY : Hid (∀ w', SmallOk ops → ModP (fun _ => False) W w' → P (.returned (.bool true)) w') := by subst hP; exact fun w' a b => ⟨true, rfl, fun _ => a, b⟩
  clear hP
  have H := hidIt h
  clear h
  by_cases hl : ops.length ≤ 1073741824
  · have d0 : decide ((1073741824 : Int) < ops.length) = false := by simp; omega
    have HL := hidIt hl
    clear hl
    go_enter Tryz.func4, Tryz.ntmps4
    go_wp2_with fail
    go_loopw [3, 4] (fun nv cv u => ∃ (m : Int) (i : Nat), nv = vi m ∧ cv = vi i ∧ i ≤ ops.length ∧ Hid (ModP (fun _ => False) W u)) (fun _ cv _ => ops.length - (intOf cv).toNat)
    case atStart => exact ⟨ops.length, 0, rfl, rfl, by omega, ModP.refl _ _⟩
    case round =>
      obtain ⟨m, i, rfl, rfl, hi, M⟩ := hrel
      by_cases hin : i < ops.length
      · have d1 : decide (i < ops.length) = true := by simpa using hin
        have c4 : (i : Int) < ops.length := by omega
        obtain ⟨⟨ok, oa, ob, oc, os, ot⟩, hxe⟩ : ∃ x, ops[i]? = some x := ⟨_, List.getElem?_eq_getElem hin⟩
        have hx := flat_get (fun o : OpR => o.cells.toList) 6 (fun _ => rfl) ops i _ hxe
        have hne : opsC ops ≠ [] := fun e => by have := hx 0 (by omega); unfold opsC at e; rw [e] at this; cases this
        have r1 := H.out.mod M.out
        obtain ⟨_, _, e1, q1⟩ := r1
        injection e1 with e1 e1b e1c
        subst e1 e1c
        obtain ⟨g, so, rfl, g2, g3⟩ := q1 hne
        have u4 : wr.cell? ⟨g, so + i * 6 + 4, none⟩ = some (vs os) := by rw [Nat.add_assoc]; exact g3 (i * 6 + 4) _ (hx 4 (by omega))
        have u5 : wr.cell? ⟨g, so + i * 6 + 5, none⟩ = some (vs ot) := by rw [Nat.add_assoc]; exact g3 (i * 6 + 5) _ (hx 5 (by omega))
        have HIN := hidIt hin
        clear hx hxe hne q1 g3
        go_wp2_with fail
        refine Ord.region1 [] [0, 1, 2, 3, 4, 5, 6, 7, 8, 9, 10, 11, 12, 13, 14] [15] (by kernel_rfl) (by kernel_rfl) (fun _ _ d _ _ h => by cases d <;> exact h) ?_
        simp only [Ord.pickO, Ord.nth]
        refine wpQuiet_nil ?_
        repeat (go_big_quiet_step (fail))
        refine wpQuiet_nil ?_
        go_wp2_with fail
        · exact HN.out _ M.out.drew
        · go_roundw
          case rel => exact ⟨_, i + 1, rfl, by have := HL.out; have := HIN.out; rw [show wrap64 ((i : Int) + 1) = (i : Int) + 1 by unfold wrap64; omega]; rfl, by have := HIN.out; omega, M.out.drew⟩
          case measure => have := HL.out; have := HIN.out; rw [show wrap64 ((i : Int) + 1) = (i : Int) + 1 by unfold wrap64; omega]; simp [intOf]; omega
      · have d1 : decide (i < ops.length) = false := by simpa using hin
        have HIN := hidIt hin
        clear hin
        go_wp2_with fail
        exact HY.out _ HL.out M.out
  · have d0 : decide ((1073741824 : Int) < ops.length) = true := by simp; omega
    clear hl
    go_enter Tryz.func4, Tryz.ntmps4
    go_wp2_with fail
    exact HN.out _ (ModP.refl _ _)
end
end Go.Proofs.Qxb6500990aGreat
