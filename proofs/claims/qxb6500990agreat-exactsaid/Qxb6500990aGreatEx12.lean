/- package towerexact: ExactUpTo, Exact, out of what one step does -/
import Derived.Test.Qxb6500990aGreatEx9
import Derived.Test.Qxb6500990aGreatEx6
import Derived.Test.Qxb6500990aGreatEx10
set_option linter.unusedVariables false
set_option linter.unusedSimpArgs false
namespace Go.Tw
open Go Go.Proofs Go.Proofs.Qxb6500990aGreat Go.RowKit
/-- an op whose numbers fit -/
structure OpWf (o : OpR) : Prop where
  a : -9223372036854775808 ≤ o.a ∧ o.a < 9223372036854775808
  b : -9223372036854775808 ≤ o.b ∧ o.b < 9223372036854775808
  c : -9223372036854775808 ≤ o.c ∧ o.c < 9223372036854775808
  t : o.t.length < 9223372036854775808
def StepOk : Prop := ∀ (B : Nat) (W : World) (bw : Nat) (own : Own) (c : Conf) (vb vo vr vv : Value) (S : Nat) (o : OpR), WI B W bw own c vb vo vr vv S → S + 1 ≤ 1073741824 → OpWf o →
  Calls Tryz.prog 6 #[vp bw, .agg o.cells] W fun r w' => r = .returned (.bool true) ∧ ∃ own' c' vb' vo' vr' vv', WI B w' bw own' c' vb' vo' vr' vv' (S + 1) ∧ ModP (fun k => B ≤ k) W w'
theorem ModP.fresh {W u : World} (m : ModP (fun k => W.heap.size ≤ k) W u) : ModP (fun _ => False) W u := ⟨m.os, m.tape, m.output, m.size, fun k hk _ => m.block k hk (fun h => by omega)⟩
def zConf : Conf := ⟨[], [], [], [], 0, 0, 0, []⟩
theorem WI.start (W : World) : WI W.heap.size (W.alloc (.cells (WorldR.cells ⟨.slice none 0 0, 0, 0, 0, [], .slice none 0 0, .slice none 0 0, .slice none 0 0, false⟩) 33)) W.heap.size (setO (fun _ => .no) W.heap.size .law) zConf (.slice none 0 0) (.slice none 0 0) (.slice none 0 0) (.slice none 0 0) 0 := by
  refine ⟨World.At_alloc_new, setO_eq, ⟨ownsRow_nil _ _ _ _, fun g hg => by cases hg⟩, ⟨ownsRow_nil _ _ _ _, fun g hg => by cases hg⟩, ⟨ownsRow_nil _ _ _ _, fun g hg => by cases hg⟩, ⟨ownsRow_nil _ _ _ _, fun g hg => by cases hg⟩, fun k hk => ?_, fun h => absurd rfl h, fun i b hb => by simp [zConf] at hb, fun i b hb => by simp [zConf] at hb, fun i b hb => by simp [zConf] at hb, fun i b hb => by simp [zConf] at hb, by simp [zConf], by omega⟩
  by_cases e : k = W.heap.size
  · subst e; simp
  · rw [setO_ne e] at hk; exact absurd rfl hk
end Go.Tw
namespace Go.Proofs.Qxb6500990aGreat
open Go Go.RowKit Go.Tw
attribute [local go_sem] World.cell?_put_same World.cell?_put_ne World.cell?_put_ne' World.frozen?_put_same World.frozen?_put_ne World.frozen?_put_ne' World.setCell_put_same World.setCell_put_ne World.setCell_put_ne' World.inB_put World.inB_alloc World.inB_drew World.inB_drewN World.inB_new World.inB_setCell World.put_drew World.put_drewN World.q_setCell_drew World.q_setCell_drewN World.q_alloc_drew World.q_alloc_drewN World.put_put_same World.put_put_2 World.size_put World.q_cell?_alloc_old World.q_frozen?_alloc_old World.cell?_alloc_new' World.frozen?_alloc_new' World.q_setCell_alloc_old World.q_setCell_alloc_new World.q_put_alloc_old World.cell?_force_same World.frozen?_force_same World.cell?_force2_fst World.cell?_force2_snd OpR.g0 OpR.s0 OpR.g1 OpR.s1 OpR.g2 OpR.s2 OpR.g3 OpR.s3 OpR.g4 OpR.s4 OpR.g5 OpR.s5
attribute [local go_sem] ba_get ba_eq ba_beq
set_option maxHeartbeats 4000000
set_option maxRecDepth 100000
section
variable {W : World} {ad : Option Addr} {cap : Nat} {ops : List OpR}
theorem c5_of (h6 : StepOk) (h : RdO W (.slice ad ops.length cap) ops.length (opsC ops)) (hl : ops.length ≤ 1073741824) (wf : ∀ o ∈ ops, OpWf o) :
    Calls Tryz.prog 5 #[.slice ad ops.length cap] W fun r w' => r = .returned (vi (-1)) ∧ ModP (fun _ => False) W w' := by
  have H := hidIt h
  have HL := hidIt hl
  have HW := hidIt wf
  have H6 := hidIt h6
  have W0 := hidIt (WI.start W)
  clear h hl wf h6
  go_enter Tryz.func5, Tryz.ntmps5
  go_wp2_with fail
  go_loopw [4] (fun cv u => ∃ i : Nat, i ≤ ops.length ∧ cv = vi i ∧ Hid (∃ own c vb vo vr vv, WI W.heap.size u W.heap.size own c vb vo vr vv i) ∧ Hid (ModP (fun k => W.heap.size ≤ k) W u)) (fun cv _ => ops.length - (intOf cv).toNat)
  case atStart => exact ⟨0, by omega, rfl, ⟨_, _, _, _, _, _, W0.out⟩, (ModP.refl _ _).alloc _⟩
  case round =>
    obtain ⟨i, hi, rfl, ⟨own, c, vb, vo, vr, vv, wi⟩, M⟩ := hrel
    have WIr := hidIt wi
    clear wi
    by_cases hin : i < ops.length
    · have d1 : decide (i < ops.length) = true := by simpa using hin
      have c4 : (i : Int) < ops.length := by omega
      obtain ⟨⟨ok, oa, ob, oc, os, ot⟩, hxe⟩ : ∃ x, ops[i]? = some x := ⟨_, List.getElem?_eq_getElem hin⟩
      have hx := flat_get (fun o : OpR => o.cells.toList) 6 (fun _ => rfl) ops i _ hxe
      have hne : opsC ops ≠ [] := fun e => by have := hx 0 (by omega); unfold opsC at e; rw [e] at this; cases this
      have r1 := H.out.mod (ModP.fresh M.out)
      obtain ⟨_, _, e1, q1⟩ := r1
      injection e1 with e1 e1b e1c
      subst e1 e1c
      obtain ⟨g, so, rfl, g2, g3⟩ := q1 hne
      have u0 : wr.cell? ⟨g, so + i * 6, none⟩ = some (vi ok) := g3 (i * 6) _ (hx 0 (by omega))
      have u1 : wr.cell? ⟨g, so + i * 6 + 1, none⟩ = some (vi oa) := by rw [Nat.add_assoc]; exact g3 (i * 6 + 1) _ (hx 1 (by omega))
      have u2 : wr.cell? ⟨g, so + i * 6 + 2, none⟩ = some (vi ob) := by rw [Nat.add_assoc]; exact g3 (i * 6 + 2) _ (hx 2 (by omega))
      have u3 : wr.cell? ⟨g, so + i * 6 + 3, none⟩ = some (vi oc) := by rw [Nat.add_assoc]; exact g3 (i * 6 + 3) _ (hx 3 (by omega))
      have u4 : wr.cell? ⟨g, so + i * 6 + 4, none⟩ = some (vs os) := by rw [Nat.add_assoc]; exact g3 (i * 6 + 4) _ (hx 4 (by omega))
      have u5 : wr.cell? ⟨g, so + i * 6 + 5, none⟩ = some (vs ot) := by rw [Nat.add_assoc]; exact g3 (i * 6 + 5) _ (hx 5 (by omega))
      have q6 := hidIt (H6.out _ _ _ _ _ _ _ _ _ _ ⟨ok, oa, ob, oc, os, ot⟩ WIr.out (by have := HL.out; omega) (HW.out _ (List.mem_of_getElem? hxe)))
      have HIN := hidIt hin
      clear hx hxe hne q1 g3
      go_wp2_with (first
        | (go_at_call 6; refine q6.out.mono ?_; rintro _ w2 ⟨rfl, own2, c2, vb2, vo2, vr2, vv2, wi2, m2⟩; have WI2 := hidIt wi2; have M2 := hidIt (M.out.trans m2); clear wi2 m2)
        | (go_at_call 7; refine (c7 WI2.out).mono ?_; rintro _ w3 ⟨rfl, m3⟩; have M3 := hidIt m3; clear m3))
      go_roundw
      case rel => exact ⟨i + 1, by have := HIN.out; omega, by rw [w64i HIN.out HL.out]; rfl, ⟨_, _, _, _, _, _, WI2.out.frame M3.out⟩, M2.out.step M3.out (fun _ f => f.elim)⟩
      case measure => have := HIN.out; rw [w64i HIN.out HL.out]; simp [intOf]; omega
    · have d1 : decide (i < ops.length) = false := by simpa using hin
      clear hin
      go_wp2_with fail
      go_ret
      exact ⟨rfl, ModP.fresh M.out⟩
theorem c3_of (h6 : StepOk) (h : RdO W (.slice ad ops.length cap) ops.length (opsC ops)) (wf : ∀ o ∈ ops, OpWf o) :
    Calls Tryz.prog 3 #[.slice ad ops.length cap] W fun r w' => r = .returned (.bool true) ∧ ModP (fun _ => False) W w' := by
  have q4 := hidIt (c4 h)
  have q5 := hidIt (fun w' (e : ModP (fun _ => False) W w') (hl : ops.length ≤ 1073741824) => c5_of h6 (h.mod e) hl wf)
  clear h wf h6
  go_enter Tryz.func3, Tryz.ntmps3
  go_wp2_with (first
    | (go_at_call 4; refine q4.out.mono ?_; rintro _ w1 ⟨b, rfl, hb, m1⟩; have M1 := hidIt m1; have hb' : b = false ∨ (b = true ∧ SmallOk ops) := (by cases b; exact .inl rfl; exact .inr ⟨rfl, hb rfl⟩); clear m1 hb; rcases hb' with rfl | ⟨rfl, hs⟩)
    | (go_at_call 5; refine (q5.out _ M1.out hs).mono ?_; rintro _ w2 ⟨rfl, m2⟩; have M2 := hidIt m2; clear m2))
  · go_ret
    exact ⟨rfl, M1.out⟩
  · go_ret
    exact ⟨rfl, M1.out.trans M2.out⟩
end
end Go.Proofs.Qxb6500990aGreat
