/- package towerexact: play, the looks; play whole -/
import Derived.Test.Qxb6500990aGreatEx30
import Derived.Test.Qxb6500990aGreatEx31
set_option linter.unusedVariables false
set_option linter.unusedSimpArgs false
namespace Go.Proofs.Qxb6500990aGreat
open Go Go.RowKit Go.Tw
attribute [local go_sem] World.cell?_put_same World.cell?_put_ne World.cell?_put_ne' World.frozen?_put_same World.frozen?_put_ne World.frozen?_put_ne' World.setCell_put_same World.setCell_put_ne World.setCell_put_ne' World.inB_put World.inB_alloc World.inB_drew World.inB_drewN World.inB_new World.inB_setCell World.put_drew World.put_drewN World.q_setCell_drew World.q_setCell_drewN World.q_alloc_drew World.q_alloc_drewN World.put_put_same World.put_put_2 World.size_put World.q_cell?_alloc_old World.q_frozen?_alloc_old World.cell?_alloc_new' World.frozen?_alloc_new' World.q_setCell_alloc_old World.q_setCell_alloc_new World.q_put_alloc_old World.cell?_force_same World.frozen?_force_same World.cell?_force2_fst World.cell?_force2_snd OpR.g0 OpR.s0 OpR.g1 OpR.s1 OpR.g2 OpR.s2 OpR.g3 OpR.s3 OpR.g4 OpR.s4 OpR.g5 OpR.s5
attribute [local go_sem] ba_get ba_eq ba_beq
set_option maxHeartbeats 4000000
set_option maxRecDepth 100000
section
variable {B bw S i g : Nat} {W : World} {own : Own} {c : Conf} {b : BC} {vb vo vr vv : Value}
theorem c17_view (h : WI B W bw own c vb vo vr vv S) (hz : S + 1 ≤ 1073741824) (hb : c.bs[i]? = some b) (hg : vb.ownBlock = some g) (o : OpR) (hk : o.kind = 21) :
    Calls Tryz.prog 17 #[vp bw, .pointer (some ⟨g, i * 4, none⟩), .agg o.cells] W (PlayR B W bw i b vb S) := by
  obtain ⟨k, oa, ob, oc, os, ot⟩ := o
  simp only [] at hk
  subst hk
  have m0 : ModP (fun _ => False) W (W.alloc (.cells (OpR.cells ⟨21, oa, ob, oc, os, ot⟩) 26)) := (ModP.refl _ _).alloc _
  have q48 := hidIt (c48 (h.frame m0) hz hb hg)
  have HB := hidIt hb
  have M0 := hidIt m0
  clear h hz hb hg m0
  go_enter Tryz.func17, Tryz.ntmps17
  go_wp2_with (first
    | (go_at_call 48; refine q48.out.mono ?_; rintro _ w1 ⟨rfl, q1⟩; have Q1 := hidIt q1; clear q1))
  go_ret
  obtain ⟨own', c', vv', wi, eb, ek, m⟩ := Q1.out
  exact ⟨rfl, own', c', _, _, vv', b, wi, by rw [eb]; exact HB.out, rfl, rfl, (M0.out.mono fun _ f => f.elim).trans m⟩
theorem c17_look6 (h : WI B W bw own c vb vo vr vv S) (hz : S + 1 ≤ 1073741824) (hb : c.bs[i]? = some b) (hg : vb.ownBlock = some g) (o : OpR) (hk : o.kind = 6) :
    Calls Tryz.prog 17 #[vp bw, .pointer (some ⟨g, i * 4, none⟩), .agg o.cells] W (PlayR B W bw i b vb S) := by
  obtain ⟨k, oa, ob, oc, os, ot⟩ := o
  simp only [] at hk
  subst hk
  have hlt := (List.getElem?_eq_some_iff.1 hb).1
  obtain ⟨g', capb, cur, hv, ac, hcur⟩ := row_arr h.rb.1 (by omega)
  have hgg : g' = g := by rw [hv] at hg; simpa [Value.ownBlock] using hg
  subst hgg
  have hx := flat_get BC.cells 4 (fun _ => rfl) c.bs i b hb
  have k2 : cur[i * 4 + 2]? = some (vp b.q.b) := hcur _ _ (hx 2 (by omega))
  have k3 : cur[i * 4 + 3]? = some (vp b.p.b) := hcur _ _ (hx 3 (by omega))
  have m0 : ModP (fun _ => False) W (W.alloc (.cells (OpR.cells ⟨6, oa, ob, oc, os, ot⟩) 26)) := (ModP.refl _ _).alloc _
  have bo := h.bs i b hb
  have tw : Two W b.q b.p b.n b.n := by
    obtain ⟨⟨G, R, hr, _⟩, ⟨G2, hm, _⟩, gd, _⟩ := bo
    exact ⟨⟨G, R, hr⟩, ⟨G2, hm⟩, gd.ok, gd.ok⟩
  have q49 : Hid (∀ u, ModP (fun _ => False) W u → Calls Tryz.prog 49 #[vp b.q.b, vp b.p.b, .agg (OpR.cells ⟨6, oa, ob, oc, os, ot⟩)] u fun r w' => r = .returned (.bool true) ∧ ModP (fun _ => False) u w') := fun u m => c49 (tw.fr m) bo.gd.inn ⟨6, oa, ob, oc, os, ot⟩ (by simp)
  have HB := hidIt hb
  have M0 := hidIt m0
  have H := hidIt h
  have HZ := hidIt hz
  have hcg := ac.cell
  have icg := ac.inB
  generalize b.q.b = qb at *
  generalize b.p.b = pb at *
  clear h hz hb hg m0 hlt hv ac hcur hx bo tw
  go_enter Tryz.func17, Tryz.ntmps17
  go_upto_region 26 with fail
  refine Ord.region3 (fun _ => True) [] [0, 1, 2, 3, 4, 5, 6, 7, 8] (.one 9 false (.val 10 .fin)) true (fun _ _ => trivial) (by kernel_rfl) (by kernel_rfl) (fun _ _ d _ _ h => by cases d <;> exact h) trivial ?_
  simp only [Ord.pickO, Ord.nth]
  refine wpQuiet_nil ?_
  repeat (go_big_quiet_step (fail))
  refine wpQuiet_nil ?_
  -- steps: ['N9', 'V10']
  refine Ord.wpS_next rfl ?_
  intro K hK
  dsimp only [Ord.nth]
  go_wp2_with (first
    | (go_at_call 49; refine (q49.out _ M0.out.drew).mono ?_; rintro _ w1 ⟨rfl, m1⟩; have M1 := hidIt (M0.out.drew.trans m1); clear m1))
  refine Ord.wpS_val rfl ?_
  dsimp only [Ord.nth]
  go_big_quiet_step (fail)
  refine wpQuiet_nil ?_
  refine Ord.wpS_fin ?_
  go_wp2_with fail
  go_ret
  exact ⟨rfl, own, c, _, _, _, b, (H.out.frame M1.out).up (by omega) HZ.out, HB.out, rfl, rfl, M1.out.mono fun _ f => f.elim⟩
theorem c17_look7 (h : WI B W bw own c vb vo vr vv S) (hz : S + 1 ≤ 1073741824) (hb : c.bs[i]? = some b) (hg : vb.ownBlock = some g) (o : OpR) (hk : o.kind = 7) :
    Calls Tryz.prog 17 #[vp bw, .pointer (some ⟨g, i * 4, none⟩), .agg o.cells] W (PlayR B W bw i b vb S) := by
  obtain ⟨k, oa, ob, oc, os, ot⟩ := o
  simp only [] at hk
  subst hk
  have hlt := (List.getElem?_eq_some_iff.1 hb).1
  obtain ⟨g', capb, cur, hv, ac, hcur⟩ := row_arr h.rb.1 (by omega)
  have hgg : g' = g := by rw [hv] at hg; simpa [Value.ownBlock] using hg
  subst hgg
  have hx := flat_get BC.cells 4 (fun _ => rfl) c.bs i b hb
  have k2 : cur[i * 4 + 2]? = some (vp b.q.b) := hcur _ _ (hx 2 (by omega))
  have k3 : cur[i * 4 + 3]? = some (vp b.p.b) := hcur _ _ (hx 3 (by omega))
  have m0 : ModP (fun _ => False) W (W.alloc (.cells (OpR.cells ⟨7, oa, ob, oc, os, ot⟩) 26)) := (ModP.refl _ _).alloc _
  have bo := h.bs i b hb
  have tw : Two W b.q b.p b.n b.n := by
    obtain ⟨⟨G, R, hr, _⟩, ⟨G2, hm, _⟩, gd, _⟩ := bo
    exact ⟨⟨G, R, hr⟩, ⟨G2, hm⟩, gd.ok, gd.ok⟩
  have q49 : Hid (∀ u, ModP (fun _ => False) W u → Calls Tryz.prog 49 #[vp b.q.b, vp b.p.b, .agg (OpR.cells ⟨7, oa, ob, oc, os, ot⟩)] u fun r w' => r = .returned (.bool true) ∧ ModP (fun _ => False) u w') := fun u m => c49 (tw.fr m) bo.gd.inn ⟨7, oa, ob, oc, os, ot⟩ (by simp)
  have HB := hidIt hb
  have M0 := hidIt m0
  have H := hidIt h
  have HZ := hidIt hz
  have hcg := ac.cell
  have icg := ac.inB
  generalize b.q.b = qb at *
  generalize b.p.b = pb at *
  clear h hz hb hg m0 hlt hv ac hcur hx bo tw
  go_enter Tryz.func17, Tryz.ntmps17
  go_upto_region 26 with fail
  refine Ord.region3 (fun _ => True) [] [0, 1, 2, 3, 4, 5, 6, 7, 8] (.one 9 false (.val 10 .fin)) true (fun _ _ => trivial) (by kernel_rfl) (by kernel_rfl) (fun _ _ d _ _ h => by cases d <;> exact h) trivial ?_
  simp only [Ord.pickO, Ord.nth]
  refine wpQuiet_nil ?_
  repeat (go_big_quiet_step (fail))
  refine wpQuiet_nil ?_
  -- steps: ['N9', 'V10']
  refine Ord.wpS_next rfl ?_
  intro K hK
  dsimp only [Ord.nth]
  go_wp2_with (first
    | (go_at_call 49; refine (q49.out _ M0.out.drew).mono ?_; rintro _ w1 ⟨rfl, m1⟩; have M1 := hidIt (M0.out.drew.trans m1); clear m1))
  refine Ord.wpS_val rfl ?_
  dsimp only [Ord.nth]
  go_big_quiet_step (fail)
  refine wpQuiet_nil ?_
  refine Ord.wpS_fin ?_
  go_wp2_with fail
  go_ret
  exact ⟨rfl, own, c, _, _, _, b, (H.out.frame M1.out).up (by omega) HZ.out, HB.out, rfl, rfl, M1.out.mono fun _ f => f.elim⟩
theorem c17_look8 (h : WI B W bw own c vb vo vr vv S) (hz : S + 1 ≤ 1073741824) (hb : c.bs[i]? = some b) (hg : vb.ownBlock = some g) (o : OpR) (hk : o.kind = 8) :
    Calls Tryz.prog 17 #[vp bw, .pointer (some ⟨g, i * 4, none⟩), .agg o.cells] W (PlayR B W bw i b vb S) := by
  obtain ⟨k, oa, ob, oc, os, ot⟩ := o
  simp only [] at hk
  subst hk
  have hlt := (List.getElem?_eq_some_iff.1 hb).1
  obtain ⟨g', capb, cur, hv, ac, hcur⟩ := row_arr h.rb.1 (by omega)
  have hgg : g' = g := by rw [hv] at hg; simpa [Value.ownBlock] using hg
  subst hgg
  have hx := flat_get BC.cells 4 (fun _ => rfl) c.bs i b hb
  have k2 : cur[i * 4 + 2]? = some (vp b.q.b) := hcur _ _ (hx 2 (by omega))
  have k3 : cur[i * 4 + 3]? = some (vp b.p.b) := hcur _ _ (hx 3 (by omega))
  have m0 : ModP (fun _ => False) W (W.alloc (.cells (OpR.cells ⟨8, oa, ob, oc, os, ot⟩) 26)) := (ModP.refl _ _).alloc _
  have bo := h.bs i b hb
  have tw : Two W b.q b.p b.n b.n := by
    obtain ⟨⟨G, R, hr, _⟩, ⟨G2, hm, _⟩, gd, _⟩ := bo
    exact ⟨⟨G, R, hr⟩, ⟨G2, hm⟩, gd.ok, gd.ok⟩
  have q49 : Hid (∀ u, ModP (fun _ => False) W u → Calls Tryz.prog 49 #[vp b.q.b, vp b.p.b, .agg (OpR.cells ⟨8, oa, ob, oc, os, ot⟩)] u fun r w' => r = .returned (.bool true) ∧ ModP (fun _ => False) u w') := fun u m => c49 (tw.fr m) bo.gd.inn ⟨8, oa, ob, oc, os, ot⟩ (by simp)
  have HB := hidIt hb
  have M0 := hidIt m0
  have H := hidIt h
  have HZ := hidIt hz
  have hcg := ac.cell
  have icg := ac.inB
  generalize b.q.b = qb at *
  generalize b.p.b = pb at *
  clear h hz hb hg m0 hlt hv ac hcur hx bo tw
  go_enter Tryz.func17, Tryz.ntmps17
  go_upto_region 26 with fail
  refine Ord.region3 (fun _ => True) [] [0, 1, 2, 3, 4, 5, 6, 7, 8] (.one 9 false (.val 10 .fin)) true (fun _ _ => trivial) (by kernel_rfl) (by kernel_rfl) (fun _ _ d _ _ h => by cases d <;> exact h) trivial ?_
  simp only [Ord.pickO, Ord.nth]
  refine wpQuiet_nil ?_
  repeat (go_big_quiet_step (fail))
  refine wpQuiet_nil ?_
  -- steps: ['N9', 'V10']
  refine Ord.wpS_next rfl ?_
  intro K hK
  dsimp only [Ord.nth]
  go_wp2_with (first
    | (go_at_call 49; refine (q49.out _ M0.out.drew).mono ?_; rintro _ w1 ⟨rfl, m1⟩; have M1 := hidIt (M0.out.drew.trans m1); clear m1))
  refine Ord.wpS_val rfl ?_
  dsimp only [Ord.nth]
  go_big_quiet_step (fail)
  refine wpQuiet_nil ?_
  refine Ord.wpS_fin ?_
  go_wp2_with fail
  go_ret
  exact ⟨rfl, own, c, _, _, _, b, (H.out.frame M1.out).up (by omega) HZ.out, HB.out, rfl, rfl, M1.out.mono fun _ f => f.elim⟩
theorem c17_look22 (h : WI B W bw own c vb vo vr vv S) (hz : S + 1 ≤ 1073741824) (hb : c.bs[i]? = some b) (hg : vb.ownBlock = some g) (o : OpR) (hk : o.kind = 22) :
    Calls Tryz.prog 17 #[vp bw, .pointer (some ⟨g, i * 4, none⟩), .agg o.cells] W (PlayR B W bw i b vb S) := by
  obtain ⟨k, oa, ob, oc, os, ot⟩ := o
  simp only [] at hk
  subst hk
  have hlt := (List.getElem?_eq_some_iff.1 hb).1
  obtain ⟨g', capb, cur, hv, ac, hcur⟩ := row_arr h.rb.1 (by omega)
  have hgg : g' = g := by rw [hv] at hg; simpa [Value.ownBlock] using hg
  subst hgg
  have hx := flat_get BC.cells 4 (fun _ => rfl) c.bs i b hb
  have k2 : cur[i * 4 + 2]? = some (vp b.q.b) := hcur _ _ (hx 2 (by omega))
  have k3 : cur[i * 4 + 3]? = some (vp b.p.b) := hcur _ _ (hx 3 (by omega))
  have m0 : ModP (fun _ => False) W (W.alloc (.cells (OpR.cells ⟨22, oa, ob, oc, os, ot⟩) 26)) := (ModP.refl _ _).alloc _
  have bo := h.bs i b hb
  have tw : Two W b.q b.p b.n b.n := by
    obtain ⟨⟨G, R, hr, _⟩, ⟨G2, hm, _⟩, gd, _⟩ := bo
    exact ⟨⟨G, R, hr⟩, ⟨G2, hm⟩, gd.ok, gd.ok⟩
  have q49 : Hid (∀ u, ModP (fun _ => False) W u → Calls Tryz.prog 49 #[vp b.q.b, vp b.p.b, .agg (OpR.cells ⟨22, oa, ob, oc, os, ot⟩)] u fun r w' => r = .returned (.bool true) ∧ ModP (fun _ => False) u w') := fun u m => c49 (tw.fr m) bo.gd.inn ⟨22, oa, ob, oc, os, ot⟩ (by simp)
  have HB := hidIt hb
  have M0 := hidIt m0
  have H := hidIt h
  have HZ := hidIt hz
  have hcg := ac.cell
  have icg := ac.inB
  generalize b.q.b = qb at *
  generalize b.p.b = pb at *
  clear h hz hb hg m0 hlt hv ac hcur hx bo tw
  go_enter Tryz.func17, Tryz.ntmps17
  go_upto_region 26 with fail
  refine Ord.region3 (fun _ => True) [] [0, 1, 2, 3, 4, 5, 6, 7, 8] (.one 9 false (.val 10 .fin)) true (fun _ _ => trivial) (by kernel_rfl) (by kernel_rfl) (fun _ _ d _ _ h => by cases d <;> exact h) trivial ?_
  simp only [Ord.pickO, Ord.nth]
  refine wpQuiet_nil ?_
  repeat (go_big_quiet_step (fail))
  refine wpQuiet_nil ?_
  -- steps: ['N9', 'V10']
  refine Ord.wpS_next rfl ?_
  intro K hK
  dsimp only [Ord.nth]
  go_wp2_with (first
    | (go_at_call 49; refine (q49.out _ M0.out.drew).mono ?_; rintro _ w1 ⟨rfl, m1⟩; have M1 := hidIt (M0.out.drew.trans m1); clear m1))
  refine Ord.wpS_val rfl ?_
  dsimp only [Ord.nth]
  go_big_quiet_step (fail)
  refine wpQuiet_nil ?_
  refine Ord.wpS_fin ?_
  go_wp2_with fail
  go_ret
  exact ⟨rfl, own, c, _, _, _, b, (H.out.frame M1.out).up (by omega) HZ.out, HB.out, rfl, rfl, M1.out.mono fun _ f => f.elim⟩
theorem c17_look23 (h : WI B W bw own c vb vo vr vv S) (hz : S + 1 ≤ 1073741824) (hb : c.bs[i]? = some b) (hg : vb.ownBlock = some g) (o : OpR) (hk : o.kind = 23) :
    Calls Tryz.prog 17 #[vp bw, .pointer (some ⟨g, i * 4, none⟩), .agg o.cells] W (PlayR B W bw i b vb S) := by
  obtain ⟨k, oa, ob, oc, os, ot⟩ := o
  simp only [] at hk
  subst hk
  have hlt := (List.getElem?_eq_some_iff.1 hb).1
  obtain ⟨g', capb, cur, hv, ac, hcur⟩ := row_arr h.rb.1 (by omega)
  have hgg : g' = g := by rw [hv] at hg; simpa [Value.ownBlock] using hg
  subst hgg
  have hx := flat_get BC.cells 4 (fun _ => rfl) c.bs i b hb
  have k2 : cur[i * 4 + 2]? = some (vp b.q.b) := hcur _ _ (hx 2 (by omega))
  have k3 : cur[i * 4 + 3]? = some (vp b.p.b) := hcur _ _ (hx 3 (by omega))
  have m0 : ModP (fun _ => False) W (W.alloc (.cells (OpR.cells ⟨23, oa, ob, oc, os, ot⟩) 26)) := (ModP.refl _ _).alloc _
  have bo := h.bs i b hb
  have tw : Two W b.q b.p b.n b.n := by
    obtain ⟨⟨G, R, hr, _⟩, ⟨G2, hm, _⟩, gd, _⟩ := bo
    exact ⟨⟨G, R, hr⟩, ⟨G2, hm⟩, gd.ok, gd.ok⟩
  have q49 : Hid (∀ u, ModP (fun _ => False) W u → Calls Tryz.prog 49 #[vp b.q.b, vp b.p.b, .agg (OpR.cells ⟨23, oa, ob, oc, os, ot⟩)] u fun r w' => r = .returned (.bool true) ∧ ModP (fun _ => False) u w') := fun u m => c49 (tw.fr m) bo.gd.inn ⟨23, oa, ob, oc, os, ot⟩ (by simp)
  have HB := hidIt hb
  have M0 := hidIt m0
  have H := hidIt h
  have HZ := hidIt hz
  have hcg := ac.cell
  have icg := ac.inB
  generalize b.q.b = qb at *
  generalize b.p.b = pb at *
  clear h hz hb hg m0 hlt hv ac hcur hx bo tw
  go_enter Tryz.func17, Tryz.ntmps17
  go_upto_region 26 with fail
  refine Ord.region3 (fun _ => True) [] [0, 1, 2, 3, 4, 5, 6, 7, 8] (.one 9 false (.val 10 .fin)) true (fun _ _ => trivial) (by kernel_rfl) (by kernel_rfl) (fun _ _ d _ _ h => by cases d <;> exact h) trivial ?_
  simp only [Ord.pickO, Ord.nth]
  refine wpQuiet_nil ?_
  repeat (go_big_quiet_step (fail))
  refine wpQuiet_nil ?_
  -- steps: ['N9', 'V10']
  refine Ord.wpS_next rfl ?_
  intro K hK
  dsimp only [Ord.nth]
  go_wp2_with (first
    | (go_at_call 49; refine (q49.out _ M0.out.drew).mono ?_; rintro _ w1 ⟨rfl, m1⟩; have M1 := hidIt (M0.out.drew.trans m1); clear m1))
  refine Ord.wpS_val rfl ?_
  dsimp only [Ord.nth]
  go_big_quiet_step (fail)
  refine wpQuiet_nil ?_
  refine Ord.wpS_fin ?_
  go_wp2_with fail
  go_ret
  exact ⟨rfl, own, c, _, _, _, b, (H.out.frame M1.out).up (by omega) HZ.out, HB.out, rfl, rfl, M1.out.mono fun _ f => f.elim⟩
theorem c17_look24 (h : WI B W bw own c vb vo vr vv S) (hz : S + 1 ≤ 1073741824) (hb : c.bs[i]? = some b) (hg : vb.ownBlock = some g) (o : OpR) (hk : o.kind = 24) :
    Calls Tryz.prog 17 #[vp bw, .pointer (some ⟨g, i * 4, none⟩), .agg o.cells] W (PlayR B W bw i b vb S) := by
  obtain ⟨k, oa, ob, oc, os, ot⟩ := o
  simp only [] at hk
  subst hk
  have hlt := (List.getElem?_eq_some_iff.1 hb).1
  obtain ⟨g', capb, cur, hv, ac, hcur⟩ := row_arr h.rb.1 (by omega)
  have hgg : g' = g := by rw [hv] at hg; simpa [Value.ownBlock] using hg
  subst hgg
  have hx := flat_get BC.cells 4 (fun _ => rfl) c.bs i b hb
  have k2 : cur[i * 4 + 2]? = some (vp b.q.b) := hcur _ _ (hx 2 (by omega))
  have k3 : cur[i * 4 + 3]? = some (vp b.p.b) := hcur _ _ (hx 3 (by omega))
  have m0 : ModP (fun _ => False) W (W.alloc (.cells (OpR.cells ⟨24, oa, ob, oc, os, ot⟩) 26)) := (ModP.refl _ _).alloc _
  have bo := h.bs i b hb
  have tw : Two W b.q b.p b.n b.n := by
    obtain ⟨⟨G, R, hr, _⟩, ⟨G2, hm, _⟩, gd, _⟩ := bo
    exact ⟨⟨G, R, hr⟩, ⟨G2, hm⟩, gd.ok, gd.ok⟩
  have q49 : Hid (∀ u, ModP (fun _ => False) W u → Calls Tryz.prog 49 #[vp b.q.b, vp b.p.b, .agg (OpR.cells ⟨24, oa, ob, oc, os, ot⟩)] u fun r w' => r = .returned (.bool true) ∧ ModP (fun _ => False) u w') := fun u m => c49 (tw.fr m) bo.gd.inn ⟨24, oa, ob, oc, os, ot⟩ (by simp)
  have HB := hidIt hb
  have M0 := hidIt m0
  have H := hidIt h
  have HZ := hidIt hz
  have hcg := ac.cell
  have icg := ac.inB
  generalize b.q.b = qb at *
  generalize b.p.b = pb at *
  clear h hz hb hg m0 hlt hv ac hcur hx bo tw
  go_enter Tryz.func17, Tryz.ntmps17
  go_upto_region 26 with fail
  refine Ord.region3 (fun _ => True) [] [0, 1, 2, 3, 4, 5, 6, 7, 8] (.one 9 false (.val 10 .fin)) true (fun _ _ => trivial) (by kernel_rfl) (by kernel_rfl) (fun _ _ d _ _ h => by cases d <;> exact h) trivial ?_
  simp only [Ord.pickO, Ord.nth]
  refine wpQuiet_nil ?_
  repeat (go_big_quiet_step (fail))
  refine wpQuiet_nil ?_
  -- steps: ['N9', 'V10']
  refine Ord.wpS_next rfl ?_
  intro K hK
  dsimp only [Ord.nth]
  go_wp2_with (first
    | (go_at_call 49; refine (q49.out _ M0.out.drew).mono ?_; rintro _ w1 ⟨rfl, m1⟩; have M1 := hidIt (M0.out.drew.trans m1); clear m1))
  refine Ord.wpS_val rfl ?_
  dsimp only [Ord.nth]
  go_big_quiet_step (fail)
  refine wpQuiet_nil ?_
  refine Ord.wpS_fin ?_
  go_wp2_with fail
  go_ret
  exact ⟨rfl, own, c, _, _, _, b, (H.out.frame M1.out).up (by omega) HZ.out, HB.out, rfl, rfl, M1.out.mono fun _ f => f.elim⟩
theorem c17_look25 (h : WI B W bw own c vb vo vr vv S) (hz : S + 1 ≤ 1073741824) (hb : c.bs[i]? = some b) (hg : vb.ownBlock = some g) (o : OpR) (hk : o.kind = 25) :
    Calls Tryz.prog 17 #[vp bw, .pointer (some ⟨g, i * 4, none⟩), .agg o.cells] W (PlayR B W bw i b vb S) := by
  obtain ⟨k, oa, ob, oc, os, ot⟩ := o
  simp only [] at hk
  subst hk
  have hlt := (List.getElem?_eq_some_iff.1 hb).1
  obtain ⟨g', capb, cur, hv, ac, hcur⟩ := row_arr h.rb.1 (by omega)
  have hgg : g' = g := by rw [hv] at hg; simpa [Value.ownBlock] using hg
  subst hgg
  have hx := flat_get BC.cells 4 (fun _ => rfl) c.bs i b hb
  have k2 : cur[i * 4 + 2]? = some (vp b.q.b) := hcur _ _ (hx 2 (by omega))
  have k3 : cur[i * 4 + 3]? = some (vp b.p.b) := hcur _ _ (hx 3 (by omega))
  have m0 : ModP (fun _ => False) W (W.alloc (.cells (OpR.cells ⟨25, oa, ob, oc, os, ot⟩) 26)) := (ModP.refl _ _).alloc _
  have bo := h.bs i b hb
  have tw : Two W b.q b.p b.n b.n := by
    obtain ⟨⟨G, R, hr, _⟩, ⟨G2, hm, _⟩, gd, _⟩ := bo
    exact ⟨⟨G, R, hr⟩, ⟨G2, hm⟩, gd.ok, gd.ok⟩
  have q49 : Hid (∀ u, ModP (fun _ => False) W u → Calls Tryz.prog 49 #[vp b.q.b, vp b.p.b, .agg (OpR.cells ⟨25, oa, ob, oc, os, ot⟩)] u fun r w' => r = .returned (.bool true) ∧ ModP (fun _ => False) u w') := fun u m => c49 (tw.fr m) bo.gd.inn ⟨25, oa, ob, oc, os, ot⟩ (by simp)
  have HB := hidIt hb
  have M0 := hidIt m0
  have H := hidIt h
  have HZ := hidIt hz
  have hcg := ac.cell
  have icg := ac.inB
  generalize b.q.b = qb at *
  generalize b.p.b = pb at *
  clear h hz hb hg m0 hlt hv ac hcur hx bo tw
  go_enter Tryz.func17, Tryz.ntmps17
  go_upto_region 26 with fail
  refine Ord.region3 (fun _ => True) [] [0, 1, 2, 3, 4, 5, 6, 7, 8] (.one 9 false (.val 10 .fin)) true (fun _ _ => trivial) (by kernel_rfl) (by kernel_rfl) (fun _ _ d _ _ h => by cases d <;> exact h) trivial ?_
  simp only [Ord.pickO, Ord.nth]
  refine wpQuiet_nil ?_
  repeat (go_big_quiet_step (fail))
  refine wpQuiet_nil ?_
  -- steps: ['N9', 'V10']
  refine Ord.wpS_next rfl ?_
  intro K hK
  dsimp only [Ord.nth]
  go_wp2_with (first
    | (go_at_call 49; refine (q49.out _ M0.out.drew).mono ?_; rintro _ w1 ⟨rfl, m1⟩; have M1 := hidIt (M0.out.drew.trans m1); clear m1))
  refine Ord.wpS_val rfl ?_
  dsimp only [Ord.nth]
  go_big_quiet_step (fail)
  refine wpQuiet_nil ?_
  refine Ord.wpS_fin ?_
  go_wp2_with fail
  go_ret
  exact ⟨rfl, own, c, _, _, _, b, (H.out.frame M1.out).up (by omega) HZ.out, HB.out, rfl, rfl, M1.out.mono fun _ f => f.elim⟩
/-- the kinds that are played -/
def PlayK (k : Int) : Prop := k = 1 ∨ k = 2 ∨ k = 3 ∨ k = 111 ∨ k = 21 ∨ k = 6 ∨ k = 7 ∨ k = 8 ∨ k = 22 ∨ k = 23 ∨ k = 24 ∨ k = 25
theorem c17 (h : WI B W bw own c vb vo vr vv S) (hz : S + 1 ≤ 1073741824) (hb : c.bs[i]? = some b) (hg : vb.ownBlock = some g) (hh : b.n.sy.lg.hist.length = 0) (o : OpR) (hw : OpWf o) (hk : PlayK o.kind) :
    Calls Tryz.prog 17 #[vp bw, .pointer (some ⟨g, i * 4, none⟩), .agg o.cells] W (PlayR B W bw i b vb S) := by
  rcases hk with e | e | e | e | e | e | e | e | e | e | e | e
  · exact c17_ev1 h hz hb hg hh o hw e
  · exact c17_ev2 h hz hb hg hh o hw e
  · exact c17_ev3 h hz hb hg hh o hw e
  · exact c17_cmd h hz hb hg hh o e
  · exact c17_view h hz hb hg o e
  · exact c17_look6 h hz hb hg o e
  · exact c17_look7 h hz hb hg o e
  · exact c17_look8 h hz hb hg o e
  · exact c17_look22 h hz hb hg o e
  · exact c17_look23 h hz hb hg o e
  · exact c17_look24 h hz hb hg o e
  · exact c17_look25 h hz hb hg o e
end
end Go.Proofs.Qxb6500990aGreat
