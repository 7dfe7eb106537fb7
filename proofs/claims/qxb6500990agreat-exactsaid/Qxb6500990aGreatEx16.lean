/- package towerexact: owner, KNode -/
import Derived.Test.Qxb6500990aGreatEx15
import Derived.Test.Qxb6500990aGreatOrder5
set_option linter.unusedVariables false
set_option linter.unusedSimpArgs false
namespace Go.Proofs.Qxb6500990aGreat
open Go Go.RowKit Go.Tw
attribute [local go_sem] World.cell?_put_same World.cell?_put_ne World.cell?_put_ne' World.frozen?_put_same World.frozen?_put_ne World.frozen?_put_ne' World.setCell_put_same World.setCell_put_ne World.setCell_put_ne' World.inB_put World.inB_alloc World.inB_drew World.inB_drewN World.inB_new World.inB_setCell World.put_drew World.put_drewN World.q_setCell_drew World.q_setCell_drewN World.q_alloc_drew World.q_alloc_drewN World.put_put_same World.put_put_2 World.size_put World.q_cell?_alloc_old World.q_frozen?_alloc_old World.cell?_alloc_new' World.frozen?_alloc_new' World.q_setCell_alloc_old World.q_setCell_alloc_new World.q_put_alloc_old World.cell?_force_same World.frozen?_force_same World.cell?_force2_fst World.cell?_force2_snd OpR.g0 OpR.s0 OpR.g1 OpR.s1 OpR.g2 OpR.s2 OpR.g3 OpR.s3 OpR.g4 OpR.s4 OpR.g5 OpR.s5 WorldR.g0 WorldR.s0 WorldR.g1 WorldR.s1 WorldR.g2 WorldR.s2 WorldR.g3 WorldR.s3 WorldR.g4 WorldR.s4 WorldR.g5 WorldR.s5 WorldR.g6 WorldR.s6 WorldR.g7 WorldR.s7 WorldR.g8 WorldR.s8
attribute [local go_sem] ba_get ba_eq ba_beq
set_option maxHeartbeats 4000000
set_option maxRecDepth 100000
section
variable {B bw S : Nat} {W : World} {own : Own} {c : Conf} {vb vo vr vv : Value}
theorem c8_node (h : WI B W bw own c vb vo vr vv S) (hz : S + 1 ≤ 1073741824) (o : OpR) (hk : o.kind = 101) : Calls Tryz.prog 8 #[vp bw, .agg o.cells] W (OwnR B W bw (S + 1)) := by
  obtain ⟨k, a, b, cc, s, t⟩ := o
  simp only [] at hk
  subst hk
  obtain ⟨adb, capb, rfl, -⟩ := ownsRow_form h.rb.1
  obtain ⟨ado, capo, rfl, -⟩ := ownsRow_form h.ro.1
  obtain ⟨adr, capr, rfl, -⟩ := ownsRow_form h.rr.1
  obtain ⟨adv, capv, rfl, -⟩ := ownsRow_form h.rv.1
  have H := hidIt h
  have HSz := hidIt hz
  have HLb : Hid (c.bs.length + 1 ≤ S + 1) := by have := h.ln; unfold Hid; omega
  have lbw : bw < W.heap.size := h.hw.inB
  have LBW := hidIt lbw
  have hAt : Hid (∀ u F, ModP F W u → ¬ F bw → u.At bw (WorldR.cells ⟨.slice adb c.bs.length capb, c.k, c.ra, c.rb, c.old, .slice ado c.os.length capo, .slice adr c.rs.length capr, .slice adv c.vs.length capv, false⟩) 33) := fun u F m hn => m.at h.hw hn
  have q23 := hidIt (c23 (W.alloc (.cells (OpR.cells ⟨101, a, b, cc, s, t⟩) 26)))
  clear h hz lbw
  go_enter Tryz.func8, Tryz.ntmps8
  go_upto_region 9 with (first
    | (go_at_call 23; refine q23.out.mono ?_; rintro _ w1 ⟨bd, nbd, rfl, dk1, m1⟩; have NBD := hidIt nbd; have M1 : Hid (ModP (fun _ => False) W w1) := ((ModP.refl _ _).alloc _).trans m1; have q12 := hidIt (c12 dk1.trim (fun k h => h.2) good0 (by omega) a); clear dk1 m1 nbd)
    | (go_at_call 12; refine q12.out.mono ?_; rintro _ w2 ⟨G1, q1, rfl, op⟩; have OP := hidIt op; have r0 := op.cl clean0; obtain ⟨Fd, D, dk, fs, tie, -⟩ := op.rn.disk; have hw := tie.idle (opened_hist _ _); rw [r0] at hw; rw [op.bd] at dk; have q11 : Hid (Calls Tryz.prog 11 #[vp bd] w2 fun r w' => r = .returned (vi 0) ∧ w' = w2) := (by have := k11 dk; rw [hw] at this; exact this); have M2 : Hid (ModP (fun _ => False) W w2) := M1.out.step op.m (fun k hk => .inr (by have := hk.1; simp at this; omega)); clear op r0 dk fs tie hw q12)
    | (go_at_call 11; refine q11.out.mono ?_; rintro _ w3 ⟨rfl, e⟩; obtain rfl := e.symm))
  have AW := hidIt (hAt.out _ _ M2.out (fun f => f))
  have hRow : Hid (∀ u, ModP (fun _ => False) W u → u.ownsRow B 41 4 (.slice adb c.bs.length capb) c.bs.length (c.bs.flatMap BC.cells)) := fun u m => ownsRow_frame H.out.rb.1 m (fun _ _ f => f)
  have lB : Hid (B ≤ w2.heap.size) := by have h1 := H.out.lo bw (by rw [H.out.tw]; exact nofun); have := M2.out.size; unfold Hid; omega
  have NOX : Hid (∀ k, (Value.slice adb c.bs.length capb).ownBlock = some k → k ≠ bw) := fun k hk e => by have h1 := H.out.rb.2 k hk; rw [e, H.out.tw] at h1; cases h1
  have q24 := hidIt (fun u => c24 u a good0.ok)
  have hcw := AW.out.cell
  have icw := AW.out.inB
  generalize hqb : q1.b = qb at *
  have HQB := hidIt hqb
  clear hqb q23
  refine Ord.region3 (fun w' => ∃ u : World, w' = u.force bw (WorldR.cells ⟨.slice adb c.bs.length capb, c.k, c.ra, c.rb, c.old, .slice ado c.os.length capo, .slice adr c.rs.length capr, .slice adv c.vs.length capv, false⟩) 33) [0, 1, 2, 3, 4, 5, 6, 7] [8] (.one 9 true (.one 10 true (.one 11 true (.one 12 true (.val 13 (.val 14 (.one 15 false .fin))))))) false (fun h => by cases h) (by kernel_rfl) (Ord.in3q_3 (by kernel_rfl)) (fun _ _ d _ _ h => by cases d <;> exact h) ?ca9_1 ?_
  rotate_left
  simp only [Ord.pickO, Ord.nth]
  repeat (go_big_quiet_step (fail))
  refine wpQuiet_nil ?_
  repeat (go_big_quiet_step (fail))
  refine wpQuiet_nil ?_
  -- steps: ['L9', 'L10', 'L11', 'L12', 'V13', 'V14', 'N15']
  rotate_left
  · exact ca_of (World.At_drew.2 AW.out)
  refine Ord.wpS_loose rfl ?_
  intro K hK
  dsimp only [Ord.nth]
  go_wp2_with (first
    | (go_at_call 24; refine (q24.out _).mono ?_; rintro _ w4 ⟨mb, mbs, mbl, mbe, mbk, G2, rfl, nmb, nm, g2, m4⟩; have M4 : Hid (ModP (fun _ => False) w2 w4) := m4.undrew; have NM := hidIt nm; have GG2 := hidIt g2; clear m4 nm g2 nmb))
  refine hK _ _ (ca_of (M4.out.at AW.out (fun f => f))) ?_
  clear hK K
  refine Ord.wpS_loose rfl ?_
  intro K hK
  dsimp only [Ord.nth]
  go_wp2_with fail
  refine hK _ _ (ca_of (M4.out.at AW.out (fun f => f))) ?_
  clear hK K
  refine Ord.wpS_loose rfl ?_
  intro K hK
  dsimp only [Ord.nth]
  go_wp2_with fail
  refine hK _ _ (ca_of (World.At.alloc (M4.out.at AW.out (fun f => f)) _)) ?_
  clear hK K
  refine Ord.wpS_loose rfl ?_
  intro K hK
  dsimp only [Ord.nth]
  refine op_app rk28 _ _ rfl (B := B) (v := .slice adb c.bs.length capb) (n := c.bs.length) (xs := c.bs.flatMap BC.cells) [vi a, vp bd, vp qb, vp mb] rfl rfl (at_new' rfl) rfl (by simp [Value.oneCell']) (ownsRow_alloc (hRow.out _ (M2.out.trans M4.out)) _) (by have := lB.out; have := M4.out.size; simp; omega) (by have := HLb.out; have := HSz.out; unfold maxLen; omega) (by have := HLb.out; have := HSz.out; omega) ?_
  intro g' cap' w5 o5 m5 n5 l5
  simp only [Act.put, List.setIfInBounds_toArray, List.set_cons_succ, List.set_cons_zero]
  have p5 : ModP (fun k => (Value.slice adb c.bs.length capb).ownBlock = some k) _ w5 := ⟨m5.os, m5.tape, m5.output, m5.size, fun k hk hn => m5.block k hk (fun e => hn (by simpa using e))⟩
  have aw := p5.at (World.At.alloc (M4.out.at AW.out (fun f => f)) _) (fun e => NOX.out bw e rfl)
  refine hK _ _ (ca_of aw) ?_
  clear hK K
  obtain ⟨y5, rfl, iy5⟩ := aw.door
  have O5 := hidIt o5
  have P5 := hidIt p5
  have N5 := hidIt n5
  clear o5 p5 n5 m5 aw l5 hcw icw
  refine Ord.wpS_val rfl ?_
  dsimp only [Ord.nth]
  go_big_quiet_step (fail)
  refine wpQuiet_nil ?_
  refine Ord.wpS_val rfl ?_
  dsimp only [Ord.nth]
  go_big_quiet_step (fail)
  refine wpQuiet_nil ?_
  refine Ord.wpS_next rfl ?_
  intro K hK
  dsimp only [Ord.nth]
  go_wp2_with fail
  refine Ord.wpS_fin ?_
  go_wp2_with fail
  go_ret
  have h := H.out
  have lbw := LBW.out
  have z2 := M2.out.size
  have z4 := M4.out.size
  have z1 := M1.out.size
  have op := OP.out
  have lvb : ∀ k, (Value.slice adb c.bs.length capb).ownBlock = some k → k < W.heap.size := fun k hk => (ownsRow_block h.rb.1 hk).1
  have gg1 : ∀ k, G1 k → W.heap.size ≤ k := fun k hk => by
    rcases op.g k hk with q | q
    · have := q.1; simp at this; omega
    · omega
  have gg2 : ∀ k, G2 k → w2.heap.size ≤ k := GG2.out
  have m4 : ∀ c', ModP (fun k => k = bw ∨ (Value.slice adb c.bs.length capb).ownBlock = some k) w4 (y5.put bw c' 33) := fun c' =>
    (((ModP.refl _ _).alloc _).step P5.out (fun k hk => .inl (.inr hk))).step (put_re y5 bw _ c' 33) (fun k hk => .inl (.inl hk))
  have m2 : ∀ c', ModP (fun k => k = bw ∨ (Value.slice adb c.bs.length capb).ownBlock = some k) w2 (y5.put bw c' 33) := fun c' => (M4.out.mono (fun _ f => f.elim)).trans (m4 c')
  have m0 : ∀ c', ModP (fun k => k = bw ∨ (Value.slice adb c.bs.length capb).ownBlock = some k) W (y5.put bw c' 33) := fun c' => (M2.out.mono (fun _ f => f.elim)).trans (m2 c')
  have lo : ∀ k, (k = bw ∨ (Value.slice adb c.bs.length capb).ownBlock = some k) → k < W.heap.size := fun k f => f.elim (fun e => by omega) (lvb k)
  have hg' : (Value.slice adb c.bs.length capb).ownBlock = some g' ∨ w4.heap.size < g' := N5.out.imp id (fun q => by rw [q]; simp)
  have oh := opened_hist Lg.new a
  obtain ⟨own', wi⟩ := h.addBase (b := ⟨a, AN.open (AS.open Lg.new.al (EM.new a)), q1, ⟨mb, mbs, mbl, mbe, mbk⟩⟩) (G1 := G1) (G2 := G2) (S' := S + 1) (k' := c.bs.length) (vb' := .slice (some ⟨g', 0, none⟩) (c.bs.length + 1) cap') (m0 (WorldR.cells ⟨.slice (some ⟨g', 0, none⟩) (c.bs.length + 1) cap', c.bs.length, c.ra, c.rb, c.old, .slice ado c.os.length capo, .slice adr c.rs.length capr, .slice adv c.vs.length capv, false⟩)) (fun k f => by
      rcases f with e | e
      · rw [e]; exact .inr (.inl h.tw)
      · exact .inr (.inr (h.rb.2 k e))) (by omega) HSz.out HLb.out (by omega) (by omega) (World.At_put_same iy5)
    (by
      have := ownsRow_frame O5.out (put_re y5 bw _ (WorldR.cells ⟨.slice (some ⟨g', 0, none⟩) (c.bs.length + 1) cap', c.bs.length, c.ra, c.rb, c.old, .slice ado c.os.length capo, .slice adr c.rs.length capr, .slice adv c.vs.length capv, false⟩) 33) (fun k hk e => by
        have hk' : g' = k := by simpa [Value.ownBlock] using hk
        rcases hg' with q | q
        · exact NOX.out g' q (by rw [hk', e])
        · omega)
      show World.ownsRow _ B 41 4 _ _ (c.bs.flatMap BC.cells ++ [vi a, vp q1.s.bd, vp q1.b, vp mb])
      rw [op.bd, HQB.out]
      exact this)
    (fun k hk => by
      have hk' : g' = k := by simpa [Value.ownBlock] using hk
      rcases hg' with q | q
      · exact .inl (by rw [← hk']; exact q)
      · right; omega)
    (fun k hk => by
      have hk' : g' = k := by simpa [Value.ownBlock] using hk
      rcases hg' with q | q
      · have := lvb _ q
        exact ⟨fun f => by have := gg1 _ f; omega, fun f => by have := gg2 _ f; omega⟩
      · exact ⟨fun f => by have := op.rn.wi _ f; omega, fun f => by have := NM.out.wi _ f; omega⟩)
    ⟨[], op.rn.frame (m2 _) (fun k a f => by have := gg1 _ a; have := lo _ f; omega)⟩ gg1
    (NM.out.frame (m4 _) (fun k a f => by have := gg2 _ a; have := lo _ f; omega)) (fun k hk => by have := gg2 _ hk; omega)
    (fun k f1 f2 => by have := op.rn.wi _ f1; have := gg2 _ f2; omega) (AN.Gd.open good0.ok a) (opened_id _ _) (by rw [oh]; simp) (by show q1.s.N + (AN.open (AS.open Lg.new.al (EM.new a))).sy.lg.hist.length ≤ _; rw [oh, op.n]; simp)
  have wk2 : wrap64 (c.bs.length : Int) = c.bs.length := by have := HLb.out; have := HSz.out; unfold wrap64; omega
  rw [wk2]
  exact ⟨rfl, own', _, _, _, _, _, wi, (m0 _).mono (fun k f => by rcases f with e | e; exact (h.lo k (by rw [e, h.tw]; exact nofun)).1; exact (h.lo k (by rw [h.rb.2 k e]; exact nofun)).1)⟩
end
end Go.Proofs.Qxb6500990aGreat
