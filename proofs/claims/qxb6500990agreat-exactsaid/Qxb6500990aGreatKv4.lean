/- package kv: valOf -/
import Derived.Test.Qxb6500990aGreatKv3
set_option linter.unusedVariables false
set_option linter.unusedSimpArgs false
namespace Go.Proofs.Qxb6500990aGreat
open Go Go.RowKit Go.Tw
attribute [local go_sem] World.cell?_put_same World.cell?_put_ne World.cell?_put_ne' World.frozen?_put_same World.frozen?_put_ne World.frozen?_put_ne' World.setCell_put_same World.setCell_put_ne World.setCell_put_ne' World.inB_put World.inB_alloc World.inB_drew World.inB_drewN World.inB_new World.inB_setCell World.put_drew World.put_drewN World.q_setCell_drew World.q_setCell_drewN World.q_alloc_drew World.q_alloc_drewN World.put_put_same World.put_put_2 World.size_put World.q_cell?_alloc_old World.q_frozen?_alloc_old World.cell?_alloc_new' World.frozen?_alloc_new' World.q_setCell_alloc_old World.q_setCell_alloc_new World.q_put_alloc_old World.cell?_force_same World.frozen?_force_same World.cell?_force2_fst World.cell?_force2_snd Cell.g0 Cell.s0 Cell.g1 Cell.s1 Cell.g2 Cell.s2 Cell.g3 Cell.s3 Cell.g4 Cell.s4 Cell.g5 Cell.s5 Cell.g6 Cell.s6 Cell.g7 Cell.s7 Cell.gi_key_0 Cell.si_key_0 Cell.gi_val_0 Cell.si_val_0
attribute [local go_sem] ba_get mk127
set_option maxHeartbeats 4000000
set_option maxRecDepth 100000
theorem c261 (W : World) (c : Cell) (h0 : 0 ≤ c.vlen) (h2 : c.vlen ≤ 3) : Calls Tryz.prog 261 #[.agg c.cells] W fun r w' => r = .returned (vs (valS c)) ∧ ModP (fun _ => False) W w' := by
  obtain ⟨n, hn⟩ := Int.eq_ofNat_of_zero_le h0
  have hk : Hid (valS c = (valL c).take n) := by unfold Hid valS; rw [hn]; rfl
  have n2 : n ≤ 3 := by omega
  have hg : Hid (∀ k : Nat, k < 3 → (valL c)[k]? = some (c.val k)) := by
    intro k hk
    match k, hk with
    | 0, _ | 1, _ | 2, _ => rfl
  have hL : Hid ((valL c).length = 3) := rfl
  have hA : Hid ((W.alloc (.cells c.cells 167)).At W.heap.size c.cells 167) := World.At_alloc_new
  generalize valL c = L at *
  obtain ⟨cs, ck, cy, cv, cvl⟩ := c
  simp only [] at hn
  subst hn
  go_enter Tryz.func261, Tryz.ntmps261
  go_wp2_with fail
  go_loopw [3, 4] (fun v kv u => ∃ k : Nat, k ≤ n ∧ kv = vi k ∧ Hid (BytesB (W.heap.size + 1) u v (bi (L.take k))) ∧ Hid (u.At W.heap.size (Cell.cells ⟨cs, ck, cy, n, cvl⟩) 167) ∧ Hid (ModP (fun _ => False) W u)) (fun _ kv _ => n - (intOf kv).toNat)
  case atStart => exact ⟨0, by omega, rfl, by unfold Hid; simp only [List.take_zero]; exact BytesB.made (c := zb 3) (at_new (by simp)) (Nat.le_refl _) (zb_size _) (by unfold maxLen; omega), World.At.alloc hA.out _, ((ModP.refl _ _).alloc _).alloc _⟩
  case round =>
    clear hA
    obtain ⟨k, hk', rfl, H1, H2, H3⟩ := hrel
    have hc := H2.out.cell
    have ib := H2.out.inB
    by_cases hkn : k < n
    · have k1 : (k : Int) < n := by omega
      have k2 : (k : Int) < 3 := by omega
      have k3 : k < 3 := by omega
      have hst : Hid (bi (L.take (k + 1)) = bi (L.take k) ++ [((cvl k).toNat : Int)]) := by
        unfold Hid
        rw [List.take_add_one, hg.out k k3]
        simp [bi]
      have hbl : Hid ((bi (L.take k)).length ≤ 3) := by unfold Hid; rw [bi_length, List.length_take]; omega
      generalize bi (L.take k) = cur at *
      have z2 := hidIt (show W.heap.size + 1 ≤ wr.heap.size from ib)
      have HC := hidIt H2.out
      go_wp2_with (first
        | (at_builtin; (refine wp_appB (B := W.heap.size + 1) (l := cur) (m := 1) rfl _ _ rfl [((cvl k).toNat : Int)] rfl rfl (at_new rfl) rfl (H1.out.alloc _) (Nat.le_trans z2.out (by simp)) (Nat.zero_lt_succ _) (by have := hbl.out; omega) ?_; intro v2 w2 b2 bl2 s2; have B2 := hidIt b2; have A2 : Hid (w2.At W.heap.size (Cell.cells ⟨cs, ck, cy, n, cvl⟩) 167) := below_at bl2 (World.At.alloc HC.out _) (Nat.lt_succ_self _); have M2 : Hid (ModP (fun _ => False) W w2) := ⟨bl2.os.trans H3.out.os, bl2.tape.trans H3.out.tape, bl2.output.trans H3.out.output, Nat.le_trans H3.out.size (Nat.le_trans (by simp) s2), fun j hj _ => (bl2.block j (by omega)).trans (((H3.out.alloc _).block j hj (fun f => f)))⟩; clear b2 bl2 s2)))
      go_roundw
      case rel => exact ⟨k + 1, by omega, by go_num, by rw [hst.out]; exact B2, A2, M2⟩
      case measure => simp [intOf]; omega
    · obtain rfl : k = n := by omega
      go_wp2_with (first
        | (refine wp_strB rfl _ rfl (l := bi (L.take k)) rfl H1.out ?_))
      go_ret
      rw [ib_bi, hk.out]
      exact ⟨rfl, H3.out⟩
end Go.Proofs.Qxb6500990aGreat
