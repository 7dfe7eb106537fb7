/- package store: chunk -/
import Derived.Test.Qxb6500990aGreatSt7
set_option linter.unusedVariables false
set_option linter.unusedSimpArgs false
namespace Go.Tw
open Go
theorem prt_set' (t : Bs) (n k : Nat) (h : k < n) (ht : k < t.length) : (prt t n k).set k (t[k]) = prt t n (k + 1) := by
  unfold prt
  rw [List.set_append_right _ _ (by rw [List.length_take]; exact Nat.min_le_left _ _)]
  simp only [List.length_take]
  rw [show k - min k t.length = 0 by omega, show n - k = (n - (k + 1)) + 1 by omega, List.replicate_succ, List.set_cons_zero]
  have e : t.take (k + 1) = t.take k ++ [t[k]] := by rw [List.take_add_one, List.getElem?_eq_getElem ht]; rfl
  rw [e, List.append_assoc]
  rfl
theorem prt_len' (t : Bs) (n k : Nat) (h : k ≤ n) (ht : k ≤ t.length) : (prt t n k).length = n := by unfold prt; simp; omega
/-- block k of a snapshot's data -/
def chunkS (data : Bs) (k : Nat) : Bs := prt (data.drop (k * 64)) 64 (min 64 (data.length - k * 64))
end Go.Tw
namespace Go.Proofs.Qxb6500990aGreat
open Go Go.RowKit Go.Tw
attribute [local go_sem] World.cell?_put_same World.cell?_put_ne World.cell?_put_ne' World.frozen?_put_same World.frozen?_put_ne World.frozen?_put_ne' World.setCell_put_same World.setCell_put_ne World.setCell_put_ne' World.inB_put World.inB_alloc World.inB_drew World.inB_drewN World.inB_new World.inB_setCell World.put_drew World.put_drewN World.q_setCell_drew World.q_setCell_drewN World.q_alloc_drew World.q_alloc_drewN World.put_put_same World.put_put_2 World.size_put World.q_cell?_alloc_old World.q_frozen?_alloc_old World.cell?_alloc_new' World.frozen?_alloc_new' World.q_setCell_alloc_old World.q_setCell_alloc_new World.q_put_alloc_old World.cell?_force_same World.frozen?_force_same World.cell?_force2_fst World.cell?_force2_snd
attribute [local go_sem] byA_set mk127 ba_get
set_option maxHeartbeats 4000000
set_option maxRecDepth 100000
theorem c290 (W : World) (data : Bs) (hd : data.length ≤ 1000) (k : Nat) (hk : k < 2) : Calls Tryz.prog 290 #[vs data, vi k] W fun r w' => r = .returned (vs (chunkS data k)) ∧ ModP (fun _ => False) W w' := by
  have hk' : (k : Int) < 2 := by omega
  go_enter Tryz.func290, Tryz.ntmps290
  go_wp2_with fail
  rw [zb_byA, ← prt_zero (data.drop (k * 64)) 64]
  have Hd : Hid ((data.drop (k * 64)).length = data.length - k * 64) := List.length_drop
  go_loopw [6] (fun v u => ∃ i : Nat, i ≤ 64 ∧ i ≤ data.length - k * 64 ∧ v = vi i ∧ u = W.alloc (.cells (byA (prt (data.drop (k * 64)) 64 i)) 5 (0, 0))) (fun v _ => 64 - (intOf v).toNat)
  case atStart => exact ⟨0, by omega, by omega, rfl, rfl⟩
  case round =>
    obtain ⟨i, hi, hi2, rfl, rfl⟩ := hrel
    by_cases h1 : i < 64
    · by_cases h2 : k * 64 + i < data.length
      · have h2' : (k : Int) * 64 + i < data.length := by omega
        have hps := prt_set' (data.drop (k * 64)) 64 i h1 (by have := Hd.out; omega)
        have hpl := prt_len' (data.drop (k * 64)) 64 i (by omega) (by have := Hd.out; omega)
        rw [List.getElem_drop] at hps
        have Hps := hidIt hps
        obtain ⟨old, hget⟩ : ∃ old, (byA (prt (data.drop (k * 64)) 64 i))[i]? = some (.int .u8 old) := ⟨_, byA_get _ i (by omega)⟩
        clear hps hpl
        generalize prt (data.drop (k * 64)) 64 i = pk at *
        go_wp2_with fail
        go_roundw
        case rel => exact ⟨i + 1, by omega, by omega, by go_num, by rw [← Hps.out]⟩
        case measure => simp [intOf]; omega
      · have h2' : decide ((k : Int) * 64 + i < data.length) = false := by simp; omega
        have hfin : Hid (chunkS data k = prt (data.drop (k * 64)) 64 i) := by unfold Hid chunkS; rw [show min 64 (data.length - k * 64) = i by omega]
        have hpl := prt_len' (data.drop (k * 64)) 64 i (by omega) (by have := Hd.out; omega)
        clear h2
        generalize prt (data.drop (k * 64)) 64 i = pk at *
        have hB := hidIt (byA_bytes (w := W.alloc (.cells (byA pk) 5 (0, 0))) (g := W.heap.size) World.At_alloc_new (by rw [hpl]; unfold maxLen; omega))
        rw [hpl] at hB
        clear hpl
        go_wp2_with (first | (refine wp_strB rfl _ rfl (l := bi pk) rfl hB.out ?_))
        go_ret
        rw [ib_bi, hfin.out]
        exact ⟨rfl, (ModP.refl _ _).alloc _⟩
    · obtain rfl : i = 64 := by omega
      have hfin : Hid (chunkS data k = prt (data.drop (k * 64)) 64 64) := by unfold Hid chunkS; rw [show min 64 (data.length - k * 64) = 64 by omega]
      have hpl := prt_len' (data.drop (k * 64)) 64 64 (by omega) (by have := Hd.out; omega)
      generalize prt (data.drop (k * 64)) 64 64 = pk at *
      have hB := hidIt (byA_bytes (w := W.alloc (.cells (byA pk) 5 (0, 0))) (g := W.heap.size) World.At_alloc_new (by rw [hpl]; unfold maxLen; omega))
      rw [hpl] at hB
      clear hpl
      go_wp2_with (first | (refine wp_strB rfl _ rfl (l := bi pk) rfl hB.out ?_))
      go_ret
      rw [ib_bi, hfin.out]
      exact ⟨rfl, (ModP.refl _ _).alloc _⟩
end Go.Proofs.Qxb6500990aGreat
