/- package kv: mkCell -/
import Derived.Test.Qxb6500990aGreatKv5
import Derived.Test.Qxb6500990aGreatOwn3
set_option linter.unusedVariables false
set_option linter.unusedSimpArgs false
namespace Go.Tw
open Go
/-- the first k bytes, then zeros -/
def preF (l : Bs) (k : Nat) : Nat → UInt8 := fun i => if i < k then l.getD i 0 else 0
theorem preF_0 (l : Bs) : preF l 0 = fun _ => 0 := by funext i; simp [preF]
theorem preF_step (l : Bs) (k : Nat) (h : k < l.length) : upd (preF l k) k l[k] = preF l (k + 1) := by
  funext i
  unfold upd preF
  by_cases e : i = k
  · subst e; rw [if_pos rfl, if_pos (by omega)]; simp [h]
  · rw [if_neg e]
    by_cases h1 : i < k
    · rw [if_pos h1, if_pos (by omega)]
    · rw [if_neg h1, if_neg (by omega)]
theorem preF_all (l : Bs) : preF l l.length = fun i => l.getD i 0 := by
  funext i
  unfold preF
  by_cases h : i < l.length
  · rw [if_pos h]
  · rw [if_neg h]; simp only [List.getD_eq_getElem?_getD]; rw [List.getElem?_eq_none (by omega)]; rfl
end Go.Tw
namespace Go.Proofs.Qxb6500990aGreat
open Go Go.RowKit Go.Tw
attribute [local go_sem] World.cell?_put_same World.cell?_put_ne World.cell?_put_ne' World.frozen?_put_same World.frozen?_put_ne World.frozen?_put_ne' World.setCell_put_same World.setCell_put_ne World.setCell_put_ne' World.inB_put World.inB_alloc World.inB_drew World.inB_drewN World.inB_new World.inB_setCell World.put_drew World.put_drewN World.q_setCell_drew World.q_setCell_drewN World.q_alloc_drew World.q_alloc_drewN World.put_put_same World.put_put_2 World.size_put World.q_cell?_alloc_old World.q_frozen?_alloc_old World.cell?_alloc_new' World.frozen?_alloc_new' World.q_setCell_alloc_old World.q_setCell_alloc_new World.q_put_alloc_old World.cell?_force_same World.frozen?_force_same World.cell?_force2_fst World.cell?_force2_snd Cell.g0 Cell.s0 Cell.g1 Cell.s1 Cell.g2 Cell.s2 Cell.g3 Cell.s3 Cell.g4 Cell.s4 Cell.g5 Cell.s5 Cell.g6 Cell.s6 Cell.g7 Cell.s7 Cell.gi_key_0 Cell.si_key_0 Cell.gi_val_0 Cell.si_val_0
attribute [local go_sem] ba_get
set_option maxHeartbeats 4000000
set_option maxRecDepth 100000
theorem c237 (W : World) (key val : Bs) (h2 : key.length ≤ 2) (h3 : val.length ≤ 3) : Calls Tryz.prog 237 #[vs key, vs val] W fun r w' => r = .returned (.agg (mkCellS key val).cells) ∧ ModP (fun _ => False) W w' := by
  have z0 := hidIt (preF_0 key)
  have z1 := hidIt (preF_0 val)
  have hne : W.heap.size ≠ W.heap.size + 1 := by omega
  go_enter Tryz.func237, Tryz.ntmps237
  go_wp2_with fail
  go_loopw [6] (fun kv u => ∃ (k : Nat) (y : World), k ≤ key.length ∧ kv = vi k ∧ u = (y.put W.heap.size zCell.cells 167).put (W.heap.size + 1) (Cell.cells ⟨1, k, preF key k, 0, fun _ => 0⟩) 167 ∧ y.inB W.heap.size ∧ y.inB (W.heap.size + 1) ∧ Hid (ModP (fun _ => False) W y)) (fun kv _ => key.length - (intOf kv).toNat)
  case atStart =>
    have a1 : (W.alloc (.cells zCell.cells 167)).At W.heap.size zCell.cells 167 := World.At_alloc_new
    have a2 : ((W.alloc (.cells zCell.cells 167)).alloc (.cells (Cell.cells ⟨1, 0, fun _ => 0, 0, fun _ => 0⟩) 167)).At (W.heap.size + 1) (Cell.cells ⟨1, 0, fun _ => 0, 0, fun _ => 0⟩) 167 := at_new (by simp)
    obtain ⟨y, e, i1, i2⟩ := open2 (World.At.alloc a1 _) a2 hne
    refine ⟨0, y, by omega, rfl, ?_, i1, i2, ?_⟩
    · rw [z0.out]
      exact (show _ = _ from e)
    · have m : ModP (fun _ => False) W ((W.alloc (.cells zCell.cells 167)).alloc (.cells (Cell.cells ⟨1, 0, fun _ => 0, 0, fun _ => 0⟩) 167)) := (by repeat (first | assumption | exact ModP.refl _ _ | refine ModP.fromPut ?_ (by assumption) | apply ModP.alloc | apply ModP.drew | apply ModP.drewN | refine ModP.put ?_ (by first | (left; assumption) | (left; rfl) | (right; simp only [World.inB, World.size_put] at *; omega)) _ _))
      rw [e] at m
      exact (ModP.unput m (.inr (by omega))).unput (.inr (by omega))
  case round =>
    clear z0
    obtain ⟨k, y, hk, rfl, rfl, i1, i2, my⟩ := hrel
    by_cases hkn : k < key.length
    · have k1 : (k : Int) < key.length := by omega
      have k2 : (k : Int) < 2 := by omega
      have k3 : k < 2 := by omega
      have hs := hidIt (preF_step key k hkn)
      go_wp2_with fail
      go_roundw
      case rel => exact ⟨k + 1, y, by omega, by go_num, by rw [← hs.out]; rfl, i1, i2, my⟩
      case measure => simp [intOf]; omega
    · obtain rfl : k = key.length := by omega
      have za := hidIt (preF_all key)
      go_wp2_with fail
      go_loopw [7] (fun kv u => ∃ (k : Nat) (y : World), k ≤ val.length ∧ kv = vi k ∧ u = (y.put W.heap.size zCell.cells 167).put (W.heap.size + 1) (Cell.cells ⟨1, key.length, preF key key.length, k, preF val k⟩) 167 ∧ y.inB W.heap.size ∧ y.inB (W.heap.size + 1) ∧ Hid (ModP (fun _ => False) W y)) (fun kv _ => val.length - (intOf kv).toNat)
      case atStart => exact ⟨0, y, by omega, rfl, by rw [z1.out]; rfl, i1, i2, my⟩
      case round =>
        clear z1 i1 i2 my y
        obtain ⟨k, y, hk, rfl, rfl, i1, i2, my⟩ := hrel
        by_cases hkn : k < val.length
        · have k1 : (k : Int) < val.length := by omega
          have k2 : (k : Int) < 3 := by omega
          have k3 : k < 3 := by omega
          have hs := hidIt (preF_step val k hkn)
          go_wp2_with fail
          go_roundw
          case rel => exact ⟨k + 1, y, by omega, by go_num, by rw [← hs.out]; rfl, i1, i2, my⟩
          case measure => simp [intOf]; omega
        · obtain rfl : k = val.length := by omega
          have zb := hidIt (preF_all val)
          go_wp2_with fail
          refine bodyPost_ret (v := .agg (mkCellS key val).cells) ?_ rfl ?_
          · simp [results, Tryz.results237, go_sem, i1, i2]
            rw [za.out, zb.out]
            rfl
          · have := my.out
            exact ⟨rfl, (by repeat (first | assumption | exact ModP.refl _ _ | refine ModP.fromPut ?_ (by assumption) | apply ModP.alloc | apply ModP.drew | apply ModP.drewN | refine ModP.put ?_ (by first | (left; assumption) | (left; rfl) | (right; simp only [World.inB, World.size_put] at *; omega)) _ _))⟩
end Go.Proofs.Qxb6500990aGreat
