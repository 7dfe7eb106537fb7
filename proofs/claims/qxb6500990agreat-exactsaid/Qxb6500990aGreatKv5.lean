/- package kv: keyIs -/
import Derived.Test.Qxb6500990aGreatKv4
set_option linter.unusedVariables false
set_option linter.unusedSimpArgs false
namespace Go.Proofs.Qxb6500990aGreat
open Go Go.RowKit Go.Tw
attribute [local go_sem] World.cell?_put_same World.cell?_put_ne World.cell?_put_ne' World.frozen?_put_same World.frozen?_put_ne World.frozen?_put_ne' World.setCell_put_same World.setCell_put_ne World.setCell_put_ne' World.inB_put World.inB_alloc World.inB_drew World.inB_drewN World.inB_new World.inB_setCell World.put_drew World.put_drewN World.q_setCell_drew World.q_setCell_drewN World.q_alloc_drew World.q_alloc_drewN World.put_put_same World.put_put_2 World.size_put World.q_cell?_alloc_old World.q_frozen?_alloc_old World.cell?_alloc_new' World.frozen?_alloc_new' World.q_setCell_alloc_old World.q_setCell_alloc_new World.q_put_alloc_old World.cell?_force_same World.frozen?_force_same World.cell?_force2_fst World.cell?_force2_snd Cell.g0 Cell.s0 Cell.g1 Cell.s1 Cell.g2 Cell.s2 Cell.g3 Cell.s3 Cell.g4 Cell.s4 Cell.g5 Cell.s5 Cell.g6 Cell.s6 Cell.g7 Cell.s7 Cell.gi_key_0 Cell.si_key_0 Cell.gi_val_0 Cell.si_val_0
attribute [local go_sem] ba_get
set_option maxHeartbeats 4000000
set_option maxRecDepth 100000
theorem c287 (W : World) (c : Cell) (key : Bs) (h0 : 0 ≤ c.klen) (h2 : c.klen ≤ 2) : Calls Tryz.prog 287 #[.agg c.cells, vs key] W fun r w' => r = .returned (.bool (decide (keyS c = key))) ∧ ModP (fun _ => False) W w' := by
  obtain ⟨n, hn⟩ := Int.eq_ofNat_of_zero_le h0
  have hk : Hid (keyS c = (keyL c).take n) := by unfold Hid keyS; rw [hn]; rfl
  have n2 : n ≤ 2 := by omega
  have hg : Hid (∀ k : Nat, k < 2 → (keyL c)[k]? = some (c.key k)) := by
    intro k hk
    match k, hk with
    | 0, _ | 1, _ => rfl
  have hL : Hid ((keyL c).length = 2) := rfl
  have hA : Hid ((W.alloc (.cells c.cells 167)).At W.heap.size c.cells 167) := World.At_alloc_new
  generalize keyS c = S at *
  generalize keyL c = L at *
  obtain ⟨cs, ck, cy, cv, cvl⟩ := c
  simp only [] at hn
  subst hn
  by_cases hne : n = key.length
  · have d1 : ((n : Int) != key.length) = false := by simp only [bne_eq_false_iff_eq]; omega
    have d2 : decide ((2 : Int) < n) = false := by simp; omega
    have d3 : decide ((n : Int) > 2) = false := by simp; omega
    have hn' := hidIt hne
    clear hne h0 h2
    go_enter Tryz.func287, Tryz.ntmps287
    go_wp2_with fail
    go_loopw [5] (fun kv u => ∃ k : Nat, k ≤ n ∧ kv = vi k ∧ Hid (∀ m, m < k → L[m]? = key[m]?) ∧ Hid (u.At W.heap.size (Cell.cells ⟨cs, n, cy, cv, cvl⟩) 167) ∧ Hid (ModP (fun _ => False) W u)) (fun kv _ => n - (intOf kv).toNat)
    case atStart => exact ⟨0, by omega, rfl, fun m hm => by omega, hA, (ModP.refl _ _).alloc _⟩
    case round =>
      clear hA
      obtain ⟨k, hk', rfl, H1, H2, H3⟩ := hrel
      obtain ⟨y, rfl, ib⟩ := H2.out.door
      by_cases hkn : k < n
      · have k1 : (k : Int) < n := by omega
        have k2 : (k : Int) < 2 := by omega
        have k3 : k < 2 := by omega
        have k4 : k < key.length := by have := hn'.out; omega
        have k5 : (k : Int) < key.length := by omega
        go_wp2_with fail
        refine Ord.region1 [] [0, 1, 2, 3, 4, 5, 6] [7] (by kernel_rfl) (by kernel_rfl) (fun _ _ d _ _ h => by cases d <;> exact h) ?_
        simp only [Ord.pickO, Ord.nth]
        refine wpQuiet_nil ?_
        repeat (go_big_quiet_step (fail))
        refine wpQuiet_nil ?_
        by_cases he : cy k = key[k]
        · have d9 : ((((cy k).toNat : Int)) != (key[k].toNat : Int)) = false := by simp [he]
          go_wp2_with fail
          go_roundw
          case rel =>
            refine ⟨k + 1, by omega, by go_num, ?_, (by repeat (first | assumption | exact World.At_alloc_new | exact at_new (by first | rfl | (simp [World.size_put]; done) | (simp [World.size_put]; omega)) | refine World.At.alloc ?_ _ | refine World.At_drew.2 ?_ | refine (World.At_drewN _).2 ?_ | exact World.At_put_same (by first | assumption | (simp only [World.inB, World.size_put, World.alloc, World.drew, World.drewN, Array.size_push] at *; omega)) | refine (World.At_put_ne' (by first | assumption | (exact Ne.symm (by assumption)) | (simp only [World.inB, World.size_put] at *; omega))).2 ?_)), (by repeat (first | assumption | exact ModP.refl _ _ | refine ModP.fromPut ?_ (by assumption) | apply ModP.alloc | apply ModP.drew | apply ModP.drewN | refine ModP.put ?_ (by first | (left; assumption) | (left; rfl) | (right; simp only [World.inB, World.size_put] at *; omega)) _ _))⟩
            intro m hm
            by_cases e : m = k
            · subst e; rw [hg.out m k3, he, List.getElem?_eq_getElem k4]
            · exact H1.out m (by omega)
          case measure => simp [intOf]; omega
        · have d9 : ((((cy k).toNat : Int)) != (key[k].toNat : Int)) = true := by
            simp only [bne_iff_ne, ne_eq]
            intro e
            exact he (UInt8.toNat_inj.1 (by omega))
          go_wp2_with fail
          go_ret
          refine ⟨?_, (by repeat (first | assumption | exact ModP.refl _ _ | refine ModP.fromPut ?_ (by assumption) | apply ModP.alloc | apply ModP.drew | apply ModP.drewN | refine ModP.put ?_ (by first | (left; assumption) | (left; rfl) | (right; simp only [World.inB, World.size_put] at *; omega)) _ _))⟩
          have : S ≠ key := by
            intro e
            have e2 := congrArg (fun l => l[k]?) (hk.out.symm.trans e)
            simp only [List.getElem?_take_of_lt hkn, hg.out k k3, List.getElem?_eq_getElem k4] at e2
            injection e2 with e2
            exact he e2
          rw [decide_eq_false this]; rfl
      · obtain rfl : k = n := by omega
        go_wp2_with fail
        go_ret
        refine ⟨?_, (by repeat (first | assumption | exact ModP.refl _ _ | refine ModP.fromPut ?_ (by assumption) | apply ModP.alloc | apply ModP.drew | apply ModP.drewN | refine ModP.put ?_ (by first | (left; assumption) | (left; rfl) | (right; simp only [World.inB, World.size_put] at *; omega)) _ _))⟩
        have : S = key := by
          rw [hk.out]
          apply List.ext_getElem?
          intro m
          by_cases hm : m < k
          · rw [List.getElem?_take_of_lt hm]; exact H1.out m hm
          · have := hn'.out
            have := hL.out
            rw [List.getElem?_eq_none (by rw [List.length_take]; omega), List.getElem?_eq_none (by omega)]
        rw [decide_eq_true this]; rfl
  · have d1 : ((n : Int) != key.length) = true := by simp only [bne_iff_ne, ne_eq]; omega
    have hr : Hid (decide (S = key) = false) := by
      unfold Hid
      simp only [decide_eq_false_iff_not]
      intro e
      apply hne
      rw [← e, hk.out, List.length_take, hL.out]; omega
    clear hne h0 h2
    go_enter Tryz.func287, Tryz.ntmps287
    go_wp2_with fail
    go_ret
    rw [hr.out]
    exact ⟨rfl, (by repeat (first | assumption | exact ModP.refl _ _ | refine ModP.fromPut ?_ (by assumption) | apply ModP.alloc | apply ModP.drew | apply ModP.drewN | refine ModP.put ?_ (by first | (left; assumption) | (left; rfl) | (right; simp only [World.inB, World.size_put] at *; omega)) _ _))⟩
end Go.Proofs.Qxb6500990aGreat
