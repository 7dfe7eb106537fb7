/- package node: the decoder's readings -/
import Derived.Test.Qxb6500990aGreatNo3
set_option linter.unusedVariables false
set_option linter.unusedSimpArgs false
namespace Go.Tw
open Go Go.Proofs Go.Proofs.Qxb6500990aGreat
def oneD (l : Bs) (e p : Nat) (bad : Bool) : Int × Nat × Bool := if bad = true ∨ e ≤ p then (0, p, true) else (byt l p, p + 1, false)
def numD (l : Bs) (e p : Nat) (bad : Bool) : Int × Nat × Bool := if bad = true ∨ e < p + 8 then (0, p, true) else if maxT < beN l p 8 then (0, p + 8, true) else (beN l p 8, p + 8, false)
def textD (l : Bs) (e : Nat) (most : Int) (p : Nat) (bad : Bool) : Bs × Nat × Bool :=
  if (oneD l e p bad).2.2 = true ∨ most < (oneD l e p bad).1 ∨ (e : Int) < ((oneD l e p bad).2.1 : Int) + (oneD l e p bad).1 then ([], (oneD l e p bad).2.1, true)
  else ((l.drop (oneD l e p bad).2.1).take (oneD l e p bad).1.toNat, (oneD l e p bad).2.1 + (oneD l e p bad).1.toNat, false)
theorem byt_lt (l : Bs) (k : Nat) : byt l k < 256 := by unfold byt; have := (l.getD k 0).toNat_lt; omega
theorem oneD_bd {l : Bs} {e p : Nat} {bad : Bool} (hp : p ≤ e) : 0 ≤ (oneD l e p bad).1 ∧ (oneD l e p bad).1 < 256 ∧ (oneD l e p bad).2.1 ≤ e := by
  unfold oneD
  have := byt_bd l p
  have := byt_lt l p
  split
  · simp only []; omega
  · rename_i h
    simp only []
    have : ¬ e ≤ p := fun x => h (.inr x)
    omega
theorem numD_bd {l : Bs} {e p : Nat} {bad : Bool} (hp : p ≤ e) : 0 ≤ (numD l e p bad).1 ∧ (numD l e p bad).1 ≤ maxT ∧ (numD l e p bad).2.1 ≤ e := by
  have := (beN_bd l p 8).1
  have m0 : (0 : Int) ≤ maxT := by unfold maxT; omega
  unfold numD
  split
  · simp only []; omega
  · rename_i h
    have : ¬ e < p + 8 := fun x => h (.inr x)
    split
    · simp only []; omega
    · simp only []; omega
end Go.Tw
namespace Go.Proofs.Qxb6500990aGreat
open Go Go.RowKit Go.Tw
attribute [local go_sem] World.cell?_put_same World.cell?_put_ne World.cell?_put_ne' World.frozen?_put_same World.frozen?_put_ne World.frozen?_put_ne' World.setCell_put_same World.setCell_put_ne World.setCell_put_ne' World.inB_put World.inB_alloc World.inB_drew World.inB_drewN World.inB_new World.inB_setCell World.put_drew World.put_drewN World.q_setCell_drew World.q_setCell_drewN World.q_alloc_drew World.q_alloc_drewN World.put_put_same World.put_put_2 World.size_put World.q_cell?_alloc_old World.q_frozen?_alloc_old World.cell?_alloc_new' World.frozen?_alloc_new' World.q_setCell_alloc_old World.q_setCell_alloc_new World.q_put_alloc_old World.cell?_force_same World.frozen?_force_same World.cell?_force2_fst World.cell?_force2_snd Dec.g0 Dec.s0 Dec.g1 Dec.s1 Dec.g2 Dec.s2 Dec.g3 Dec.s3
attribute [local go_sem] ba_get w64_byte ByteArray.extract_mk
set_option maxHeartbeats 4000000
set_option maxRecDepth 100000
section
variable {W : World} {bd : Nat} {l : Bs} {e p : Nat} {bad : Bool}
theorem c190 (W : World) (l : Bs) (e : Nat) (he : e ≤ l.length) (hl : l.length ≤ 1000) : Calls Tryz.prog 190 #[vs l, vi e] W fun r w' => r = .returned (vi (sumF (bi (l.take e)))) ∧ w' = W := by
  go_enter Tryz.func190, Tryz.ntmps190
  go_wp2_with fail
  go_loop [5, 6] (fun sv kv => ∃ k : Nat, k ≤ e ∧ kv = vi k ∧ sv = vi (sumF (bi (l.take k)))) (fun _ kv => e - (intOf kv).toNat)
  case atStart => exact ⟨0, by omega, rfl, rfl⟩
  case round =>
    obtain ⟨k, hk, rfl, rfl⟩ := hrel
    by_cases hlt : k < e
    · have hkl : k < l.length := by omega
      have k1 : (k : Int) < l.length := by omega
      have sb := sumF_bd (bi (l.take k))
      have hx := l[k].toNat_lt
      have q := hidIt (fun u => c242 u (sumF (bi (l.take k))) (l[k].toNat : Int) sb.1 sb.2 (by omega) (by omega))
      have hst : Hid (sumF (bi (l.take (k + 1))) = (sumF (bi (l.take k)) * 31 + (l[k].toNat : Int) + 1) % 65536) := by unfold Hid; rw [take_snoc' l k hkl, sumF_snoc]
      go_wp2_with (first
        | (go_at_call 242; refine (q.out _).mono ?_; rintro _ w1 ⟨rfl, rfl⟩))
      go_round
      case rel => exact ⟨k + 1, by omega, by go_num, by rw [hst.out]⟩
      case measure => simp [intOf]; omega
    · have ek : Hid (k = e) := by unfold Hid; omega
      have d9 : decide (k < e) = false := by simpa using hlt
      go_wp2_with fail
      go_ret
      rw [← ek.out]
      exact ⟨rfl, rfl⟩
theorem c191 (h : W.At bd (Dec.cells ⟨l, p, e, bad⟩) 260) (he : e ≤ l.length) (hl : l.length ≤ 1000) : Calls Tryz.prog 191 #[vp bd] W fun r w' => r = .returned (vi (oneD l e p bad).1) ∧ w'.At bd (Dec.cells ⟨l, (oneD l e p bad).2.1, e, (oneD l e p bad).2.2⟩) 260 ∧ ModP (fun x => x = bd) W w' := by
  obtain ⟨y, rfl, ib⟩ := h.door
  clear h
  by_cases hb : bad = true
  · have hk : Hid (oneD l e p bad = (0, p, true)) := by unfold Hid oneD; rw [if_pos (.inl hb)]
    subst hb
    rw [hk.out]
    go_enter Tryz.func191, Tryz.ntmps191
    go_wp2_with fail
    refine Ord.region1 [] [0, 1, 2, 3, 4, 5, 6, 7, 8, 9, 10, 11, 12, 13] [14] (by kernel_rfl) (by kernel_rfl) (fun _ _ d _ _ h => by cases d <;> exact h) ?_
    simp only [Ord.pickO, Ord.nth]
    refine wpQuiet_nil ?_
    repeat (go_big_quiet_step (fail))
    refine wpQuiet_nil ?_
    go_wp2_with fail
    go_ret
    exact ⟨rfl, (by repeat (first | assumption | (with_reducible refine World.At_drew.2 ?_) | (with_reducible refine (World.At_drewN _).2 ?_) | (with_reducible exact World.At_put_same (by first | assumption | (simp only [World.inB, World.size_put, World.alloc, World.drew, World.drewN, Array.size_push] at *; omega))) | (with_reducible refine (World.At_put_ne' (by first | assumption | (exact Ne.symm (by assumption)) | (simp only [World.inB, World.size_put] at *; omega))).2 ?_) | (with_reducible exact World.At_alloc_new) | (with_reducible exact at_new (by first | rfl | (simp [World.size_put]; done) | (simp [World.size_put]; omega))) | (with_reducible refine World.At.alloc ?_ _))), ModP.fromPut (by repeat (first | assumption | exact ModP.refl _ _ | refine ModP.fromPut ?_ (by assumption) | apply ModP.alloc | apply ModP.drew | apply ModP.drewN | refine ModP.put ?_ (by first | (left; assumption) | (left; rfl) | (right; simp only [World.inB, World.size_put] at *; omega)) _ _)) rfl⟩
  · have hb' : bad = false := by simpa using hb
    subst hb'
    by_cases hp : e ≤ p
    · have hk : Hid (oneD l e p false = (0, p, true)) := by unfold Hid oneD; rw [if_pos (.inr hp)]
      have d1 : decide (e ≤ p) = true := by simpa using hp
      rw [hk.out]
      clear hb hp
      go_enter Tryz.func191, Tryz.ntmps191
      go_wp2_with fail
      refine Ord.region1 [] [0, 1, 2, 3, 4, 5, 6, 7, 8, 9, 10, 11, 12, 13] [14] (by kernel_rfl) (by kernel_rfl) (fun _ _ d _ _ h => by cases d <;> exact h) ?_
      simp only [Ord.pickO, Ord.nth]
      refine wpQuiet_nil ?_
      repeat (go_big_quiet_step (fail))
      refine wpQuiet_nil ?_
      go_wp2_with fail
      go_ret
      exact ⟨rfl, (by repeat (first | assumption | (with_reducible refine World.At_drew.2 ?_) | (with_reducible refine (World.At_drewN _).2 ?_) | (with_reducible exact World.At_put_same (by first | assumption | (simp only [World.inB, World.size_put, World.alloc, World.drew, World.drewN, Array.size_push] at *; omega))) | (with_reducible refine (World.At_put_ne' (by first | assumption | (exact Ne.symm (by assumption)) | (simp only [World.inB, World.size_put] at *; omega))).2 ?_) | (with_reducible exact World.At_alloc_new) | (with_reducible exact at_new (by first | rfl | (simp [World.size_put]; done) | (simp [World.size_put]; omega))) | (with_reducible refine World.At.alloc ?_ _))), ModP.fromPut (by repeat (first | assumption | exact ModP.refl _ _ | refine ModP.fromPut ?_ (by assumption) | apply ModP.alloc | apply ModP.drew | apply ModP.drewN | refine ModP.put ?_ (by first | (left; assumption) | (left; rfl) | (right; simp only [World.inB, World.size_put] at *; omega)) _ _)) rfl⟩
    · have hk : Hid (oneD l e p false = (byt l p, p + 1, false)) := by unfold Hid oneD; rw [if_neg (fun x => x.elim (by simp) hp)]
      have d1 : decide (e ≤ p) = false := by simpa using hp
      have hpl : p < l.length := by omega
      have p1 : (p : Int) < l.length := by omega
      have hbt : Hid (byt l p = (l[p].toNat : Int)) := by unfold Hid byt; simp [List.getD_eq_getElem?_getD, hpl]
      have hw : wrap64 (l[p].toNat : Int) = (l[p].toNat : Int) := IntWalk.wrap64_in _ (by have := l[p].toNat_lt; omega)
      rw [hk.out]
      clear hb hp
      go_enter Tryz.func191, Tryz.ntmps191
      go_wp2_with fail
      refine Ord.region1 [] [0, 1, 2, 3, 4, 5, 6, 7, 8, 9, 10, 11, 12, 13] [14] (by kernel_rfl) (by kernel_rfl) (fun _ _ d _ _ h => by cases d <;> exact h) ?_
      simp only [Ord.pickO, Ord.nth]
      refine wpQuiet_nil ?_
      repeat (go_big_quiet_step (fail))
      refine wpQuiet_nil ?_
      go_wp2_with fail
      refine Ord.region1 [] [0, 1, 2, 3, 4, 5, 6, 7, 8, 9] [10] (by kernel_rfl) (by kernel_rfl) (fun _ _ d _ _ h => by cases d <;> exact h) ?_
      simp only [Ord.pickO, Ord.nth]
      refine wpQuiet_nil ?_
      repeat (go_big_quiet_step (fail))
      refine wpQuiet_nil ?_
      go_wp2_with fail
      go_ret
      refine ⟨?_, ?_, ModP.fromPut (by repeat (first | assumption | exact ModP.refl _ _ | refine ModP.fromPut ?_ (by assumption) | apply ModP.alloc | apply ModP.drew | apply ModP.drewN | refine ModP.put ?_ (by first | (left; assumption) | (left; rfl) | (right; simp only [World.inB, World.size_put] at *; omega)) _ _)) rfl⟩
      · rw [hbt.out]
        show Ending.returned (.int .i64 (wrap64 (l[p].toNat : Int))) = _
        rw [hw]
      · show World.At _ bd (Dec.cells ⟨l, (p : Int) + 1, e, false⟩) 260
        exact (by repeat (first | assumption | (with_reducible refine World.At_drew.2 ?_) | (with_reducible refine (World.At_drewN _).2 ?_) | (with_reducible exact World.At_put_same (by first | assumption | (simp only [World.inB, World.size_put, World.alloc, World.drew, World.drewN, Array.size_push] at *; omega))) | (with_reducible refine (World.At_put_ne' (by first | assumption | (exact Ne.symm (by assumption)) | (simp only [World.inB, World.size_put] at *; omega))).2 ?_) | (with_reducible exact World.At_alloc_new) | (with_reducible exact at_new (by first | rfl | (simp [World.size_put]; done) | (simp [World.size_put]; omega))) | (with_reducible refine World.At.alloc ?_ _)))
theorem c192 (h : W.At bd (Dec.cells ⟨l, p, e, bad⟩) 260) (he : e ≤ l.length) (hl : l.length ≤ 1000) (hp : p ≤ e) : Calls Tryz.prog 192 #[vp bd] W fun r w' => r = .returned (vi (numD l e p bad).1) ∧ w'.At bd (Dec.cells ⟨l, (numD l e p bad).2.1, e, (numD l e p bad).2.2⟩) 260 ∧ ModP (fun x => x = bd) W w' := by
  obtain ⟨y, rfl, ib⟩ := h.door
  clear h
  by_cases hb : bad = true
  · have hk : Hid (numD l e p bad = (0, p, true)) := by unfold Hid numD; rw [if_pos (.inl hb)]
    subst hb
    rw [hk.out]
    go_enter Tryz.func192, Tryz.ntmps192
    go_wp2_with fail
    refine Ord.region1 [] [0, 1, 2, 3, 4, 5, 6, 7, 8, 9, 10, 11, 12, 13, 14] [15] (by kernel_rfl) (by kernel_rfl) (fun _ _ d _ _ h => by cases d <;> exact h) ?_
    simp only [Ord.pickO, Ord.nth]
    refine wpQuiet_nil ?_
    repeat (go_big_quiet_step (fail))
    refine wpQuiet_nil ?_
    go_wp2_with fail
    go_ret
    exact ⟨rfl, (by repeat (first | assumption | (with_reducible refine World.At_drew.2 ?_) | (with_reducible refine (World.At_drewN _).2 ?_) | (with_reducible exact World.At_put_same (by first | assumption | (simp only [World.inB, World.size_put, World.alloc, World.drew, World.drewN, Array.size_push] at *; omega))) | (with_reducible refine (World.At_put_ne' (by first | assumption | (exact Ne.symm (by assumption)) | (simp only [World.inB, World.size_put] at *; omega))).2 ?_) | (with_reducible exact World.At_alloc_new) | (with_reducible exact at_new (by first | rfl | (simp [World.size_put]; done) | (simp [World.size_put]; omega))) | (with_reducible refine World.At.alloc ?_ _))), ModP.fromPut (by repeat (first | assumption | exact ModP.refl _ _ | refine ModP.fromPut ?_ (by assumption) | apply ModP.alloc | apply ModP.drew | apply ModP.drewN | refine ModP.put ?_ (by first | (left; assumption) | (left; rfl) | (right; simp only [World.inB, World.size_put] at *; omega)) _ _)) rfl⟩
  · have hb' : bad = false := by simpa using hb
    subst hb'
    by_cases hq : e < p + 8
    · have hk : Hid (numD l e p false = (0, p, true)) := by unfold Hid numD; rw [if_pos (.inr hq)]
      have d1 : decide ((p : Int) + 8 > (e : Int)) = true := by simp; omega
      rw [hk.out]
      clear hb
      go_enter Tryz.func192, Tryz.ntmps192
      go_wp2_with fail
      refine Ord.region1 [] [0, 1, 2, 3, 4, 5, 6, 7, 8, 9, 10, 11, 12, 13, 14] [15] (by kernel_rfl) (by kernel_rfl) (fun _ _ d _ _ h => by cases d <;> exact h) ?_
      simp only [Ord.pickO, Ord.nth]
      refine wpQuiet_nil ?_
      repeat (go_big_quiet_step (fail))
      refine wpQuiet_nil ?_
      go_wp2_with fail
      go_ret
      exact ⟨rfl, (by repeat (first | assumption | (with_reducible refine World.At_drew.2 ?_) | (with_reducible refine (World.At_drewN _).2 ?_) | (with_reducible exact World.At_put_same (by first | assumption | (simp only [World.inB, World.size_put, World.alloc, World.drew, World.drewN, Array.size_push] at *; omega))) | (with_reducible refine (World.At_put_ne' (by first | assumption | (exact Ne.symm (by assumption)) | (simp only [World.inB, World.size_put] at *; omega))).2 ?_) | (with_reducible exact World.At_alloc_new) | (with_reducible exact at_new (by first | rfl | (simp [World.size_put]; done) | (simp [World.size_put]; omega))) | (with_reducible refine World.At.alloc ?_ _))), ModP.fromPut (by repeat (first | assumption | exact ModP.refl _ _ | refine ModP.fromPut ?_ (by assumption) | apply ModP.alloc | apply ModP.drew | apply ModP.drewN | refine ModP.put ?_ (by first | (left; assumption) | (left; rfl) | (right; simp only [World.inB, World.size_put] at *; omega)) _ _)) rfl⟩
    · have d1 : decide ((p : Int) + 8 > (e : Int)) = false := by simp; omega
      have b8 := beN_bd l p 8
      have hbb := hidIt (fun k => beN_bd l p k)
      go_enter Tryz.func192, Tryz.ntmps192
      go_wp2_with fail
      refine Ord.region1 [] [0, 1, 2, 3, 4, 5, 6, 7, 8, 9, 10, 11, 12, 13, 14] [15] (by kernel_rfl) (by kernel_rfl) (fun _ _ d _ _ h => by cases d <;> exact h) ?_
      simp only [Ord.pickO, Ord.nth]
      refine wpQuiet_nil ?_
      repeat (go_big_quiet_step (fail))
      refine wpQuiet_nil ?_
      go_wp2_with fail
      go_loopw [3, 4] (fun sv kv u => ∃ (k : Nat) (y' : World), k ≤ 8 ∧ kv = vi k ∧ sv = .int .u64 (beN l p k) ∧ u = y'.put bd (Dec.cells ⟨l, p, e, false⟩) 260 ∧ y'.inB bd ∧ Hid (ModP (fun x => x = bd) y y')) (fun _ kv _ => 8 - (intOf kv).toNat)
      case atStart => exact ⟨0, y.drew, by omega, rfl, rfl, rfl, ib, (ModP.refl _ _).drew⟩
      case round =>
        obtain ⟨k, y', hk, rfl, rfl, rfl, ib', my⟩ := hrel
        by_cases hlt : k < 8
        · obtain ⟨b0, b1⟩ := hbb.out k
          have b2 : beN l p k < 72057594037927936 := by
            have := pow256 (k := k) (by omega)
            omega
          clear b1 b8
          obtain ⟨q9, eq9⟩ : ∃ q9 : Nat, q9 = p + k := ⟨_, rfl⟩
          have hi : q9 < l.length := by omega
          have hi2 : (q9 : Int) < l.length := by omega
          have hb9 : Hid (beN l p (k + 1) = beN l p k * 256 + (l[q9].toNat : Int)) := by unfold Hid; subst eq9; simp [beN, List.getD_eq_getElem?_getD, hi]
          have ho : Hid (bits .or .u64 (beN l p k * 256) (IntKind.u64.wrap (l[q9].toNat : Int)) = beN l p k * 256 + (l[q9].toNat : Int)) := or_byte _ _ b0 b2
          have e9 : (p : Int) + (k : Int) = (q9 : Int) := by omega
          clear eq9
          go_wp2_with fail
          refine Ord.region1 [] [0, 1, 2, 3, 4, 5, 6, 7, 8, 9, 10, 11, 12, 13, 14] [15] (by kernel_rfl) (by kernel_rfl) (fun _ _ d _ _ h => by cases d <;> exact h) ?_
          simp only [Ord.pickO, Ord.nth]
          refine wpQuiet_nil ?_
          repeat (go_big_quiet_step (fail))
          refine wpQuiet_nil ?_
          go_wp2_with fail
          go_roundw
          case rel => exact ⟨k + 1, y'.drew, by omega, by go_num, congrArg (Value.int .u64) (ho.out.trans hb9.out.symm), rfl, ib', my.out.drew⟩
          case measure => simp [intOf]; omega
        · have ek : k = 8 := by omega
          have d8 : decide ((k : Int) < 8) = false := by simp; omega
          have ev : Hid (beN l p k = beN l p 8) := by unfold Hid; rw [ek]
          have hv0 : 0 ≤ beN l p k := (hbb.out k).1
          clear hlt ek b8
          by_cases hm : beN l p k ≤ 72057594037927936
          · have hk : Hid (numD l e p false = (beN l p k, p + 8, false)) := by
              unfold Hid numD
              rw [if_neg (fun x => x.elim (by simp) hq), if_neg (by have := ev.out; unfold maxT; omega), ev.out]
            generalize beN l p k = v at *
            have dm : decide (v > 72057594037927936) = false := by simp; omega
            go_wp2_with fail
            go_ret
            rw [hk.out]
            refine ⟨rfl, ?_, ModP.fromPut ?_ rfl⟩
            · show World.At _ bd (Dec.cells ⟨l, (p : Int) + 8, e, false⟩) 260
              exact (by repeat (first | assumption | (with_reducible refine World.At_drew.2 ?_) | (with_reducible refine (World.At_drewN _).2 ?_) | (with_reducible exact World.At_put_same (by first | assumption | (simp only [World.inB, World.size_put, World.alloc, World.drew, World.drewN, Array.size_push] at *; omega))) | (with_reducible refine (World.At_put_ne' (by first | assumption | (exact Ne.symm (by assumption)) | (simp only [World.inB, World.size_put] at *; omega))).2 ?_) | (with_reducible exact World.At_alloc_new) | (with_reducible exact at_new (by first | rfl | (simp [World.size_put]; done) | (simp [World.size_put]; omega))) | (with_reducible refine World.At.alloc ?_ _)))
            · have := my.out
              exact (by repeat (first | assumption | exact ModP.refl _ _ | refine ModP.fromPut ?_ (by assumption) | apply ModP.alloc | apply ModP.drew | apply ModP.drewN | refine ModP.put ?_ (by first | (left; assumption) | (left; rfl) | (right; simp only [World.inB, World.size_put] at *; omega)) _ _))
          · have hk : Hid (numD l e p false = (0, p + 8, true)) := by
              unfold Hid numD
              rw [if_neg (fun x => x.elim (by simp) hq), if_pos (by have := ev.out; unfold maxT; omega)]
            generalize beN l p k = v at *
            have dm : decide (v > 72057594037927936) = true := by simp; omega
            go_wp2_with fail
            go_ret
            rw [hk.out]
            refine ⟨rfl, ?_, ModP.fromPut ?_ rfl⟩
            · show World.At _ bd (Dec.cells ⟨l, (p : Int) + 8, e, true⟩) 260
              exact (by repeat (first | assumption | (with_reducible refine World.At_drew.2 ?_) | (with_reducible refine (World.At_drewN _).2 ?_) | (with_reducible exact World.At_put_same (by first | assumption | (simp only [World.inB, World.size_put, World.alloc, World.drew, World.drewN, Array.size_push] at *; omega))) | (with_reducible refine (World.At_put_ne' (by first | assumption | (exact Ne.symm (by assumption)) | (simp only [World.inB, World.size_put] at *; omega))).2 ?_) | (with_reducible exact World.At_alloc_new) | (with_reducible exact at_new (by first | rfl | (simp [World.size_put]; done) | (simp [World.size_put]; omega))) | (with_reducible refine World.At.alloc ?_ _)))
            · have := my.out
              exact (by repeat (first | assumption | exact ModP.refl _ _ | refine ModP.fromPut ?_ (by assumption) | apply ModP.alloc | apply ModP.drew | apply ModP.drewN | refine ModP.put ?_ (by first | (left; assumption) | (left; rfl) | (right; simp only [World.inB, World.size_put] at *; omega)) _ _))
theorem c193 (h : W.At bd (Dec.cells ⟨l, p, e, bad⟩) 260) (he : e ≤ l.length) (hl : l.length ≤ 1000) (hp : p ≤ e) (most : Int) : Calls Tryz.prog 193 #[vp bd, vi most] W fun r w' => r = .returned (vs (textD l e most p bad).1) ∧ w'.At bd (Dec.cells ⟨l, (textD l e most p bad).2.1, e, (textD l e most p bad).2.2⟩) 260 ∧ ModP (fun x => x = bd) W w' := by
  have q := hidIt (c191 h he hl)
  have bd1 := oneD_bd (l := l) (bad := bad) hp
  unfold textD
  rcases hX : oneD l e p bad with ⟨v, p1, b1⟩
  rw [hX] at q bd1
  simp only [] at *
  obtain ⟨v0, v1, hp1⟩ := bd1
  obtain ⟨n, rfl⟩ := Int.eq_ofNat_of_zero_le v0
  clear h hX v0 hp
  cases b1
  · by_cases h1 : most < (n : Int)
    · have d1 : decide ((n : Int) > most) = true := by simpa using h1
      rw [if_pos (.inr (.inl h1))]
      clear h1
      go_enter Tryz.func193, Tryz.ntmps193
      go_wp2_with (first
        | (go_at_call 191; refine q.out.mono ?_; rintro _ w1 ⟨rfl, a1, m1⟩; obtain ⟨y, rfl, ib⟩ := a1.door; have M1 := hidIt (m1.unput (.inl rfl)); clear a1 m1))
      refine Ord.region1 [] [0, 1, 2, 3, 4, 5, 6, 7, 8, 9, 10, 11, 12, 13, 14, 15, 16, 17, 18, 19, 20] [21] (by kernel_rfl) (by kernel_rfl) (fun _ _ d _ _ h => by cases d <;> exact h) ?_
      simp only [Ord.pickO, Ord.nth]
      refine wpQuiet_nil ?_
      repeat (go_big_quiet_step (fail))
      refine wpQuiet_nil ?_
      go_wp2_with fail
      go_ret
      have := M1.out
      exact ⟨rfl, (by repeat (first | assumption | (with_reducible refine World.At_drew.2 ?_) | (with_reducible refine (World.At_drewN _).2 ?_) | (with_reducible exact World.At_put_same (by first | assumption | (simp only [World.inB, World.size_put, World.alloc, World.drew, World.drewN, Array.size_push] at *; omega))) | (with_reducible refine (World.At_put_ne' (by first | assumption | (exact Ne.symm (by assumption)) | (simp only [World.inB, World.size_put] at *; omega))).2 ?_) | (with_reducible exact World.At_alloc_new) | (with_reducible exact at_new (by first | rfl | (simp [World.size_put]; done) | (simp [World.size_put]; omega))) | (with_reducible refine World.At.alloc ?_ _))), (by repeat (first | assumption | exact ModP.refl _ _ | refine ModP.fromPut ?_ (by assumption) | apply ModP.alloc | apply ModP.drew | apply ModP.drewN | refine ModP.put ?_ (by first | (left; assumption) | (left; rfl) | (right; simp only [World.inB, World.size_put] at *; omega)) _ _))⟩
    · have d1 : decide ((n : Int) > most) = false := by simpa using h1
      by_cases h2 : (e : Int) < (p1 : Int) + n
      · have d2 : decide ((p1 : Int) + (n : Int) > (e : Int)) = true := by simp; omega
        rw [if_pos (.inr (.inr h2))]
        clear h1
        go_enter Tryz.func193, Tryz.ntmps193
        go_wp2_with (first
          | (go_at_call 191; refine q.out.mono ?_; rintro _ w1 ⟨rfl, a1, m1⟩; obtain ⟨y, rfl, ib⟩ := a1.door; have M1 := hidIt (m1.unput (.inl rfl)); clear a1 m1))
        refine Ord.region1 [] [0, 1, 2, 3, 4, 5, 6, 7, 8, 9, 10, 11, 12, 13, 14, 15, 16, 17, 18, 19, 20] [21] (by kernel_rfl) (by kernel_rfl) (fun _ _ d _ _ h => by cases d <;> exact h) ?_
        simp only [Ord.pickO, Ord.nth]
        refine wpQuiet_nil ?_
        repeat (go_big_quiet_step (fail))
        refine wpQuiet_nil ?_
        go_wp2_with fail
        go_ret
        have := M1.out
        exact ⟨rfl, (by repeat (first | assumption | (with_reducible refine World.At_drew.2 ?_) | (with_reducible refine (World.At_drewN _).2 ?_) | (with_reducible exact World.At_put_same (by first | assumption | (simp only [World.inB, World.size_put, World.alloc, World.drew, World.drewN, Array.size_push] at *; omega))) | (with_reducible refine (World.At_put_ne' (by first | assumption | (exact Ne.symm (by assumption)) | (simp only [World.inB, World.size_put] at *; omega))).2 ?_) | (with_reducible exact World.At_alloc_new) | (with_reducible exact at_new (by first | rfl | (simp [World.size_put]; done) | (simp [World.size_put]; omega))) | (with_reducible refine World.At.alloc ?_ _))), (by repeat (first | assumption | exact ModP.refl _ _ | refine ModP.fromPut ?_ (by assumption) | apply ModP.alloc | apply ModP.drew | apply ModP.drewN | refine ModP.put ?_ (by first | (left; assumption) | (left; rfl) | (right; simp only [World.inB, World.size_put] at *; omega)) _ _))⟩
      · have d2 : decide ((p1 : Int) + (n : Int) > (e : Int)) = false := by simp; omega
        have hle : (p1 : Int) + n ≤ l.length := by omega
        rw [if_neg (by simp; omega)]
        clear h1
        go_enter Tryz.func193, Tryz.ntmps193
        go_wp2_with (first
          | (go_at_call 191; refine q.out.mono ?_; rintro _ w1 ⟨rfl, a1, m1⟩; obtain ⟨y, rfl, ib⟩ := a1.door; have M1 := hidIt (m1.unput (.inl rfl)); clear a1 m1))
        refine Ord.region1 [] [0, 1, 2, 3, 4, 5, 6, 7, 8, 9, 10, 11, 12, 13, 14, 15, 16, 17, 18, 19, 20] [21] (by kernel_rfl) (by kernel_rfl) (fun _ _ d _ _ h => by cases d <;> exact h) ?_
        simp only [Ord.pickO, Ord.nth]
        refine wpQuiet_nil ?_
        repeat (go_big_quiet_step (fail))
        refine wpQuiet_nil ?_
        go_wp2_with fail
        refine Ord.region1 [] [0, 1, 2, 3, 4, 5, 6, 7, 8, 9, 10, 11, 12, 13, 14] [15] (by kernel_rfl) (by kernel_rfl) (fun _ _ d _ _ h => by cases d <;> exact h) ?_
        simp only [Ord.pickO, Ord.nth]
        refine wpQuiet_nil ?_
        repeat (go_big_quiet_step (fail))
        refine wpQuiet_nil ?_
        go_wp2_with fail
        go_ret
        have := M1.out
        refine ⟨?_, ?_, (by repeat (first | assumption | exact ModP.refl _ _ | refine ModP.fromPut ?_ (by assumption) | apply ModP.alloc | apply ModP.drew | apply ModP.drewN | refine ModP.put ?_ (by first | (left; assumption) | (left; rfl) | (right; simp only [World.inB, World.size_put] at *; omega)) _ _))⟩
        · simp
        · show World.At _ bd (Dec.cells ⟨l, (p1 : Int) + (n : Int), e, false⟩) 260
          exact (by repeat (first | assumption | (with_reducible refine World.At_drew.2 ?_) | (with_reducible refine (World.At_drewN _).2 ?_) | (with_reducible exact World.At_put_same (by first | assumption | (simp only [World.inB, World.size_put, World.alloc, World.drew, World.drewN, Array.size_push] at *; omega))) | (with_reducible refine (World.At_put_ne' (by first | assumption | (exact Ne.symm (by assumption)) | (simp only [World.inB, World.size_put] at *; omega))).2 ?_) | (with_reducible exact World.At_alloc_new) | (with_reducible exact at_new (by first | rfl | (simp [World.size_put]; done) | (simp [World.size_put]; omega))) | (with_reducible refine World.At.alloc ?_ _)))
  · rw [if_pos (.inl rfl)]
    go_enter Tryz.func193, Tryz.ntmps193
    go_wp2_with (first
      | (go_at_call 191; refine q.out.mono ?_; rintro _ w1 ⟨rfl, a1, m1⟩; obtain ⟨y, rfl, ib⟩ := a1.door; have M1 := hidIt (m1.unput (.inl rfl)); clear a1 m1))
    refine Ord.region1 [] [0, 1, 2, 3, 4, 5, 6, 7, 8, 9, 10, 11, 12, 13, 14, 15, 16, 17, 18, 19, 20] [21] (by kernel_rfl) (by kernel_rfl) (fun _ _ d _ _ h => by cases d <;> exact h) ?_
    simp only [Ord.pickO, Ord.nth]
    refine wpQuiet_nil ?_
    repeat (go_big_quiet_step (fail))
    refine wpQuiet_nil ?_
    go_wp2_with fail
    go_ret
    have := M1.out
    exact ⟨rfl, (by repeat (first | assumption | (with_reducible refine World.At_drew.2 ?_) | (with_reducible refine (World.At_drewN _).2 ?_) | (with_reducible exact World.At_put_same (by first | assumption | (simp only [World.inB, World.size_put, World.alloc, World.drew, World.drewN, Array.size_push] at *; omega))) | (with_reducible refine (World.At_put_ne' (by first | assumption | (exact Ne.symm (by assumption)) | (simp only [World.inB, World.size_put] at *; omega))).2 ?_) | (with_reducible exact World.At_alloc_new) | (with_reducible exact at_new (by first | rfl | (simp [World.size_put]; done) | (simp [World.size_put]; omega))) | (with_reducible refine World.At.alloc ?_ _))), (by repeat (first | assumption | exact ModP.refl _ _ | refine ModP.fromPut ?_ (by assumption) | apply ModP.alloc | apply ModP.drew | apply ModP.drewN | refine ModP.put ?_ (by first | (left; assumption) | (left; rfl) | (right; simp only [World.inB, World.size_put] at *; omega)) _ _))⟩
end
end Go.Proofs.Qxb6500990aGreat
