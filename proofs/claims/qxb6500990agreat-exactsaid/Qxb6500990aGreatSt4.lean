/- package store: a snapshot's area -/
import Derived.Test.Qxb6500990aGreatSt3
set_option linter.unusedVariables false
set_option linter.unusedSimpArgs false
namespace Go.Proofs.Qxb6500990aGreat
open Go Go.RowKit Go.Tw
attribute [local go_sem] World.cell?_put_same World.cell?_put_ne World.cell?_put_ne' World.frozen?_put_same World.frozen?_put_ne World.frozen?_put_ne' World.setCell_put_same World.setCell_put_ne World.setCell_put_ne' World.inB_put World.inB_alloc World.inB_drew World.inB_drewN World.inB_new World.inB_setCell World.put_drew World.put_drewN World.q_setCell_drew World.q_setCell_drewN World.q_alloc_drew World.q_alloc_drewN World.put_put_same World.put_put_2 World.size_put World.q_cell?_alloc_old World.q_frozen?_alloc_old World.cell?_alloc_new' World.frozen?_alloc_new' World.q_setCell_alloc_old World.q_setCell_alloc_new World.q_put_alloc_old World.cell?_force_same World.frozen?_force_same World.cell?_force2_fst World.cell?_force2_snd Meta.g0 Meta.s0 Meta.g1 Meta.s1 Meta.g2 Meta.s2 Meta.g3 Meta.s3 Head.g0 Head.s0 Head.g1 Head.s1 Head.g2 Head.s2 Head.g3 Head.s3 Head.g4 Head.s4 Head.g5 Head.s5 Rec.g0 Rec.s0 Rec.g1 Rec.s1 Rec.g2 Rec.s2
attribute [local go_sem] ba_get mk127
set_option maxHeartbeats 4000000
set_option maxRecDepth 100000
theorem _root_.Go.ModP.below {W w w' : World} (m : ModP (fun _ => False) W w) (h : Below W.heap.size w w') (s : w.heap.size ≤ w'.heap.size) : ModP (fun _ => False) W w' :=
  ⟨h.os.trans m.os, h.tape.trans m.tape, h.output.trans m.output, Nat.le_trans m.size s, fun k hk _ => (h.block k hk).trans (m.block k hk (fun f => f))⟩
theorem c58 {W : World} {F : Nat → Prop} {bt bd : Nat} {D : Dk} {S : StoreR} (hd : DK W F bd D) (ht : W.At bt S.cells 139) (hS : S.d = vp bd) (a : Nat) (ha : a < 2) (n : Nat) (hn : n ≤ 128)
    {x0 x1 : Bs} (h0 : D.now.getD (4 + a * 2) [] = x0) (h1 : D.now.getD (4 + a * 2 + 1) [] = x1) (l0 : x0.length = 64) (l1 : x1.length = 64) :
    Calls Tryz.prog 58 #[vp bt, vi a, vi n] W fun r w' => r = .returned (vs ((x0 ++ x1).take n)) ∧ ModP (fun _ => False) W w' := by
  obtain ⟨xs, hxs⟩ : ∃ xs : Nat → Bs, ∀ k, xs k = if k = 0 then x0 else x1 := ⟨_, fun _ => rfl⟩
  have hrd := hidIt (fun w' (m : ModP (fun _ => False) W w') (k : Nat) (hk : k < 2) => (show Calls Tryz.prog 55 #[vp bt, vi ((4 + a * 2 + k : Nat) : Int)] w' fun r w'' => r = .returned (vs (xs k)) ∧ w'' = w' from by
    have h := c55 (hd.frame m (fun _ _ f => f)) (m.at ht (fun f => f)) hS (4 + a * 2 + k) (by omega)
    have e : D.now.getD (4 + a * 2 + k) [] = xs k := by
      rw [hxs]
      have : k = 0 ∨ k = 1 := by omega
      rcases this with rfl | rfl
      · exact h0
      · exact h1
    rw [e] at h
    exact h))
  have hxl : Hid (∀ k, (xs k).length = 64) := fun k => by rw [hxs]; split <;> assumption
  obtain ⟨X, hX⟩ : ∃ X, X = x0 ++ x1 := ⟨_, rfl⟩
  have hXl : Hid (X.length = 128) := by unfold Hid; rw [hX]; simp [l0, l1]
  have hXg : Hid (∀ k i (hk : k < 2) (hi : i < 64), X[k * 64 + i]? = some ((xs k).getD i 0)) := by
    intro k i hk hi
    have : k = 0 ∨ k = 1 := by omega
    have e := hxs k
    have hlk := hxl.out k
    rcases this with rfl | rfl
    · have e2 : xs 0 = x0 := e
      rw [hX, List.getElem?_append_left (by omega)]
      simp only [Nat.zero_mul, Nat.zero_add]
      rw [← e2, List.getElem?_eq_getElem (by omega), List.getD_eq_getElem?_getD, List.getElem?_eq_getElem (by omega)]; rfl
    · have e2 : xs 1 = x1 := e
      rw [hX, List.getElem?_append_right (by omega), l0]
      simp only [Nat.one_mul, Nat.add_sub_cancel_left]
      rw [← e2, List.getElem?_eq_getElem (by omega), List.getD_eq_getElem?_getD, List.getElem?_eq_getElem (by omega)]; rfl
  rw [← hX]
  clear hd ht hS h0 h1 l0 l1 hxs hX
  have hn' : (n : Int) ≤ 128 := by omega
  have ha' : (a : Int) < 2 := by omega
  go_enter Tryz.func58, Tryz.ntmps58
  go_wp2_with fail
  go_loopw [7, 8] (fun v kv u => ∃ k : Nat, k ≤ 2 ∧ kv = vi k ∧ Hid (BytesB W.heap.size u v (bi (X.take (min n (k * 64))))) ∧ Hid (ModP (fun _ => False) W u)) (fun _ kv _ => 2 - (intOf kv).toNat)
  case atStart => exact ⟨0, by omega, rfl, by unfold Hid; simp only [Nat.zero_mul, Nat.min_zero, List.take_zero]; exact BytesB.made (c := zb 128) (at_new (by simp)) (Nat.le_refl _) (zb_size _) (by unfold maxLen; omega), (ModP.refl _ _).alloc _⟩
  case round =>
    obtain ⟨k, hk, rfl, H1, H2⟩ := hrel
    by_cases hk2 : k < 2
    · have hr := hidIt (hrd.out _ H2.out k hk2)
      have hk3 : (k : Int) < 2 := by omega
      go_wp2_with (first
        | (go_at_call 55; refine hr.out.mono ?_; rintro _ w' ⟨rfl, e⟩; obtain rfl := e.symm))
      have hlk := hxl.out k
      have hl1 : (xs k).length ≤ 1000 := by omega
      have hl2 : 64 ≤ (xs k).length := by omega
      have hl3 : (64 : Int) ≤ (xs k).length := by omega
      have hgk := hidIt (fun i hi => hXg.out k i hk2 hi)
      clear hlk hr
      generalize xs k = xk at *
      go_loopw [7, 10] (fun v iv u => ∃ i : Nat, i ≤ 64 ∧ iv = vi i ∧ Hid (BytesB W.heap.size u v (bi (X.take (min n (k * 64 + i))))) ∧ Hid (ModP (fun _ => False) W u)) (fun _ iv _ => 64 - (intOf iv).toNat)
      case atStart => exact ⟨0, by omega, rfl, H1, H2⟩
      case round =>
        clear H1 H2
        obtain ⟨i, hi, rfl, H1, H2⟩ := hrel
        by_cases hi2 : i < 64
        · by_cases hin : k * 64 + i < n
          · have hin' : (k : Int) * 64 + i < n := by omega
            have hi3 : i < xk.length := by omega
            have hi4 : (i : Int) < xk.length := by omega
            have e1 : min n (k * 64 + i) = k * 64 + i := by omega
            have e2 : min n (k * 64 + (i + 1)) = k * 64 + i + 1 := by omega
            have hst : bi (X.take (min n (k * 64 + (i + 1)))) = bi (X.take (min n (k * 64 + i))) ++ [(xk[i].toNat : Int)] := by
              rw [e1, e2, List.take_add_one, hgk.out i hi2, List.getD_eq_getElem?_getD, List.getElem?_eq_getElem hi3]
              simp [bi]
            have Hst := hidIt hst
            have hbl : (bi (X.take (min n (k * 64 + i)))).length ≤ 128 := by rw [bi_length, List.length_take]; omega
            have Hbl := hidIt hbl
            clear hst e1 e2 hbl
            generalize bi (X.take (min n (k * 64 + i))) = cur at *
            have z2 := hidIt H2.out.size
            go_wp2_with (first
              | (at_builtin; (refine wp_appB (B := W.heap.size) (l := cur) (m := 1) rfl _ _ rfl [(xk[i].toNat : Int)] rfl rfl (at_new rfl) rfl (H1.out.alloc _) (Nat.le_trans z2.out (by simp)) (Nat.zero_lt_succ _) (by have := Hbl.out; omega) ?_; intro v2 w2 b2 bl2 s2; have B2 := hidIt b2; have M2 : Hid (ModP (fun _ => False) W w2) := (H2.out.alloc _).below bl2 s2; clear b2 bl2 s2)))
            go_roundw
            case rel => exact ⟨i + 1, by omega, by go_num, by rw [Hst.out]; exact B2, M2⟩
            case measure => simp [intOf]; omega
          · have hin' : decide ((k : Int) * 64 + i < n) = false := by simp; omega
            have e1 : Hid (min n (k * 64 + i) = min n ((k + 1) * 64)) := by unfold Hid; omega
            rw [e1.out] at H1
            clear hin
            go_wp2_with fail
            go_roundw
            case rel => exact ⟨k + 1, by omega, by go_num, H1, H2⟩
            case measure => simp [intOf]; omega
        · obtain rfl : i = 64 := by omega
          have e1 : Hid (min n (k * 64 + 64) = min n ((k + 1) * 64)) := by unfold Hid; omega
          rw [e1.out] at H1
          go_wp2_with fail
          go_roundw
          case rel => exact ⟨k + 1, by omega, by go_num, H1, H2⟩
          case measure => simp [intOf]; omega
    · obtain rfl : k = 2 := by omega
      have e1 : min n (2 * 64) = n := by omega
      rw [e1] at H1
      go_wp2_with (first
        | (refine wp_strB rfl _ rfl (l := bi (X.take n)) rfl H1.out ?_))
      go_ret
      rw [ib_bi]
      exact ⟨rfl, H2.out⟩
end Go.Proofs.Qxb6500990aGreat
