/- package kv: Val, KeyAt, Sess -/
import Derived.Test.Qxb6500990aGreatKv16
import Derived.Test.Qxb6500990aGreatKv10
set_option linter.unusedVariables false
set_option linter.unusedSimpArgs false
namespace Go.Proofs.Qxb6500990aGreat
open Go Go.RowKit Go.Tw
attribute [local go_sem] World.cell?_put_same World.cell?_put_ne World.cell?_put_ne' World.frozen?_put_same World.frozen?_put_ne World.frozen?_put_ne' World.setCell_put_same World.setCell_put_ne World.setCell_put_ne' World.inB_put World.inB_alloc World.inB_drew World.inB_drewN World.inB_new World.inB_setCell World.put_drew World.put_drewN World.q_setCell_drew World.q_setCell_drewN World.q_alloc_drew World.q_alloc_drewN World.put_put_same World.put_put_2 World.size_put World.q_cell?_alloc_old World.q_frozen?_alloc_old World.cell?_alloc_new' World.frozen?_alloc_new' World.q_setCell_alloc_old World.q_setCell_alloc_new World.q_put_alloc_old World.cell?_force_same World.frozen?_force_same World.cell?_force2_fst World.cell?_force2_snd KvX.g0 KvX.g1 KvX.g2 KvX.g3 KvX.g4 KvX.g5 KvX.g6 KvX.g7 KvX.g8 KvX.g9 KvX.g10 KvX.g11 KvX.g12 KvX.g13 KvX.g14 KvX.g15 KvX.g16 KvX.g17 KvX.g18 KvX.g19 KvX.g20 KvX.g21 KvX.g22 KvX.g23 KvX.g24 KvX.g25 KvX.g26 KvX.g27 KvX.g28 KvX.g29 KvX.g30 KvX.g31 KvX.g32 KvX.g33 KvX.g34 KvX.g35 KvX.g36 KvX.g37 KvX.g38 KvX.g39 KvX.g40 KvX.g41 KvX.g42 KvX.g43 KvX.g44 KvX.g45 KvX.g46 KvX.g47 KvX.g48 KvX.g49 KvX.g50 KvX.g51 KvX.g52 KvX.g53 KvX.g54 KvX.g55 KvX.g56 KvX.g57 KvX.g58 KvX.g59 KvX.g60 KvX.g61 KvX.g62 KvX.g63 KvX.g64 KvX.g65 KvX.g66 KvX.g67 KvX.g68 KvX.g69 KvX.g70 KvX.g71 KvX.g72 KvX.g73 KvX.g74 KvX.g75 KvX.g76 KvX.g77 KvX.g78 KvX.g79 KvX.g80 KvX.g81 KvX.g82 KvX.g83 KvX.gi_cells__0 KvX.gi_cells__1 KvX.gi_cells__2 KvX.gi_cells__3 KvX.gi_cells__4 KvX.gi_cells__5 KvX.gi_cells__6 KvX.gi_cells__7 KvX.gi_ss_0 KvX.gi_ss_1 KvX.gi_ss_2 KvX.gi_ss_3 KvX.gi_ss_4 KvX.gi_ss_5 KvX.gia_cells__1 KvX.gia_cells__2 KvX.gia_cells__3 KvX.gia_cells__4 KvX.gia_cells__5 KvX.gia_cells__6 KvX.gia_cells__7 KvX.gia_ss_1 KvX.gia_ss_2 KvX.gia_ss_3 KvX.gia_ss_4 KvX.gia_ss_5 KvX.pa_cells_ KvX.pa_ss KvX.s64 KvX.s65 Cell.g0 Cell.s0 Cell.g1 Cell.s1 Cell.g2 Cell.s2 Cell.g3 Cell.s3 Cell.g4 Cell.s4 Cell.g5 Cell.s5 Cell.g6 Cell.s6 Cell.g7 Cell.s7 Cell.gi_key_0 Cell.si_key_0 Cell.gi_val_0 Cell.si_val_0 Ans.g0 Ans.s0 Ans.g1 Ans.s1 Sess.g0 Sess.s0 Sess.g1 Sess.s1 Sess.g2 Sess.s2 Sess.g3 Sess.s3 Sess.g4 Sess.s4 Sess.g5 Sess.s5 Sess.gi_val_0 Sess.si_val_0 At4.g0 At4.s0 At4.g1 At4.s1 At4.g2 At4.s2 At4.g3 At4.s3 At4.gi_at__0 At4.si_at__0
attribute [local go_sem] ba_get
set_option maxHeartbeats 4000000
set_option maxRecDepth 100000
section
variable {W : World} {b : Nat} {K : KvX} {A : AK}
theorem c228 (h : W.At b K.cells 175) (R : KvRel K A) (key : Bs) : Calls Tryz.prog 228 #[vp b, vs key] W fun r w' => r = .returned (.tuple #[vs (A.valOf key).1, .bool (A.valOf key).2]) ∧ ModP (fun _ => False) W w' := by
  by_cases h1 : 2 < key.length
  · have hk : Hid (A.valOf key = ([], false)) := by unfold Hid AK.valOf; rw [if_pos h1]
    have h1' : (2 : Int) < key.length := by omega
    clear h R
    go_enter Tryz.func228, Tryz.ntmps228
    go_wp2_with fail
    go_ret2
    rw [hk.out]
    exact ⟨rfl, (by repeat (first | assumption | exact ModP.refl _ _ | refine ModP.fromPut ?_ (by assumption) | apply ModP.alloc | apply ModP.drew | apply ModP.drewN | refine ModP.put ?_ (by first | (left; assumption) | (left; rfl) | (right; simp only [World.inB, World.size_put] at *; omega)) _ _))⟩
  · have h1' : (key.length : Int) ≤ 2 := by omega
    rcases R.t.tab.here key with hno | ⟨n, n8, hs, hk⟩
    · have hv : Hid (A.valOf key = ([], false)) := by unfold Hid AK.valOf; rw [if_neg h1, AK.find_absent hno]
      have q1 := hidIt (c271_no h R.t.tab (key := key) (by omega) hno)
      clear h R h1
      go_enter Tryz.func228, Tryz.ntmps228
      go_wp2_with (go_at_call 271; refine q1.out.mono ?_; rintro _ w1 ⟨rfl, m1⟩; have M1 := hidIt m1; clear m1)
      go_ret2
      rw [hv.out]
      exact ⟨rfl, M1.out⟩
    · obtain ⟨j, hf, hj, hp, hv0⟩ := R.found n8 hs hk
      have hv : Hid (A.valOf key = (valS (K.cells_ n), true)) := by unfold Hid AK.valOf; rw [if_neg h1, hf]; simp only []; rw [hv0]
      have q1 := hidIt (c271_yes h R.t.tab (key := key) (by omega) n8 hs hk)
      have kl := R.t.tab.kl n n8 hs
      have q3 := hidIt (fun (u : World) => c261 u (K.cells_ n) (by omega) (by omega))
      simp only [Cell.cells] at q3
      have n9 : (n : Int) < 8 := by omega
      have H := hidIt h
      clear h R h1 hs hk kl hf hj hp hv0
      generalize valS (K.cells_ n) = vv at *
      go_enter Tryz.func228, Tryz.ntmps228
      go_wp2_with (first
        | (go_at_call 271; refine q1.out.mono ?_; rintro _ w1 ⟨rfl, m1⟩; have M1 := hidIt m1; have ha := m1.at H.out (fun f => f); have hc := ha.cell; have ib := ha.inB; clear m1 ha)
        | (go_at_call 261; refine (q3.out _).mono ?_; rintro _ w2 ⟨rfl, m2⟩; have M2 := hidIt (M1.out.trans m2); clear m2))
      go_ret2
      rw [hv.out]
      exact ⟨rfl, M2.out⟩
theorem c231 (h : W.At b K.cells 175) (R : KvRel K A) (i : Int) : Calls Tryz.prog 231 #[vp b, vi i] W fun r w' => r = .returned (vs (A.keyAt i)) ∧ ModP (fun _ => False) W w' := by
  obtain ⟨f, l, t, ss⟩ := K
  obtain rfl : l = A.ps.length := R.t.lv
  have hc := h.cell
  have ib := h.inB
  have n4 := R.ok.n4
  by_cases h1 : i < 0
  · have hk : Hid (A.keyAt i = []) := by unfold Hid AK.keyAt; rw [if_pos (.inl h1)]
    have d1 : decide (i < 0) = true := by simpa using h1
    clear h R
    go_enter Tryz.func231, Tryz.ntmps231
    go_wp2_with fail
    go_ret
    rw [hk.out]
    exact ⟨rfl, (by repeat (first | assumption | exact ModP.refl _ _ | refine ModP.fromPut ?_ (by assumption) | apply ModP.alloc | apply ModP.drew | apply ModP.drewN | refine ModP.put ?_ (by first | (left; assumption) | (left; rfl) | (right; simp only [World.inB, World.size_put] at *; omega)) _ _))⟩
  have d1 : decide (i < 0) = false := by simpa using h1
  by_cases h2 : (A.ps.length : Int) ≤ i
  · have hk : Hid (A.keyAt i = []) := by unfold Hid AK.keyAt; rw [if_pos (.inr h2)]
    have d2 : decide (i ≥ (A.ps.length : Int)) = true := by simpa using h2
    clear h R
    go_enter Tryz.func231, Tryz.ntmps231
    go_wp2_with fail
    go_ret
    rw [hk.out]
    exact ⟨rfl, (by repeat (first | assumption | exact ModP.refl _ _ | refine ModP.fromPut ?_ (by assumption) | apply ModP.alloc | apply ModP.drew | apply ModP.drewN | refine ModP.put ?_ (by first | (left; assumption) | (left; rfl) | (right; simp only [World.inB, World.size_put] at *; omega)) _ _))⟩
  · obtain ⟨j, rfl⟩ := Int.eq_ofNat_of_zero_le (show 0 ≤ i by omega)
    have hk : Hid (A.keyAt j = A.key j) := by unfold Hid AK.keyAt; rw [if_neg (by omega)]; rfl
    have d2 : decide ((j : Int) ≥ (A.ps.length : Int)) = false := by simp; omega
    have d3 : decide ((j : Int) ≥ 4) = false := by simp; omega
    have j4 : j < 4 := by omega
    have j5 : (j : Int) < 4 := by omega
    have q1 := hidIt (c258 h R.t.tab n4)
    have H := hidIt h
    have RR := hidIt R
    have J := hidIt (show j < A.ps.length by omega)
    clear h R h1 h2
    go_enter Tryz.func231, Tryz.ntmps231
    go_wp2_with (first
      | (go_at_call 258; refine q1.out.mono ?_; rintro _ w1 ⟨S, rfl, s1, m1⟩; have M1 := hidIt m1; have S1 := hidIt s1; have HA := hidIt (m1.at H.out (fun f => f)); clear m1 s1 hc ib; unfold Tw.At4.cells))
    obtain ⟨g1, g2, g3⟩ := (S1.out.get RR.out.t.tab RR.out.ok.asc).2 j J.out
    have kl := RR.out.t.tab.kl _ g1 g2
    have q3 := hidIt (fun (u : World) => c259 u (f (S.getD j 0)) (by simp only [] at kl; omega) (by simp only [] at kl; omega))
    have ek : Hid (keyS (f (S.getD j 0)) = A.key j) := by have := congrArg (·.1) g3; exact this
    simp only [Cell.cells] at q3
    generalize keyS (f (S.getD j 0)) = kk at *
    have hat : atF S j = ((S.getD j 0 : Nat) : Int) := rfl
    generalize S.getD j 0 = i' at *
    have i9 : (i' : Int) < 8 := by omega
    clear kl g2 g3
    have hbw : b < w1.heap.size := HA.out.inB
    have nb : b ≠ w1.heap.size := by omega
    obtain ⟨y, e, jb1, jb2⟩ := open2 (World.At.alloc HA.out (.cells (At4.cells ⟨atF S⟩) 281)) World.At_alloc_new nb
    have e2 : w1.alloc (.cells #[.int .i64 (atF S 0), .int .i64 (atF S 1), .int .i64 (atF S 2), .int .i64 (atF S 3)] 281) = _ := e
    have E := hidIt e2
    rw [e2]
    clear e e2
    refine Ord.region1 [] [0, 1, 2, 3, 4, 5, 6, 7, 8] [9, 10] (by kernel_rfl) (by kernel_rfl) (fun _ _ d _ _ h => by cases d <;> exact h) ?_
    simp only [Ord.pickO, Ord.nth]
    refine wpQuiet_nil ?_
    repeat (go_big_quiet_step (fail))
    refine wpQuiet_nil ?_
    go_wp2_with (first
      | (go_at_call 259; refine (q3.out _).mono ?_; rintro _ w2 ⟨rfl, m2⟩; have M2 := hidIt m2; clear m2))
    go_ret
    rw [hk.out, ← ek.out]
    have := M1.out
    have m2 := M2.out
    rw [← E.out] at m2
    exact ⟨rfl, ModP.trans (by repeat (first | assumption | exact ModP.refl _ _ | refine ModP.fromPut ?_ (by assumption) | apply ModP.alloc | apply ModP.drew | apply ModP.drewN | refine ModP.put ?_ (by first | (left; assumption) | (left; rfl) | (right; simp only [World.inB, World.size_put] at *; omega)) _ _)) m2⟩
theorem c232 {Kx : KvX} (h : W.At b Kx.cells 175) (R : KvRel Kx A) (c : Int) : Calls Tryz.prog 232 #[vp b, vi c] W fun r w' => r = .returned (.tuple #[vi (A.sess c).1, .agg (A.sess c).2.cells]) ∧ ModP (fun _ => False) W w' := by
  have hc := h.cell
  have ib := h.inB
  by_cases h1 : c < 0
  · have hk : Hid (A.sess c = (0, zAns)) := by unfold Hid AK.sess; rw [if_pos (.inl h1)]
    have d1 : decide (c < 0) = true := by simpa using h1
    clear h R
    go_enter Tryz.func232, Tryz.ntmps232
    go_wp2_with fail
    refine bodyPost_ret (v := .tuple #[vi 0, .agg zAns.cells]) (by simp [results, Tryz.results232, go_sem, zAns, Ans.cells]) rfl ?_
    rw [hk.out]
    exact ⟨rfl, (by repeat (first | assumption | exact ModP.refl _ _ | refine ModP.fromPut ?_ (by assumption) | apply ModP.alloc | apply ModP.drew | apply ModP.drewN | refine ModP.put ?_ (by first | (left; assumption) | (left; rfl) | (right; simp only [World.inB, World.size_put] at *; omega)) _ _))⟩
  have d1 : decide (c < 0) = false := by simpa using h1
  by_cases h2 : 3 ≤ c
  · have hk : Hid (A.sess c = (0, zAns)) := by unfold Hid AK.sess; rw [if_pos (.inr h2)]
    have d2 : decide (c ≥ 3) = true := by simpa using h2
    clear h R
    go_enter Tryz.func232, Tryz.ntmps232
    go_wp2_with fail
    refine bodyPost_ret (v := .tuple #[vi 0, .agg zAns.cells]) (by simp [results, Tryz.results232, go_sem, zAns, Ans.cells]) rfl ?_
    rw [hk.out]
    exact ⟨rfl, (by repeat (first | assumption | exact ModP.refl _ _ | refine ModP.fromPut ?_ (by assumption) | apply ModP.alloc | apply ModP.drew | apply ModP.drewN | refine ModP.put ?_ (by first | (left; assumption) | (left; rfl) | (right; simp only [World.inB, World.size_put] at *; omega)) _ _))⟩
  · obtain ⟨j, rfl⟩ := Int.eq_ofNat_of_zero_le (show 0 ≤ c by omega)
    have j3 : j < 3 := by omega
    have j4 : (j : Int) < 3 := by omega
    have hk : Hid (A.sess j = (A.seq j, A.ans j)) := by unfold Hid AK.sess; rw [if_neg (by omega)]; rfl
    have hss := R.s j j3
    have e1 : Hid ((Kx.ss j).seq = A.seq j) := by unfold Hid; rw [hss]; rfl
    have q262 := hidIt (fun u => c262 u (A.seq j) (A.ans j) (R.ok.a3 j))
    rw [← hss] at q262
    simp only [Sess.cells, Ans.cells] at q262
    have d2 : decide ((j : Int) ≥ 3) = false := by simp; omega
    have hb : b < W.heap.size := h.inB
    have n1 : b ≠ W.heap.size := by omega
    have n2 : b ≠ W.heap.size + 1 := by omega
    have n3 : W.heap.size ≠ W.heap.size + 1 := by omega
    have H := hidIt h
    clear h R h1 h2 hss
    go_enter Tryz.func232, Tryz.ntmps232
    go_wp2_with fail
    refine Ord.region2f (fun w' => ∃ u : World, w' = u.force (W.heap.size + 1) (Sess.cells ⟨(Kx.ss j).seq, (Kx.ss j).err, (Kx.ss j).vlen, (Kx.ss j).val⟩) 172) [0, 1] [2] [[(3, true), (4, false), (5, false)]] (by kernel_rfl) (by kernel_rfl) (fun _ _ d _ _ h => by cases d <;> exact h) ?ca4_1 ?_
    rotate_left
    simp only [Ord.pickO, Ord.nth]
    repeat (go_big_quiet_step (fail))
    refine wpQuiet_nil ?_
    repeat (go_big_quiet_step (fail))
    refine wpQuiet_nil ?_
    intro T hT
    simp only [List.mem_cons, List.not_mem_nil, or_false] at hT
    subst hT
    rotate_left
    · exact ca_of (World.At_drew.2 (at_new (by simp)))
    refine Ord.wpT_loose rfl ?_
    intro K hK
    dsimp only [Ord.nth]
    go_wp2_with (first
      | (go_at_call 262; refine (q262.out _).mono ?_; rintro _ w1 ⟨rfl, m1⟩; obtain ⟨y, rfl, i1, i2, i3, my⟩ := m1.undrew.two H.out; have MY := hidIt my; clear m1 my))
    refine hK _ _ (ca_of (World.At_put_same (World.inB_put.2 (World.inB_put.2 i3)))) ?_
    clear hK
    refine Ord.wpT_next rfl ?_
    intro K hK
    dsimp only [Ord.nth]
    go_wp2_with fail
    refine Ord.wpT_next rfl ?_
    intro K hK
    dsimp only [Ord.nth]
    go_wp2_with fail
    refine Ord.wpT_nil ?_
    go_wp2_with fail
    refine bodyPost_ret (v := .tuple #[vi (A.seq j), .agg (A.ans j).cells]) ?_ rfl ?_
    · rw [← e1.out]
      simp [results, Tryz.results232, go_sem, Ans.cells, i1, i2, i3, n1, n2, n3]
    · rw [hk.out]
      have := MY.out.mono (G := fun x => x = b) (fun _ f => f.elim)
      exact ⟨rfl, ModP.back (b := b) (c := Kx.cells) (T := 175) ((fun (m : ModP (fun x => x = b) W _) => m) (by repeat (first | assumption | exact ModP.refl _ _ | refine ModP.fromPut ?_ (by assumption) | apply ModP.alloc | apply ModP.drew | apply ModP.drewN | refine ModP.put ?_ (by first | (left; assumption) | (left; rfl) | (right; simp only [World.inB, World.size_put] at *; omega)) _ _))) H.out (by repeat (first | assumption | (with_reducible refine World.At_drew.2 ?_) | (with_reducible refine (World.At_drewN _).2 ?_) | (with_reducible exact World.At_put_same (by first | assumption | (simp only [World.inB, World.size_put, World.alloc, World.drew, World.drewN, Array.size_push] at *; omega))) | (with_reducible refine (World.At_put_ne' (by first | assumption | (exact Ne.symm (by assumption)) | (simp only [World.inB, World.size_put] at *; omega))).2 ?_) | (with_reducible exact World.At_alloc_new) | (with_reducible exact at_new (by first | rfl | (simp [World.size_put]; done) | (simp [World.size_put]; omega))) | (with_reducible refine World.At.alloc ?_ _)))⟩
end
end Go.Proofs.Qxb6500990aGreat
