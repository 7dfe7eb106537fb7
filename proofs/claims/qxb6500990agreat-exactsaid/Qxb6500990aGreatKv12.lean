/- package kv: the reader -/
import Derived.Test.Qxb6500990aGreatKv11
set_option linter.unusedVariables false
set_option linter.unusedSimpArgs false
namespace Go.Proofs.Qxb6500990aGreat
open Go Go.RowKit Go.Tw
attribute [local go_sem] World.cell?_put_same World.cell?_put_ne World.cell?_put_ne' World.frozen?_put_same World.frozen?_put_ne World.frozen?_put_ne' World.setCell_put_same World.setCell_put_ne World.setCell_put_ne' World.inB_put World.inB_alloc World.inB_drew World.inB_drewN World.inB_new World.inB_setCell World.put_drew World.put_drewN World.q_setCell_drew World.q_setCell_drewN World.q_alloc_drew World.q_alloc_drewN World.put_put_same World.put_put_2 World.size_put World.q_cell?_alloc_old World.q_frozen?_alloc_old World.cell?_alloc_new' World.frozen?_alloc_new' World.q_setCell_alloc_old World.q_setCell_alloc_new World.q_put_alloc_old World.cell?_force_same World.frozen?_force_same World.cell?_force2_fst World.cell?_force2_snd Reader.g0 Reader.s0 Reader.g1 Reader.s1 Reader.g2 Reader.s2
attribute [local go_sem] ba_get w64_byte ByteArray.extract_mk
set_option maxHeartbeats 4000000
set_option maxRecDepth 100000
section
variable {W : World} {br : Nat} {s : Bs} {p : Int} {bad : Bool}
theorem c178_bad (h : W.At br (Reader.cells ⟨s, p, true⟩) 252) : Calls Tryz.prog 178 #[vp br] W fun r w' => r = .returned (vi 0) ∧ w'.At br (Reader.cells ⟨s, p, true⟩) 252 ∧ ModP (fun x => x = br) W w' := by
  obtain ⟨y, rfl, ib⟩ := h.door
  clear h
  go_enter Tryz.func178, Tryz.ntmps178
  go_wp2_with fail
  refine Ord.region1 [] [0, 1, 2, 3, 4, 5, 6, 7, 8, 9, 10, 11, 12, 13, 14] [15] (by kernel_rfl) (by kernel_rfl) (fun _ _ d _ _ h => by cases d <;> exact h) ?_
  simp only [Ord.pickO, Ord.nth]
  refine wpQuiet_nil ?_
  repeat (go_big_quiet_step (fail))
  refine wpQuiet_nil ?_
  go_wp2_with fail
  go_ret
  exact ⟨rfl, (by repeat (first | assumption | (with_reducible refine World.At_drew.2 ?_) | (with_reducible refine (World.At_drewN _).2 ?_) | (with_reducible exact World.At_put_same (by first | assumption | (simp only [World.inB, World.size_put, World.alloc, World.drew, World.drewN, Array.size_push] at *; omega))) | (with_reducible refine (World.At_put_ne' (by first | assumption | (exact Ne.symm (by assumption)) | (simp only [World.inB, World.size_put] at *; omega))).2 ?_) | (with_reducible exact World.At_alloc_new) | (with_reducible exact at_new (by first | rfl | (simp [World.size_put]; done) | (simp [World.size_put]; omega))) | (with_reducible refine World.At.alloc ?_ _))), ModP.fromPut (by repeat (first | assumption | exact ModP.refl _ _ | refine ModP.fromPut ?_ (by assumption) | apply ModP.alloc | apply ModP.drew | apply ModP.drewN | refine ModP.put ?_ (by first | (left; assumption) | (left; rfl) | (right; simp only [World.inB, World.size_put] at *; omega)) _ _)) rfl⟩
theorem c178_end (h : W.At br (Reader.cells ⟨s, p, false⟩) 252) (hp : (s.length : Int) ≤ p) : Calls Tryz.prog 178 #[vp br] W fun r w' => r = .returned (vi 0) ∧ w'.At br (Reader.cells ⟨s, p, true⟩) 252 ∧ ModP (fun x => x = br) W w' := by
  obtain ⟨y, rfl, ib⟩ := h.door
  clear h
  go_enter Tryz.func178, Tryz.ntmps178
  go_wp2_with fail
  refine Ord.region1 [] [0, 1, 2, 3, 4, 5, 6, 7, 8, 9, 10, 11, 12, 13, 14] [15] (by kernel_rfl) (by kernel_rfl) (fun _ _ d _ _ h => by cases d <;> exact h) ?_
  simp only [Ord.pickO, Ord.nth]
  refine wpQuiet_nil ?_
  repeat (go_big_quiet_step (fail))
  refine wpQuiet_nil ?_
  go_wp2_with fail
  go_ret
  exact ⟨rfl, (by repeat (first | assumption | (with_reducible refine World.At_drew.2 ?_) | (with_reducible refine (World.At_drewN _).2 ?_) | (with_reducible exact World.At_put_same (by first | assumption | (simp only [World.inB, World.size_put, World.alloc, World.drew, World.drewN, Array.size_push] at *; omega))) | (with_reducible refine (World.At_put_ne' (by first | assumption | (exact Ne.symm (by assumption)) | (simp only [World.inB, World.size_put] at *; omega))).2 ?_) | (with_reducible exact World.At_alloc_new) | (with_reducible exact at_new (by first | rfl | (simp [World.size_put]; done) | (simp [World.size_put]; omega))) | (with_reducible refine World.At.alloc ?_ _))), ModP.fromPut (by repeat (first | assumption | exact ModP.refl _ _ | refine ModP.fromPut ?_ (by assumption) | apply ModP.alloc | apply ModP.drew | apply ModP.drewN | refine ModP.put ?_ (by first | (left; assumption) | (left; rfl) | (right; simp only [World.inB, World.size_put] at *; omega)) _ _)) rfl⟩
theorem c178_ok {q : Nat} (h : W.At br (Reader.cells ⟨s, q, false⟩) 252) (hl : s.length ≤ 1000) (hp : q < s.length) : Calls Tryz.prog 178 #[vp br] W fun r w' => r = .returned (vi (byt s q)) ∧ w'.At br (Reader.cells ⟨s, (q : Int) + 1, false⟩) 252 ∧ ModP (fun x => x = br) W w' := by
  obtain ⟨y, rfl, ib⟩ := h.door
  clear h
  have hi : (q : Int) < s.length := by omega
  have hb : Hid (byt s q = (s[q].toNat : Int)) := by unfold Hid byt; simp [List.getD_eq_getElem?_getD, hp]
  go_enter Tryz.func178, Tryz.ntmps178
  go_wp2_with fail
  refine Ord.region1 [] [0, 1, 2, 3, 4, 5, 6, 7, 8, 9, 10, 11, 12, 13, 14] [15] (by kernel_rfl) (by kernel_rfl) (fun _ _ d _ _ h => by cases d <;> exact h) ?_
  simp only [Ord.pickO, Ord.nth]
  refine wpQuiet_nil ?_
  repeat (go_big_quiet_step (fail))
  refine wpQuiet_nil ?_
  go_wp2_with fail
  refine Ord.region1 [] [0, 1, 2, 3, 4, 5, 6, 7, 8, 9, 10] [11] (by kernel_rfl) (by kernel_rfl) (fun _ _ d _ _ h => by cases d <;> exact h) ?_
  simp only [Ord.pickO, Ord.nth]
  refine wpQuiet_nil ?_
  repeat (go_big_quiet_step (fail))
  refine wpQuiet_nil ?_
  go_wp2_with fail
  go_ret
  have e : byt s q = wrap64 (s[q].toNat : Int) := by rw [hb.out, IntWalk.wrap64_in _ (by have := s[q].toNat_lt; omega)]
  exact ⟨by rw [e]; rfl, (by repeat (first | assumption | (with_reducible refine World.At_drew.2 ?_) | (with_reducible refine (World.At_drewN _).2 ?_) | (with_reducible exact World.At_put_same (by first | assumption | (simp only [World.inB, World.size_put, World.alloc, World.drew, World.drewN, Array.size_push] at *; omega))) | (with_reducible refine (World.At_put_ne' (by first | assumption | (exact Ne.symm (by assumption)) | (simp only [World.inB, World.size_put] at *; omega))).2 ?_) | (with_reducible exact World.At_alloc_new) | (with_reducible exact at_new (by first | rfl | (simp [World.size_put]; done) | (simp [World.size_put]; omega))) | (with_reducible refine World.At.alloc ?_ _))), ModP.fromPut (by repeat (first | assumption | exact ModP.refl _ _ | refine ModP.fromPut ?_ (by assumption) | apply ModP.alloc | apply ModP.drew | apply ModP.drewN | refine ModP.put ?_ (by first | (left; assumption) | (left; rfl) | (right; simp only [World.inB, World.size_put] at *; omega)) _ _)) rfl⟩
theorem c179_bad (h : W.At br (Reader.cells ⟨s, p, true⟩) 252) (lo hi : Int) : Calls Tryz.prog 179 #[vp br, vi lo, vi hi] W fun r w' => r = .returned (vs []) ∧ w'.At br (Reader.cells ⟨s, p, true⟩) 252 ∧ ModP (fun x => x = br) W w' := by
  have q := hidIt (c178_bad h)
  clear h
  go_enter Tryz.func179, Tryz.ntmps179
  go_wp2_with (first
    | (go_at_call 178; refine q.out.mono ?_; rintro _ w1 ⟨rfl, a1, m1⟩; obtain ⟨y, rfl, ib⟩ := a1.door; have M1 := hidIt m1; clear a1 m1))
  refine Ord.region1 [] [0, 1, 2, 3, 4, 5, 6, 7, 8, 9, 10, 11, 12, 13, 14, 15, 16, 17, 18, 19, 20, 21, 22, 23, 24, 25, 26] [27] (by kernel_rfl) (by kernel_rfl) (fun _ _ d _ _ h => by cases d <;> exact h) ?_
  simp only [Ord.pickO, Ord.nth]
  refine wpQuiet_nil ?_
  repeat (go_big_quiet_step (fail))
  refine wpQuiet_nil ?_
  go_wp2_with fail
  go_ret
  have := M1.out.unput (.inl rfl)
  exact ⟨rfl, (by repeat (first | assumption | (with_reducible refine World.At_drew.2 ?_) | (with_reducible refine (World.At_drewN _).2 ?_) | (with_reducible exact World.At_put_same (by first | assumption | (simp only [World.inB, World.size_put, World.alloc, World.drew, World.drewN, Array.size_push] at *; omega))) | (with_reducible refine (World.At_put_ne' (by first | assumption | (exact Ne.symm (by assumption)) | (simp only [World.inB, World.size_put] at *; omega))).2 ?_) | (with_reducible exact World.At_alloc_new) | (with_reducible exact at_new (by first | rfl | (simp [World.size_put]; done) | (simp [World.size_put]; omega))) | (with_reducible refine World.At.alloc ?_ _))), (by repeat (first | assumption | exact ModP.refl _ _ | refine ModP.fromPut ?_ (by assumption) | apply ModP.alloc | apply ModP.drew | apply ModP.drewN | refine ModP.put ?_ (by first | (left; assumption) | (left; rfl) | (right; simp only [World.inB, World.size_put] at *; omega)) _ _))⟩
theorem takeS_end {lo hi : Int} (h : (s.length : Int) ≤ p) : takeS s p lo hi = ([], -1) := by unfold takeS; rw [if_pos (.inr h)]
theorem takeS_neg {lo hi : Int} (h : p < 0) : takeS s p lo hi = ([], -1) := by unfold takeS; rw [if_pos (.inl h)]
theorem takeS_in {lo hi : Int} {q : Nat} (h : q < s.length) : takeS s q lo hi = if byt s q < lo ∨ hi < byt s q ∨ (s.length : Int) < q + 1 + byt s q then ([], -1) else ((s.drop (q + 1)).take (byt s q).toNat, q + 1 + byt s q) := by
  unfold takeS; rw [if_neg (by omega)]; rfl
theorem c179_no {q : Nat} (h : W.At br (Reader.cells ⟨s, q, false⟩) 252) (hl : s.length ≤ 1000) (hq : q ≤ 1000) {lo hi : Int} (ht : (takeS s q lo hi).2 < 0) : Calls Tryz.prog 179 #[vp br, vi lo, vi hi] W fun r w' => r = .returned (vs []) ∧ (∃ p', w'.At br (Reader.cells ⟨s, p', true⟩) 252) ∧ ModP (fun x => x = br) W w' := by
  by_cases hp : q < s.length
  · rw [takeS_in hp] at ht
    have q1 := hidIt (c178_ok h hl hp)
    have hb : byt s q < 256 := by unfold byt; have := (s.getD q 0).toNat_lt; omega
    have hb0 := byt_bd s q
    have hor : byt s q < lo ∨ hi < byt s q ∨ (s.length : Int) < q + 1 + byt s q := by
      apply Classical.byContradiction
      intro hn
      rw [if_neg hn] at ht
      simp only [] at ht
      omega
    clear ht h
    generalize byt s q = n at *
    by_cases e1 : n < lo
    · have e4 : decide (n < lo) = true := decide_eq_true e1
      clear hor e1
      go_enter Tryz.func179, Tryz.ntmps179
      go_wp2_with (first
        | (go_at_call 178; refine q1.out.mono ?_; rintro _ w1 ⟨rfl, a1, m1⟩; obtain ⟨y, rfl, ib⟩ := a1.door; have M1 := hidIt m1; clear a1 m1))
      refine Ord.region1 [] [0, 1, 2, 3, 4, 5, 6, 7, 8, 9, 10, 11, 12, 13, 14, 15, 16, 17, 18, 19, 20, 21, 22, 23, 24, 25, 26] [27] (by kernel_rfl) (by kernel_rfl) (fun _ _ d _ _ h => by cases d <;> exact h) ?_
      simp only [Ord.pickO, Ord.nth]
      refine wpQuiet_nil ?_
      repeat (go_big_quiet_step (fail))
      refine wpQuiet_nil ?_
      go_wp2_with fail
      go_ret
      have := M1.out.unput (.inl rfl)
      exact ⟨rfl, ⟨_, (by repeat (first | assumption | (with_reducible refine World.At_drew.2 ?_) | (with_reducible refine (World.At_drewN _).2 ?_) | (with_reducible exact World.At_put_same (by first | assumption | (simp only [World.inB, World.size_put, World.alloc, World.drew, World.drewN, Array.size_push] at *; omega))) | (with_reducible refine (World.At_put_ne' (by first | assumption | (exact Ne.symm (by assumption)) | (simp only [World.inB, World.size_put] at *; omega))).2 ?_) | (with_reducible exact World.At_alloc_new) | (with_reducible exact at_new (by first | rfl | (simp [World.size_put]; done) | (simp [World.size_put]; omega))) | (with_reducible refine World.At.alloc ?_ _)))⟩, (by repeat (first | assumption | exact ModP.refl _ _ | refine ModP.fromPut ?_ (by assumption) | apply ModP.alloc | apply ModP.drew | apply ModP.drewN | refine ModP.put ?_ (by first | (left; assumption) | (left; rfl) | (right; simp only [World.inB, World.size_put] at *; omega)) _ _))⟩
    by_cases e2 : hi < n
    · have e4 : decide (n < lo) = false := by simpa using e1
      have e5 : decide (n > hi) = true := by simpa using e2
      clear hor e1 e2
      go_enter Tryz.func179, Tryz.ntmps179
      go_wp2_with (first
        | (go_at_call 178; refine q1.out.mono ?_; rintro _ w1 ⟨rfl, a1, m1⟩; obtain ⟨y, rfl, ib⟩ := a1.door; have M1 := hidIt m1; clear a1 m1))
      refine Ord.region1 [] [0, 1, 2, 3, 4, 5, 6, 7, 8, 9, 10, 11, 12, 13, 14, 15, 16, 17, 18, 19, 20, 21, 22, 23, 24, 25, 26] [27] (by kernel_rfl) (by kernel_rfl) (fun _ _ d _ _ h => by cases d <;> exact h) ?_
      simp only [Ord.pickO, Ord.nth]
      refine wpQuiet_nil ?_
      repeat (go_big_quiet_step (fail))
      refine wpQuiet_nil ?_
      go_wp2_with fail
      go_ret
      have := M1.out.unput (.inl rfl)
      exact ⟨rfl, ⟨_, (by repeat (first | assumption | (with_reducible refine World.At_drew.2 ?_) | (with_reducible refine (World.At_drewN _).2 ?_) | (with_reducible exact World.At_put_same (by first | assumption | (simp only [World.inB, World.size_put, World.alloc, World.drew, World.drewN, Array.size_push] at *; omega))) | (with_reducible refine (World.At_put_ne' (by first | assumption | (exact Ne.symm (by assumption)) | (simp only [World.inB, World.size_put] at *; omega))).2 ?_) | (with_reducible exact World.At_alloc_new) | (with_reducible exact at_new (by first | rfl | (simp [World.size_put]; done) | (simp [World.size_put]; omega))) | (with_reducible refine World.At.alloc ?_ _)))⟩, (by repeat (first | assumption | exact ModP.refl _ _ | refine ModP.fromPut ?_ (by assumption) | apply ModP.alloc | apply ModP.drew | apply ModP.drewN | refine ModP.put ?_ (by first | (left; assumption) | (left; rfl) | (right; simp only [World.inB, World.size_put] at *; omega)) _ _))⟩
    have e3 : decide (n > (s.length : Int) - ((q : Int) + 1)) = true := by simp; omega
    have e4 : decide (n < lo) = false := by simpa using e1
    have e5 : decide (n > hi) = false := by simpa using e2
    clear hor e1 e2
    go_enter Tryz.func179, Tryz.ntmps179
    go_wp2_with (first
      | (go_at_call 178; refine q1.out.mono ?_; rintro _ w1 ⟨rfl, a1, m1⟩; obtain ⟨y, rfl, ib⟩ := a1.door; have M1 := hidIt m1; clear a1 m1))
    refine Ord.region1 [] [0, 1, 2, 3, 4, 5, 6, 7, 8, 9, 10, 11, 12, 13, 14, 15, 16, 17, 18, 19, 20, 21, 22, 23, 24, 25, 26] [27] (by kernel_rfl) (by kernel_rfl) (fun _ _ d _ _ h => by cases d <;> exact h) ?_
    simp only [Ord.pickO, Ord.nth]
    refine wpQuiet_nil ?_
    repeat (go_big_quiet_step (fail))
    refine wpQuiet_nil ?_
    go_wp2_with fail
    go_ret
    have := M1.out.unput (.inl rfl)
    exact ⟨rfl, ⟨_, (by repeat (first | assumption | (with_reducible refine World.At_drew.2 ?_) | (with_reducible refine (World.At_drewN _).2 ?_) | (with_reducible exact World.At_put_same (by first | assumption | (simp only [World.inB, World.size_put, World.alloc, World.drew, World.drewN, Array.size_push] at *; omega))) | (with_reducible refine (World.At_put_ne' (by first | assumption | (exact Ne.symm (by assumption)) | (simp only [World.inB, World.size_put] at *; omega))).2 ?_) | (with_reducible exact World.At_alloc_new) | (with_reducible exact at_new (by first | rfl | (simp [World.size_put]; done) | (simp [World.size_put]; omega))) | (with_reducible refine World.At.alloc ?_ _)))⟩, (by repeat (first | assumption | exact ModP.refl _ _ | refine ModP.fromPut ?_ (by assumption) | apply ModP.alloc | apply ModP.drew | apply ModP.drewN | refine ModP.put ?_ (by first | (left; assumption) | (left; rfl) | (right; simp only [World.inB, World.size_put] at *; omega)) _ _))⟩
  · have q1 := hidIt (c178_end h (by omega))
    clear h ht
    go_enter Tryz.func179, Tryz.ntmps179
    go_wp2_with (first
      | (go_at_call 178; refine q1.out.mono ?_; rintro _ w1 ⟨rfl, a1, m1⟩; obtain ⟨y, rfl, ib⟩ := a1.door; have M1 := hidIt m1; clear a1 m1))
    refine Ord.region1 [] [0, 1, 2, 3, 4, 5, 6, 7, 8, 9, 10, 11, 12, 13, 14, 15, 16, 17, 18, 19, 20, 21, 22, 23, 24, 25, 26] [27] (by kernel_rfl) (by kernel_rfl) (fun _ _ d _ _ h => by cases d <;> exact h) ?_
    simp only [Ord.pickO, Ord.nth]
    refine wpQuiet_nil ?_
    repeat (go_big_quiet_step (fail))
    refine wpQuiet_nil ?_
    go_wp2_with fail
    go_ret
    have := M1.out.unput (.inl rfl)
    exact ⟨rfl, ⟨_, (by repeat (first | assumption | (with_reducible refine World.At_drew.2 ?_) | (with_reducible refine (World.At_drewN _).2 ?_) | (with_reducible exact World.At_put_same (by first | assumption | (simp only [World.inB, World.size_put, World.alloc, World.drew, World.drewN, Array.size_push] at *; omega))) | (with_reducible refine (World.At_put_ne' (by first | assumption | (exact Ne.symm (by assumption)) | (simp only [World.inB, World.size_put] at *; omega))).2 ?_) | (with_reducible exact World.At_alloc_new) | (with_reducible exact at_new (by first | rfl | (simp [World.size_put]; done) | (simp [World.size_put]; omega))) | (with_reducible refine World.At.alloc ?_ _)))⟩, (by repeat (first | assumption | exact ModP.refl _ _ | refine ModP.fromPut ?_ (by assumption) | apply ModP.alloc | apply ModP.drew | apply ModP.drewN | refine ModP.put ?_ (by first | (left; assumption) | (left; rfl) | (right; simp only [World.inB, World.size_put] at *; omega)) _ _))⟩
theorem c179_yes {q : Nat} (h : W.At br (Reader.cells ⟨s, q, false⟩) 252) (hl : s.length ≤ 1000) {lo hi : Int} (hlo : 0 ≤ lo) (ht : 0 ≤ (takeS s q lo hi).2) : Calls Tryz.prog 179 #[vp br, vi lo, vi hi] W fun r w' => r = .returned (vs (takeS s q lo hi).1) ∧ w'.At br (Reader.cells ⟨s, (takeS s q lo hi).2, false⟩) 252 ∧ ModP (fun x => x = br) W w' := by
  by_cases hp : q < s.length
  · have q1 := hidIt (c178_ok h hl hp)
    have hb : byt s q < 256 := by unfold byt; have := (s.getD q 0).toNat_lt; omega
    have hb0 := byt_bd s q
    have hor : ¬ (byt s q < lo ∨ hi < byt s q ∨ (s.length : Int) < q + 1 + byt s q) := by
      intro hn
      rw [takeS_in hp, if_pos hn] at ht
      simp at ht
    rw [takeS_in hp, if_neg hor]
    clear ht h
    obtain ⟨n, hn⟩ := Int.eq_ofNat_of_zero_le hb0
    rw [hn] at hor q1 hb ⊢
    clear hn
    have e3 : decide ((n : Int) > (s.length : Int) - ((q : Int) + 1)) = false := by simp; omega
    have e4 : decide ((n : Int) < lo) = false := by simp; omega
    have e5 : decide ((n : Int) > hi) = false := by simp; omega
    have e6 : (q : Int) + 1 + n ≤ s.length := by omega
    clear hor hb0
    go_enter Tryz.func179, Tryz.ntmps179
    go_wp2_with (first
      | (go_at_call 178; refine q1.out.mono ?_; rintro _ w1 ⟨rfl, a1, m1⟩; obtain ⟨y, rfl, ib⟩ := a1.door; have M1 := hidIt m1; clear a1 m1))
    refine Ord.region1 [] [0, 1, 2, 3, 4, 5, 6, 7, 8, 9, 10, 11, 12, 13, 14, 15, 16, 17, 18, 19, 20, 21, 22, 23, 24, 25, 26] [27] (by kernel_rfl) (by kernel_rfl) (fun _ _ d _ _ h => by cases d <;> exact h) ?_
    simp only [Ord.pickO, Ord.nth]
    refine wpQuiet_nil ?_
    repeat (go_big_quiet_step (fail))
    refine wpQuiet_nil ?_
    go_wp2_with fail
    refine Ord.region1 [] [0, 1, 2, 3, 4, 5, 6, 7, 8, 9, 10, 11, 12, 13, 14] [15] (by kernel_rfl) (by kernel_rfl) (fun _ _ d _ _ h => by cases d <;> exact h) ?_
    simp only [Ord.pickO, Ord.nth]
    refine wpQuiet_nil ?_
    repeat (go_big_quiet_step (fail))
    refine wpQuiet_nil ?_
    go_wp2_with fail
    go_ret
    have := M1.out.unput (.inl rfl)
    refine ⟨?_, (by repeat (first | assumption | (with_reducible refine World.At_drew.2 ?_) | (with_reducible refine (World.At_drewN _).2 ?_) | (with_reducible exact World.At_put_same (by first | assumption | (simp only [World.inB, World.size_put, World.alloc, World.drew, World.drewN, Array.size_push] at *; omega))) | (with_reducible refine (World.At_put_ne' (by first | assumption | (exact Ne.symm (by assumption)) | (simp only [World.inB, World.size_put] at *; omega))).2 ?_) | (with_reducible exact World.At_alloc_new) | (with_reducible exact at_new (by first | rfl | (simp [World.size_put]; done) | (simp [World.size_put]; omega))) | (with_reducible refine World.At.alloc ?_ _))), (by repeat (first | assumption | exact ModP.refl _ _ | refine ModP.fromPut ?_ (by assumption) | apply ModP.alloc | apply ModP.drew | apply ModP.drewN | refine ModP.put ?_ (by first | (left; assumption) | (left; rfl) | (right; simp only [World.inB, World.size_put] at *; omega)) _ _))⟩
    simp
  · rw [takeS_end (by omega)] at ht
    simp at ht
theorem c181_bad (h : W.At br (Reader.cells ⟨s, p, true⟩) 252) (hl : s.length ≤ 1000) (hp : p < 30000) (hp' : -30000 < p) : Calls Tryz.prog 181 #[vp br] W fun r w' => r = .returned (vi 0) ∧ w'.At br (Reader.cells ⟨s, p, true⟩) 252 ∧ ModP (fun x => x = br) W w' := by
  have q := hidIt (fun u => c184 u s hl p hp hp')
  obtain ⟨y, rfl, ib⟩ := h.door
  clear h
  go_enter Tryz.func181, Tryz.ntmps181
  go_wp2_with fail
  refine Ord.region1 [] [0, 1, 2, 3, 4, 5, 6, 7, 8] [9] (by kernel_rfl) (by kernel_rfl) (fun _ _ d _ _ h => by cases d <;> exact h) ?_
  simp only [Ord.pickO, Ord.nth]
  refine wpQuiet_nil ?_
  repeat (first | go_big_quiet_step (fail) | (go_big_quiet_want; go_big_quiet_op; refine Exists.intro _ ⟨by first | (go_at_call 184; exact q.out _), ?_⟩; go_big_quiet_on))
  refine wpQuiet_nil ?_
  go_wp2_with fail
  go_ret
  exact ⟨rfl, (by repeat (first | assumption | (with_reducible refine World.At_drew.2 ?_) | (with_reducible refine (World.At_drewN _).2 ?_) | (with_reducible exact World.At_put_same (by first | assumption | (simp only [World.inB, World.size_put, World.alloc, World.drew, World.drewN, Array.size_push] at *; omega))) | (with_reducible refine (World.At_put_ne' (by first | assumption | (exact Ne.symm (by assumption)) | (simp only [World.inB, World.size_put] at *; omega))).2 ?_) | (with_reducible exact World.At_alloc_new) | (with_reducible exact at_new (by first | rfl | (simp [World.size_put]; done) | (simp [World.size_put]; omega))) | (with_reducible refine World.At.alloc ?_ _))), ModP.fromPut (by repeat (first | assumption | exact ModP.refl _ _ | refine ModP.fromPut ?_ (by assumption) | apply ModP.alloc | apply ModP.drew | apply ModP.drewN | refine ModP.put ?_ (by first | (left; assumption) | (left; rfl) | (right; simp only [World.inB, World.size_put] at *; omega)) _ _)) rfl⟩
theorem c181_no (h : W.At br (Reader.cells ⟨s, p, false⟩) 252) (hl : s.length ≤ 1000) (hp : p < 30000) (hp' : -30000 < p) (hg : getU64 s p < 0) : Calls Tryz.prog 181 #[vp br] W fun r w' => r = .returned (vi 0) ∧ w'.At br (Reader.cells ⟨s, p, true⟩) 252 ∧ ModP (fun x => x = br) W w' := by
  have q := hidIt (fun u => c184 u s hl p hp hp')
  obtain ⟨y, rfl, ib⟩ := h.door
  clear h
  generalize getU64 s p = v at *
  go_enter Tryz.func181, Tryz.ntmps181
  go_wp2_with fail
  refine Ord.region1 [] [0, 1, 2, 3, 4, 5, 6, 7, 8] [9] (by kernel_rfl) (by kernel_rfl) (fun _ _ d _ _ h => by cases d <;> exact h) ?_
  simp only [Ord.pickO, Ord.nth]
  refine wpQuiet_nil ?_
  repeat (first | go_big_quiet_step (fail) | (go_big_quiet_want; go_big_quiet_op; refine Exists.intro _ ⟨by first | (go_at_call 184; exact q.out _), ?_⟩; go_big_quiet_on))
  refine wpQuiet_nil ?_
  go_wp2_with fail
  go_ret
  exact ⟨rfl, (by repeat (first | assumption | (with_reducible refine World.At_drew.2 ?_) | (with_reducible refine (World.At_drewN _).2 ?_) | (with_reducible exact World.At_put_same (by first | assumption | (simp only [World.inB, World.size_put, World.alloc, World.drew, World.drewN, Array.size_push] at *; omega))) | (with_reducible refine (World.At_put_ne' (by first | assumption | (exact Ne.symm (by assumption)) | (simp only [World.inB, World.size_put] at *; omega))).2 ?_) | (with_reducible exact World.At_alloc_new) | (with_reducible exact at_new (by first | rfl | (simp [World.size_put]; done) | (simp [World.size_put]; omega))) | (with_reducible refine World.At.alloc ?_ _))), ModP.fromPut (by repeat (first | assumption | exact ModP.refl _ _ | refine ModP.fromPut ?_ (by assumption) | apply ModP.alloc | apply ModP.drew | apply ModP.drewN | refine ModP.put ?_ (by first | (left; assumption) | (left; rfl) | (right; simp only [World.inB, World.size_put] at *; omega)) _ _)) rfl⟩
theorem c181_yes (h : W.At br (Reader.cells ⟨s, p, false⟩) 252) (hl : s.length ≤ 1000) (hp : p < 30000) (hp' : -30000 < p) (hg : 0 ≤ getU64 s p) : Calls Tryz.prog 181 #[vp br] W fun r w' => r = .returned (vi (getU64 s p)) ∧ w'.At br (Reader.cells ⟨s, p + 8, false⟩) 252 ∧ ModP (fun x => x = br) W w' := by
  have q := hidIt (fun u => c184 u s hl p hp hp')
  obtain ⟨y, rfl, ib⟩ := h.door
  clear h
  generalize getU64 s p = v at *
  go_enter Tryz.func181, Tryz.ntmps181
  go_wp2_with fail
  refine Ord.region1 [] [0, 1, 2, 3, 4, 5, 6, 7, 8] [9] (by kernel_rfl) (by kernel_rfl) (fun _ _ d _ _ h => by cases d <;> exact h) ?_
  simp only [Ord.pickO, Ord.nth]
  refine wpQuiet_nil ?_
  repeat (first | go_big_quiet_step (fail) | (go_big_quiet_want; go_big_quiet_op; refine Exists.intro _ ⟨by first | (go_at_call 184; exact q.out _), ?_⟩; go_big_quiet_on))
  refine wpQuiet_nil ?_
  go_wp2_with fail
  go_ret
  exact ⟨rfl, (by repeat (first | assumption | (with_reducible refine World.At_drew.2 ?_) | (with_reducible refine (World.At_drewN _).2 ?_) | (with_reducible exact World.At_put_same (by first | assumption | (simp only [World.inB, World.size_put, World.alloc, World.drew, World.drewN, Array.size_push] at *; omega))) | (with_reducible refine (World.At_put_ne' (by first | assumption | (exact Ne.symm (by assumption)) | (simp only [World.inB, World.size_put] at *; omega))).2 ?_) | (with_reducible exact World.At_alloc_new) | (with_reducible exact at_new (by first | rfl | (simp [World.size_put]; done) | (simp [World.size_put]; omega))) | (with_reducible refine World.At.alloc ?_ _))), ModP.fromPut (by repeat (first | assumption | exact ModP.refl _ _ | refine ModP.fromPut ?_ (by assumption) | apply ModP.alloc | apply ModP.drew | apply ModP.drewN | refine ModP.put ?_ (by first | (left; assumption) | (left; rfl) | (right; simp only [World.inB, World.size_put] at *; omega)) _ _)) rfl⟩
end
end Go.Proofs.Qxb6500990aGreat
