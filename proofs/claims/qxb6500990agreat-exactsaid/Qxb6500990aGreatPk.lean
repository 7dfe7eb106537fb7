/- package towerexact: pick -/
import Derived.Test.Qxb6500990aGreatOwn3
set_option linter.unusedVariables false
set_option linter.unusedSimpArgs false
namespace Go.Tw
open Go Go.Proofs Go.Proofs.Qxb6500990aGreat Go.RowKit
/-- which of n things -/
def pickF (c : Int) (n : Nat) : Nat := (if c < 0 then (-(c + 1)) % n else c % n).toNat
/-- which number of a view: (in its outer record, where) -/
def numF (n : Int) : Bool × Nat :=
  let p := pickF n 16
  let k := pickF (Int.tdiv n 16) 3
  if p = 0 then (true, 1) else if p ≤ 6 then (false, p - 1) else if p ≤ 10 then (false, p + 2) else if p = 11 then (false, 14 + k) else if p = 12 then (false, 17 + k) else if p = 13 then (true, 5 + k) else (true, 8 + k)
theorem pickF_lt (c : Int) {n : Nat} (h : 0 < n) : pickF c n < n := by
  unfold pickF
  split
  · have := Int.emod_lt_of_pos (-(c + 1)) (b := (n : Int)) (by omega); have := Int.emod_nonneg (-(c + 1)) (b := (n : Int)) (by omega); omega
  · have := Int.emod_lt_of_pos c (b := (n : Int)) (by omega); have := Int.emod_nonneg c (b := (n : Int)) (by omega); omega
end Go.Tw
namespace Go.Proofs.Qxb6500990aGreat
open Go Go.RowKit Go.Tw
attribute [local go_sem] World.cell?_put_same World.cell?_put_ne World.cell?_put_ne' World.frozen?_put_same World.frozen?_put_ne World.frozen?_put_ne' World.setCell_put_same World.setCell_put_ne World.setCell_put_ne' World.inB_put World.inB_alloc World.inB_drew World.inB_drewN World.inB_new World.inB_setCell World.put_drew World.put_drewN World.q_setCell_drew World.q_setCell_drewN World.q_alloc_drew World.q_alloc_drewN World.put_put_same World.put_put_2 World.size_put World.q_cell?_alloc_old World.q_frozen?_alloc_old World.cell?_alloc_new' World.frozen?_alloc_new' World.q_setCell_alloc_old World.q_setCell_alloc_new World.q_put_alloc_old World.cell?_force_same World.frozen?_force_same World.cell?_force2_fst World.cell?_force2_snd
attribute [local go_sem] ba_get
set_option maxHeartbeats 4000000
set_option maxRecDepth 100000
section
variable {W w : World}
theorem c25 (W : World) (c : Int) (n : Nat) (h : 0 < n) (hn : n < 4611686018427387904) (c0 : -9223372036854775808 ≤ c) (c1 : c < 9223372036854775808) : Calls Tryz.prog 25 #[vi c, vi n] W fun r w' => r = .returned (vi (pickF c n)) ∧ w' = W := by
  have hz : ((n : Int) == 0) = false := by simp; omega
  by_cases hc : c < 0
  · have dc : decide (c < 0) = true := by simpa using hc
    have hp : Hid ((pickF c n : Int) = -(Int.tmod (c + 1) n)) := by
      unfold Hid pickF
      rw [if_pos hc, Int.toNat_of_nonneg (Int.emod_nonneg _ (by omega)), ← Int.neg_tmod, Int.tmod_eq_emod_of_nonneg (by omega)]
    go_enter Tryz.func25, Tryz.ntmps25
    go_wp2_with fail
    go_ret
    refine ⟨?_, rfl⟩
    rw [hp.out]; rfl
  · have dc : decide (c < 0) = false := by simpa using hc
    have hp : Hid ((pickF c n : Int) = c % n) := by
      unfold Hid pickF
      rw [if_neg hc, Int.toNat_of_nonneg (Int.emod_nonneg _ (by omega))]
    go_enter Tryz.func25, Tryz.ntmps25
    go_wp2_with fail
    go_ret
    refine ⟨?_, rfl⟩
    rw [hp.out]; rfl
theorem c26 (W : World) (bv ov bs os : Nat) (n : Int) (c0 : -9223372036854775808 ≤ n) (c1 : n < 9223372036854775808) :
    Calls Tryz.prog 26 #[.pointer (some ⟨bv, ov, none⟩), .pointer (some ⟨bs, os, none⟩), vi n] W fun r w' => r = .returned (.pointer (some ⟨if (numF n).1 then bv else bs, (if (numF n).1 then ov else os) + (numF n).2, none⟩)) ∧ w' = W := by
  have h16 := pickF_lt n (n := 16) (by omega)
  have h3 := pickF_lt (Int.tdiv n 16) (n := 3) (by omega)
  have tb : -9223372036854775808 ≤ Int.tdiv n 16 ∧ Int.tdiv n 16 < 9223372036854775808 := by
    rcases Int.le_total 0 n with h | h
    · rw [Int.tdiv_eq_ediv_of_nonneg h]; omega
    · have := Int.neg_tdiv (-n) 16
      rw [Int.neg_neg] at this
      rw [this, Int.tdiv_eq_ediv_of_nonneg (by omega)]; omega
  have hA : Hid (∀ w, Calls Tryz.prog 25 #[vi (Int.tdiv n 16), vi 3] w fun r w' => r = .returned (vi (pickF (Int.tdiv n 16) 3)) ∧ w' = w) := fun w => c25 w (Int.tdiv n 16) 3 (by omega) (by omega) tb.1 tb.2
  have hB : Hid (∀ w, Calls Tryz.prog 25 #[vi n, vi 16] w fun r w' => r = .returned (vi (pickF n 16)) ∧ w' = w) := fun w => c25 w n 16 (by omega) (by omega) c0 c1
  unfold numF
  simp only []
  generalize pickF (Int.tdiv n 16) 3 = k at *
  generalize pickF n 16 = p at *
  have k4 : (k : Int) < 3 := by omega
  have T1 : Hid True := trivial
  have T2 : Hid True := trivial
  have T3 : Hid True := trivial
  clear h3
  have hp : p = 0 ∨ p = 1 ∨ p = 2 ∨ p = 3 ∨ p = 4 ∨ p = 5 ∨ p = 6 ∨ p = 7 ∨ p = 8 ∨ p = 9 ∨ p = 10 ∨ p = 11 ∨ p = 12 ∨ p = 13 ∨ p = 14 ∨ p = 15 := by omega
  clear h16
  rcases hp with rfl | rfl | rfl | rfl | rfl | rfl | rfl | rfl | rfl | rfl | rfl | rfl | rfl | rfl | rfl | rfl
  · replace hB : Hid (∀ w, Calls Tryz.prog 25 #[vi n, vi 16] w fun r w' => r = .returned (vi 0) ∧ w' = w) := hB
    go_enter Tryz.func26, Tryz.ntmps26
    go_wp2_with (first
      | (go_at_call 25; clear T1; refine (hA.out _).mono ?_; rintro _ _ ⟨rfl, e⟩; obtain rfl := e.symm)
      | (go_at_call 25; clear T2; refine (hA.out _).mono ?_; rintro _ _ ⟨rfl, e⟩; obtain rfl := e.symm)
      | (go_at_call 25; clear T3; refine (hB.out _).mono ?_; rintro _ _ ⟨rfl, e⟩; obtain rfl := e.symm))
    go_ret
    exact ⟨rfl, rfl⟩
  · replace hB : Hid (∀ w, Calls Tryz.prog 25 #[vi n, vi 16] w fun r w' => r = .returned (vi 1) ∧ w' = w) := hB
    go_enter Tryz.func26, Tryz.ntmps26
    go_wp2_with (first
      | (go_at_call 25; clear T1; refine (hA.out _).mono ?_; rintro _ _ ⟨rfl, e⟩; obtain rfl := e.symm)
      | (go_at_call 25; clear T2; refine (hA.out _).mono ?_; rintro _ _ ⟨rfl, e⟩; obtain rfl := e.symm)
      | (go_at_call 25; clear T3; refine (hB.out _).mono ?_; rintro _ _ ⟨rfl, e⟩; obtain rfl := e.symm))
    go_ret
    exact ⟨rfl, rfl⟩
  · replace hB : Hid (∀ w, Calls Tryz.prog 25 #[vi n, vi 16] w fun r w' => r = .returned (vi 2) ∧ w' = w) := hB
    go_enter Tryz.func26, Tryz.ntmps26
    go_wp2_with (first
      | (go_at_call 25; clear T1; refine (hA.out _).mono ?_; rintro _ _ ⟨rfl, e⟩; obtain rfl := e.symm)
      | (go_at_call 25; clear T2; refine (hA.out _).mono ?_; rintro _ _ ⟨rfl, e⟩; obtain rfl := e.symm)
      | (go_at_call 25; clear T3; refine (hB.out _).mono ?_; rintro _ _ ⟨rfl, e⟩; obtain rfl := e.symm))
    go_ret
    exact ⟨rfl, rfl⟩
  · replace hB : Hid (∀ w, Calls Tryz.prog 25 #[vi n, vi 16] w fun r w' => r = .returned (vi 3) ∧ w' = w) := hB
    go_enter Tryz.func26, Tryz.ntmps26
    go_wp2_with (first
      | (go_at_call 25; clear T1; refine (hA.out _).mono ?_; rintro _ _ ⟨rfl, e⟩; obtain rfl := e.symm)
      | (go_at_call 25; clear T2; refine (hA.out _).mono ?_; rintro _ _ ⟨rfl, e⟩; obtain rfl := e.symm)
      | (go_at_call 25; clear T3; refine (hB.out _).mono ?_; rintro _ _ ⟨rfl, e⟩; obtain rfl := e.symm))
    go_ret
    exact ⟨rfl, rfl⟩
  · replace hB : Hid (∀ w, Calls Tryz.prog 25 #[vi n, vi 16] w fun r w' => r = .returned (vi 4) ∧ w' = w) := hB
    go_enter Tryz.func26, Tryz.ntmps26
    go_wp2_with (first
      | (go_at_call 25; clear T1; refine (hA.out _).mono ?_; rintro _ _ ⟨rfl, e⟩; obtain rfl := e.symm)
      | (go_at_call 25; clear T2; refine (hA.out _).mono ?_; rintro _ _ ⟨rfl, e⟩; obtain rfl := e.symm)
      | (go_at_call 25; clear T3; refine (hB.out _).mono ?_; rintro _ _ ⟨rfl, e⟩; obtain rfl := e.symm))
    go_ret
    exact ⟨rfl, rfl⟩
  · replace hB : Hid (∀ w, Calls Tryz.prog 25 #[vi n, vi 16] w fun r w' => r = .returned (vi 5) ∧ w' = w) := hB
    go_enter Tryz.func26, Tryz.ntmps26
    go_wp2_with (first
      | (go_at_call 25; clear T1; refine (hA.out _).mono ?_; rintro _ _ ⟨rfl, e⟩; obtain rfl := e.symm)
      | (go_at_call 25; clear T2; refine (hA.out _).mono ?_; rintro _ _ ⟨rfl, e⟩; obtain rfl := e.symm)
      | (go_at_call 25; clear T3; refine (hB.out _).mono ?_; rintro _ _ ⟨rfl, e⟩; obtain rfl := e.symm))
    go_ret
    exact ⟨rfl, rfl⟩
  · replace hB : Hid (∀ w, Calls Tryz.prog 25 #[vi n, vi 16] w fun r w' => r = .returned (vi 6) ∧ w' = w) := hB
    go_enter Tryz.func26, Tryz.ntmps26
    go_wp2_with (first
      | (go_at_call 25; clear T1; refine (hA.out _).mono ?_; rintro _ _ ⟨rfl, e⟩; obtain rfl := e.symm)
      | (go_at_call 25; clear T2; refine (hA.out _).mono ?_; rintro _ _ ⟨rfl, e⟩; obtain rfl := e.symm)
      | (go_at_call 25; clear T3; refine (hB.out _).mono ?_; rintro _ _ ⟨rfl, e⟩; obtain rfl := e.symm))
    go_ret
    exact ⟨rfl, rfl⟩
  · replace hB : Hid (∀ w, Calls Tryz.prog 25 #[vi n, vi 16] w fun r w' => r = .returned (vi 7) ∧ w' = w) := hB
    go_enter Tryz.func26, Tryz.ntmps26
    go_wp2_with (first
      | (go_at_call 25; clear T1; refine (hA.out _).mono ?_; rintro _ _ ⟨rfl, e⟩; obtain rfl := e.symm)
      | (go_at_call 25; clear T2; refine (hA.out _).mono ?_; rintro _ _ ⟨rfl, e⟩; obtain rfl := e.symm)
      | (go_at_call 25; clear T3; refine (hB.out _).mono ?_; rintro _ _ ⟨rfl, e⟩; obtain rfl := e.symm))
    go_ret
    exact ⟨rfl, rfl⟩
  · replace hB : Hid (∀ w, Calls Tryz.prog 25 #[vi n, vi 16] w fun r w' => r = .returned (vi 8) ∧ w' = w) := hB
    go_enter Tryz.func26, Tryz.ntmps26
    go_wp2_with (first
      | (go_at_call 25; clear T1; refine (hA.out _).mono ?_; rintro _ _ ⟨rfl, e⟩; obtain rfl := e.symm)
      | (go_at_call 25; clear T2; refine (hA.out _).mono ?_; rintro _ _ ⟨rfl, e⟩; obtain rfl := e.symm)
      | (go_at_call 25; clear T3; refine (hB.out _).mono ?_; rintro _ _ ⟨rfl, e⟩; obtain rfl := e.symm))
    go_ret
    exact ⟨rfl, rfl⟩
  · replace hB : Hid (∀ w, Calls Tryz.prog 25 #[vi n, vi 16] w fun r w' => r = .returned (vi 9) ∧ w' = w) := hB
    go_enter Tryz.func26, Tryz.ntmps26
    go_wp2_with (first
      | (go_at_call 25; clear T1; refine (hA.out _).mono ?_; rintro _ _ ⟨rfl, e⟩; obtain rfl := e.symm)
      | (go_at_call 25; clear T2; refine (hA.out _).mono ?_; rintro _ _ ⟨rfl, e⟩; obtain rfl := e.symm)
      | (go_at_call 25; clear T3; refine (hB.out _).mono ?_; rintro _ _ ⟨rfl, e⟩; obtain rfl := e.symm))
    go_ret
    exact ⟨rfl, rfl⟩
  · replace hB : Hid (∀ w, Calls Tryz.prog 25 #[vi n, vi 16] w fun r w' => r = .returned (vi 10) ∧ w' = w) := hB
    go_enter Tryz.func26, Tryz.ntmps26
    go_wp2_with (first
      | (go_at_call 25; clear T1; refine (hA.out _).mono ?_; rintro _ _ ⟨rfl, e⟩; obtain rfl := e.symm)
      | (go_at_call 25; clear T2; refine (hA.out _).mono ?_; rintro _ _ ⟨rfl, e⟩; obtain rfl := e.symm)
      | (go_at_call 25; clear T3; refine (hB.out _).mono ?_; rintro _ _ ⟨rfl, e⟩; obtain rfl := e.symm))
    go_ret
    exact ⟨rfl, rfl⟩
  · replace hB : Hid (∀ w, Calls Tryz.prog 25 #[vi n, vi 16] w fun r w' => r = .returned (vi 11) ∧ w' = w) := hB
    go_enter Tryz.func26, Tryz.ntmps26
    go_wp2_with (first
      | (go_at_call 25; clear T1; refine (hA.out _).mono ?_; rintro _ _ ⟨rfl, e⟩; obtain rfl := e.symm)
      | (go_at_call 25; clear T2; refine (hA.out _).mono ?_; rintro _ _ ⟨rfl, e⟩; obtain rfl := e.symm)
      | (go_at_call 25; clear T3; refine (hB.out _).mono ?_; rintro _ _ ⟨rfl, e⟩; obtain rfl := e.symm))
    go_ret
    refine ⟨?_, rfl⟩
    simp [Nat.add_assoc]
  · replace hB : Hid (∀ w, Calls Tryz.prog 25 #[vi n, vi 16] w fun r w' => r = .returned (vi 12) ∧ w' = w) := hB
    go_enter Tryz.func26, Tryz.ntmps26
    go_wp2_with (first
      | (go_at_call 25; clear T1; refine (hA.out _).mono ?_; rintro _ _ ⟨rfl, e⟩; obtain rfl := e.symm)
      | (go_at_call 25; clear T2; refine (hA.out _).mono ?_; rintro _ _ ⟨rfl, e⟩; obtain rfl := e.symm)
      | (go_at_call 25; clear T3; refine (hB.out _).mono ?_; rintro _ _ ⟨rfl, e⟩; obtain rfl := e.symm))
    go_ret
    refine ⟨?_, rfl⟩
    simp [Nat.add_assoc]
  · replace hB : Hid (∀ w, Calls Tryz.prog 25 #[vi n, vi 16] w fun r w' => r = .returned (vi 13) ∧ w' = w) := hB
    go_enter Tryz.func26, Tryz.ntmps26
    go_wp2_with (first
      | (go_at_call 25; clear T1; refine (hA.out _).mono ?_; rintro _ _ ⟨rfl, e⟩; obtain rfl := e.symm)
      | (go_at_call 25; clear T2; refine (hA.out _).mono ?_; rintro _ _ ⟨rfl, e⟩; obtain rfl := e.symm)
      | (go_at_call 25; clear T3; refine (hB.out _).mono ?_; rintro _ _ ⟨rfl, e⟩; obtain rfl := e.symm))
    go_ret
    refine ⟨?_, rfl⟩
    simp [Nat.add_assoc]
  · replace hB : Hid (∀ w, Calls Tryz.prog 25 #[vi n, vi 16] w fun r w' => r = .returned (vi 14) ∧ w' = w) := hB
    go_enter Tryz.func26, Tryz.ntmps26
    go_wp2_with (first
      | (go_at_call 25; clear T1; refine (hA.out _).mono ?_; rintro _ _ ⟨rfl, e⟩; obtain rfl := e.symm)
      | (go_at_call 25; clear T2; refine (hA.out _).mono ?_; rintro _ _ ⟨rfl, e⟩; obtain rfl := e.symm)
      | (go_at_call 25; clear T3; refine (hB.out _).mono ?_; rintro _ _ ⟨rfl, e⟩; obtain rfl := e.symm))
    go_ret
    refine ⟨?_, rfl⟩
    simp [Nat.add_assoc]
  · replace hB : Hid (∀ w, Calls Tryz.prog 25 #[vi n, vi 16] w fun r w' => r = .returned (vi 15) ∧ w' = w) := hB
    go_enter Tryz.func26, Tryz.ntmps26
    go_wp2_with (first
      | (go_at_call 25; clear T1; refine (hA.out _).mono ?_; rintro _ _ ⟨rfl, e⟩; obtain rfl := e.symm)
      | (go_at_call 25; clear T2; refine (hA.out _).mono ?_; rintro _ _ ⟨rfl, e⟩; obtain rfl := e.symm)
      | (go_at_call 25; clear T3; refine (hB.out _).mono ?_; rintro _ _ ⟨rfl, e⟩; obtain rfl := e.symm))
    go_ret
    refine ⟨?_, rfl⟩
    simp [Nat.add_assoc]
end
end Go.Proofs.Qxb6500990aGreat
