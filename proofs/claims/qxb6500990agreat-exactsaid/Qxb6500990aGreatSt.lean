/- the store as it is meant (what a disk of 14 blocks says); package store: the codec's readers -/
import Derived.Test.Qxb6500990aGreatApi9
import Derived.Test.Qxb6500990aGreatDisk3
import Derived.Test.Qxb6500990aGreatOwn2
import Derived.Test.Qxb6500990aGreatOrder4
set_option linter.unusedVariables false
set_option linter.unusedSimpArgs false
namespace Go.Tw
open Go Go.Proofs Go.Proofs.Qxb6500990aGreat Go.RowKit
def zMeta : Meta := ⟨false, 0, 0, 0⟩
def zHead : Head := ⟨false, 0, 0, 0, 0, 0⟩
def zRec : Rec := ⟨0, 0, []⟩
def wholeB (x : Bs) : Bool := x.getD 0 0 == x.getD 63 0 && x.getD 0 0 != 0
def decMetaS (x : Bs) : Meta := if wholeB x = true then ⟨true, beN x 1 8, beN x 9 8, byt x 32 - 1⟩ else zMeta
def decHeadS (x : Bs) : Head := if wholeB x = true ∧ byt x 40 ≤ 1 ∧ byt x 41 ≤ 128 then ⟨true, beN x 1 8, beN x 9 8, beN x 32 8, byt x 40, byt x 41⟩ else zHead
def decRecS (x : Bs) : Option Rec := if wholeB x = true ∧ byt x 1 = 1 ∧ byt x 10 ≤ 24 then some ⟨beN x 2 8, beN x 35 8, (x.drop 11).take (byt x 10).toNat⟩ else none
theorem or_byte8 (a : Int) (y : UInt8) (a0 : 0 ≤ a) (a1 : a < 36028797018963968) : bits .or .i64 (a * 256) (y.toNat : Int) = a * 256 + (y.toNat : Int) := by
  obtain ⟨x, rfl⟩ := Int.eq_ofNat_of_zero_le a0
  have hy : y.toNat < 256 := y.toNat_lt
  generalize y.toNat = z at *
  have e : (BitVec.ofInt 64 ((x : Int) * 256) ||| BitVec.ofInt 64 (z : Int)).toNat = x * 256 + z := by
    rw [BitVec.toNat_or]
    have e1 : (BitVec.ofInt 64 ((x : Int) * 256)).toNat = x * 256 := by simp [BitVec.toNat_ofInt]; omega
    have e2 : (BitVec.ofInt 64 (z : Int)).toNat = z := by simp [BitVec.toNat_ofInt]; omega
    rw [e1, e2]
    have := Nat.two_pow_add_eq_or_of_lt (i := 8) (b := z) hy x
    rw [Nat.mul_comm, show (2 : Nat) ^ 8 = 256 from rfl] at this
    omega
  show IntKind.i64.wrap ((BitVec.ofInt 64 ((x : Int) * 256) ||| BitVec.ofInt 64 (z : Int)).toNat : Int) = _
  rw [e, IntKind.wrap_i64]
  omega
theorem beN_mono (l : Bs) (p : Nat) : ∀ k j, beN l p k ≤ beN l p (k + j)
  | k, 0 => Int.le_refl _
  | k, j + 1 => by
    have h1 := beN_mono l p k j
    have h2 := (beN_bd l p (k + j)).1
    have : beN l p (k + (j + 1)) = beN l p (k + j) * 256 + ((l.getD (p + (k + j)) 0).toNat : Int) := rfl
    omega
end Go.Tw
namespace Go.Proofs.Qxb6500990aGreat
open Go Go.RowKit Go.Tw
attribute [local go_sem] World.cell?_put_same World.cell?_put_ne World.cell?_put_ne' World.frozen?_put_same World.frozen?_put_ne World.frozen?_put_ne' World.setCell_put_same World.setCell_put_ne World.setCell_put_ne' World.inB_put World.inB_alloc World.inB_drew World.inB_drewN World.inB_new World.inB_setCell World.put_drew World.put_drewN World.q_setCell_drew World.q_setCell_drewN World.q_alloc_drew World.q_alloc_drewN World.put_put_same World.put_put_2 World.size_put World.q_cell?_alloc_old World.q_frozen?_alloc_old World.cell?_alloc_new' World.frozen?_alloc_new' World.q_setCell_alloc_old World.q_setCell_alloc_new World.q_put_alloc_old World.cell?_force_same World.frozen?_force_same World.cell?_force2_fst World.cell?_force2_snd Meta.g0 Meta.s0 Meta.g1 Meta.s1 Meta.g2 Meta.s2 Meta.g3 Meta.s3 Head.g0 Head.s0 Head.g1 Head.s1 Head.g2 Head.s2 Head.g3 Head.s3 Head.g4 Head.s4 Head.g5 Head.s5 Rec.g0 Rec.s0 Rec.g1 Rec.s1 Rec.g2 Rec.s2
attribute [local go_sem] ba_get
set_option maxHeartbeats 4000000
set_option maxRecDepth 100000
theorem c116 (W : World) (x : Bs) (hl : x.length = 64) : Calls Tryz.prog 116 #[vs x] W fun r w' => r = .returned (.bool (wholeB x)) ∧ Mod [] W w' := by
  have l0 : (0 : Int) < x.length := by omega
  have l1 : (63 : Int) < x.length := by omega
  have g0 : 0 < x.length := by omega
  have g1 : 63 < x.length := by omega
  have e0 : x.getD 0 0 = x[0] := by simp [List.getD_eq_getElem?_getD, g0]
  have e1 : x.getD 63 0 = x[63] := by simp [List.getD_eq_getElem?_getD, g1]
  have hk : Hid (wholeB x = (x[0] == x[63] && x[0] != 0)) := by unfold Hid wholeB; rw [e0, e1]
  clear hl e0 e1
  by_cases q : x[0] = x[63]
  · have q' : ((x[0].toNat : Int) == (x[63].toNat : Int)) = true := by simp [q]
    have hk2 : Hid (wholeB x = (x[0] != 0)) := by unfold Hid; rw [hk.out]; simp [q]
    clear hk
    have hz : Hid ((x[0] != 0) = ((x[0].toNat : Int) != 0)) := by
      unfold Hid
      by_cases h : x[0] = 0
      · simp [h]
      · have : x[0].toNat ≠ 0 := fun e => h (UInt8.toNat_inj.1 (by simpa using e))
        have h2 : ((x[0].toNat : Int)) ≠ 0 := by omega
        rw [bne_iff_ne.2 h, bne_iff_ne.2 h2]
    clear q
    go_enter Tryz.func116, Tryz.ntmps116
    go_wp2_with fail
    refine Ord.region1 [] [0, 1, 2, 3, 4, 5, 6, 7, 8, 9] [10] (by kernel_rfl) (by kernel_rfl) (fun _ _ d _ _ h => by cases d <;> exact h) ?_
    simp only [Ord.pickO, Ord.nth]
    refine wpQuiet_nil ?_
    repeat (go_big_quiet_step (fail))
    refine wpQuiet_nil ?_
    go_wp2_with fail
    go_ret
    rw [hk2.out, hz.out]
    exact ⟨rfl, (by repeat (first | exact Mod.refl _ _ | apply Mod.alloc | apply Mod.drew | apply Mod.drewN))⟩
  · have q2 : x[0].toNat ≠ x[63].toNat := fun e => q (UInt8.toNat_inj.1 e)
    have q' : ((x[0].toNat : Int) == (x[63].toNat : Int)) = false := by simp; omega
    have hk2 : Hid (wholeB x = false) := by unfold Hid; rw [hk.out]; simp [q]
    clear hk q q2
    go_enter Tryz.func116, Tryz.ntmps116
    go_wp2_with fail
    refine Ord.region1 [] [0, 1, 2, 3, 4, 5, 6, 7, 8, 9] [10] (by kernel_rfl) (by kernel_rfl) (fun _ _ d _ _ h => by cases d <;> exact h) ?_
    simp only [Ord.pickO, Ord.nth]
    refine wpQuiet_nil ?_
    repeat (go_big_quiet_step (fail))
    refine wpQuiet_nil ?_
    go_wp2_with fail
    go_ret
    rw [hk2.out]
    exact ⟨rfl, (by repeat (first | exact Mod.refl _ _ | apply Mod.alloc | apply Mod.drew | apply Mod.drewN))⟩
theorem c117 (W : World) (l : Bs) (hl : l.length = 64) (q : Nat) (hq : q + 8 ≤ 64) (hs : beN l q 8 < 9223372036854775808) : Calls Tryz.prog 117 #[vs l, vi q] W fun r w' => r = .returned (vi (beN l q 8)) ∧ w' = W := by
  have hq3 : q + 8 ≤ l.length := by omega
  have hq2 : (q : Int) ≤ (l.length : Int) - 8 := by omega
  have hl' : l.length ≤ 1000 := by omega
  have Hs : Hid (∀ k, k < 8 → beN l q k < 36028797018963968) := by
    intro k hk
    have h1 := beN_mono l q (k + 1) (8 - (k + 1))
    rw [show k + 1 + (8 - (k + 1)) = 8 by omega] at h1
    have h2 : beN l q (k + 1) = beN l q k * 256 + ((l.getD (q + k) 0).toNat : Int) := rfl
    omega
  clear hs hl hq
  go_enter Tryz.func117, Tryz.ntmps117
  go_wp2_with fail
  go_loop [5, 6] (fun v i => ∃ k : Nat, k ≤ 8 ∧ i = vi k ∧ v = vi (beN l q k)) (fun _ i => 8 - (intOf i).toNat)
  case atStart => exact ⟨0, by omega, rfl, rfl⟩
  case round =>
    obtain ⟨k, hk, rfl, rfl⟩ := hrel
    by_cases hlt : k < 8
    · obtain ⟨b0, b1⟩ := beN_bd l q k
      have hi : q + k < l.length := by omega
      have hb : Hid (beN l q (k + 1) = beN l q k * 256 + (l[q + k].toNat : Int)) := by unfold Hid; simp [beN, List.getD_eq_getElem?_getD, hi]
      have b2 := Hs.out k hlt
      clear b1
      have ho : Hid (bits .or .i64 (beN l q k * 256) (l[q + k].toNat : Int) = beN l q k * 256 + (l[q + k].toNat : Int)) := or_byte8 _ _ b0 b2
      go_wp2_with fail
      go_round
      case rel => exact ⟨k + 1, by omega, by go_num, by rw [IntWalk.wrap64_in _ (by have := l[q + k].toNat_lt; omega)]; exact congrArg (Value.int .i64) (ho.out.trans hb.out.symm)⟩
      case measure => simp [intOf]; omega
    · obtain rfl : k = 8 := by omega
      go_wp2_with fail
      go_ret
      exact ⟨rfl, rfl⟩
theorem c234 (W : World) (y : UInt8) : Calls Tryz.prog 234 #[.int .u8 y.toNat] W fun r w' => r = .returned (.int .u8 ((y.toNat : Int) % 255 + 1)) ∧ w' = W := by
  have hy : (y.toNat : Int) < 256 := by have := y.toNat_lt; omega
  go_enter Tryz.func234, Tryz.ntmps234
  go_wp2
  go_ret
  exact ⟨rfl, rfl⟩
/-- numbers of a whole block fit -/
def Fits (x : Bs) (ps : List Nat) : Prop := ∀ p ∈ ps, beN x p 8 < 9223372036854775808
theorem c56 (W : World) (x : Bs) (hl : x.length = 64) (hf : wholeB x = true → Fits x [1, 9]) : Calls Tryz.prog 56 #[vs x] W fun r w' => r = .returned (.agg (decMetaS x).cells) ∧ ModP (fun _ => False) W w' := by
  have hw := hidIt (fun w => c116 w x hl)
  cases hb : wholeB x with
  | false =>
    have hk : Hid (decMetaS x = zMeta) := by unfold Hid decMetaS; rw [hb]; rfl
    rw [hb] at hw
    clear hf hb hl
    go_enter Tryz.func56, Tryz.ntmps56
    go_wp2_with (first
      | (go_at_call 116; refine (hw.out _).mono ?_; rintro _ w1 ⟨rfl, m1⟩; have M1 := hidIt (show ModP (fun _ => False) W w1 from ModP.trans ((ModP.refl _ _).alloc _) m1.toP0); have hz := m1.at (b := W.heap.size) World.At_alloc_new (by simp); clear m1; obtain ⟨y, rfl, iy⟩ := hz.door; clear hz))
    refine bodyPost_ret (v := .agg (Meta.cells ⟨false, 0, 0, 0⟩)) (by simp [results, Tryz.results56, go_sem, Meta.cells, iy]) rfl ?_
    rw [hk.out]
    exact ⟨rfl, (M1.out.unput (.inr (Nat.le_refl _))).put (.inr (Nat.le_refl _)) _ _⟩
  | true =>
    have g1 := hidIt (fun w => c117 w x hl 1 (by omega) (hf hb 1 (by simp)))
    have g9 := hidIt (fun w => c117 w x hl 9 (by omega) (hf hb 9 (by simp)))
    have hi : 32 < x.length := by omega
    have hi' : (32 : Int) < x.length := by omega
    have e1 : byt x 32 = (x[32].toNat : Int) := by simp [byt, List.getD_eq_getElem?_getD, hi]
    have hk : Hid (decMetaS x = ⟨true, beN x 1 8, beN x 9 8, (x[32].toNat : Int) - 1⟩) := by unfold Hid decMetaS; rw [hb, e1]; rfl
    rw [hb] at hw
    clear hf hb hl e1
    generalize beN x 1 8 = n1 at *
    generalize beN x 9 8 = n9 at *
    go_enter Tryz.func56, Tryz.ntmps56
    go_wp2_with (first
      | (go_at_call 116; refine (hw.out _).mono ?_; rintro _ w1 ⟨rfl, m1⟩; have M1 := hidIt (show ModP (fun _ => False) W w1 from ModP.trans ((ModP.refl _ _).alloc _) m1.toP0); have hz := m1.at (b := W.heap.size) World.At_alloc_new (by simp); clear m1; obtain ⟨y, rfl, iy⟩ := hz.door; clear hz)
      | (go_at_call 117; with_reducible refine Calls.mono (g1.out _) ?_; rintro _ _ ⟨rfl, rfl⟩)
      | (go_at_call 117; with_reducible refine Calls.mono (g9.out _) ?_; rintro _ _ ⟨rfl, rfl⟩))
    refine bodyPost_ret (v := .agg (Meta.cells ⟨true, n1, n9, (x[32].toNat : Int) - 1⟩)) (by simp [results, Tryz.results56, go_sem, Meta.cells, iy]; have hx := x[32].toNat_lt; rw [IntWalk.wrap64_in (x[32].toNat : Int) (by omega), IntWalk.wrap64_in _ (by omega)]) rfl ?_
    rw [hk.out]
    exact ⟨rfl, (M1.out.unput (.inr (Nat.le_refl _))).put (.inr (Nat.le_refl _)) _ _⟩
theorem c55 {W : World} {F : Nat → Prop} {bt bd : Nat} {D : Dk} {S : StoreR} (hd : DK W F bd D) (ht : W.At bt S.cells 139) (hS : S.d = vp bd) (b : Nat) (hb : b < 14) : Calls Tryz.prog 55 #[vp bt, vi b] W fun r w' => r = .returned (vs (D.now.getD b [])) ∧ w' = W := by
  have hr := hidIt (k115 hd b hb)
  have hc : W.cell? ⟨bt, 0, none⟩ = some (vp bd) := by rw [ht.cell, ← hS]; rfl
  have ib := ht.inB
  clear hd ht hS
  go_enter Tryz.func55, Tryz.ntmps55
  go_wp2_with (first
    | (go_at_call 115; refine hr.out.mono ?_; rintro _ w' ⟨rfl, e⟩; obtain rfl := e.symm))
  go_ret
  exact ⟨rfl, rfl⟩
end Go.Proofs.Qxb6500990aGreat
