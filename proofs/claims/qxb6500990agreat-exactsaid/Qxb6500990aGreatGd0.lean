/- the disk of zeros holds the empty log -/
import Derived.Test.Qxb6500990aGreatTo
set_option linter.unusedVariables false
set_option linter.unusedSimpArgs false
namespace Go.Tw
open Go Go.Proofs Go.Proofs.Qxb6500990aGreat Go.RowKit
theorem blk0 {b : Nat} (h : b < 14) : blk dsk0 b = List.replicate 64 0 := by
  unfold blk dsk0
  rw [List.getD_eq_getElem?_getD, List.getElem?_replicate, if_pos h]
  rfl
theorem wz : wholeB (List.replicate 64 0) = false := by kernel_rfl
theorem whole0 {b : Nat} (h : b < 14) : wholeB (blk dsk0 b) = false := by rw [blk0 h]; exact wz
theorem no0 {b : Nat} (h : b < 14) {P : Prop} (hw : wholeB (blk dsk0 b) = true) : P := by rw [whole0 h] at hw; cases hw
theorem us0 : (stOf (vp 0) dsk0).used 0 = false := by kernel_rfl
theorem us1 : (stOf (vp 0) dsk0).used 1 = false := by kernel_rfl
theorem us2 : (stOf (vp 0) dsk0).used 2 = false := by kernel_rfl
theorem us3 : (stOf (vp 0) dsk0).used 3 = false := by kernel_rfl
theorem us4 : (stOf (vp 0) dsk0).used 4 = false := by kernel_rfl
theorem us5 : (stOf (vp 0) dsk0).used 5 = false := by kernel_rfl
theorem used0 {c : Nat} (hc : c < 6) : (stOf (vp 0) dsk0).used c = false := by
  have : c = 0 ∨ c = 1 ∨ c = 2 ∨ c = 3 ∨ c = 4 ∨ c = 5 := by omega
  rcases this with rfl | rfl | rfl | rfl | rfl | rfl
  · exact us0
  · exact us1
  · exact us2
  · exact us3
  · exact us4
  · exact us5
theorem good0 : Tw.Good dsk0 Lg.new 0 := by
  refine ⟨?_, ⟨fun b hb h => no0 (by omega) h, fun b hb h => no0 (by omega) h, fun b hb h => no0 (by omega) h⟩, ⟨by kernel_rfl, by kernel_rfl, by kernel_rfl, by kernel_rfl, by kernel_rfl, fun i e h => by simp [Lg.new] at h, fun c hc hu => ?_⟩, ?_, ?_, ?_⟩
  · refine ⟨by unfold dsk0; rw [List.length_replicate], fun x hx => ?_⟩
    rw [List.eq_of_mem_replicate hx, List.length_replicate]
  · have hf : ∀ c, c < 6 → (stOf (vp 0) dsk0).used c = false := fun c hc => used0 hc
    rw [hf c hc] at hu; cases hu
  · have : (stM dsk0).num = 0 := by kernel_rfl
    omega
  · have : (stH dsk0).num = 0 := by kernel_rfl
    omega
  · refine ⟨by show (0:Int) ≤ 0; omega, by show (0:Int) ≤ maxT; unfold maxT; omega, by show (-1:Int) ≤ -1; omega, by show (-1:Int) < 3; omega, by show (0:Int) ≤ 0; omega, by show (0:Int) ≤ 0; omega, by show (0:Int) ≤ maxT; unfold maxT; omega, by simp [Lg.new], by simp [Lg.new], by show (0:Int) + 0 ≤ maxT; unfold maxT; omega, fun e he => by simp [Lg.new] at he⟩
theorem clean0 : CleanS (stOf (vp 0) dsk0) Lg.new := fun c hc hu => by
  have hf : ∀ c, c < 6 → (stOf (vp 0) dsk0).used c = false := fun c hc => used0 hc
  rw [hf c hc] at hu; cases hu
end Go.Tw
