/- package kv: hash -/
import Derived.Test.Qxb6500990aGreatKv
set_option linter.unusedVariables false
set_option linter.unusedSimpArgs false
namespace Go.Tw
open Go Go.Proofs Go.Proofs.Qxb6500990aGreat
theorem hashN_bd (key : Bs) (h : key.length ≤ 1000) : ∀ k, 0 ≤ hashN key k ∧ hashN key k < 65536
  | 0 => by unfold hashN; omega
  | k + 1 => by unfold hashN; omega
theorem and_7 (x : Int) (h0 : 0 ≤ x) (h1 : x < 4294967296) : bits .and .i64 x 7 = x % 8 := by
  obtain ⟨n, rfl⟩ := Int.eq_ofNat_of_zero_le h0
  have e : (BitVec.ofInt 64 (n : Int) &&& BitVec.ofInt 64 7).toNat = n % 8 := by
    rw [BitVec.toNat_and]
    have e1 : (BitVec.ofInt 64 (n : Int)).toNat = n := by simp [BitVec.toNat_ofInt]; omega
    have e2 : (BitVec.ofInt 64 (7 : Int)).toNat = 7 := by decide
    rw [e1, e2]
    exact Nat.and_two_pow_sub_one_eq_mod n 3
  show IntKind.i64.wrap ((BitVec.ofInt 64 (n : Int) &&& BitVec.ofInt 64 7).toNat : Int) = _
  rw [e, IntKind.wrap_i64]
  omega
end Go.Tw
namespace Go.Proofs.Qxb6500990aGreat
open Go Go.RowKit Go.Tw
attribute [local go_sem] World.cell?_put_same World.cell?_put_ne World.cell?_put_ne' World.frozen?_put_same World.frozen?_put_ne World.frozen?_put_ne' World.setCell_put_same World.setCell_put_ne World.setCell_put_ne' World.inB_put World.inB_alloc World.inB_drew World.inB_drewN World.inB_new World.inB_setCell World.put_drew World.put_drewN World.q_setCell_drew World.q_setCell_drewN World.q_alloc_drew World.q_alloc_drewN World.put_put_same World.put_put_2 World.size_put World.q_cell?_alloc_old World.q_frozen?_alloc_old World.cell?_alloc_new' World.frozen?_alloc_new' World.q_setCell_alloc_old World.q_setCell_alloc_new World.q_put_alloc_old World.cell?_force_same World.frozen?_force_same World.cell?_force2_fst World.cell?_force2_snd
attribute [local go_sem] ba_get
set_option maxHeartbeats 4000000
set_option maxRecDepth 100000
theorem c272 (W : World) (key : Bs) (hl : key.length ≤ 1000) : Calls Tryz.prog 272 #[vs key] W fun r w' => r = .returned (vi (hashS key)) ∧ w' = W := by
  have hbd := hidIt (hashN_bd key hl)
  go_enter Tryz.func272, Tryz.ntmps272
  go_wp2_with fail
  go_loop [3, 4] (fun v i => ∃ k : Nat, k ≤ key.length ∧ i = vi k ∧ v = vi (hashN key k)) (fun _ i => key.length - (intOf i).toNat)
  case atStart => exact ⟨0, by omega, rfl, rfl⟩
  case round =>
    obtain ⟨k, hk, rfl, rfl⟩ := hrel
    obtain ⟨b0, b1⟩ := hbd.out k
    by_cases hlt : k < key.length
    · have hi' : (k : Int) < key.length := by omega
      have hs : Hid (hashN key (k + 1) = (hashN key k * 31 + (key[k].toNat : Int)) % 65536) := by unfold Hid; rw [hashN]; simp [List.getD_eq_getElem?_getD, hlt]
      have hb := key[k].toNat_lt
      have ha : Hid (bits .and .i64 (hashN key k * 31 + (key[k].toNat : Int)) 65535 = (hashN key k * 31 + (key[k].toNat : Int)) % 65536) := and_ffff _ (by omega) (by omega)
      have hwr : Hid (wrap64 (hashN key k * 31 + (key[k].toNat : Int)) = hashN key k * 31 + (key[k].toNat : Int)) := IntWalk.wrap64_in _ (by omega)
      go_wp2_with fail
      go_round
      case rel => exact ⟨k + 1, by omega, by go_num, by rw [hs.out, ← ha.out]⟩
      case measure => simp [intOf]; omega
    · obtain rfl : k = key.length := by omega
      have ha : Hid (bits .and .i64 (hashN key key.length) 7 = hashN key key.length % 8) := and_7 _ b0 (by omega)
      go_wp2_with fail
      go_ret
      unfold hashS
      rw [← ha.out]
      exact ⟨rfl, rfl⟩
end Go.Proofs.Qxb6500990aGreat
