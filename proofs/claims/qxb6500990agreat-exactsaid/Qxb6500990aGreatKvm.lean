/- package kvm -/
import Derived.Test.Qxb6500990aGreatApi9
set_option linter.unusedVariables false
set_option linter.unusedSimpArgs false
namespace Go.Tw
open Go Go.Proofs Go.Proofs.Qxb6500990aGreat
/-- the key-value store as it is meant: pairs in ascending order of keys, a session a client -/
structure AK where
  ps : List (Bs × Bs)
  seq : Nat → Int
  ans : Nat → Ans
def AK.key (k : AK) (j : Nat) : Bs := (k.ps.getD j ([], [])).1
def AK.val (k : AK) (j : Nat) : Bs := (k.ps.getD j ([], [])).2
def AK.r (k : AK) : KvM := ⟨k.ps.length, k.key, k.val, k.seq, k.ans⟩
def AK.find (k : AK) (key : Bs) : Option Nat := k.ps.findIdx? (fun p => p.1 == key)
def oi (o : Option Nat) : Int := match o with | some i => i | none => -1
def AK.new : AK := ⟨[], fun _ => 0, fun _ => ⟨0, []⟩⟩
def zAns : Ans := ⟨0, []⟩
end Go.Tw
namespace Go.Proofs.Qxb6500990aGreat
open Go Go.RowKit Go.Tw
attribute [local go_sem] World.cell?_put_same World.cell?_put_ne World.cell?_put_ne' World.frozen?_put_same World.frozen?_put_ne World.frozen?_put_ne' World.setCell_put_same World.setCell_put_ne World.setCell_put_ne' World.inB_put World.inB_alloc World.inB_drew World.inB_drewN World.inB_new World.inB_setCell World.put_drew World.put_drewN World.q_setCell_drew World.q_setCell_drewN World.q_alloc_drew World.q_alloc_drewN World.put_put_same World.put_put_2 World.size_put World.q_cell?_alloc_old World.q_frozen?_alloc_old World.cell?_alloc_new' World.frozen?_alloc_new' World.q_setCell_alloc_old World.q_setCell_alloc_new World.q_put_alloc_old KvM.g0 KvM.s0 KvM.g1 KvM.s1 KvM.g2 KvM.s2 KvM.g3 KvM.s3 KvM.g4 KvM.s4 KvM.g5 KvM.s5 KvM.g6 KvM.s6 KvM.g7 KvM.s7 KvM.g8 KvM.s8 KvM.g9 KvM.s9 KvM.g10 KvM.s10 KvM.g11 KvM.s11 KvM.g12 KvM.s12 KvM.g13 KvM.s13 KvM.g14 KvM.s14 KvM.g15 KvM.s15 KvM.g16 KvM.s16 KvM.g17 KvM.s17 KvM.gi_keys_0 KvM.si_keys_0 KvM.gi_vals_0 KvM.si_vals_0 KvM.gi_seq_0 KvM.si_seq_0 KvM.gi_ans_0 KvM.si_ans_0 KvM.gi_ans_1 KvM.si_ans_1 Ans.g0 Ans.s0 Ans.g1 Ans.s1
theorem ba_eq (a b : Bs) : (ByteArray.mk a.toArray = ByteArray.mk b.toArray) = (a = b) := by
  apply propext
  constructor
  · intro h
    have := congrArg (fun x : ByteArray => x.data.toList) h
    simpa using this
  · rintro rfl; rfl
theorem ba_beq (a b : Bs) : (ByteArray.mk a.toArray == ByteArray.mk b.toArray) = decide (a = b) := by
  have : (ByteArray.mk a.toArray == ByteArray.mk b.toArray) = (a.toArray == b.toArray) := rfl
  rw [this, Bool.eq_iff_iff]
  simp
attribute [local go_sem] ba_get ba_eq ba_beq
set_option maxHeartbeats 1000000
set_option maxRecDepth 100000
theorem KvM.gia_ans_1 (s : KvM) (i : Nat) (h : i < 3) : s.cells[12 + i * 2 + 1]? = some (.string (ByteArray.mk ((s.ans i).val).toArray)) := by
  rw [show 12 + i * 2 + 1 = 13 + i * 2 by omega, KvM.gi_ans_1 s i h]
attribute [local go_sem] KvM.gia_ans_1
theorem c38 (W : World) : Calls Tryz.prog 38 #[] W fun r w' => r = .returned (vp W.heap.size) ∧ w' = W.alloc (.cells AK.new.r.cells 186 (0, 0)) := by
  go_enter Tryz.func38, Tryz.ntmps38
  go_wp2
  go_ret
  exact ⟨rfl, rfl⟩
theorem c174 {W : World} {b : Nat} {k : AK} (h : W.At b k.r.cells 186) : Calls Tryz.prog 174 #[vp b] W fun r w' => r = .returned (vi k.ps.length) ∧ w' = W := by
  obtain ⟨w, rfl, hb⟩ := h.door
  clear h
  unfold AK.r
  go_enter Tryz.func174, Tryz.ntmps174
  go_wp2
  go_ret
  exact ⟨rfl, rfl⟩
theorem c269 {W : World} {b : Nat} {k : AK} (h : W.At b k.r.cells 186) (hl : k.ps.length ≤ 4) (key : Bs) : Calls Tryz.prog 269 #[vp b, vs key] W fun r w' => r = .returned (vi (oi (k.find key))) ∧ w' = W := by
  obtain ⟨w, rfl, hb⟩ := h.door
  clear h
  unfold AK.r
  go_enter Tryz.func269, Tryz.ntmps269
  go_wp2_with fail
  go_loop [5] (fun i => ∃ j : Nat, j ≤ k.ps.length ∧ i = vi j ∧ Hid (∀ m, m < j → k.key m ≠ key)) (fun i => k.ps.length - (intOf i).toNat)
  case atStart => exact ⟨0, Nat.zero_le _, rfl, fun m hm => by omega⟩
  case round =>
    obtain ⟨j, hj, rfl, h1⟩ := hrel
    by_cases hlt : j < k.ps.length
    · have j4 : j < 4 := by omega
      by_cases he : k.key j = key
      · have hf : Hid (k.find key = some j) := by
          unfold Hid AK.find
          rw [List.findIdx?_eq_some_iff_getElem]
          refine ⟨hlt, by simpa [AK.key, hlt] using he, fun m hm => ?_⟩
          have := h1.out m hm
          simpa [AK.key, show m < k.ps.length by omega] using this
        go_wp2_with fail
        go_ret
        rw [hf.out]
        exact ⟨rfl, rfl⟩
      · have h2 : Hid (∀ m, m < j + 1 → k.key m ≠ key) := fun m hm => by
          by_cases e : m = j
          · subst e; exact he
          · exact h1.out m (by omega)
        have hne : (k.key j == key) = false := by simpa using he
        go_wp2_with fail
        go_round
        case rel => exact ⟨j + 1, by omega, by go_num, h2⟩
        case measure => simp [intOf]; omega
    · have hf : Hid (k.find key = none) := by
        unfold Hid AK.find
        rw [List.findIdx?_eq_none_iff]
        intro x hx
        obtain ⟨m, hm, rfl⟩ := List.mem_iff_getElem.1 hx
        have := h1.out m (by omega)
        simpa [AK.key, hm] using this
      go_wp2_with fail
      go_ret
      rw [hf.out]
      exact ⟨rfl, rfl⟩
theorem find_lt {k : AK} {key : Bs} {i : Nat} (h : k.find key = some i) : i < k.ps.length := by
  unfold AK.find at h
  rw [List.findIdx?_eq_some_iff_getElem] at h
  exact h.1
def _root_.Go.Tw.AK.keyAt (k : AK) (i : Int) : Bs := if i < 0 ∨ (k.ps.length : Int) ≤ i then [] else k.key i.toNat
theorem c175 {W : World} {b : Nat} {k : AK} (h : W.At b k.r.cells 186) (hl : k.ps.length ≤ 4) (i : Int) : Calls Tryz.prog 175 #[vp b, vi i] W fun r w' => r = .returned (vs (k.keyAt i)) ∧ w' = W := by
  obtain ⟨w, rfl, hb⟩ := h.door
  clear h
  unfold AK.r
  by_cases h1 : i < 0
  · have hk : Hid (k.keyAt i = []) := by unfold Hid AK.keyAt; rw [if_pos (.inl h1)]
    go_enter Tryz.func175, Tryz.ntmps175
    go_wp2_with fail
    go_ret
    rw [hk.out]
    exact ⟨rfl, rfl⟩
  by_cases h2 : (k.ps.length : Int) ≤ i
  · have hk : Hid (k.keyAt i = []) := by unfold Hid AK.keyAt; rw [if_pos (.inr h2)]
    go_enter Tryz.func175, Tryz.ntmps175
    go_wp2_with fail
    go_ret
    rw [hk.out]
    exact ⟨rfl, rfl⟩
  · obtain ⟨j, rfl⟩ := Int.eq_ofNat_of_zero_le (by omega : 0 ≤ i)
    have hk : Hid (k.keyAt j = k.key j) := by unfold Hid AK.keyAt; rw [if_neg (by omega)]; rfl
    have j4 : j < 4 := by omega
    go_enter Tryz.func175, Tryz.ntmps175
    go_wp2_with fail
    go_ret
    rw [hk.out]
    exact ⟨rfl, rfl⟩
def _root_.Go.Tw.AK.valOf (k : AK) (key : Bs) : Bs × Bool := if 2 < key.length then ([], false) else match k.find key with | some i => (k.val i, true) | none => ([], false)
theorem c229 {W : World} {b : Nat} {k : AK} (h : W.At b k.r.cells 186) (hl : k.ps.length ≤ 4) (key : Bs) : Calls Tryz.prog 229 #[vp b, vs key] W fun r w' => r = .returned (.tuple #[vs (k.valOf key).1, .bool (k.valOf key).2]) ∧ w' = W := by
  have hcall := hidIt (c269 h hl key)
  obtain ⟨w, rfl, hb⟩ := h.door
  clear h
  by_cases h1 : 2 < key.length
  · have hk : Hid (k.valOf key = ([], false)) := by unfold Hid AK.valOf; rw [if_pos h1]
    have h1' : (2 : Int) < key.length := by omega
    go_enter Tryz.func229, Tryz.ntmps229
    go_wp2_with fail
    go_ret2
    rw [hk.out]
    exact ⟨rfl, rfl⟩
  · have h1' : (key.length : Int) ≤ 2 := by omega
    cases hf : k.find key with
    | none =>
      have hk : Hid (k.valOf key = ([], false)) := by unfold Hid AK.valOf; rw [if_neg h1, hf]
      have Hf := hidIt hf
      clear hf
      go_enter Tryz.func229, Tryz.ntmps229
      go_wp2_with (go_at_call 269; refine hcall.out.mono ?_; rintro _ _ ⟨rfl, rfl⟩; rw [Hf.out]; unfold oi)
      go_ret2
      rw [hk.out]
      exact ⟨rfl, rfl⟩
    | some i =>
      have hi := find_lt hf
      have hk : Hid (k.valOf key = (k.val i, true)) := by unfold Hid AK.valOf; rw [if_neg h1, hf]
      have Hf := hidIt hf
      have j4 : i < 4 := by omega
      clear hf
      unfold AK.r at *
      go_enter Tryz.func229, Tryz.ntmps229
      go_wp2_with (go_at_call 269; refine hcall.out.mono ?_; rintro _ _ ⟨rfl, rfl⟩; rw [Hf.out]; unfold oi)
      go_ret2
      rw [hk.out]
      exact ⟨rfl, rfl⟩
def _root_.Go.Tw.AK.sess (k : AK) (c : Int) : Int × Ans := if c < 0 ∨ 3 ≤ c then (0, zAns) else (k.seq c.toNat, k.ans c.toNat)
theorem c233 {W : World} {b : Nat} {k : AK} (h : W.At b k.r.cells 186) (c : Int) : Calls Tryz.prog 233 #[vp b, vi c] W fun r w' => r = .returned (.tuple #[vi (k.sess c).1, .agg (k.sess c).2.cells]) ∧ ∃ o, w' = W.alloc o ∨ w' = (W.alloc o).drew := by
  obtain ⟨w, rfl, hb⟩ := h.door
  clear h
  unfold AK.r
  by_cases h1 : c < 0
  · have hk : Hid (k.sess c = (0, zAns)) := by unfold Hid AK.sess; rw [if_pos (.inl h1)]
    go_enter Tryz.func233, Tryz.ntmps233
    go_wp2_with fail
    refine bodyPost_ret (v := .tuple #[vi 0, .agg zAns.cells]) (by simp [results, Tryz.results233, go_sem, zAns, Ans.cells]) rfl ?_
    rw [hk.out]
    exact ⟨rfl, _, .inl rfl⟩
  by_cases h2 : 3 ≤ c
  · have hk : Hid (k.sess c = (0, zAns)) := by unfold Hid AK.sess; rw [if_pos (.inr h2)]
    go_enter Tryz.func233, Tryz.ntmps233
    go_wp2_with fail
    refine bodyPost_ret (v := .tuple #[vi 0, .agg zAns.cells]) (by simp [results, Tryz.results233, go_sem, zAns, Ans.cells]) rfl ?_
    rw [hk.out]
    exact ⟨rfl, _, .inl rfl⟩
  · obtain ⟨j, rfl⟩ := Int.eq_ofNat_of_zero_le (by omega : 0 ≤ c)
    have hk : Hid (k.sess j = (k.seq j, k.ans j)) := by unfold Hid AK.sess; rw [if_neg (by omega)]; rfl
    have j3 : j < 3 := by omega
    go_enter Tryz.func233, Tryz.ntmps233
    go_wp2_with fail
    refine Ord.region1 [] [0, 1, 2, 3, 4, 5, 6, 7, 8, 9, 10, 11, 12] [13] (by kernel_rfl) (by kernel_rfl) (fun _ _ d _ _ h => by cases d <;> exact h) ?_
    simp only [Ord.pickO, Ord.nth]
    refine wpQuiet_nil ?_
    repeat (go_big_quiet_step (fail))
    refine wpQuiet_nil ?_
    go_wp2_with fail
    refine bodyPost_ret (v := .tuple #[vi (k.seq j), .agg (k.ans j).cells]) (by simp [results, Tryz.results233, go_sem, Ans.cells]) rfl ?_
    rw [hk.out]
    exact ⟨rfl, _, .inr rfl⟩
end Go.Proofs.Qxb6500990aGreat
