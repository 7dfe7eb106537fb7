/- package kvm: Snapshot -/
import Derived.Test.Qxb6500990aGreatKvm5
set_option linter.unusedVariables false
set_option linter.unusedSimpArgs false
namespace Go.Tw
open Go Go.Proofs Go.Proofs.Qxb6500990aGreat
theorem AK.pair_get (k : AK) {i : Nat} (h : i < k.ps.length) : k.ps[i]? = some (k.key i, k.val i) := by
  simp [AK.key, AK.val, h]
theorem AK.pairs_succ (k : AK) {i : Nat} (h : i < k.ps.length) : (k.ps.take (i + 1)).flatMap pairB = (k.ps.take i).flatMap pairB ++ (strB (k.key i) ++ strB (k.val i)) := by
  rw [List.take_add_one, AK.pair_get k h]; simp [pairB]
theorem AK.Ok.key_len {k : AK} (ok : k.Ok) {i : Nat} (h : i < k.ps.length) : 1 ≤ (k.key i).length ∧ (k.key i).length ≤ 2 ∧ (k.val i).length ≤ 3 := by
  have := ok.ps _ (List.mem_of_getElem? (AK.pair_get k h))
  exact this
theorem AK.pairs_len (k : AK) (ok : k.Ok) : ∀ i, i ≤ k.ps.length → ((k.ps.take i).flatMap pairB).length ≤ 7 * i
  | 0, _ => by simp
  | i + 1, h => by
    have := AK.pairs_len k ok i (by omega)
    have := ok.key_len (show i < k.ps.length by omega)
    rw [AK.pairs_succ k (by omega)]
    simp only [strB, List.length_append, List.length_cons, bi_length]; omega
theorem AK.sess_len (k : AK) (ok : k.Ok) : ∀ i, (k.sessN i).length ≤ 13 * i
  | 0 => by simp [AK.sessN]
  | i + 1 => by
    have := AK.sess_len k ok i
    have := ok.a3 i
    simp [AK.sessN, AK.sessB, strB, bi_length, be8_len]; omega
end Go.Tw
namespace Go.Proofs.Qxb6500990aGreat
open Go Go.RowKit Go.Tw
attribute [local go_sem] World.cell?_put_same World.cell?_put_ne World.cell?_put_ne' World.frozen?_put_same World.frozen?_put_ne World.frozen?_put_ne' World.setCell_put_same World.setCell_put_ne World.setCell_put_ne' World.inB_put World.inB_alloc World.inB_drew World.inB_drewN World.inB_new World.inB_setCell World.put_drew World.put_drewN World.q_setCell_drew World.q_setCell_drewN World.q_alloc_drew World.q_alloc_drewN World.put_put_same World.put_put_2 World.size_put World.q_cell?_alloc_old World.q_frozen?_alloc_old World.cell?_alloc_new' World.frozen?_alloc_new' World.q_setCell_alloc_old World.q_setCell_alloc_new World.q_put_alloc_old KvM.g0 KvM.s0 KvM.g1 KvM.s1 KvM.g2 KvM.s2 KvM.g3 KvM.s3 KvM.g4 KvM.s4 KvM.g5 KvM.s5 KvM.g6 KvM.s6 KvM.g7 KvM.s7 KvM.g8 KvM.s8 KvM.g9 KvM.s9 KvM.g10 KvM.s10 KvM.g11 KvM.s11 KvM.g12 KvM.s12 KvM.g13 KvM.s13 KvM.g14 KvM.s14 KvM.g15 KvM.s15 KvM.g16 KvM.s16 KvM.g17 KvM.s17 KvM.gi_keys_0 KvM.si_keys_0 KvM.gi_vals_0 KvM.si_vals_0 KvM.gi_seq_0 KvM.si_seq_0 KvM.gi_ans_0 KvM.si_ans_0 KvM.gi_ans_1 KvM.si_ans_1 Ans.g0 Ans.s0 Ans.g1 Ans.s1
attribute [local go_sem] KvM.gia_ans_1_ KvM.sia_ans_1
attribute [local go_sem] ba_get mk127
set_option maxHeartbeats 2000000
set_option maxRecDepth 100000
theorem c157 {W : World} {b : Nat} {k : AK} (h : W.At b k.r.cells 186) (ok : k.Ok) : Calls Tryz.prog 157 #[vp b] W fun r w' => r = .returned (vs k.snap) ∧ Mod [] W w' := by
  have hlt : b < W.heap.size := h.inB
  have Hh := hidIt h
  have hc := h.cell
  have ib := h.inB
  unfold AK.r at hc
  clear h
  have n4 : k.ps.length ≤ 4 := ok.n4
  have n4' : (k.ps.length : Int) ≤ 4 := by omega
  have Ok := hidIt ok
  clear ok
  go_enter Tryz.func157, Tryz.ntmps157
  iterate 43 go_step
  at_builtin
  refine wp_appB (B := W.heap.size) rfl _ _ rfl [(k.ps.length : Int)] rfl rfl (at_new (by simp)) rfl ((BytesB.made (c := zb 128) (at_new (by simp)) (Nat.le_refl _) (zb_size _) (by unfold maxLen; omega)).alloc _) (by first | omega | (simp; done) | (simp; omega)) (Nat.zero_lt_succ _) (by simp) ?_
  intro v1 w1 g1 g2 g3
  have hm : Below W.heap.size W w1 := ((((Below.refl _ _).alloc (Nat.le_refl _) _).alloc (by first | omega | (simp; done) | (simp; omega)) _)).trans g2
  have hz : W.heap.size ≤ w1.heap.size := by simp at g3; omega
  clear g2 g3
  go_wp2_with fail
  go_loopw [3, 4] (fun v i u => ∃ j : Nat, j ≤ k.ps.length ∧ i = vi j ∧ Hid (BytesB W.heap.size u v ((k.ps.length : Int) :: (k.ps.take j).flatMap pairB)) ∧ Hid (Below W.heap.size W u) ∧ Hid (W.heap.size ≤ u.heap.size)) (fun _ i _ => k.ps.length - (intOf i).toNat)
  case atStart => exact ⟨0, Nat.zero_le _, rfl, g1, hm, hz⟩
  case round =>
    clear g1 hm hz hc
    obtain ⟨j, hj, rfl, H1, H2, H3⟩ := hrel
    have hcu := (below_at H2.out Hh.out hlt).cell
    unfold AK.r at hcu
    by_cases hjn : j < k.ps.length
    · have j4 : j < 4 := by omega
      obtain ⟨q1, q2, q3⟩ := Ok.out.key_len hjn
      have hl := AK.pairs_len k Ok.out j hj
      have hstep := hidIt (AK.pairs_succ k hjn)
      have hc1 := fun a => hidIt (c222 H1.out H3.out (by simp only [List.length_cons]; omega) (k.key j) a)
      have Hc1 := hc1 (by omega)
      have Hl := hidIt hl
      have Hjn := hidIt hjn
      have Q := hidIt (And.intro q2 q3)
      clear hc1 hl q1 q2 q3
      go_wp2_with (first
        | (go_at_call 222; refine Hc1.out.mono ?_; rintro _ u2 ⟨v2, rfl, b2, l2, z2⟩; have hc2 := c222 b2 (by have := H3.out; omega) (by have := Hl.out; have := Q.out; simp only [List.length_append, List.length_cons, bi_length]; omega) (k.val j) (by have := Q.out; omega); have M2 := H2.out.trans l2; have hcu2 := (below_at M2 Hh.out hlt).cell; unfold AK.r at hcu2; have Hc2 := hidIt hc2; have HM2 := hidIt M2; have Z2 := hidIt z2; clear hc2 M2 b2 l2 z2 hcu Hc1)
        | (go_at_call 222; refine Hc2.out.mono ?_; rintro _ u3 ⟨v3, rfl, b3, l3, z3⟩; have M3 := HM2.out.trans l3; have B3 := hidIt b3; have HM3 := hidIt M3; have Z3 := hidIt z3; clear b3 l3 z3 M3 hcu2 Hc2))
      go_roundw
      case rel => exact ⟨j + 1, by omega, by go_num, by have := B3.out; unfold Hid; rw [hstep.out]; simpa [strB, List.append_assoc] using this, HM3.out, by have := H3.out; have := Z2.out; have := Z3.out; unfold Hid; omega⟩
      case measure => simp [intOf]; omega
    · obtain rfl : j = k.ps.length := by omega
      clear hjn hj
      go_wp2_with fail
      rw [List.take_length] at H1
      have hP := hidIt (by have := AK.pairs_len k Ok.out k.ps.length (Nat.le_refl _); rwa [List.take_length] at this : (k.ps.flatMap pairB).length ≤ 7 * k.ps.length)
      have hsn := hidIt (show k.snap = Tw.ib ((k.ps.length : Int) :: k.ps.flatMap pairB ++ k.sessN 3) from rfl)
      generalize k.ps.flatMap pairB = P at *
      go_loopw [3, 5] (fun v i u => ∃ j : Nat, j ≤ 3 ∧ i = vi j ∧ Hid (BytesB W.heap.size u v (((k.ps.length : Int) :: P) ++ k.sessN j)) ∧ Hid (Below W.heap.size W u) ∧ Hid (W.heap.size ≤ u.heap.size)) (fun _ i _ => 3 - (intOf i).toNat)
      case atStart => exact ⟨0, by omega, rfl, by simpa [AK.sessN] using H1, H2, H3⟩
      case round =>
        clear H1 H2 H3 hcu
        obtain ⟨j, hj, rfl, H1, H2, H3⟩ := hrel
        have hcu := (below_at H2.out Hh.out hlt).cell
        unfold AK.r at hcu
        by_cases hjn : j < 3
        · have hl := AK.sess_len k Ok.out j
          have hl0 : (((k.ps.length : Int) :: P) ++ k.sessN j).length ≤ 100 := by have := hP.out; simp only [List.length_append, List.length_cons]; omega
          have q0 := Ok.out.s0 j
          have q1 := Ok.out.s1 j
          have q2 := Ok.out.e0 j
          have q3 := Ok.out.e1 j
          have q4 := Ok.out.a3 j
          have Hc1 := hidIt (c140 H1.out H3.out (by omega) q0 q1)
          have Hl := hidIt hl0
          have Q := hidIt q4
          have hb : b < W.heap.size := hlt
          unfold maxT at q1
          clear hl hl0 q4
          go_wp2_with (first
            | (go_at_call 140; refine Hc1.out.mono ?_; rintro _ u2 ⟨v2, rfl, b2, l2, z2⟩; have M2 := H2.out.trans l2; have hcu2 := (below_at M2 Hh.out hlt).cell; unfold AK.r at hcu2; have B2 := hidIt b2; have HM2 := hidIt M2; have Z2 := hidIt (show W.heap.size ≤ u2.heap.size by have := H3.out; omega); have ib2 : u2.inB b := Nat.lt_of_lt_of_le hb Z2.out; clear M2 b2 l2 z2 hcu Hc1)
            | (at_builtin
               go_loud (
                 refine wp_appB (B := W.heap.size) (l := (((k.ps.length : Int) :: P) ++ k.sessN j) ++ be8 (k.seq j)) rfl _ _ rfl [((AK.ans k j).err : Int)] rfl rfl (at_new rfl) rfl (B2.out.alloc _) (by have := Z2.out; simp; omega) (Nat.zero_lt_succ _) (by have := Hl.out; simp only [List.length_append, List.length_cons, List.length_nil, be8_len] at this ⊢; omega) ?_
                 intro v3 u3 b3 l3 z3
                 have M3 : Below W.heap.size W u3 := (HM2.out.alloc Z2.out _).trans l3
                 have hcu3 := (below_at M3 Hh.out hlt).cell
                 unfold AK.r at hcu3
                 have Z3 := hidIt (show W.heap.size ≤ u3.heap.size by have := Z2.out; simp at z3; omega)
                 have ib3 : u3.inB b := Nat.lt_of_lt_of_le hb Z3.out
                 have Hc3 := hidIt (c222 b3 Z3.out (by have := Hl.out; simp only [List.length_append, List.length_cons, List.length_nil, be8_len] at this ⊢; omega) (k.ans j).val (by have := Q.out; omega))
                 have HM3 := hidIt M3
                 clear M3 l3 z3 hcu2 B2))
            | (go_at_call 222; refine Hc3.out.mono ?_; rintro _ u4 ⟨v4, rfl, b4, l4, z4⟩; have B4 := hidIt b4; have HM4 := hidIt (HM3.out.trans l4); have Z4 := hidIt (show W.heap.size ≤ u4.heap.size by have := Z3.out; omega); clear b4 l4 z4 hcu3 Hc3))
          go_roundw
          case rel => exact ⟨j + 1, by omega, by go_num, by have := B4.out; unfold Hid; simpa [AK.sessN, AK.sessB, strB, List.append_assoc] using this, HM4, Z4⟩
          case measure => simp [intOf]; omega
        · obtain rfl : j = 3 := by omega
          go_wp2_with (refine wp_strB rfl _ rfl rfl H1.out ?_)
          go_ret
          refine ⟨by rw [hsn.out]; simp, ?_⟩
          have hm5 := H2.out
          exact ⟨hm5.os, hm5.tape, hm5.output, hm5.size, fun k hk _ => hm5.block k hk⟩
end Go.Proofs.Qxb6500990aGreat
