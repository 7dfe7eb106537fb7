/- package sync: advance -/
import Derived.Test.Qxb6500990aGreatSy18
set_option linter.unusedVariables false
set_option linter.unusedSimpArgs false
namespace Go.Tw
open Go Go.Proofs Go.Proofs.Qxb6500990aGreat
structure A3 where
  f : Nat → Int
def A3.cells (s : A3) : Array Value := #[.int .i64 (s.f 0), .int .i64 (s.f 1), .int .i64 (s.f 2)]
theorem A3.gi (s : A3) (i : Nat) (h : i < 3) : s.cells[i]? = some (.int .i64 (s.f i)) := by
  match i, h with
  | 0, _ | 1, _ | 2, _ => rfl
theorem A3.si (s : A3) (i : Nat) (h : i < 3) (v : Int) : s.cells.setIfInBounds i (.int .i64 v) = A3.cells { s with f := upd s.f i v } := by
  match i, h with
  | 0, _ | 1, _ | 2, _ => rfl
def AS.rF (A : AS) : Nat → Int
  | 0 => A.commit
  | k + 1 => if (A.lg.now.termAt (A.commit + (k + 1 : Nat))).1 = A.el.term then A.commit + (k + 1 : Nat) else A.rF k
theorem termAt_above {s : Lg} {n : Int} (h : s.last < n) : (s.termAt n).1 = 0 := by
  have : s.base ≤ s.last := by unfold Lg.last; omega
  unfold Lg.termAt Lg.at_
  rw [if_neg (by omega), if_neg (by omega), if_pos h]
  rfl
theorem AS.rF_above (A : AS) (ht : 1 ≤ A.el.term) (K : Nat) (hK : A.lg.now.last ≤ A.commit + K) : ∀ j, A.rF (K + j) = A.rF K
  | 0 => rfl
  | j + 1 => by
    show A.rF (K + j + 1) = _
    rw [AS.rF, if_neg, AS.rF_above A ht K hK j]
    rw [termAt_above (by omega)]
    omega
theorem AS.advF_rF (A : AS) (i0 : 0 ≤ A.el.id) (i1 : A.el.id < 3) : ∀ k : Nat, A.commit + k ≤ A.lg.now.last ∨ k = 0 → A.advF k = A.rF (min k (mid3 (heldF A 0) (heldF A 1) (heldF A 2) - A.commit).toNat)
  | 0, _ => by simp [AS.advF, AS.rF]
  | k + 1, h => by
    have hle : A.commit + ((k + 1 : Nat) : Int) ≤ A.lg.now.last := by rcases h with h | h; exact h; omega
    have ih := AS.advF_rF A i0 i1 k (by omega)
    have hm := mid_have A i0 i1 hle
    generalize mid3 (heldF A 0) (heldF A 1) (heldF A 2) = q at *
    have e1 : A.advF (k + 1) = if A.good (A.commit + ((k + 1 : Nat) : Int)) then A.commit + ((k + 1 : Nat) : Int) else A.advF k := rfl
    have e2 : A.rF (k + 1) = if (A.lg.now.termAt (A.commit + ((k + 1 : Nat) : Int))).1 = A.el.term then A.commit + ((k + 1 : Nat) : Int) else A.rF k := rfl
    rw [e1]
    by_cases c : A.commit + ((k + 1 : Nat) : Int) ≤ q
    · rw [show min (k + 1) (q - A.commit).toNat = k + 1 by omega, e2, ih, show min k (q - A.commit).toNat = k by omega]
      by_cases t : (A.lg.now.termAt (A.commit + ((k + 1 : Nat) : Int))).1 = A.el.term
      · rw [if_pos (show A.good _ from ⟨t, hm.2 c⟩), if_pos t]
      · rw [if_neg (fun z : A.good _ => t z.1), if_neg t]
    · rw [if_neg (fun z : A.good _ => c (hm.1 z.2)), ih, show min (k + 1) (q - A.commit).toNat = min k (q - A.commit).toNat by omega]
theorem AS.advance_rF (A : AS) (i0 : 0 ≤ A.el.id) (i1 : A.el.id < 3) (ht : 1 ≤ A.el.term) : A.advance = { A with commit := A.rF (mid3 (heldF A 0) (heldF A 1) (heldF A 2) - A.commit).toNat } := by
  unfold AS.advance
  congr 1
  rw [AS.advF_rF A i0 i1 _ (by omega)]
  generalize (mid3 (heldF A 0) (heldF A 1) (heldF A 2) - A.commit).toNat = Q
  by_cases c : Q ≤ (A.lg.now.last - A.commit).toNat
  · rw [Nat.min_eq_right c]
  · rw [Nat.min_eq_left (by omega)]
    have := AS.rF_above A ht (A.lg.now.last - A.commit).toNat (by omega) (Q - (A.lg.now.last - A.commit).toNat)
    rw [show (A.lg.now.last - A.commit).toNat + (Q - (A.lg.now.last - A.commit).toNat) = Q by omega] at this
    exact this.symm
end Go.Tw
namespace Go.Proofs.Qxb6500990aGreat
open Go Go.RowKit Go.Tw
attribute [local go_sem] World.cell?_put_same World.cell?_put_ne World.cell?_put_ne' World.frozen?_put_same World.frozen?_put_ne World.frozen?_put_ne' World.setCell_put_same World.setCell_put_ne World.setCell_put_ne' World.inB_put World.inB_alloc World.inB_drew World.inB_drewN World.inB_new World.inB_setCell World.put_drew World.put_drewN World.q_setCell_drew World.q_setCell_drewN World.q_alloc_drew World.q_alloc_drewN World.put_put_same World.put_put_2 World.size_put World.q_cell?_alloc_old World.q_frozen?_alloc_old World.cell?_alloc_new' World.frozen?_alloc_new' World.q_setCell_alloc_old World.q_setCell_alloc_new World.q_put_alloc_old World.cell?_force_same World.frozen?_force_same World.cell?_force2_fst World.cell?_force2_snd SyncR.g0 SyncR.s0 SyncR.g1 SyncR.s1 SyncR.g2 SyncR.s2 SyncR.g3 SyncR.s3 SyncR.g4 SyncR.s4 SyncR.g5 SyncR.s5 SyncR.g6 SyncR.s6 SyncR.g7 SyncR.s7 SyncR.g8 SyncR.s8 SyncR.g9 SyncR.s9 SyncR.g10 SyncR.s10 SyncR.g11 SyncR.s11 SyncR.g12 SyncR.s12 SyncR.g13 SyncR.s13 SyncR.g14 SyncR.s14 SyncR.g15 SyncR.s15 SyncR.g16 SyncR.s16 SyncR.g17 SyncR.s17 SyncR.g18 SyncR.s18 SyncR.g19 SyncR.s19 SyncR.g20 SyncR.s20 SyncR.g21 SyncR.s21 SyncR.g22 SyncR.s22 SyncR.g23 SyncR.s23 SyncR.g24 SyncR.s24 SyncR.g25 SyncR.s25 SyncR.g26 SyncR.s26 SyncR.g27 SyncR.s27 SyncR.g28 SyncR.s28 SyncR.g29 SyncR.s29 SyncR.g30 SyncR.s30 SyncR.g31 SyncR.s31 SyncR.g32 SyncR.s32 SyncR.g33 SyncR.s33 SyncR.g34 SyncR.s34 SyncR.g35 SyncR.s35 SyncR.g36 SyncR.s36 SyncR.g37 SyncR.s37 SyncR.g38 SyncR.s38 SyncR.g39 SyncR.s39 SyncR.g40 SyncR.s40 SyncR.g41 SyncR.s41 SyncR.gi_next_0 SyncR.si_next_0 SyncR.gi_mtch_0 SyncR.si_mtch_0 SyncR.gi_box_0 SyncR.si_box_0 SyncR.gi_box_1 SyncR.si_box_1 SyncR.gi_box_2 SyncR.si_box_2 SyncR.gi_box_3 SyncR.si_box_3 SyncR.gi_box_4 SyncR.si_box_4 SyncR.gi_box_5 SyncR.si_box_5 SyncR.gi_box_6 SyncR.si_box_6 SyncR.gi_box_7 SyncR.si_box_7 SyncR.gi_box_8 SyncR.si_box_8 SyncR.gi_box_9 SyncR.si_box_9
attribute [local go_sem] ba_get upd_same upd_upd A3.gi A3.si
set_option maxHeartbeats 4000000
set_option maxRecDepth 100000
section
variable {W w : World} {G : Nat → Prop} {p : SyP} {A : AS}
theorem c282 (h : RS G W p A [] w) (ok : A.Ok) (ht : 1 ≤ A.el.term) : Calls Tryz.prog 282 #[vp p.b] w fun r w' => r = .returned (.tuple #[]) ∧ RS G W p A.advance [] w' := by
  rw [AS.advance_rF A ok.el.id0 ok.el.id1 ht]
  have hE := hidIt h.he
  obtain ⟨i, hi⟩ := Int.eq_ofNat_of_zero_le ok.el.id0
  have i3 : i < 3 := by have := ok.el.id1; omega
  have i3' : (i : Int) < 3 := by omega
  have hhe : heldF A = upd A.mtch i A.lg.now.last := by unfold heldF; rw [hi]; rfl
  rw [hhe]
  have q292 := hidIt (fun w' => c292 w' (upd A.mtch i A.lg.now.last 0) (upd A.mtch i A.lg.now.last 1) (upd A.mtch i A.lg.now.last 2))
  generalize hq : mid3 (upd A.mtch i A.lg.now.last 0) (upd A.mtch i A.lg.now.last 1) (upd A.mtch i A.lg.now.last 2) = q at *
  have hq1 : q ≤ maxT := by
    rw [← hq]
    have m := ok.m1
    have l := ok.lg.last1
    have hu : ∀ j, upd A.mtch i A.lg.now.last j ≤ maxT := fun j => by unfold upd; split; exact l; exact m j
    have := hu 0
    have := hu 1
    have := hu 2
    unfold mid3; omega
  have hq0 : 0 ≤ q := by
    rw [← hq]
    have m := ok.m0
    have l := ok.lg.last0
    have hu : ∀ j, 0 ≤ upd A.mtch i A.lg.now.last j := fun j => by unfold upd; split; exact l; exact m j
    have := hu 0
    have := hu 1
    have := hu 2
    unfold mid3; omega
  unfold maxT at hq1
  have hc0 := ok.c0
  obtain ⟨G1, hl⟩ := h.lk
  have q124 := hidIt (fun w' (m : ModP (fun _ => False) w w') n => k124 (hl.frame0 m) n)
  have H := hidIt h
  obtain ⟨bx, hb⟩ := RB.hb h
  have HBb := hidIt hb
  have hc := hb.cell
  have ib := hb.inB
  unfold RSy at hc
  have hbm : p.b < w.heap.size := ib
  have nbm : p.b ≠ w.heap.size := by omega
  have Hi := hidIt hi
  clear h hb hl ok hq hhe hi
  obtain rfl | rfl | rfl : i = 0 ∨ i = 1 ∨ i = 2 := by omega
  · skip
    go_enter Tryz.func282, Tryz.ntmps282
    go_wp2_with (first
      | (go_at_call 77; refine (c77 hE.out).mono ?_; rintro _ w0 ⟨rfl, e⟩; obtain rfl := e.symm; rw [Hi.out])
      | (go_at_call 78; refine (c78 hE.out).mono ?_; rintro _ w0 ⟨rfl, e⟩; obtain rfl := e.symm)
      | (go_at_call 292; refine ((show ∀ w', Calls Tryz.prog 292 #[.agg #[vi A.lg.now.last, vi (A.mtch 1), vi (A.mtch 2)]] w' (fun r w'' => ∃ lo hi, r = .returned (.agg #[vi lo, vi q, vi hi]) ∧ ModP (fun _ => False) w' w'') from q292.out) _).mono ?_; rintro _ w1 ⟨lo, hi', rfl, m1⟩; have ha := m1.at (b := w.heap.size) World.At_alloc_new (fun f => f); have M1 := hidIt (((ModP.refl (fun _ => False) w).alloc _).trans m1); clear m1; obtain ⟨y, rfl, iy⟩ := ha.door; clear ha; have M2 := hidIt (M1.out.unput (.inr (Nat.le_refl _))); clear M1 q292 hc ib))
    have M3 : Hid (ModP (fun _ => False) w (y.put w.heap.size #[vi lo, vi q, vi hi'] 60)) := M2.out.put (.inr (Nat.le_refl _)) _ _
    clear M2
    go_loopw [6] (fun v u => ∃ j : Int, v = vi j ∧ j ≤ q ∧ 0 ≤ j ∧ Hid (A.rF (q - A.commit).toNat = A.rF (j - A.commit).toNat) ∧ Hid (ModP (fun _ => False) w u)) (fun v _ => (intOf v - A.commit).toNat)
    case atStart => exact ⟨q, rfl, Int.le_refl _, hq0, rfl, M3⟩
    case round =>
      clear M3
      obtain ⟨j, rfl, jq, j0, H1, H2⟩ := hrel
      have hcu := (H2.out.at HBb.out (fun f => f)).cell
      have ibu := (H2.out.at HBb.out (fun f => f)).inB
      unfold RSy at hcu
      have R2 := hidIt (RB.fr H.out H2.out)
      by_cases cj : A.commit < j
      · have q1 := hidIt (q124.out _ H2.out j)
        have e1 : Hid (A.rF (j - A.commit).toNat = if (A.lg.now.termAt j).1 = A.el.term then j else A.rF (j - 1 - A.commit).toNat) := by
          unfold Hid
          rw [show (j - A.commit).toNat = (j - 1 - A.commit).toNat + 1 by omega, AS.rF, show A.commit + (((j - 1 - A.commit).toNat + 1 : Nat) : Int) = j by omega]
        generalize A.lg.now.termAt j = tt at *
        obtain ⟨t1, t2⟩ := tt
        simp only [] at e1
        by_cases ct : t1 = A.el.term
        · rw [if_pos ct] at e1
          have d1 : (t1 == A.el.term) = true := by simpa using ct
          clear ct
          go_wp2_with (first
            | (go_at_call 124; refine q1.out.mono ?_; rintro _ w3 ⟨rfl, m3⟩; have R3 := RB.fr R2.out m3; clear m3 hcu ibu; obtain ⟨y3, bx3, rfl, iy3, hset⟩ := R3.open; have HS := hidIt hset; clear hset R3))
          refine bodyPost_ret (results_none rfl _ _ _) rfl ?_
          rw [H1.out, e1.out]
          exact ⟨rfl, HS.out j A.next A.mtch _ _⟩
        · rw [if_neg ct] at e1
          have d1 : (t1 == A.el.term) = false := by simpa using ct
          clear ct
          go_wp2_with (first
            | (go_at_call 124; refine q1.out.mono ?_; rintro _ w3 ⟨rfl, m3⟩; have M4 := hidIt (H2.out.trans m3); clear m3 hcu ibu))
          go_roundw
          case rel => exact ⟨j - 1, by go_num, by omega, by omega, by unfold Hid; rw [H1.out, e1.out], M4⟩
          case measure => simp only [intOf]; omega
      · have d1 : j ≤ A.commit := by omega
        have e1 : Hid (A.rF (j - A.commit).toNat = A.commit) := by unfold Hid; rw [show (j - A.commit).toNat = 0 by omega]; rfl
        go_wp2_with fail
        go_end0
        rw [H1.out, e1.out]
        exact ⟨rfl, R2.out⟩
  · skip
    go_enter Tryz.func282, Tryz.ntmps282
    go_wp2_with (first
      | (go_at_call 77; refine (c77 hE.out).mono ?_; rintro _ w0 ⟨rfl, e⟩; obtain rfl := e.symm; rw [Hi.out])
      | (go_at_call 78; refine (c78 hE.out).mono ?_; rintro _ w0 ⟨rfl, e⟩; obtain rfl := e.symm)
      | (go_at_call 292; refine ((show ∀ w', Calls Tryz.prog 292 #[.agg #[vi (A.mtch 0), vi A.lg.now.last, vi (A.mtch 2)]] w' (fun r w'' => ∃ lo hi, r = .returned (.agg #[vi lo, vi q, vi hi]) ∧ ModP (fun _ => False) w' w'') from q292.out) _).mono ?_; rintro _ w1 ⟨lo, hi', rfl, m1⟩; have ha := m1.at (b := w.heap.size) World.At_alloc_new (fun f => f); have M1 := hidIt (((ModP.refl (fun _ => False) w).alloc _).trans m1); clear m1; obtain ⟨y, rfl, iy⟩ := ha.door; clear ha; have M2 := hidIt (M1.out.unput (.inr (Nat.le_refl _))); clear M1 q292 hc ib))
    have M3 : Hid (ModP (fun _ => False) w (y.put w.heap.size #[vi lo, vi q, vi hi'] 60)) := M2.out.put (.inr (Nat.le_refl _)) _ _
    clear M2
    go_loopw [6] (fun v u => ∃ j : Int, v = vi j ∧ j ≤ q ∧ 0 ≤ j ∧ Hid (A.rF (q - A.commit).toNat = A.rF (j - A.commit).toNat) ∧ Hid (ModP (fun _ => False) w u)) (fun v _ => (intOf v - A.commit).toNat)
    case atStart => exact ⟨q, rfl, Int.le_refl _, hq0, rfl, M3⟩
    case round =>
      clear M3
      obtain ⟨j, rfl, jq, j0, H1, H2⟩ := hrel
      have hcu := (H2.out.at HBb.out (fun f => f)).cell
      have ibu := (H2.out.at HBb.out (fun f => f)).inB
      unfold RSy at hcu
      have R2 := hidIt (RB.fr H.out H2.out)
      by_cases cj : A.commit < j
      · have q1 := hidIt (q124.out _ H2.out j)
        have e1 : Hid (A.rF (j - A.commit).toNat = if (A.lg.now.termAt j).1 = A.el.term then j else A.rF (j - 1 - A.commit).toNat) := by
          unfold Hid
          rw [show (j - A.commit).toNat = (j - 1 - A.commit).toNat + 1 by omega, AS.rF, show A.commit + (((j - 1 - A.commit).toNat + 1 : Nat) : Int) = j by omega]
        generalize A.lg.now.termAt j = tt at *
        obtain ⟨t1, t2⟩ := tt
        simp only [] at e1
        by_cases ct : t1 = A.el.term
        · rw [if_pos ct] at e1
          have d1 : (t1 == A.el.term) = true := by simpa using ct
          clear ct
          go_wp2_with (first
            | (go_at_call 124; refine q1.out.mono ?_; rintro _ w3 ⟨rfl, m3⟩; have R3 := RB.fr R2.out m3; clear m3 hcu ibu; obtain ⟨y3, bx3, rfl, iy3, hset⟩ := R3.open; have HS := hidIt hset; clear hset R3))
          refine bodyPost_ret (results_none rfl _ _ _) rfl ?_
          rw [H1.out, e1.out]
          exact ⟨rfl, HS.out j A.next A.mtch _ _⟩
        · rw [if_neg ct] at e1
          have d1 : (t1 == A.el.term) = false := by simpa using ct
          clear ct
          go_wp2_with (first
            | (go_at_call 124; refine q1.out.mono ?_; rintro _ w3 ⟨rfl, m3⟩; have M4 := hidIt (H2.out.trans m3); clear m3 hcu ibu))
          go_roundw
          case rel => exact ⟨j - 1, by go_num, by omega, by omega, by unfold Hid; rw [H1.out, e1.out], M4⟩
          case measure => simp only [intOf]; omega
      · have d1 : j ≤ A.commit := by omega
        have e1 : Hid (A.rF (j - A.commit).toNat = A.commit) := by unfold Hid; rw [show (j - A.commit).toNat = 0 by omega]; rfl
        go_wp2_with fail
        go_end0
        rw [H1.out, e1.out]
        exact ⟨rfl, R2.out⟩
  · skip
    go_enter Tryz.func282, Tryz.ntmps282
    go_wp2_with (first
      | (go_at_call 77; refine (c77 hE.out).mono ?_; rintro _ w0 ⟨rfl, e⟩; obtain rfl := e.symm; rw [Hi.out])
      | (go_at_call 78; refine (c78 hE.out).mono ?_; rintro _ w0 ⟨rfl, e⟩; obtain rfl := e.symm)
      | (go_at_call 292; refine ((show ∀ w', Calls Tryz.prog 292 #[.agg #[vi (A.mtch 0), vi (A.mtch 1), vi A.lg.now.last]] w' (fun r w'' => ∃ lo hi, r = .returned (.agg #[vi lo, vi q, vi hi]) ∧ ModP (fun _ => False) w' w'') from q292.out) _).mono ?_; rintro _ w1 ⟨lo, hi', rfl, m1⟩; have ha := m1.at (b := w.heap.size) World.At_alloc_new (fun f => f); have M1 := hidIt (((ModP.refl (fun _ => False) w).alloc _).trans m1); clear m1; obtain ⟨y, rfl, iy⟩ := ha.door; clear ha; have M2 := hidIt (M1.out.unput (.inr (Nat.le_refl _))); clear M1 q292 hc ib))
    have M3 : Hid (ModP (fun _ => False) w (y.put w.heap.size #[vi lo, vi q, vi hi'] 60)) := M2.out.put (.inr (Nat.le_refl _)) _ _
    clear M2
    go_loopw [6] (fun v u => ∃ j : Int, v = vi j ∧ j ≤ q ∧ 0 ≤ j ∧ Hid (A.rF (q - A.commit).toNat = A.rF (j - A.commit).toNat) ∧ Hid (ModP (fun _ => False) w u)) (fun v _ => (intOf v - A.commit).toNat)
    case atStart => exact ⟨q, rfl, Int.le_refl _, hq0, rfl, M3⟩
    case round =>
      clear M3
      obtain ⟨j, rfl, jq, j0, H1, H2⟩ := hrel
      have hcu := (H2.out.at HBb.out (fun f => f)).cell
      have ibu := (H2.out.at HBb.out (fun f => f)).inB
      unfold RSy at hcu
      have R2 := hidIt (RB.fr H.out H2.out)
      by_cases cj : A.commit < j
      · have q1 := hidIt (q124.out _ H2.out j)
        have e1 : Hid (A.rF (j - A.commit).toNat = if (A.lg.now.termAt j).1 = A.el.term then j else A.rF (j - 1 - A.commit).toNat) := by
          unfold Hid
          rw [show (j - A.commit).toNat = (j - 1 - A.commit).toNat + 1 by omega, AS.rF, show A.commit + (((j - 1 - A.commit).toNat + 1 : Nat) : Int) = j by omega]
        generalize A.lg.now.termAt j = tt at *
        obtain ⟨t1, t2⟩ := tt
        simp only [] at e1
        by_cases ct : t1 = A.el.term
        · rw [if_pos ct] at e1
          have d1 : (t1 == A.el.term) = true := by simpa using ct
          clear ct
          go_wp2_with (first
            | (go_at_call 124; refine q1.out.mono ?_; rintro _ w3 ⟨rfl, m3⟩; have R3 := RB.fr R2.out m3; clear m3 hcu ibu; obtain ⟨y3, bx3, rfl, iy3, hset⟩ := R3.open; have HS := hidIt hset; clear hset R3))
          refine bodyPost_ret (results_none rfl _ _ _) rfl ?_
          rw [H1.out, e1.out]
          exact ⟨rfl, HS.out j A.next A.mtch _ _⟩
        · rw [if_neg ct] at e1
          have d1 : (t1 == A.el.term) = false := by simpa using ct
          clear ct
          go_wp2_with (first
            | (go_at_call 124; refine q1.out.mono ?_; rintro _ w3 ⟨rfl, m3⟩; have M4 := hidIt (H2.out.trans m3); clear m3 hcu ibu))
          go_roundw
          case rel => exact ⟨j - 1, by go_num, by omega, by omega, by unfold Hid; rw [H1.out, e1.out], M4⟩
          case measure => simp only [intOf]; omega
      · have d1 : j ≤ A.commit := by omega
        have e1 : Hid (A.rF (j - A.commit).toNat = A.commit) := by unfold Hid; rw [show (j - A.commit).toNat = 0 by omega]; rfl
        go_wp2_with fail
        go_end0
        rw [H1.out, e1.out]
        exact ⟨rfl, R2.out⟩
end
end Go.Proofs.Qxb6500990aGreat
