/- package sync: send of entries -/
import Derived.Test.Qxb6500990aGreatSy7
set_option linter.unusedVariables false
set_option linter.unusedSimpArgs false
namespace Go.Proofs.Qxb6500990aGreat
open Go Go.RowKit Go.Tw
attribute [local go_sem] World.cell?_put_same World.cell?_put_ne World.cell?_put_ne' World.frozen?_put_same World.frozen?_put_ne World.frozen?_put_ne' World.setCell_put_same World.setCell_put_ne World.setCell_put_ne' World.inB_put World.inB_alloc World.inB_drew World.inB_drewN World.inB_new World.inB_setCell World.put_drew World.put_drewN World.q_setCell_drew World.q_setCell_drewN World.q_alloc_drew World.q_alloc_drewN World.put_put_same World.put_put_2 World.size_put World.q_cell?_alloc_old World.q_frozen?_alloc_old World.cell?_alloc_new' World.frozen?_alloc_new' World.q_setCell_alloc_old World.q_setCell_alloc_new World.q_put_alloc_old World.cell?_force_same World.frozen?_force_same World.cell?_force2_fst World.cell?_force2_snd SyncR.g0 SyncR.s0 SyncR.g1 SyncR.s1 SyncR.g2 SyncR.s2 SyncR.g3 SyncR.s3 SyncR.g4 SyncR.s4 SyncR.g5 SyncR.s5 SyncR.g6 SyncR.s6 SyncR.g7 SyncR.s7 SyncR.g8 SyncR.s8 SyncR.g9 SyncR.s9 SyncR.g10 SyncR.s10 SyncR.g11 SyncR.s11 SyncR.g12 SyncR.s12 SyncR.g13 SyncR.s13 SyncR.g14 SyncR.s14 SyncR.g15 SyncR.s15 SyncR.g16 SyncR.s16 SyncR.g17 SyncR.s17 SyncR.g18 SyncR.s18 SyncR.g19 SyncR.s19 SyncR.g20 SyncR.s20 SyncR.g21 SyncR.s21 SyncR.g22 SyncR.s22 SyncR.g23 SyncR.s23 SyncR.g24 SyncR.s24 SyncR.g25 SyncR.s25 SyncR.g26 SyncR.s26 SyncR.g27 SyncR.s27 SyncR.g28 SyncR.s28 SyncR.g29 SyncR.s29 SyncR.g30 SyncR.s30 SyncR.g31 SyncR.s31 SyncR.g32 SyncR.s32 SyncR.g33 SyncR.s33 SyncR.g34 SyncR.s34 SyncR.g35 SyncR.s35 SyncR.g36 SyncR.s36 SyncR.g37 SyncR.s37 SyncR.g38 SyncR.s38 SyncR.g39 SyncR.s39 SyncR.g40 SyncR.s40 SyncR.g41 SyncR.s41 SyncR.gi_next_0 SyncR.si_next_0 SyncR.gi_mtch_0 SyncR.si_mtch_0 SyncR.gi_box_0 SyncR.si_box_0 SyncR.gi_box_1 SyncR.si_box_1 SyncR.gi_box_2 SyncR.si_box_2 SyncR.gi_box_3 SyncR.si_box_3 SyncR.gi_box_4 SyncR.si_box_4 SyncR.gi_box_5 SyncR.si_box_5 SyncR.gi_box_6 SyncR.si_box_6 SyncR.gi_box_7 SyncR.si_box_7 SyncR.gi_box_8 SyncR.si_box_8 SyncR.gi_box_9 SyncR.si_box_9 MsgR.g0 MsgR.s0 MsgR.g1 MsgR.s1 MsgR.g2 MsgR.s2 MsgR.g3 MsgR.s3 MsgR.g4 MsgR.s4 MsgR.g5 MsgR.s5 MsgR.g6 MsgR.s6 MsgR.g7 MsgR.s7 MsgR.g8 MsgR.s8 MsgR.g9 MsgR.s9 Entry.g0 Entry.s0 Entry.g1 Entry.s1
attribute [local go_sem] ba_get upd_same upd_upd mk157_1 mk157_2 Ent1.ga0 Ent1.sa0 Ent1.ga1 Ent1.sa1 Ent2.ga0 Ent2.sa0 Ent2.ga1 Ent2.sa1
set_option maxHeartbeats 4000000
set_option maxRecDepth 100000
theorem ents1 {w : World} {B o : Nat} (s : Lg) (i : Int) (hB : B ≤ o) (h : w.At o (Ent1.cells ⟨eB s i 1⟩) 232) : EntsAt B w (.slice (some ⟨o, 0, none⟩) 1 1) (s.batchN i 1) :=
  ⟨rfl, .inr ⟨o, 1, _, rfl, hB, h, Nat.le_refl _, by unfold maxLen; omega, rfl, rfl⟩⟩
theorem ents2 {w : World} {B o : Nat} (s : Lg) (i : Int) (hB : B ≤ o) (h : w.At o (Ent2.cells ⟨eB s i 2⟩) 232) : EntsAt B w (.slice (some ⟨o, 0, none⟩) 2 2) (s.batchN i 2) :=
  ⟨rfl, .inr ⟨o, 2, _, rfl, hB, h, Nat.le_refl _, by unfold maxLen; omega, rfl, rfl⟩⟩
section
variable {W w : World} {G : Nat → Prop} {p : SyP} {A : AS} {la lt : Int} {ms : List Msg}
theorem c241_app (h : RS G W p A ms w) (q : Nat) (q3 : q < 3) (h3 : ms.length < 3) (hsn : A.lg.now.base < A.next q) (hn0 : A.next q ≤ maxT + 1) :
    Calls Tryz.prog 241 #[vp p.b, vi q] w fun r w' => r = .returned (.tuple #[]) ∧ RS G W p A (ms ++ [A.send q]) w' := by
  have hk : A.send q = ⟨3, A.el.id, q, A.el.term, A.next q - 1, (A.lg.now.termAt (A.next q - 1)).1, A.commit, false, A.lg.now.batch (A.next q), []⟩ := by unfold AS.send; rw [if_neg (by omega)]
  rw [hk]
  have hok := RB.ok h
  have b0 := hok.b0
  have lm := hok.last1
  have hE := hidIt h.he
  obtain ⟨G1, h1⟩ := h.lk
  have hL := hidIt (fun w' (m : ModP (fun _ => False) w w') => h1.frame0 m)
  have q124 := hidIt (fun w' (m : ModP (fun _ => False) w w') => k124 (h1.frame0 m) (A.next q - 1))
  have HC := hidIt (fun w' (v : Value) (m : ModP (fun _ => False) w w') (hv : EntsAt w.heap.size w' v (A.lg.now.batch (A.next q))) => c188 h m (x := ⟨3, A.el.id, q, A.el.term, A.next q - 1, (A.lg.now.termAt (A.next q - 1)).1, A.commit, false, A.lg.now.batch (A.next q), []⟩) (v := v) hv h3)
  obtain ⟨bx, hb⟩ := RB.hb h
  have HBb := hidIt hb
  have hc := hb.cell
  have ib := hb.inB
  unfold RSy at hc
  have q3' : (q : Int) < 3 := by omega
  unfold RS
  unfold maxT at hn0 lm
  have hbt : Hid (A.lg.now.batch (A.next q) = A.lg.now.batchN (A.next q) (A.lg.now.cnt (A.next q))) := rfl
  have hct : Hid (A.lg.now.cnt (A.next q) = (min 2 (A.lg.now.last - A.next q + 1)).toNat) := rfl
  rw [hbt.out, hct.out] at HC ⊢
  have hbm : p.b < w.heap.size := ib
  have nbm : p.b ≠ w.heap.size := by omega
  clear h hb h1 hk hbt hct hok
  generalize A.lg.now.termAt (A.next q - 1) = tt at *
  obtain ⟨t1, t2⟩ := tt
  simp only [] at HC ⊢
  have hla0 : 0 ≤ A.lg.now.last := by unfold Lg.last; omega
  by_cases c0 : A.lg.now.last - A.next q + 1 ≤ 0
  · have hm2 : (min 2 (A.lg.now.last - A.next q + 1)).toNat = 0 := by omega
    rw [hm2] at HC ⊢
    have d1 : decide (2 < A.lg.now.last - A.next q + 1) = false := by simp; omega
    have d2 : decide (0 < A.lg.now.last - A.next q + 1) = false := by simp; omega
    have d3 : decide (A.next q ≤ A.lg.now.base) = false := by simp; omega
    generalize hla : A.lg.now.last = la at *
    clear hla hm2 c0
    go_enter Tryz.func241, Tryz.ntmps241
    go_wp2_with (first
      | (go_at_call 77; refine (c77 hE.out).mono ?_; rintro _ w0 ⟨rfl, e⟩; obtain rfl := e.symm)
      | (go_at_call 78; refine (c78 hE.out).mono ?_; rintro _ w0 ⟨rfl, e⟩; obtain rfl := e.symm)
      | (go_at_call 69; refine (k69 (hL.out _ (ModP.refl _ _))).mono ?_; rintro _ w0 ⟨rfl, e⟩; obtain rfl := e.symm)
      | (go_at_call 124; refine (q124.out _ (by repeat (first | assumption | exact ModP.refl _ _ | refine ModP.fromPut ?_ (by assumption) | apply ModP.alloc | apply ModP.drew | apply ModP.drewN | refine ModP.put ?_ (by first | (left; assumption) | (left; rfl) | (right; simp only [World.inB, World.size_put] at *; omega)) _ _))).mono ?_; rintro _ w1 ⟨rfl, m1⟩; have ha := m1.at (b := w.heap.size) (c := MsgR.cells ⟨3, A.el.id, q, A.el.term, A.next q - 1, 0, A.commit, false, .slice none 0 0, []⟩) (T := 159) World.At_alloc_new (fun f => f); have M1 := hidIt (((ModP.refl (fun _ => False) w).alloc _).trans m1); clear m1; obtain ⟨y, rfl, iy⟩ := ha.door; clear ha; have M2 := hidIt (M1.out.unput (.inr (Nat.le_refl _))); clear M1; have hcy := (M2.out.at HBb.out (fun f => f)).cell; have iby := (M2.out.at HBb.out (fun f => f)).inB; unfold RSy at hcy; clear q124)
      | (go_at_call 188; refine (HC.out _ (.slice none 0 0) (M2.out.put (.inr (Nat.le_refl _)) _ _) (ownsRow_nil _ _ _ _)).mono ?_; rintro _ w4 ⟨rfl, m4⟩; have R4 := hidIt m4; clear m4))
    go_end0
    exact ⟨rfl, R4.out⟩
  by_cases c1 : A.lg.now.last - A.next q + 1 = 1
  · have hm2 : (min 2 (A.lg.now.last - A.next q + 1)).toNat = 1 := by omega
    rw [hm2] at HC ⊢
    have d3 : decide (A.next q ≤ A.lg.now.base) = false := by simp; omega
    generalize hla : A.lg.now.last = la at *
    clear hla hm2 c0
    go_enter Tryz.func241, Tryz.ntmps241
    go_wp2_with (first
      | (go_at_call 77; refine (c77 hE.out).mono ?_; rintro _ w0 ⟨rfl, e⟩; obtain rfl := e.symm)
      | (go_at_call 78; refine (c78 hE.out).mono ?_; rintro _ w0 ⟨rfl, e⟩; obtain rfl := e.symm)
      | (go_at_call 69; refine (k69 (hL.out _ (ModP.refl _ _))).mono ?_; rintro _ w0 ⟨rfl, e⟩; obtain rfl := e.symm)
      | (go_at_call 124; refine (q124.out _ (by repeat (first | assumption | exact ModP.refl _ _ | refine ModP.fromPut ?_ (by assumption) | apply ModP.alloc | apply ModP.drew | apply ModP.drewN | refine ModP.put ?_ (by first | (left; assumption) | (left; rfl) | (right; simp only [World.inB, World.size_put] at *; omega)) _ _))).mono ?_; rintro _ w1 ⟨rfl, m1⟩; have ha := m1.at (b := w.heap.size) (c := MsgR.cells ⟨3, A.el.id, q, A.el.term, A.next q - 1, 0, A.commit, false, .slice none 0 0, []⟩) (T := 159) World.At_alloc_new (fun f => f); have M1 := hidIt (((ModP.refl (fun _ => False) w).alloc _).trans m1); clear m1; obtain ⟨y, rfl, iy⟩ := ha.door; clear ha; have M2 := hidIt (M1.out.unput (.inr (Nat.le_refl _))); clear M1; have hcy := (M2.out.at HBb.out (fun f => f)).cell; have iby := (M2.out.at HBb.out (fun f => f)).inB; unfold RSy at hcy; clear q124))
    have hz : Hid (w.heap.size ≤ y.heap.size) := M2.out.size
    have iy' : w.heap.size < y.heap.size := iy
    obtain ⟨o, ho⟩ : ∃ o, o = y.heap.size := ⟨_, rfl⟩
    have nmo : w.heap.size ≠ o := by omega
    have I1 : Hid (World.At ((y.put w.heap.size (MsgR.cells ⟨3, A.el.id, q, A.el.term, A.next q - 1, t1, A.commit, false, .slice (some ⟨o, 0, none⟩) 1 1, []⟩) 159).alloc (.cells (Ent1.cells ⟨fun _ => zEnt⟩) 232)) w.heap.size (MsgR.cells ⟨3, A.el.id, q, A.el.term, A.next q - 1, t1, A.commit, false, .slice (some ⟨o, 0, none⟩) 1 1, []⟩) 159) := World.At.alloc (World.At_put_same iy) _
    have I2 : Hid (World.At ((y.put w.heap.size (MsgR.cells ⟨3, A.el.id, q, A.el.term, A.next q - 1, t1, A.commit, false, .slice (some ⟨o, 0, none⟩) 1 1, []⟩) 159).alloc (.cells (Ent1.cells ⟨fun _ => zEnt⟩) 232)) o (Ent1.cells ⟨fun _ => zEnt⟩) 232) := at_new (by rw [ho, World.size_put])
    have I3 : Hid (ModP (fun _ => False) w ((y.put w.heap.size (MsgR.cells ⟨3, A.el.id, q, A.el.term, A.next q - 1, t1, A.commit, false, .slice (some ⟨o, 0, none⟩) 1 1, []⟩) 159).alloc (.cells (Ent1.cells ⟨fun _ => zEnt⟩) 232))) := (M2.out.put (.inr (Nat.le_refl _)) _ _).alloc _
    rw [← ho]
    have hwo : w.heap.size ≤ o := by omega
    clear ho M2 hcy iby
    go_loopw [12] (fun i u => ∃ k : Nat, k ≤ 1 ∧ i = vi k ∧ Hid (u.At w.heap.size (MsgR.cells ⟨3, A.el.id, q, A.el.term, A.next q - 1, t1, A.commit, false, .slice (some ⟨o, 0, none⟩) 1 1, []⟩) 159) ∧ Hid (u.At o (Ent1.cells ⟨eB A.lg.now (A.next q) k⟩) 232) ∧ Hid (ModP (fun _ => False) w u)) (fun i _ => 1 - (intOf i).toNat)
    case atStart => exact ⟨0, by omega, rfl, I1, by rw [eB_0]; exact I2, I3⟩
    case round =>
      clear I1 I2 I3
      obtain ⟨k, hk, rfl, H1, H2, H3⟩ := hrel
      have hcu := (H3.out.at HBb.out (fun f => f)).cell
      have ibu := (H3.out.at HBb.out (fun f => f)).inB
      unfold RSy at hcu
      by_cases hkn : k < 1
      · have k3 : (k : Int) < 1 := by omega
        have q177 := hidIt (k177 (hL.out _ H3.out) (A.next q + (k : Int)))
        have z2 := hidIt (eB_set A.lg.now (A.next q) k)
        generalize A.lg.now.at_ (A.next q + (k : Int)) = en at *
        obtain ⟨⟨et, ed⟩, ee⟩ := en
        unfold Tw.Entry.cells at q177
        simp only [] at z2
        generalize eB A.lg.now (A.next q) k = eb at *
        go_wp2_with (first
          | (go_at_call 177; refine q177.out.mono ?_; rintro _ w3 ⟨rfl, m3⟩; have h1 := m3.at H1.out (fun f => f); have h2 := m3.at H2.out (fun f => f); have M3 := H3.out.trans m3; clear m3 H1 H2 H3 hcu ibu; obtain ⟨z, rfl, j1, j2⟩ := open2 h1 h2 nmo; have M4 := hidIt ((M3.unput (.inr hwo)).unput (.inr (Nat.le_refl _))); clear M3 h1 h2; have zz : Hid (o < z.heap.size) := j2))
        go_roundw
        case rel => exact ⟨k + 1, by omega, by go_num, World.At.alloc ((World.At_put_ne' nmo).2 (World.At_put_same j1)) _, by rw [← z2.out]; exact World.At.alloc (World.At_put_same (World.inB_put.2 j2)) _, ((M4.out.put (.inr (Nat.le_refl _)) _ _).put (.inr hwo) _ _).alloc _⟩
        case measure => simp [intOf]; omega
      · obtain rfl : k = 1 := by omega
        have q188 := hidIt (HC.out _ (.slice (some ⟨o, 0, none⟩) 1 1) H3.out (ents1 A.lg.now (A.next q) hwo H2.out))
        unfold Msg.r at q188
        simp only [MsgR.cells] at q188
        have hcm := H1.out.cell
        have ibm := H1.out.inB
        clear hcu ibu
        go_wp2_with (first
          | (go_at_call 188; refine q188.out.mono ?_; rintro _ w4 ⟨rfl, m4⟩; have R4 := hidIt m4; clear m4))
        go_end0
        exact ⟨rfl, R4.out⟩
  by_cases c2 : A.lg.now.last - A.next q + 1 = 2
  · have hm2 : (min 2 (A.lg.now.last - A.next q + 1)).toNat = 2 := by omega
    rw [hm2] at HC ⊢
    have d3 : decide (A.next q ≤ A.lg.now.base) = false := by simp; omega
    generalize hla : A.lg.now.last = la at *
    clear hla hm2 c0 c1
    go_enter Tryz.func241, Tryz.ntmps241
    go_wp2_with (first
      | (go_at_call 77; refine (c77 hE.out).mono ?_; rintro _ w0 ⟨rfl, e⟩; obtain rfl := e.symm)
      | (go_at_call 78; refine (c78 hE.out).mono ?_; rintro _ w0 ⟨rfl, e⟩; obtain rfl := e.symm)
      | (go_at_call 69; refine (k69 (hL.out _ (ModP.refl _ _))).mono ?_; rintro _ w0 ⟨rfl, e⟩; obtain rfl := e.symm)
      | (go_at_call 124; refine (q124.out _ (by repeat (first | assumption | exact ModP.refl _ _ | refine ModP.fromPut ?_ (by assumption) | apply ModP.alloc | apply ModP.drew | apply ModP.drewN | refine ModP.put ?_ (by first | (left; assumption) | (left; rfl) | (right; simp only [World.inB, World.size_put] at *; omega)) _ _))).mono ?_; rintro _ w1 ⟨rfl, m1⟩; have ha := m1.at (b := w.heap.size) (c := MsgR.cells ⟨3, A.el.id, q, A.el.term, A.next q - 1, 0, A.commit, false, .slice none 0 0, []⟩) (T := 159) World.At_alloc_new (fun f => f); have M1 := hidIt (((ModP.refl (fun _ => False) w).alloc _).trans m1); clear m1; obtain ⟨y, rfl, iy⟩ := ha.door; clear ha; have M2 := hidIt (M1.out.unput (.inr (Nat.le_refl _))); clear M1; have hcy := (M2.out.at HBb.out (fun f => f)).cell; have iby := (M2.out.at HBb.out (fun f => f)).inB; unfold RSy at hcy; clear q124))
    have hz : Hid (w.heap.size ≤ y.heap.size) := M2.out.size
    have iy' : w.heap.size < y.heap.size := iy
    obtain ⟨o, ho⟩ : ∃ o, o = y.heap.size := ⟨_, rfl⟩
    have nmo : w.heap.size ≠ o := by omega
    have I1 : Hid (World.At ((y.put w.heap.size (MsgR.cells ⟨3, A.el.id, q, A.el.term, A.next q - 1, t1, A.commit, false, .slice (some ⟨o, 0, none⟩) 2 2, []⟩) 159).alloc (.cells (Ent2.cells ⟨fun _ => zEnt⟩) 232)) w.heap.size (MsgR.cells ⟨3, A.el.id, q, A.el.term, A.next q - 1, t1, A.commit, false, .slice (some ⟨o, 0, none⟩) 2 2, []⟩) 159) := World.At.alloc (World.At_put_same iy) _
    have I2 : Hid (World.At ((y.put w.heap.size (MsgR.cells ⟨3, A.el.id, q, A.el.term, A.next q - 1, t1, A.commit, false, .slice (some ⟨o, 0, none⟩) 2 2, []⟩) 159).alloc (.cells (Ent2.cells ⟨fun _ => zEnt⟩) 232)) o (Ent2.cells ⟨fun _ => zEnt⟩) 232) := at_new (by rw [ho, World.size_put])
    have I3 : Hid (ModP (fun _ => False) w ((y.put w.heap.size (MsgR.cells ⟨3, A.el.id, q, A.el.term, A.next q - 1, t1, A.commit, false, .slice (some ⟨o, 0, none⟩) 2 2, []⟩) 159).alloc (.cells (Ent2.cells ⟨fun _ => zEnt⟩) 232))) := (M2.out.put (.inr (Nat.le_refl _)) _ _).alloc _
    rw [← ho]
    have hwo : w.heap.size ≤ o := by omega
    clear ho M2 hcy iby
    go_loopw [12] (fun i u => ∃ k : Nat, k ≤ 2 ∧ i = vi k ∧ Hid (u.At w.heap.size (MsgR.cells ⟨3, A.el.id, q, A.el.term, A.next q - 1, t1, A.commit, false, .slice (some ⟨o, 0, none⟩) 2 2, []⟩) 159) ∧ Hid (u.At o (Ent2.cells ⟨eB A.lg.now (A.next q) k⟩) 232) ∧ Hid (ModP (fun _ => False) w u)) (fun i _ => 2 - (intOf i).toNat)
    case atStart => exact ⟨0, by omega, rfl, I1, by rw [eB_0]; exact I2, I3⟩
    case round =>
      clear I1 I2 I3
      obtain ⟨k, hk, rfl, H1, H2, H3⟩ := hrel
      have hcu := (H3.out.at HBb.out (fun f => f)).cell
      have ibu := (H3.out.at HBb.out (fun f => f)).inB
      unfold RSy at hcu
      by_cases hkn : k < 2
      · have k3 : (k : Int) < 2 := by omega
        have q177 := hidIt (k177 (hL.out _ H3.out) (A.next q + (k : Int)))
        have z2 := hidIt (eB_set A.lg.now (A.next q) k)
        generalize A.lg.now.at_ (A.next q + (k : Int)) = en at *
        obtain ⟨⟨et, ed⟩, ee⟩ := en
        unfold Tw.Entry.cells at q177
        simp only [] at z2
        generalize eB A.lg.now (A.next q) k = eb at *
        go_wp2_with (first
          | (go_at_call 177; refine q177.out.mono ?_; rintro _ w3 ⟨rfl, m3⟩; have h1 := m3.at H1.out (fun f => f); have h2 := m3.at H2.out (fun f => f); have M3 := H3.out.trans m3; clear m3 H1 H2 H3 hcu ibu; obtain ⟨z, rfl, j1, j2⟩ := open2 h1 h2 nmo; have M4 := hidIt ((M3.unput (.inr hwo)).unput (.inr (Nat.le_refl _))); clear M3 h1 h2; have zz : Hid (o < z.heap.size) := j2))
        go_roundw
        case rel => exact ⟨k + 1, by omega, by go_num, World.At.alloc ((World.At_put_ne' nmo).2 (World.At_put_same j1)) _, by rw [← z2.out]; exact World.At.alloc (World.At_put_same (World.inB_put.2 j2)) _, ((M4.out.put (.inr (Nat.le_refl _)) _ _).put (.inr hwo) _ _).alloc _⟩
        case measure => simp [intOf]; omega
      · obtain rfl : k = 2 := by omega
        have q188 := hidIt (HC.out _ (.slice (some ⟨o, 0, none⟩) 2 2) H3.out (ents2 A.lg.now (A.next q) hwo H2.out))
        unfold Msg.r at q188
        simp only [MsgR.cells] at q188
        have hcm := H1.out.cell
        have ibm := H1.out.inB
        clear hcu ibu
        go_wp2_with (first
          | (go_at_call 188; refine q188.out.mono ?_; rintro _ w4 ⟨rfl, m4⟩; have R4 := hidIt m4; clear m4))
        go_end0
        exact ⟨rfl, R4.out⟩
  · have hm2 : (min 2 (A.lg.now.last - A.next q + 1)).toNat = 2 := by omega
    rw [hm2] at HC ⊢
    have d1 : decide (2 < A.lg.now.last - A.next q + 1) = true := by simp; omega
    have d3 : decide (A.next q ≤ A.lg.now.base) = false := by simp; omega
    generalize hla : A.lg.now.last = la at *
    clear hla hm2 c0 c1 c2
    go_enter Tryz.func241, Tryz.ntmps241
    go_wp2_with (first
      | (go_at_call 77; refine (c77 hE.out).mono ?_; rintro _ w0 ⟨rfl, e⟩; obtain rfl := e.symm)
      | (go_at_call 78; refine (c78 hE.out).mono ?_; rintro _ w0 ⟨rfl, e⟩; obtain rfl := e.symm)
      | (go_at_call 69; refine (k69 (hL.out _ (ModP.refl _ _))).mono ?_; rintro _ w0 ⟨rfl, e⟩; obtain rfl := e.symm)
      | (go_at_call 124; refine (q124.out _ (by repeat (first | assumption | exact ModP.refl _ _ | refine ModP.fromPut ?_ (by assumption) | apply ModP.alloc | apply ModP.drew | apply ModP.drewN | refine ModP.put ?_ (by first | (left; assumption) | (left; rfl) | (right; simp only [World.inB, World.size_put] at *; omega)) _ _))).mono ?_; rintro _ w1 ⟨rfl, m1⟩; have ha := m1.at (b := w.heap.size) (c := MsgR.cells ⟨3, A.el.id, q, A.el.term, A.next q - 1, 0, A.commit, false, .slice none 0 0, []⟩) (T := 159) World.At_alloc_new (fun f => f); have M1 := hidIt (((ModP.refl (fun _ => False) w).alloc _).trans m1); clear m1; obtain ⟨y, rfl, iy⟩ := ha.door; clear ha; have M2 := hidIt (M1.out.unput (.inr (Nat.le_refl _))); clear M1; have hcy := (M2.out.at HBb.out (fun f => f)).cell; have iby := (M2.out.at HBb.out (fun f => f)).inB; unfold RSy at hcy; clear q124))
    have hz : Hid (w.heap.size ≤ y.heap.size) := M2.out.size
    have iy' : w.heap.size < y.heap.size := iy
    obtain ⟨o, ho⟩ : ∃ o, o = y.heap.size := ⟨_, rfl⟩
    have nmo : w.heap.size ≠ o := by omega
    have I1 : Hid (World.At ((y.put w.heap.size (MsgR.cells ⟨3, A.el.id, q, A.el.term, A.next q - 1, t1, A.commit, false, .slice (some ⟨o, 0, none⟩) 2 2, []⟩) 159).alloc (.cells (Ent2.cells ⟨fun _ => zEnt⟩) 232)) w.heap.size (MsgR.cells ⟨3, A.el.id, q, A.el.term, A.next q - 1, t1, A.commit, false, .slice (some ⟨o, 0, none⟩) 2 2, []⟩) 159) := World.At.alloc (World.At_put_same iy) _
    have I2 : Hid (World.At ((y.put w.heap.size (MsgR.cells ⟨3, A.el.id, q, A.el.term, A.next q - 1, t1, A.commit, false, .slice (some ⟨o, 0, none⟩) 2 2, []⟩) 159).alloc (.cells (Ent2.cells ⟨fun _ => zEnt⟩) 232)) o (Ent2.cells ⟨fun _ => zEnt⟩) 232) := at_new (by rw [ho, World.size_put])
    have I3 : Hid (ModP (fun _ => False) w ((y.put w.heap.size (MsgR.cells ⟨3, A.el.id, q, A.el.term, A.next q - 1, t1, A.commit, false, .slice (some ⟨o, 0, none⟩) 2 2, []⟩) 159).alloc (.cells (Ent2.cells ⟨fun _ => zEnt⟩) 232))) := (M2.out.put (.inr (Nat.le_refl _)) _ _).alloc _
    rw [← ho]
    have hwo : w.heap.size ≤ o := by omega
    clear ho M2 hcy iby
    go_loopw [12] (fun i u => ∃ k : Nat, k ≤ 2 ∧ i = vi k ∧ Hid (u.At w.heap.size (MsgR.cells ⟨3, A.el.id, q, A.el.term, A.next q - 1, t1, A.commit, false, .slice (some ⟨o, 0, none⟩) 2 2, []⟩) 159) ∧ Hid (u.At o (Ent2.cells ⟨eB A.lg.now (A.next q) k⟩) 232) ∧ Hid (ModP (fun _ => False) w u)) (fun i _ => 2 - (intOf i).toNat)
    case atStart => exact ⟨0, by omega, rfl, I1, by rw [eB_0]; exact I2, I3⟩
    case round =>
      clear I1 I2 I3
      obtain ⟨k, hk, rfl, H1, H2, H3⟩ := hrel
      have hcu := (H3.out.at HBb.out (fun f => f)).cell
      have ibu := (H3.out.at HBb.out (fun f => f)).inB
      unfold RSy at hcu
      by_cases hkn : k < 2
      · have k3 : (k : Int) < 2 := by omega
        have q177 := hidIt (k177 (hL.out _ H3.out) (A.next q + (k : Int)))
        have z2 := hidIt (eB_set A.lg.now (A.next q) k)
        generalize A.lg.now.at_ (A.next q + (k : Int)) = en at *
        obtain ⟨⟨et, ed⟩, ee⟩ := en
        unfold Tw.Entry.cells at q177
        simp only [] at z2
        generalize eB A.lg.now (A.next q) k = eb at *
        go_wp2_with (first
          | (go_at_call 177; refine q177.out.mono ?_; rintro _ w3 ⟨rfl, m3⟩; have h1 := m3.at H1.out (fun f => f); have h2 := m3.at H2.out (fun f => f); have M3 := H3.out.trans m3; clear m3 H1 H2 H3 hcu ibu; obtain ⟨z, rfl, j1, j2⟩ := open2 h1 h2 nmo; have M4 := hidIt ((M3.unput (.inr hwo)).unput (.inr (Nat.le_refl _))); clear M3 h1 h2; have zz : Hid (o < z.heap.size) := j2))
        go_roundw
        case rel => exact ⟨k + 1, by omega, by go_num, World.At.alloc ((World.At_put_ne' nmo).2 (World.At_put_same j1)) _, by rw [← z2.out]; exact World.At.alloc (World.At_put_same (World.inB_put.2 j2)) _, ((M4.out.put (.inr (Nat.le_refl _)) _ _).put (.inr hwo) _ _).alloc _⟩
        case measure => simp [intOf]; omega
      · obtain rfl : k = 2 := by omega
        have q188 := hidIt (HC.out _ (.slice (some ⟨o, 0, none⟩) 2 2) H3.out (ents2 A.lg.now (A.next q) hwo H2.out))
        unfold Msg.r at q188
        simp only [MsgR.cells] at q188
        have hcm := H1.out.cell
        have ibm := H1.out.inB
        clear hcu ibu
        go_wp2_with (first
          | (go_at_call 188; refine q188.out.mono ?_; rintro _ w4 ⟨rfl, m4⟩; have R4 := hidIt m4; clear m4))
        go_end0
        exact ⟨rfl, R4.out⟩
theorem c241 (h : RS G W p A ms w) (q : Nat) (q3 : q < 3) (h3 : ms.length < 3) (hn0 : A.next q ≤ maxT + 1) :
    Calls Tryz.prog 241 #[vp p.b, vi q] w fun r w' => r = .returned (.tuple #[]) ∧ RS G W p A (ms ++ [A.send q]) w' := by
  by_cases hsn : A.next q ≤ A.lg.now.base
  · exact c241_snap h q q3 h3 hsn
  · exact c241_app h q q3 h3 (by omega) hn0
end
end Go.Proofs.Qxb6500990aGreat
