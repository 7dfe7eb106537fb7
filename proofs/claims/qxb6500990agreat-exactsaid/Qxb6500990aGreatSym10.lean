/- package syncm: accept -/
import Derived.Test.Qxb6500990aGreatSym9
set_option linter.unusedVariables false
set_option linter.unusedSimpArgs false
namespace Go.Proofs.Qxb6500990aGreat
open Go Go.RowKit Go.Tw
attribute [local go_sem] World.cell?_put_same World.cell?_put_ne World.cell?_put_ne' World.frozen?_put_same World.frozen?_put_ne World.frozen?_put_ne' World.setCell_put_same World.setCell_put_ne World.setCell_put_ne' World.inB_put World.inB_alloc World.inB_drew World.inB_drewN World.inB_new World.inB_setCell World.put_drew World.put_drewN World.q_setCell_drew World.q_setCell_drewN World.q_alloc_drew World.q_alloc_drewN World.put_put_same World.put_put_2 World.size_put World.q_cell?_alloc_old World.q_frozen?_alloc_old World.cell?_alloc_new' World.frozen?_alloc_new' World.q_setCell_alloc_old World.q_setCell_alloc_new World.q_put_alloc_old World.cell?_force_same World.frozen?_force_same World.cell?_force2_fst World.cell?_force2_snd SyncM.g0 SyncM.s0 SyncM.g1 SyncM.s1 SyncM.g2 SyncM.s2 SyncM.g3 SyncM.s3 SyncM.g4 SyncM.s4 SyncM.g5 SyncM.s5 SyncM.g6 SyncM.s6 SyncM.g7 SyncM.s7 SyncM.g8 SyncM.s8 SyncM.gi_next_0 SyncM.si_next_0 SyncM.gi_mtch_0 SyncM.si_mtch_0 MsgR.g0 MsgR.s0 MsgR.g1 MsgR.s1 MsgR.g2 MsgR.s2 MsgR.g3 MsgR.s3 MsgR.g4 MsgR.s4 MsgR.g5 MsgR.s5 MsgR.g6 MsgR.s6 MsgR.g7 MsgR.s7 MsgR.g8 MsgR.s8 MsgR.g9 MsgR.s9 Entry.g0 Entry.s0 Entry.g1 Entry.s1
attribute [local go_sem] ba_get upd_same upd_upd
set_option maxHeartbeats 4000000
set_option maxRecDepth 100000
section
variable {W w : World} {G : Nat → Prop} {b bl be : Nat} {A : AS}
theorem c208_no (h : SB G W b bl be A w) (ok : A.lg.now.Ok) {v : Value} {m : Msg} {B : Nat} (hv : EntsAt B W v m.ents) (hnv : ∀ g, v.ownBlock = some g → ¬ G g) (i0 : 0 ≤ m.index) (i1 : m.index ≤ maxT)
    (hno : m.index < A.lg.now.base ∨ A.lg.now.last < m.index ∨ (A.lg.now.termAt m.index).1 ≠ m.logTerm) :
    Calls Tryz.prog 208 #[vp b, .agg (m.r v).cells] w fun r w' => r = .returned (.tuple #[.bool (A.accept m).1.1, vi (A.accept m).1.2]) ∧ SB G W b bl be (A.accept m).2 w' := by
  have hc := h.hb.cell
  have ib := h.hb.inB
  unfold SyR at hc
  have hS := hidIt (fun w' (m : ModP (fun _ => False) w w') => h.fr m)
  obtain ⟨G1, h1⟩ := h.lk
  have hL := hidIt (fun w' (m : ModP (fun _ => False) w w') => h1.frame m (fun _ _ f => f))
  have Hok := hidIt ok
  obtain ⟨ad, cap, rfl, -⟩ := ownsRow_form hv
  unfold maxT at i1
  clear h h1 ok hv hnv
  obtain ⟨mk, mf, mt, mtm, mi, ml, mc, mo, me, md⟩ := m
  simp only [] at *
  unfold Msg.r
  simp only []
  by_cases h1 : mi < A.lg.now.base
  · have hk : Hid (A.accept ⟨mk, mf, mt, mtm, mi, ml, mc, mo, me, md⟩ = ((true, A.lg.now.base), A)) := by unfold Hid AS.accept; simp only []; rw [if_pos h1]
    clear hno
    go_enter Tryz.func208, Tryz.ntmps208
    go_wp2_with (first
      | (go_at_call 130; refine (c130 (hL.out _ (by repeat (first | assumption | exact ModP.refl _ _ | refine ModP.fromPut ?_ (by assumption) | apply ModP.alloc | apply ModP.drew | apply ModP.drewN | refine ModP.put ?_ (by first | (left; assumption) | (left; rfl) | (right; simp only [World.inB, World.size_put] at *; omega)) _ _)))).mono ?_; rintro _ _ ⟨rfl, rfl⟩)
      | (go_at_call 154; refine (c154 (hL.out _ (by repeat (first | assumption | exact ModP.refl _ _ | refine ModP.fromPut ?_ (by assumption) | apply ModP.alloc | apply ModP.drew | apply ModP.drewN | refine ModP.put ?_ (by first | (left; assumption) | (left; rfl) | (right; simp only [World.inB, World.size_put] at *; omega)) _ _))) (by have := Hok.out.n6; omega) Hok.out.b0 (by have := Hok.out.lm; omega)).mono ?_; rintro _ _ ⟨rfl, m2, rfl⟩))
    go_ret2
    rw [hk.out]
    exact ⟨rfl, hS.out _ (by repeat (first | assumption | exact ModP.refl _ _ | refine ModP.fromPut ?_ (by assumption) | apply ModP.alloc | apply ModP.drew | apply ModP.drewN | refine ModP.put ?_ (by first | (left; assumption) | (left; rfl) | (right; simp only [World.inB, World.size_put] at *; omega)) _ _))⟩
  by_cases h2 : A.lg.now.last < mi
  · have hk : Hid (A.accept ⟨mk, mf, mt, mtm, mi, ml, mc, mo, me, md⟩ = ((false, A.lg.now.last), A)) := by unfold Hid AS.accept; simp only []; rw [if_neg h1, if_pos h2]
    clear hno
    go_enter Tryz.func208, Tryz.ntmps208
    go_wp2_with (first
      | (go_at_call 130; refine (c130 (hL.out _ (by repeat (first | assumption | exact ModP.refl _ _ | refine ModP.fromPut ?_ (by assumption) | apply ModP.alloc | apply ModP.drew | apply ModP.drewN | refine ModP.put ?_ (by first | (left; assumption) | (left; rfl) | (right; simp only [World.inB, World.size_put] at *; omega)) _ _)))).mono ?_; rintro _ _ ⟨rfl, rfl⟩)
      | (go_at_call 154; refine (c154 (hL.out _ (by repeat (first | assumption | exact ModP.refl _ _ | refine ModP.fromPut ?_ (by assumption) | apply ModP.alloc | apply ModP.drew | apply ModP.drewN | refine ModP.put ?_ (by first | (left; assumption) | (left; rfl) | (right; simp only [World.inB, World.size_put] at *; omega)) _ _))) (by have := Hok.out.n6; omega) Hok.out.b0 (by have := Hok.out.lm; omega)).mono ?_; rintro _ _ ⟨rfl, m2, rfl⟩))
    go_ret2
    rw [hk.out]
    exact ⟨rfl, hS.out _ (by repeat (first | assumption | exact ModP.refl _ _ | refine ModP.fromPut ?_ (by assumption) | apply ModP.alloc | apply ModP.drew | apply ModP.drewN | refine ModP.put ?_ (by first | (left; assumption) | (left; rfl) | (right; simp only [World.inB, World.size_put] at *; omega)) _ _))⟩
  have h3 : (A.lg.now.termAt mi).1 ≠ ml := by rcases hno with h | h | h; exact absurd h h1; exact absurd h h2; exact h
  have hk : Hid (A.accept ⟨mk, mf, mt, mtm, mi, ml, mc, mo, me, md⟩ = ((false, if mi = 0 then 0 else mi - 1), A)) := by unfold Hid AS.accept; simp only []; rw [if_neg h1, if_neg h2, if_pos h3]
  obtain ⟨⟨tt, te⟩, htt⟩ : ∃ x, A.lg.now.termAt mi = x := ⟨_, rfl⟩
  have HT := hidIt (fun w' (m : ModP (fun _ => False) w w') => c203 (hL.out w' m) Hok.out mi)
  rw [htt] at HT h3
  have h3' : (tt == ml) = false := by simpa using h3
  clear htt hno h3
  by_cases hz : mi = 0
  · have hk2 : Hid (A.accept ⟨mk, mf, mt, mtm, mi, ml, mc, mo, me, md⟩ = ((false, 0), A)) := by unfold Hid; rw [hk.out, if_pos hz]
    clear hk
    subst hz
    go_enter Tryz.func208, Tryz.ntmps208
    go_wp2_with (first
      | (go_at_call 130; refine (c130 (hL.out _ (by repeat (first | assumption | exact ModP.refl _ _ | refine ModP.fromPut ?_ (by assumption) | apply ModP.alloc | apply ModP.drew | apply ModP.drewN | refine ModP.put ?_ (by first | (left; assumption) | (left; rfl) | (right; simp only [World.inB, World.size_put] at *; omega)) _ _)))).mono ?_; rintro _ _ ⟨rfl, rfl⟩)
      | (go_at_call 154; refine (c154 (hL.out _ (by repeat (first | assumption | exact ModP.refl _ _ | refine ModP.fromPut ?_ (by assumption) | apply ModP.alloc | apply ModP.drew | apply ModP.drewN | refine ModP.put ?_ (by first | (left; assumption) | (left; rfl) | (right; simp only [World.inB, World.size_put] at *; omega)) _ _))) (by have := Hok.out.n6; omega) Hok.out.b0 (by have := Hok.out.lm; omega)).mono ?_; rintro _ _ ⟨rfl, m2, rfl⟩)
      | (go_at_call 203; refine (HT.out _ (by repeat (first | assumption | exact ModP.refl _ _ | refine ModP.fromPut ?_ (by assumption) | apply ModP.alloc | apply ModP.drew | apply ModP.drewN | refine ModP.put ?_ (by first | (left; assumption) | (left; rfl) | (right; simp only [World.inB, World.size_put] at *; omega)) _ _))).mono ?_; rintro _ w3 ⟨rfl, m3⟩; have M3 := hidIt (show ModP (fun _ => False) w w3 from ModP.trans (by repeat (first | assumption | exact ModP.refl _ _ | refine ModP.fromPut ?_ (by assumption) | apply ModP.alloc | apply ModP.drew | apply ModP.drewN | refine ModP.put ?_ (by first | (left; assumption) | (left; rfl) | (right; simp only [World.inB, World.size_put] at *; omega)) _ _)) m3.toP0); have hb3 := m3.at (b := w.heap.size) (c := MsgR.cells ⟨mk, mf, mt, mtm, 0, ml, mc, mo, .slice ad me.length cap, md⟩) (T := 159) (by repeat (first | assumption | exact World.At_alloc_new | exact at_new (by first | rfl | (simp [World.size_put]; done) | (simp [World.size_put]; omega)) | refine World.At.alloc ?_ _ | refine World.At_drew.2 ?_ | refine (World.At_drewN _).2 ?_ | exact World.At_put_same (by first | assumption | (simp only [World.inB, World.size_put, World.alloc, World.drew, World.drewN, Array.size_push] at *; omega)) | refine (World.At_put_ne' (by first | assumption | (exact Ne.symm (by assumption)) | (simp only [World.inB, World.size_put] at *; omega))).2 ?_)) (by simp); have hc3 := hb3.cell; have ib3 := hb3.inB; clear m3 hb3))
    go_ret2
    rw [hk2.out]
    exact ⟨rfl, hS.out _ M3.out⟩
  · have hk2 : Hid (A.accept ⟨mk, mf, mt, mtm, mi, ml, mc, mo, me, md⟩ = ((false, mi - 1), A)) := by unfold Hid; rw [hk.out, if_neg hz]
    have hz' : (mi == 0) = false := by simpa using hz
    clear hk
    go_enter Tryz.func208, Tryz.ntmps208
    go_wp2_with (first
      | (go_at_call 130; refine (c130 (hL.out _ (by repeat (first | assumption | exact ModP.refl _ _ | refine ModP.fromPut ?_ (by assumption) | apply ModP.alloc | apply ModP.drew | apply ModP.drewN | refine ModP.put ?_ (by first | (left; assumption) | (left; rfl) | (right; simp only [World.inB, World.size_put] at *; omega)) _ _)))).mono ?_; rintro _ _ ⟨rfl, rfl⟩)
      | (go_at_call 154; refine (c154 (hL.out _ (by repeat (first | assumption | exact ModP.refl _ _ | refine ModP.fromPut ?_ (by assumption) | apply ModP.alloc | apply ModP.drew | apply ModP.drewN | refine ModP.put ?_ (by first | (left; assumption) | (left; rfl) | (right; simp only [World.inB, World.size_put] at *; omega)) _ _))) (by have := Hok.out.n6; omega) Hok.out.b0 (by have := Hok.out.lm; omega)).mono ?_; rintro _ _ ⟨rfl, m2, rfl⟩)
      | (go_at_call 203; refine (HT.out _ (by repeat (first | assumption | exact ModP.refl _ _ | refine ModP.fromPut ?_ (by assumption) | apply ModP.alloc | apply ModP.drew | apply ModP.drewN | refine ModP.put ?_ (by first | (left; assumption) | (left; rfl) | (right; simp only [World.inB, World.size_put] at *; omega)) _ _))).mono ?_; rintro _ w3 ⟨rfl, m3⟩; have M3 := hidIt (show ModP (fun _ => False) w w3 from ModP.trans (by repeat (first | assumption | exact ModP.refl _ _ | refine ModP.fromPut ?_ (by assumption) | apply ModP.alloc | apply ModP.drew | apply ModP.drewN | refine ModP.put ?_ (by first | (left; assumption) | (left; rfl) | (right; simp only [World.inB, World.size_put] at *; omega)) _ _)) m3.toP0); have hb3 := m3.at (b := w.heap.size) (c := MsgR.cells ⟨mk, mf, mt, mtm, mi, ml, mc, mo, .slice ad me.length cap, md⟩) (T := 159) (by repeat (first | assumption | exact World.At_alloc_new | exact at_new (by first | rfl | (simp [World.size_put]; done) | (simp [World.size_put]; omega)) | refine World.At.alloc ?_ _ | refine World.At_drew.2 ?_ | refine (World.At_drewN _).2 ?_ | exact World.At_put_same (by first | assumption | (simp only [World.inB, World.size_put, World.alloc, World.drew, World.drewN, Array.size_push] at *; omega)) | refine (World.At_put_ne' (by first | assumption | (exact Ne.symm (by assumption)) | (simp only [World.inB, World.size_put] at *; omega))).2 ?_)) (by simp); have hc3 := hb3.cell; have ib3 := hb3.inB; clear m3 hb3))
    go_ret2
    rw [hk2.out]
    exact ⟨rfl, hS.out _ M3.out⟩
end
end Go.Proofs.Qxb6500990aGreat
