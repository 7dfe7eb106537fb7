/- package rlogm: the changing calls -/
import Derived.Test.Qxb6500990aGreatLgm2
import Derived.Test.Qxb6500990aGreatStructs2
set_option linter.unusedVariables false
set_option linter.unusedSimpArgs false
namespace Go.Tw
open Go Go.Proofs Go.Proofs.Qxb6500990aGreat Go.RowKit
theorem LMp.stepAt {W : World} {F : Nat → Prop} {b bs bm : Nat} {hv : Value} {bks : List Nat} {a : AL} (h : LMp W F b bs bm hv bks a) (s : Lg) (hn : a.hist.length ≤ 9000) {w' : World} (m : ModP (fun _ => False) (W.put bs s.r.cells 248) w') :
    Calls Tryz.prog 221 #[vp b] w' fun r w'' => r = .returned (.tuple #[]) ∧ LMK w'' (grow F W) b (a.to s) ∧ ModP F W w'' := by
  have h1 := (h.put s).frame m (fun _ _ f => f)
  have hz : W.heap.size ≤ w'.heap.size := by have := m.size; rwa [World.size_put] at this
  refine (c221 ⟨bs, bm, hv, bks, h1⟩ hn).mono ?_
  rintro _ w'' ⟨rfl, h2, h3⟩
  refine ⟨rfl, h2.mono (fun k hk => grow_mono hz hk), ?_⟩
  exact (((ModP.refl F W).put (.inl h.fs) _ _).trans (m.mono (fun _ f => f.elim))).trans h3
theorem upd_upd {α : Type} (f : Nat → α) (i : Nat) (v v' : α) : upd (upd f i v) i v' = upd f i v' := by
  funext j; unfold upd; split <;> rfl
theorem Lg.app_r (s : Lg) (e : Entry) : Lg.r { s with ents := s.ents ++ [e] } = ⟨s.term, s.vote, s.base, s.baseTerm, s.snap, s.ents.length + 1, upd s.ent s.ents.length e⟩ := by
  unfold Lg.r
  simp only [StateM.mk.injEq, true_and]
  refine ⟨by simp, ?_⟩
  funext j
  simp only [Lg.ent, upd, List.getD_eq_getElem?_getD]
  by_cases h : j = s.ents.length
  · subst h; simp
  · rw [if_neg h]
    rcases Nat.lt_or_ge j s.ents.length with h' | h'
    · rw [List.getElem?_append_left h']
    · rw [List.getElem?_eq_none (by simp; omega), List.getElem?_eq_none h']
theorem Lg.pop_r (s : Lg) (n : Nat) (hn : s.ents.length = n + 1) : Lg.r { s with ents := s.ents.dropLast } = ⟨s.term, s.vote, s.base, s.baseTerm, s.snap, n, upd s.ent n zEnt⟩ := by
  unfold Lg.r
  simp only [StateM.mk.injEq, true_and]
  refine ⟨by simp [hn], ?_⟩
  funext j
  simp only [Lg.ent, upd, List.getD_eq_getElem?_getD, List.getElem?_dropLast]
  by_cases h : j = n
  · subst h; simp [hn]
  · rw [if_neg h]
    by_cases h2 : j < s.ents.length - 1
    · rw [if_pos h2]
    · rw [if_neg h2, List.getElem?_eq_none (by omega)]
end Go.Tw
namespace Go.Proofs.Qxb6500990aGreat
open Go Go.RowKit Go.Tw
attribute [local go_sem] World.cell?_put_same World.cell?_put_ne World.cell?_put_ne' World.frozen?_put_same World.frozen?_put_ne World.frozen?_put_ne' World.setCell_put_same World.setCell_put_ne World.setCell_put_ne' World.inB_put World.inB_alloc World.inB_drew World.inB_drewN World.inB_new World.inB_setCell World.put_drew World.put_drewN World.q_setCell_drew World.q_setCell_drewN World.q_alloc_drew World.q_alloc_drewN World.put_put_same World.put_put_2 World.size_put World.q_cell?_alloc_old World.q_frozen?_alloc_old World.cell?_alloc_new' World.frozen?_alloc_new' World.q_setCell_alloc_old World.q_setCell_alloc_new World.q_put_alloc_old StateM.g0 StateM.s0 StateM.g1 StateM.s1 StateM.g2 StateM.s2 StateM.g3 StateM.s3 StateM.g4 StateM.s4 StateM.g5 StateM.s5 StateM.g6 StateM.s6 StateM.g7 StateM.s7 StateM.g8 StateM.s8 StateM.g9 StateM.s9 StateM.g10 StateM.s10 StateM.g11 StateM.s11 StateM.g12 StateM.s12 StateM.g13 StateM.s13 StateM.g14 StateM.s14 StateM.g15 StateM.s15 StateM.g16 StateM.s16 StateM.g17 StateM.s17 StateM.gi_ents_0 StateM.si_ents_0 StateM.gi_ents_1 StateM.si_ents_1 LogM.g0 LogM.s0 LogM.g1 LogM.s1 LogM.g2 LogM.s2 Entry.g0 Entry.s0 Entry.g1 Entry.s1
attribute [local go_sem] StateM.gia_ents_1 StateM.sia_ents_1
attribute [local go_sem] ba_get upd_same upd_upd
set_option maxHeartbeats 1000000
set_option maxRecDepth 100000
section
variable {W : World} {F : Nat → Prop} {b : Nat} {a : AL}
theorem c252 (h : LMK W F b a) (hn : a.hist.length ≤ 9000) (t v : Int) : Calls Tryz.prog 252 #[vp b, vi t, vi v] W fun r w' => r = .returned (vi (a.setTerm t v).1) ∧ LMK w' (grow F W) b (a.setTerm t v).2 ∧ ModP F W w' := by
  by_cases h1 : 0 ≤ t ∧ t ≤ maxT ∧ -1 ≤ v ∧ v < 3
  · obtain ⟨bs, bm, hv, bks, h⟩ := h
    have hst := fun w' m => h.stepAt { a.now with term := t, vote := v } hn (w' := w') m
    have hk : Hid (a.setTerm t v = (0, a.to { a.now with term := t, vote := v })) := by unfold Hid AL.setTerm; rw [if_pos h1]
    obtain ⟨u, hu, i1, i2, ne⟩ := h.open
    clear h
    subst hu
    simp only [World.put_put_same] at hst
    have Hst := hidIt hst
    clear hst
    obtain ⟨t0, t1, v0, v1⟩ := h1
    unfold maxT at t1
    unfold Lg.r at Hst ⊢
    go_enter Tryz.func252, Tryz.ntmps252
    go_wp2_with fail
    refine Ord.region1 [9] [0, 1, 2, 3, 4, 5, 6, 7, 8, 10, 11] [12, 13, 14, 15] (by kernel_rfl) (by kernel_rfl) (fun _ _ d _ _ h => by cases d <;> exact h) ?_
    simp only [Ord.pickO, Ord.nth]
    repeat (go_big_quiet_step (fail))
    refine wpQuiet_nil ?_
    repeat (go_big_quiet_step (fail))
    refine wpQuiet_nil ?_
    go_wp2_with (go_at_call 221; refine (Hst.out _ (by repeat (first | assumption | exact ModP.refl _ _ | refine ModP.fromPut ?_ (by assumption) | apply ModP.alloc | apply ModP.drew | apply ModP.drewN | refine ModP.put ?_ (by first | (left; assumption) | (left; rfl) | (right; simp only [World.inB, World.size_put] at *; omega)) _ _))).mono ?_; rintro _ _ ⟨rfl, hK, hM⟩)
    go_ret
    rw [hk.out]
    exact ⟨rfl, hK, hM⟩
  · have hk : Hid (a.setTerm t v = (1, a)) := by unfold Hid AL.setTerm; rw [if_neg h1]
    have hk2 : Hid (¬ (0 ≤ t ∧ t ≤ maxT ∧ -1 ≤ v ∧ v < 3)) := h1
    have Hh := hidIt h
    clear h1 h
    go_enter Tryz.func252, Tryz.ntmps252
    go_wp2_with fail
    all_goals first
      | (exfalso; have := hk2.out; unfold maxT at this; omega)
      | (go_ret; rw [hk.out]; exact ⟨rfl, Hh.out.mono fun _ => .inl, ModP.refl _ _⟩)
theorem c224 (h : LMK W F b a) (ok : a.now.Ok) (i : Int) : Calls Tryz.prog 224 #[vp b, vi i] W fun r w' => r = .returned (.tuple #[.agg (a.now.at_ i).1.cells, vi (a.now.at_ i).2]) ∧ Mod [] W w' := by
  have hlast := fun w' (m : Mod [] W w') => c154 (h.frame (G := fun _ => False) m.toP0 (fun _ _ f => f)) (by have := ok.n6; omega) ok.b0 (by have := ok.lm; omega)
  obtain ⟨bs, bm, hv, bks, h⟩ := h
  obtain ⟨u, hu, i1, i2, ne⟩ := h.open
  clear h
  subst hu
  have Hlast := hidIt hlast
  clear hlast
  have n6 := ok.n6
  have lm := ok.lm
  have b0 := ok.b0
  clear ok
  unfold maxT at lm
  by_cases h1 : i ≤ a.now.base
  · have hk : Hid (a.now.at_ i = (zEnt, 7)) := by unfold Hid Lg.at_; rw [if_pos h1]
    unfold Lg.r
    go_enter Tryz.func224, Tryz.ntmps224
    go_wp2_with fail
    refine bodyPost_ret (v := .tuple #[.agg (Entry.cells zEnt), vi 7]) (by simp [results, Tryz.results224, go_sem, Entry.cells, zEnt]) rfl ?_
    rw [hk.out]
    exact ⟨rfl, (by repeat (first | exact Mod.refl _ _ | apply Mod.alloc | apply Mod.drew | apply Mod.drewN))⟩
  by_cases h2 : a.now.last < i
  · have hk : Hid (a.now.at_ i = (zEnt, 2)) := by unfold Hid Lg.at_; rw [if_neg h1, if_pos h2]
    unfold Lg.r at Hlast ⊢
    go_enter Tryz.func224, Tryz.ntmps224
    go_wp2_with (go_at_call 154; refine (Hlast.out _ (by repeat (first | exact Mod.refl _ _ | apply Mod.alloc | apply Mod.drew | apply Mod.drewN))).mono ?_; rintro _ _ ⟨rfl, m, rfl⟩)
    refine bodyPost_ret (v := .tuple #[.agg (Entry.cells zEnt), vi 2]) (by simp [results, Tryz.results224, go_sem, Entry.cells, zEnt]) rfl ?_
    rw [hk.out]
    exact ⟨rfl, (by repeat (first | exact Mod.refl _ _ | apply Mod.alloc | apply Mod.drew | apply Mod.drewN))⟩
  · obtain ⟨j, hj⟩ : ∃ j : Nat, i = a.now.base + 1 + j := ⟨(i - a.now.base - 1).toNat, by omega⟩
    have hk : Hid (a.now.at_ i = (a.now.ent j, 0)) := by unfold Hid Lg.at_; rw [if_neg h1, if_neg h2, show (i - a.now.base - 1).toNat = j by omega]
    have j6 : j < 6 := by unfold Lg.last at h2; omega
    have e1 : i - a.now.base - 1 = j := by omega
    have e2 : i - a.now.base = j + 1 := by omega
    have h2' : i ≤ a.now.last := by omega
    have hi0 : 0 ≤ i := by omega
    have hi1 : i ≤ 72057594037927936 := by unfold Lg.last at h2; omega
    have b1 : a.now.base ≤ 72057594037927936 := by omega
    clear hj lm h2 n6
    unfold Lg.r at Hlast ⊢
    go_enter Tryz.func224, Tryz.ntmps224
    go_wp2_with (go_at_call 154; refine (Hlast.out _ (by repeat (first | exact Mod.refl _ _ | apply Mod.alloc | apply Mod.drew | apply Mod.drewN))).mono ?_; rintro _ _ ⟨rfl, m, rfl⟩)
    refine Ord.region1 [] [0, 1, 2, 3, 4, 5, 6, 7, 8, 9, 10, 11, 12, 13, 14, 15, 16, 17] [18, 19] (by kernel_rfl) (by kernel_rfl) (fun _ _ d _ _ h => by cases d <;> exact h) ?_
    simp only [Ord.pickO, Ord.nth]
    refine wpQuiet_nil ?_
    repeat (go_big_quiet_step (fail))
    refine wpQuiet_nil ?_
    go_wp2_with fail
    refine bodyPost_ret (v := .tuple #[.agg (Entry.cells (a.now.ent j)), vi 0]) (by simp [results, Tryz.results224, go_sem, Entry.cells, zEnt]) rfl ?_
    rw [hk.out]
    exact ⟨rfl, (by repeat (first | exact Mod.refl _ _ | apply Mod.alloc | apply Mod.drew | apply Mod.drewN))⟩
theorem c203 (h : LMK W F b a) (ok : a.now.Ok) (i : Int) : Calls Tryz.prog 203 #[vp b, vi i] W fun r w' => r = .returned (.tuple #[vi (a.now.termAt i).1, vi (a.now.termAt i).2]) ∧ Mod [] W w' := by
  have hat := hidIt (c224 h ok i)
  obtain ⟨bs, bm, hv, bks, h⟩ := h
  obtain ⟨u, hu, i1, i2, ne⟩ := h.open
  clear h
  subst hu
  by_cases h1 : i = a.now.base
  · have hk : Hid (a.now.termAt i = (a.now.baseTerm, 0)) := by unfold Hid Lg.termAt; rw [if_pos h1]
    unfold Lg.r
    go_enter Tryz.func203, Tryz.ntmps203
    go_wp2_with fail
    go_ret2
    rw [hk.out]
    exact ⟨rfl, (by repeat (first | exact Mod.refl _ _ | apply Mod.alloc | apply Mod.drew | apply Mod.drewN))⟩
  · have hk : Hid (a.now.termAt i = ((a.now.at_ i).1.term, (a.now.at_ i).2)) := by unfold Hid Lg.termAt; rw [if_neg h1]
    generalize a.now.at_ i = e at *
    obtain ⟨⟨et, ed⟩, ee⟩ := e
    unfold Lg.r at hat ⊢
    unfold Tw.Entry.cells at hat
    go_enter Tryz.func203, Tryz.ntmps203
    go_wp2_with (go_at_call 224; refine hat.out.mono ?_; rintro _ w2 ⟨rfl, m⟩)
    go_ret2
    rw [hk.out]
    exact ⟨rfl, m.alloc _⟩
theorem c156 (h : LMK W F b a) (ok : a.now.Ok) (hn : a.hist.length ≤ 9000) (e : Entry) : Calls Tryz.prog 156 #[vp b, .agg e.cells] W fun r w' => r = .returned (vi (a.append e).1) ∧ LMK w' (grow F W) b (a.append e).2 ∧ ModP F W w' := by
  have hlast := fun w' (m : Mod [] W w') => c154 (h.frame (G := fun _ => False) m.toP0 (fun _ _ f => f)) (by have := ok.n6; omega) ok.b0 (by have := ok.lm; omega)
  have Hh := hidIt h
  obtain ⟨bs, bm, hv, bks, h⟩ := h
  have hst := fun w' m => h.stepAt { a.now with ents := a.now.ents ++ [e] } hn (w' := w') m
  obtain ⟨u, hu, i1, i2, ne⟩ := h.open
  clear h
  subst hu
  rw [Lg.app_r] at hst
  simp only [World.put_put_same] at hst
  have Hst := hidIt hst
  have Hlast := hidIt hlast
  clear hlast hst
  obtain ⟨et, ed⟩ := e
  by_cases he : entOK ⟨et, ed⟩ = true
  · obtain ⟨e0, e1, e2⟩ : 0 ≤ et ∧ et ≤ 72057594037927936 ∧ ed.length ≤ 24 := of_decide_eq_true he
    have e2' : (ed.length : Int) ≤ 24 := by omega
    by_cases h6 : 6 ≤ a.now.ents.length
    · have hk : Hid (a.append ⟨et, ed⟩ = (6, a)) := by unfold Hid AL.append; rw [if_pos he, if_pos (.inl h6)]
      have h6' : (6 : Int) ≤ a.now.ents.length := by omega
      clear he e2 ok
      unfold Lg.r at Hlast Hst Hh ⊢
      go_enter Tryz.func156, Tryz.ntmps156
      go_wp2_with fail
      go_ret
      rw [hk.out]
      exact ⟨rfl, (Hh.out.frame (G := fun _ => False) (by repeat (first | assumption | exact ModP.refl _ _ | refine ModP.fromPut ?_ (by assumption) | apply ModP.alloc | apply ModP.drew | apply ModP.drewN | refine ModP.put ?_ (by first | (left; assumption) | (left; rfl) | (right; simp only [World.inB, World.size_put] at *; omega)) _ _)) (fun _ _ f => f)).mono fun _ => .inl, (by repeat (first | assumption | exact ModP.refl _ _ | refine ModP.fromPut ?_ (by assumption) | apply ModP.alloc | apply ModP.drew | apply ModP.drewN | refine ModP.put ?_ (by first | (left; assumption) | (left; rfl) | (right; simp only [World.inB, World.size_put] at *; omega)) _ _))⟩
    have h6' : (a.now.ents.length : Int) < 6 := by omega
    by_cases hm : maxT ≤ a.now.last
    · have hk : Hid (a.append ⟨et, ed⟩ = (6, a)) := by unfold Hid AL.append; rw [if_pos he, if_pos (.inr hm)]
      unfold maxT at hm
      clear he e2 ok h6
      unfold Lg.r at Hlast Hst Hh ⊢
      go_enter Tryz.func156, Tryz.ntmps156
      go_wp2_with (go_at_call 154; refine (Hlast.out _ (by repeat (first | exact Mod.refl _ _ | apply Mod.alloc | apply Mod.drew | apply Mod.drewN))).mono ?_; rintro _ _ ⟨rfl, m, rfl⟩)
      go_ret
      rw [hk.out]
      exact ⟨rfl, (Hh.out.frame (G := fun _ => False) (by repeat (first | assumption | exact ModP.refl _ _ | refine ModP.fromPut ?_ (by assumption) | apply ModP.alloc | apply ModP.drew | apply ModP.drewN | refine ModP.put ?_ (by first | (left; assumption) | (left; rfl) | (right; simp only [World.inB, World.size_put] at *; omega)) _ _)) (fun _ _ f => f)).mono fun _ => .inl, (by repeat (first | assumption | exact ModP.refl _ _ | refine ModP.fromPut ?_ (by assumption) | apply ModP.alloc | apply ModP.drew | apply ModP.drewN | refine ModP.put ?_ (by first | (left; assumption) | (left; rfl) | (right; simp only [World.inB, World.size_put] at *; omega)) _ _))⟩
    · have hk : Hid (a.append ⟨et, ed⟩ = (0, a.to { a.now with ents := a.now.ents ++ [⟨et, ed⟩] })) := by unfold Hid AL.append; rw [if_pos he, if_neg (by omega)]
      have hm' : a.now.last < maxT := by omega
      unfold maxT at hm'
      have n6 : a.now.ents.length < 6 := by omega
      clear he e2 ok h6 hm
      unfold Lg.r at Hlast Hh Hst ⊢
      generalize hx : a.now.ents.length = n at *
      clear hx
      go_enter Tryz.func156, Tryz.ntmps156
      go_wp2_with (go_at_call 154; refine (Hlast.out _ (by repeat (first | exact Mod.refl _ _ | apply Mod.alloc | apply Mod.drew | apply Mod.drewN))).mono ?_; rintro _ _ ⟨rfl, m, rfl⟩)
      refine Ord.region1 [] [0, 1, 2, 3, 4, 5, 6, 7, 8, 9, 10, 11, 12, 13, 14] [15] (by kernel_rfl) (by kernel_rfl) (fun _ _ d _ _ h => by cases d <;> exact h) ?_
      simp only [Ord.pickO, Ord.nth]
      refine wpQuiet_nil ?_
      repeat (go_big_quiet_step (fail))
      refine wpQuiet_nil ?_
      go_wp2_with (go_at_call 221; refine (Hst.out _ (by repeat (first | assumption | exact ModP.refl _ _ | refine ModP.fromPut ?_ (by assumption) | apply ModP.alloc | apply ModP.drew | apply ModP.drewN | refine ModP.put ?_ (by first | (left; assumption) | (left; rfl) | (right; simp only [World.inB, World.size_put] at *; omega)) _ _))).mono ?_; rintro _ _ ⟨rfl, hK, hM⟩)
      go_ret
      rw [hk.out]
      exact ⟨rfl, hK, hM⟩
  · have hk : Hid (a.append ⟨et, ed⟩ = (4, a)) := by unfold Hid AL.append; rw [if_neg he]
    have hk2 : Hid (¬ (0 ≤ et ∧ et ≤ 72057594037927936 ∧ (ed.length : Int) ≤ 24)) := by
      unfold Hid; intro hh; apply he; exact decide_eq_true (show 0 ≤ et ∧ et ≤ maxT ∧ ed.length ≤ 24 from ⟨hh.1, hh.2.1, by omega⟩)
    clear he ok
    unfold Lg.r at Hlast Hst Hh ⊢
    go_enter Tryz.func156, Tryz.ntmps156
    go_wp2_with fail
    all_goals first
      | (exfalso; have := hk2.out; omega)
      | (go_ret; rw [hk.out]; exact ⟨rfl, (Hh.out.frame (G := fun _ => False) (by repeat (first | assumption | exact ModP.refl _ _ | refine ModP.fromPut ?_ (by assumption) | apply ModP.alloc | apply ModP.drew | apply ModP.drewN | refine ModP.put ?_ (by first | (left; assumption) | (left; rfl) | (right; simp only [World.inB, World.size_put] at *; omega)) _ _)) (fun _ _ f => f)).mono fun _ => .inl, (by repeat (first | assumption | exact ModP.refl _ _ | refine ModP.fromPut ?_ (by assumption) | apply ModP.alloc | apply ModP.drew | apply ModP.drewN | refine ModP.put ?_ (by first | (left; assumption) | (left; rfl) | (right; simp only [World.inB, World.size_put] at *; omega)) _ _))⟩)
theorem c256 (h : LMK W F b a) (hn : a.hist.length ≤ 9000) (n : Nat) (h1 : a.now.ents.length = n + 1) (n6 : n < 6) : Calls Tryz.prog 256 #[vp b] W fun r w' => r = .returned (.tuple #[]) ∧ LMK w' (grow F W) b a.pop ∧ ModP F W w' := by
  obtain ⟨bs, bm, hv, bks, h⟩ := h
  have hst := fun w' m => h.stepAt { a.now with ents := a.now.ents.dropLast } hn (w' := w') m
  obtain ⟨u, hu, i1, i2, ne⟩ := h.open
  clear h
  subst hu
  rw [Lg.pop_r _ n h1] at hst
  simp only [World.put_put_same] at hst
  have Hst := hidIt hst
  clear hst
  unfold Lg.r zEnt at *
  rw [h1] at *
  clear h1
  go_enter Tryz.func256, Tryz.ntmps256
  go_wp2_with fail
  refine Ord.region1 [] [0, 1, 2, 3, 4, 5, 6, 7, 8, 9, 10, 11, 12, 13, 14] [15] (by kernel_rfl) (by kernel_rfl) (fun _ _ d _ _ h => by cases d <;> exact h) ?_
  simp only [Ord.pickO, Ord.nth]
  refine wpQuiet_nil ?_
  repeat (go_big_quiet_step (fail))
  refine wpQuiet_nil ?_
  go_wp2_with (go_at_call 221; refine (Hst.out _ (by repeat (first | assumption | exact ModP.refl _ _ | refine ModP.fromPut ?_ (by assumption) | apply ModP.alloc | apply ModP.drew | apply ModP.drewN | refine ModP.put ?_ (by first | (left; assumption) | (left; rfl) | (right; simp only [World.inB, World.size_put] at *; omega)) _ _))).mono ?_; rintro _ _ ⟨rfl, hK, hM⟩)
  go_end0
  exact ⟨rfl, hK, hM⟩
end
end Go.Proofs.Qxb6500990aGreat
