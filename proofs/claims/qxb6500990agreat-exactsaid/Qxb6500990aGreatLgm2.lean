/- package rlogm: the state's copy, step, the observers -/
import Derived.Test.Qxb6500990aGreatLgm
set_option linter.unusedVariables false
set_option linter.unusedSimpArgs false
namespace Go.Proofs.Qxb6500990aGreat
open Go Go.RowKit Go.Tw
attribute [local go_sem] World.cell?_put_same World.cell?_put_ne World.cell?_put_ne' World.frozen?_put_same World.frozen?_put_ne World.frozen?_put_ne' World.setCell_put_same World.setCell_put_ne World.setCell_put_ne' World.inB_put World.inB_alloc World.inB_drew World.inB_drewN World.inB_new World.inB_setCell World.put_drew World.put_drewN World.q_setCell_drew World.q_setCell_drewN World.q_alloc_drew World.q_alloc_drewN World.put_put_same World.put_put_2 World.size_put World.q_cell?_alloc_old World.q_frozen?_alloc_old World.cell?_alloc_new' World.frozen?_alloc_new' World.q_setCell_alloc_old World.q_setCell_alloc_new World.q_put_alloc_old StateM.g0 StateM.s0 StateM.g1 StateM.s1 StateM.g2 StateM.s2 StateM.g3 StateM.s3 StateM.g4 StateM.s4 StateM.g5 StateM.s5 StateM.g6 StateM.s6 StateM.g7 StateM.s7 StateM.g8 StateM.s8 StateM.g9 StateM.s9 StateM.g10 StateM.s10 StateM.g11 StateM.s11 StateM.g12 StateM.s12 StateM.g13 StateM.s13 StateM.g14 StateM.s14 StateM.g15 StateM.s15 StateM.g16 StateM.s16 StateM.g17 StateM.s17 StateM.gi_ents_0 StateM.si_ents_0 StateM.gi_ents_1 StateM.si_ents_1 LogM.g0 LogM.s0 LogM.g1 LogM.s1 LogM.g2 LogM.s2 Entry.g0 Entry.s0 Entry.g1 Entry.s1
attribute [local go_sem] ba_get
set_option maxHeartbeats 1000000
set_option maxRecDepth 100000
theorem c126 {W : World} {b : Nat} {e : StateM} (h : W.At b e.cells 248) : Calls Tryz.prog 126 #[vp b] W fun r w' => r = .returned (vp W.heap.size) ∧ Dr (W.alloc (.cells e.cells 248 (0, 0))) w' := by
  obtain ⟨w, rfl, hb⟩ := h.door
  clear h
  go_enter Tryz.func126, Tryz.ntmps126
  go_wp2_with fail
  refine Ord.region1 [] [0, 1, 2, 3, 4, 5, 6, 7, 8, 9, 10, 11, 12, 13, 14, 15, 16, 17, 18, 19, 20, 21, 22, 23, 24] [25, 26] (by kernel_rfl) (by kernel_rfl) (fun _ _ d _ _ h => by cases d <;> exact h) ?_
  simp only [Ord.pickO, Ord.nth]
  refine wpQuiet_nil ?_
  repeat (go_big_quiet_step (fail))
  refine wpQuiet_nil ?_
  go_wp2_with fail
  go_ret
  exact ⟨by simp [World.size_put], (by repeat (first | exact Dr.refl _ | apply Dr.drew | apply Dr.drewN))⟩
end Go.Proofs.Qxb6500990aGreat
namespace Go.Tw
open Go Go.Proofs Go.Proofs.Qxb6500990aGreat Go.RowKit
theorem rk213 : RowK 213 212 1 8 := ⟨by kernel_rfl, ⟨(Tryz.prog.info? 212).getD default, .pointer none, by kernel_rfl, by kernel_rfl, by kernel_rfl, by kernel_rfl, by kernel_rfl⟩, by decide⟩
theorem LMp.open {W : World} {F : Nat → Prop} {b bs bm : Nat} {hv : Value} {bks : List Nat} {a : AL} (h : LMp W F b bs bm hv bks a) :
    ∃ u : World, W = (u.put b (LogM.cells ⟨vp bs, vp bm, hv⟩) 215).put bs a.now.r.cells 248 ∧ u.inB b ∧ u.inB bs ∧ b ≠ bs := by
  have hne := At.neT h.hb h.hs (by decide)
  obtain ⟨u, hu, h1, h2⟩ := open2 h.hb h.hs hne
  exact ⟨u, hu, h1, h2, hne⟩
end Go.Tw
namespace Go.Proofs.Qxb6500990aGreat
open Go Go.RowKit Go.Tw
attribute [local go_sem] World.cell?_put_same World.cell?_put_ne World.cell?_put_ne' World.frozen?_put_same World.frozen?_put_ne World.frozen?_put_ne' World.setCell_put_same World.setCell_put_ne World.setCell_put_ne' World.inB_put World.inB_alloc World.inB_drew World.inB_drewN World.inB_new World.inB_setCell World.put_drew World.put_drewN World.q_setCell_drew World.q_setCell_drewN World.q_alloc_drew World.q_alloc_drewN World.put_put_same World.put_put_2 World.size_put World.q_cell?_alloc_old World.q_frozen?_alloc_old World.cell?_alloc_new' World.frozen?_alloc_new' World.q_setCell_alloc_old World.q_setCell_alloc_new World.q_put_alloc_old StateM.g0 StateM.s0 StateM.g1 StateM.s1 StateM.g2 StateM.s2 StateM.g3 StateM.s3 StateM.g4 StateM.s4 StateM.g5 StateM.s5 StateM.g6 StateM.s6 StateM.g7 StateM.s7 StateM.g8 StateM.s8 StateM.g9 StateM.s9 StateM.g10 StateM.s10 StateM.g11 StateM.s11 StateM.g12 StateM.s12 StateM.g13 StateM.s13 StateM.g14 StateM.s14 StateM.g15 StateM.s15 StateM.g16 StateM.s16 StateM.g17 StateM.s17 StateM.gi_ents_0 StateM.si_ents_0 StateM.gi_ents_1 StateM.si_ents_1 LogM.g0 LogM.s0 LogM.g1 LogM.s1 LogM.g2 LogM.s2 Entry.g0 Entry.s0 Entry.g1 Entry.s1
attribute [local go_sem] ba_get
set_option maxHeartbeats 1000000
set_option maxRecDepth 100000
section
variable {W : World} {F : Nat → Prop} {b : Nat} {a : AL}
theorem c127 (h : LMK W F b a) : Calls Tryz.prog 127 #[vp b] W fun r w' => r = .returned (vi a.now.term) ∧ w' = W := by
  obtain ⟨bs, bm, hv, bks, h⟩ := h
  obtain ⟨u, rfl, i1, i2, ne⟩ := h.open
  clear h
  unfold Lg.r
  go_enter Tryz.func127, Tryz.ntmps127
  go_wp2
  go_ret
  exact ⟨rfl, rfl⟩
theorem c128 (h : LMK W F b a) : Calls Tryz.prog 128 #[vp b] W fun r w' => r = .returned (vi a.now.vote) ∧ w' = W := by
  obtain ⟨bs, bm, hv, bks, h⟩ := h
  obtain ⟨u, rfl, i1, i2, ne⟩ := h.open
  clear h
  unfold Lg.r
  go_enter Tryz.func128, Tryz.ntmps128
  go_wp2
  go_ret
  exact ⟨rfl, rfl⟩
theorem c130 (h : LMK W F b a) : Calls Tryz.prog 130 #[vp b] W fun r w' => r = .returned (vi a.now.base) ∧ w' = W := by
  obtain ⟨bs, bm, hv, bks, h⟩ := h
  obtain ⟨u, rfl, i1, i2, ne⟩ := h.open
  clear h
  unfold Lg.r
  go_enter Tryz.func130, Tryz.ntmps130
  go_wp2
  go_ret
  exact ⟨rfl, rfl⟩
theorem c153 (h : LMK W F b a) : Calls Tryz.prog 153 #[vp b] W fun r w' => r = .returned (vi a.now.baseTerm) ∧ w' = W := by
  obtain ⟨bs, bm, hv, bks, h⟩ := h
  obtain ⟨u, rfl, i1, i2, ne⟩ := h.open
  clear h
  unfold Lg.r
  go_enter Tryz.func153, Tryz.ntmps153
  go_wp2
  go_ret
  exact ⟨rfl, rfl⟩
theorem c155 (h : LMK W F b a) : Calls Tryz.prog 155 #[vp b] W fun r w' => r = .returned (vs a.now.snap) ∧ w' = W := by
  obtain ⟨bs, bm, hv, bks, h⟩ := h
  obtain ⟨u, rfl, i1, i2, ne⟩ := h.open
  clear h
  unfold Lg.r
  go_enter Tryz.func155, Tryz.ntmps155
  go_wp2
  go_ret
  exact ⟨rfl, rfl⟩
theorem c154 (h : LMK W F b a) (hn : a.now.ents.length ≤ 1000) (b0 : 0 ≤ a.now.base) (b1 : a.now.base ≤ maxT) : Calls Tryz.prog 154 #[vp b] W fun r w' => r = .returned (vi a.now.last) ∧ Dr W w' := by
  obtain ⟨bs, bm, hv, bks, h⟩ := h
  obtain ⟨u, rfl, i1, i2, ne⟩ := h.open
  clear h
  unfold Lg.r Lg.last
  unfold maxT at b1
  have hn' : ((a.now.ents.length : Nat) : Int) ≤ 1000 := by omega
  have hn0 : 0 ≤ ((a.now.ents.length : Nat) : Int) := by omega
  generalize ((a.now.ents.length : Nat) : Int) = n at *
  go_enter Tryz.func154, Tryz.ntmps154
  go_wp2_with fail
  refine Ord.region1 [] [0, 1, 2, 3, 4, 5, 6, 7, 8, 9, 10, 11, 12, 13, 14] [15] (by kernel_rfl) (by kernel_rfl) (fun _ _ d _ _ h => by cases d <;> exact h) ?_
  simp only [Ord.pickO, Ord.nth]
  refine wpQuiet_nil ?_
  repeat (go_big_quiet_step (fail))
  refine wpQuiet_nil ?_
  go_wp2_with fail
  go_ret
  exact ⟨rfl, (by repeat (first | exact Dr.refl _ | apply Dr.drew | apply Dr.drewN))⟩
theorem c72 (h : LMK W F b a) : Calls Tryz.prog 72 #[vp b] W fun r w' => r = .returned (vi a.hist.length) ∧ w' = W := by
  obtain ⟨bs, bm, hv, bks, h⟩ := h
  obtain ⟨ad, cap, rfl, -⟩ := ownsRow_form h.hr
  obtain ⟨u, rfl, i1, i2, ne⟩ := h.open
  clear h
  unfold Lg.r
  go_enter Tryz.func72, Tryz.ntmps72
  go_wp2
  go_ret
  exact ⟨rfl, rfl⟩
theorem c221 (h : LMK W F b a) (hn : a.hist.length ≤ 9000) : Calls Tryz.prog 221 #[vp b] W fun r w' => r = .returned (.tuple #[]) ∧ LMK w' (grow F W) b a.step ∧ ModP F W w' := by
  obtain ⟨bs, bm, hv, bks, h⟩ := h
  have Hh := hidIt h
  have hcl := hidIt (c126 h.hs)
  have hb := h.hb
  clear h
  obtain ⟨w, hw, ib⟩ := hb.door
  subst hw
  clear hb
  go_enter Tryz.func221, Tryz.ntmps221
  go_wp2_with (first
    | (go_at_call 126; refine hcl.out.mono ?_; rintro _ _ ⟨rfl, m, rfl⟩)
    | (at_builtin
       refine wp_app rk213 (v := hv) (n := a.hist.length) (xs := bks.map vp) (B := 0) rfl _ _ rfl [vp w.heap.size] rfl rfl (by repeat (first | assumption | exact World.At_alloc_new | exact at_new (by first | rfl | (simp [World.size_put]; done) | (simp [World.size_put]; omega)) | refine World.At.alloc ?_ _ | refine World.At_drew.2 ?_ | refine (World.At_drewN _).2 ?_ | exact World.At_put_same (by first | assumption | (simp only [World.inB, World.size_put, World.alloc, World.drew, World.drewN, Array.size_push] at *; omega)) | refine (World.At_put_ne' (by first | assumption | (exact Ne.symm (by assumption)) | (simp only [World.inB, World.size_put] at *; omega))).2 ?_)) rfl (by simp [Value.oneCell']) (ownsRow_alloc (ownsRow_alloc Hh.out.hr _) _) (Nat.zero_le _) (by unfold maxLen; omega) (by omega) ?_
       intro g' cap y1 o1 m1 oc1 ol1
       have mp : ModP (fun k => hv.ownBlock = some k) _ y1 := m1.toP (fun x hx => Option.mem_toList.1 hx)
       have mm : ModP (fun k => hv.ownBlock = some k) (w.put b (LogM.cells ⟨vp bs, vp bm, hv⟩) 215) y1 := ModP.trans (by repeat (first | assumption | exact ModP.refl _ _ | refine ModP.fromPut ?_ (by assumption) | apply ModP.alloc | apply ModP.drew | apply ModP.drewN | refine ModP.put ?_ (by first | (left; assumption) | (left; rfl) | (right; simp only [World.inB, World.size_put] at *; omega)) _ _)) mp
       have hb1 := mm.at Hh.out.hb (fun e => ownsRow_neT Hh.out.hr Hh.out.hb (by decide) e rfl)
       have hg1 := mp.at (b := w.heap.size) (c := a.now.r.cells) (T := 248) (by repeat (first | assumption | exact World.At_alloc_new | exact at_new (by first | rfl | (simp [World.size_put]; done) | (simp [World.size_put]; omega)) | refine World.At.alloc ?_ _ | refine World.At_drew.2 ?_ | refine (World.At_drewN _).2 ?_ | exact World.At_put_same (by first | assumption | (simp only [World.inB, World.size_put, World.alloc, World.drew, World.drewN, Array.size_push] at *; omega)) | refine (World.At_put_ne' (by first | assumption | (exact Ne.symm (by assumption)) | (simp only [World.inB, World.size_put] at *; omega))).2 ?_)) (fun e => by have := (ownsRow_block Hh.out.hr e).1; rw [World.size_put] at this; omega)
       have H1 := hidIt mm
       have H2 := hidIt o1
       have H3 := hidIt hg1
       have H4 := hidIt oc1
       have H5 := hidIt ol1
       clear mp mm m1 o1 hg1 oc1 ol1
       obtain ⟨y, rfl, iy⟩ := hb1.door
       clear hb1))
  go_end0
  have Fv : ∀ k, hv.ownBlock = some k → F k := Hh.out.fv
  have N48 : ∀ {k c}, (w.put b (LogM.cells ⟨vp bs, vp bm, hv⟩) 215).At k c 248 → ¬ hv.ownBlock = some k := fun h e => ownsRow_neT Hh.out.hr h (by decide) e rfl
  have h1 := H1.out
  have ne := At.neT Hh.out.hb Hh.out.hs (by decide)
  have hgb : g' ≠ b := by
    intro e
    rcases H4.out with h | h
    · exact ownsRow_neT Hh.out.hr Hh.out.hb (by decide) h e.symm
    · have : b < w.heap.size := ib
      simp [World.size_put] at h
      omega
  have hs1 := h1.at Hh.out.hs (N48 Hh.out.hs)
  have hm1 := h1.at Hh.out.hm (N48 Hh.out.hm)
  have nmb := At.neT Hh.out.hb Hh.out.hm (by decide)
  rw [World.At_put_ne' (Ne.symm ne)] at hs1
  rw [World.At_put_ne' (Ne.symm nmb)] at hm1
  have ho : y.ownsRow 0 212 1 _ _ _ := ownsRow_unput H2.out (fun g hg => by simp [Value.ownBlock] at hg; omega)
  have hlt : b < w.heap.size := ib
  have hlb : bks.length = a.hist.length := by have := Hh.out.hr.1; simpa using this
  refine ⟨rfl, ⟨bs, bm, _, bks ++ [w.heap.size], World.At_put_same iy, (World.At_put_ne' (Ne.symm ne)).2 hs1, (World.At_put_ne' (Ne.symm nmb)).2 hm1, ?_, ?_, .inl Hh.out.fb, .inl Hh.out.fs, .inl Hh.out.fm, Hh.out.nm, ?_⟩, ?_⟩
  · simp only [AL.step, List.length_append, List.length_cons, List.length_nil, List.map_append, List.map_cons, List.map_nil]
    exact ownsRow_put ho (fun g hg => by simp [Value.ownBlock] at hg; omega)
  · intro j g hg
    by_cases hj : j < bks.length
    · rw [List.getElem?_append_left hj] at hg
      obtain ⟨p1, p2, p3⟩ := Hh.out.hh j g hg
      have p4 := h1.at p1 (N48 p1)
      have p5 := At.neT Hh.out.hb p1 (by decide)
      refine ⟨?_, .inl p2, p3⟩
      rw [World.At_put_ne' (Ne.symm p5)] at p4 ⊢
      simpa [AL.step, List.getElem?_append_left (show j < a.hist.length by omega)] using p4
    · rw [List.getElem?_append_right (by omega)] at hg
      have hj0 : j = bks.length := by
        rcases Nat.lt_or_ge 0 (j - bks.length) with h | h
        · rw [List.getElem?_eq_none (by simp; omega)] at hg; cases hg
        · omega
      subst hj0
      simp at hg
      subst hg
      refine ⟨?_, .inr (by rw [World.size_put]; omega), fun e => by have := Hh.out.hs.inB; rw [← e] at this; simp [World.inB, World.size_put] at this⟩
      have := H3.out
      rw [World.At_put_ne' (show w.heap.size ≠ b by omega)] at this ⊢
      simpa [AL.step, hlb] using this
  · intro g hg
    have : g' = g := by simpa [Value.ownBlock] using hg
    subst this
    rcases H4.out with h | h
    · exact .inl (Fv _ h)
    · exact .inr (by simp [World.size_put] at h ⊢; omega)
  · have := (h1.mono Fv).put (.inl Hh.out.fb) (LogM.cells ⟨vp bs, vp bm, .slice (some ⟨g', 0, none⟩) (a.hist.length + 1) cap⟩) 215
    rwa [World.put_put_same] at this
end
end Go.Proofs.Qxb6500990aGreat
