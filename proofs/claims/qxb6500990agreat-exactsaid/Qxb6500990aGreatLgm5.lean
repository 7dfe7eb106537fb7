/- package rlogm: Install; New, Mark, After -/
import Derived.Test.Qxb6500990aGreatLgm4
set_option linter.unusedVariables false
set_option linter.unusedSimpArgs false
namespace Go.Proofs.Qxb6500990aGreat
open Go Go.RowKit Go.Tw
attribute [local go_sem] World.cell?_put_same World.cell?_put_ne World.cell?_put_ne' World.frozen?_put_same World.frozen?_put_ne World.frozen?_put_ne' World.setCell_put_same World.setCell_put_ne World.setCell_put_ne' World.inB_put World.inB_alloc World.inB_drew World.inB_drewN World.inB_new World.inB_setCell World.put_drew World.put_drewN World.q_setCell_drew World.q_setCell_drewN World.q_alloc_drew World.q_alloc_drewN World.put_put_same World.put_put_2 World.size_put World.q_cell?_alloc_old World.q_frozen?_alloc_old World.cell?_alloc_new' World.frozen?_alloc_new' World.q_setCell_alloc_old World.q_setCell_alloc_new World.q_put_alloc_old StateM.g0 StateM.s0 StateM.g1 StateM.s1 StateM.g2 StateM.s2 StateM.g3 StateM.s3 StateM.g4 StateM.s4 StateM.g5 StateM.s5 StateM.g6 StateM.s6 StateM.g7 StateM.s7 StateM.g8 StateM.s8 StateM.g9 StateM.s9 StateM.g10 StateM.s10 StateM.g11 StateM.s11 StateM.g12 StateM.s12 StateM.g13 StateM.s13 StateM.g14 StateM.s14 StateM.g15 StateM.s15 StateM.g16 StateM.s16 StateM.g17 StateM.s17 StateM.gi_ents_0 StateM.si_ents_0 StateM.gi_ents_1 StateM.si_ents_1 LogM.g0 LogM.s0 LogM.g1 LogM.s1 LogM.g2 LogM.s2 Entry.g0 Entry.s0 Entry.g1 Entry.s1
attribute [local go_sem] StateM.gia_ents_1 StateM.sia_ents_1
attribute [local go_sem] ba_get upd_same upd_upd
set_option maxHeartbeats 1000000
set_option maxRecDepth 100000
section
variable {W : World} {F : Nat → Prop} {b : Nat} {a : AL}
theorem c209 (h : LMK W F b a) (ok : a.now.Ok) (hn : a.hist.length ≤ 8000) (idx t : Int) (sn : Bs) : Calls Tryz.prog 209 #[vp b, vi idx, vi t, vs sn] W fun r w' => r = .returned (vi (a.install idx t sn).1) ∧ LMK w' (grow F W) b (a.install idx t sn).2 ∧ ModP F W w' := by
  have Hh := hidIt h
  have hta := hidIt (c203 h ok idx)
  by_cases h0 : ¬ (0 ≤ idx ∧ idx ≤ maxT ∧ 0 ≤ t ∧ t ≤ maxT)
  · have hk : Hid (a.install idx t sn = (1, a)) := by unfold Hid AL.install; rw [if_pos h0]
    have hk2 := hidIt h0
    clear h ok h0
    go_enter Tryz.func209, Tryz.ntmps209
    go_wp2_with fail
    all_goals first
      | (exfalso; have := hk2.out; unfold maxT at this; omega)
      | (go_ret; rw [hk.out]; exact ⟨rfl, Hh.out.mono fun _ => .inl, ModP.refl _ _⟩)
  obtain ⟨i0, i1, t0, t1⟩ := Decidable.of_not_not h0
  unfold maxT at i1 t1
  by_cases h1 : 128 < sn.length
  · have hk : Hid (a.install idx t sn = (5, a)) := by unfold Hid AL.install; rw [if_neg h0, if_pos h1]
    have h1' : (128 : Int) < sn.length := by omega
    clear h ok h1 h0
    go_enter Tryz.func209, Tryz.ntmps209
    go_wp2_with fail
    go_ret
    rw [hk.out]
    exact ⟨rfl, Hh.out.mono fun _ => .inl, ModP.refl _ _⟩
  have h1' : (sn.length : Int) ≤ 128 := by omega
  by_cases h2 : idx ≤ a.now.base
  · have hk : Hid (a.install idx t sn = (7, a)) := by unfold Hid AL.install; rw [if_neg h0, if_neg h1, if_pos h2]
    obtain ⟨bs, bm, hv, bks, h⟩ := h
    have hc1 := h.hb.cell
    have hc2 := h.hs.cell
    unfold Lg.r at hc2
    clear h ok h1 h0
    go_enter Tryz.func209, Tryz.ntmps209
    go_wp2_with fail
    go_ret
    rw [hk.out]
    exact ⟨rfl, Hh.out.mono fun _ => .inl, ModP.refl _ _⟩
  by_cases h3 : a.now.termAt idx = (t, 0)
  · have hk : Hid (a.install idx t sn = (0, a.rebase idx t sn)) := by unfold Hid AL.install; rw [if_neg h0, if_neg h1, if_neg h2, if_pos h3]
    have hle : idx ≤ a.now.last := by
      unfold Lg.termAt Lg.at_ at h3
      rw [if_neg (by omega), if_neg h2] at h3
      by_cases hl : a.now.last < idx
      · rw [if_pos hl] at h3; simp at h3
      · omega
    have hreb := hidIt (fun w' (m : ModP (fun _ => False) W w') => c255 (h.frame m (fun _ _ f => f)) (by omega) ok.n6 ok.b0 (by have := ok.lm; omega) (idx - a.now.base).toNat (by unfold Lg.last at hle; omega) idx t (by omega) sn)
    obtain ⟨bs, bm, hv, bks, h⟩ := h
    have hc1 := h.hb.cell
    have hc2 := h.hs.cell
    unfold Lg.r at hc2
    rw [h3] at hta
    clear h ok h1 h0 h3 hle
    go_enter Tryz.func209, Tryz.ntmps209
    go_wp2_with (first
      | (go_at_call 203; refine hta.out.mono ?_; rintro _ w2 ⟨rfl, m2⟩; have m3 : ModP (fun _ => False) W w2 := m2.toP0; clear m2)
      | (go_at_call 255; refine (hreb.out _ m3).mono ?_; rintro _ w4 ⟨rfl, k1, k2⟩))
    go_ret
    rw [hk.out]
    exact ⟨rfl, k1.mono (fun x hx => grow_mono m3.size hx), (m3.mono (fun _ f => f.elim)).trans k2⟩
  · obtain ⟨N, hN⟩ : ∃ N : Nat, N = a.now.ents.length := ⟨_, rfl⟩
    have hk : Hid (a.install idx t sn = (0, (a.popN N).to { (a.popN N).now with base := idx, baseTerm := t, snap := sn })) := by unfold Hid AL.install; rw [if_neg h0, if_neg h1, if_neg h2, if_neg h3, hN]
    have HN := hidIt hN
    have N6 : N ≤ 6 := by have := ok.n6; omega
    clear hN
    obtain ⟨bs, bm, hv, bks, h⟩ := h
    have hc1 := h.hb.cell
    have hc2 := h.hs.cell
    unfold Lg.r at hc2
    obtain ⟨x, y⟩ : ∃ x y, (x, y) = a.now.termAt idx := ⟨_, _, rfl⟩
    obtain ⟨ta, hta'⟩ : ∃ ta, ta = a.now.termAt idx := ⟨_, rfl⟩
    rw [← hta'] at hta h3
    obtain ⟨t', e'⟩ := ta
    have Hok := hidIt ok
    clear h ok h1 h0 x y hta'
    have main : ∀ (w2 : World), ModP (fun _ => False) W w2 → Hid (LMK w2 (grow F W) b (a.popN (N - N)) ∧ ModP F W w2) := fun w2 m => by
      rw [Nat.sub_self]; exact ⟨(Hh.out.frame m (fun _ _ f => f)).mono (fun _ => .inl), m.mono (fun _ f => f.elim)⟩
    have Main := hidIt main
    clear main
    by_cases h4 : e' = 0
    · by_cases h5 : t' = t
      · exact absurd (by rw [h4, h5]) h3
      · clear h3
        have h5' : (t' == t) = false := by simpa using h5
        go_enter Tryz.func209, Tryz.ntmps209
        go_wp2_with (first
          | (go_at_call 203; refine hta.out.mono ?_; rintro _ w2 ⟨rfl, m2⟩; have m3 := Main.out _ m2.toP0; clear m2))
        go_loopw [] (fun v => ∃ k, k ≤ N ∧ Hid (LMK v (grow F W) b (a.popN (N - k)) ∧ ModP F W v)) (fun v => least (fun k => k ≤ N ∧ Hid (LMK v (grow F W) b (a.popN (N - k)) ∧ ModP F W v)))
        case atStart => exact ⟨N, Nat.le_refl _, m3⟩
        case round =>
          have hP := least_spec hrel
          clear hrel m3 hc1 hc2
          generalize least _ = k at *
          obtain ⟨hkK, hL⟩ := hP
          have hent : (a.popN (N - k)).now.ents.length = k := by rw [AL.popN_now]; have := HN.out; simp; omega
          have okk : (a.popN (N - k)).now.Ok := AL.popN_ok Hok.out _
          obtain ⟨bs, bm, hv, bks, h⟩ := hL.out.1
          cases k with
          | zero =>
            have hst := fun w' m => h.stepAt { (a.popN (N - 0)).now with base := idx, baseTerm := t, snap := sn } (by rw [AL.popN_len]; omega) (w' := w') m
            have hm := hL.out.2
            have hM := hidIt hm
            have hfs := h.fs
            obtain ⟨u, hu, i1, i2, ne⟩ := h.open
            have hsz := hidIt hm.size
            clear h hm hL
            subst hu
            simp only [World.put_put_same] at hst
            have Hst := hidIt hst
            clear hst
            unfold Lg.r at *
            simp only [hent] at *
            rw [show N - 0 = N by omega] at *
            clear okk hent
            go_wp2_with fail
            refine Ord.region1 [13, 14] [0, 1, 2, 3, 4, 5, 6, 7, 8, 9, 10, 11, 12, 15, 16] [17, 18, 19, 20, 21, 22, 23] (by kernel_rfl) (by kernel_rfl) (fun _ _ d _ _ h => by cases d <;> exact h) ?_
            simp only [Ord.pickO, Ord.nth]
            repeat (go_big_quiet_step (fail))
            refine wpQuiet_nil ?_
            repeat (go_big_quiet_step (fail))
            refine wpQuiet_nil ?_
            go_wp2_with (go_at_call 221; refine (Hst.out _ (by repeat (first | assumption | exact ModP.refl _ _ | refine ModP.fromPut ?_ (by assumption) | apply ModP.alloc | apply ModP.drew | apply ModP.drewN | refine ModP.put ?_ (by first | (left; assumption) | (left; rfl) | (right; simp only [World.inB, World.size_put] at *; omega)) _ _))).mono ?_; rintro _ _ ⟨rfl, hK, hMM⟩)
            go_ret
            rw [hk.out]
            exact ⟨rfl, hK.mono (fun x hx => grow_grow hsz.out hx), hM.out.next hMM⟩
          | succ k =>
            have hc1 := h.hb.cell
            have hc2 := h.hs.cell
            unfold Lg.r at hc2
            rw [hent] at hc2
            have hpop := hidIt (c256 hL.out.1 (by rw [AL.popN_len]; omega) k hent (by omega))
            have hs : (a.popN (N - (k + 1))).pop = a.popN (N - k) := by rw [← AL.popN_succ]; congr 1; omega
            rw [hs] at hpop
            have hM := hidIt hL.out.2
            clear h hs hent okk hL
            go_wp2_with (first
              | (go_at_call 256; refine hpop.out.mono ?_; rintro _ w2 ⟨rfl, h1, h2⟩))
            go_roundw
            case rel => exact ⟨k, by omega, h1.mono (fun x hx => grow_grow hM.out.size hx), hM.out.next h2⟩
            case measure => exact Nat.lt_succ_of_le (least_le ⟨by omega, h1.mono (fun x hx => grow_grow hM.out.size hx), hM.out.next h2⟩)
    · clear h3
      have h4' : (e' == 0) = false := by simpa using h4
      go_enter Tryz.func209, Tryz.ntmps209
      go_wp2_with (first
        | (go_at_call 203; refine hta.out.mono ?_; rintro _ w2 ⟨rfl, m2⟩; have m3 := Main.out _ m2.toP0; clear m2))
      go_loopw [] (fun v => ∃ k, k ≤ N ∧ Hid (LMK v (grow F W) b (a.popN (N - k)) ∧ ModP F W v)) (fun v => least (fun k => k ≤ N ∧ Hid (LMK v (grow F W) b (a.popN (N - k)) ∧ ModP F W v)))
      case atStart => exact ⟨N, Nat.le_refl _, m3⟩
      case round =>
        have hP := least_spec hrel
        clear hrel m3 hc1 hc2
        generalize least _ = k at *
        obtain ⟨hkK, hL⟩ := hP
        have hent : (a.popN (N - k)).now.ents.length = k := by rw [AL.popN_now]; have := HN.out; simp; omega
        have okk : (a.popN (N - k)).now.Ok := AL.popN_ok Hok.out _
        obtain ⟨bs, bm, hv, bks, h⟩ := hL.out.1
        cases k with
        | zero =>
          have hst := fun w' m => h.stepAt { (a.popN (N - 0)).now with base := idx, baseTerm := t, snap := sn } (by rw [AL.popN_len]; omega) (w' := w') m
          have hm := hL.out.2
          have hM := hidIt hm
          have hfs := h.fs
          obtain ⟨u, hu, i1, i2, ne⟩ := h.open
          have hsz := hidIt hm.size
          clear h hm hL
          subst hu
          simp only [World.put_put_same] at hst
          have Hst := hidIt hst
          clear hst
          unfold Lg.r at *
          simp only [hent] at *
          rw [show N - 0 = N by omega] at *
          clear okk hent
          go_wp2_with fail
          refine Ord.region1 [13, 14] [0, 1, 2, 3, 4, 5, 6, 7, 8, 9, 10, 11, 12, 15, 16] [17, 18, 19, 20, 21, 22, 23] (by kernel_rfl) (by kernel_rfl) (fun _ _ d _ _ h => by cases d <;> exact h) ?_
          simp only [Ord.pickO, Ord.nth]
          repeat (go_big_quiet_step (fail))
          refine wpQuiet_nil ?_
          repeat (go_big_quiet_step (fail))
          refine wpQuiet_nil ?_
          go_wp2_with (go_at_call 221; refine (Hst.out _ (by repeat (first | assumption | exact ModP.refl _ _ | refine ModP.fromPut ?_ (by assumption) | apply ModP.alloc | apply ModP.drew | apply ModP.drewN | refine ModP.put ?_ (by first | (left; assumption) | (left; rfl) | (right; simp only [World.inB, World.size_put] at *; omega)) _ _))).mono ?_; rintro _ _ ⟨rfl, hK, hMM⟩)
          go_ret
          rw [hk.out]
          exact ⟨rfl, hK.mono (fun x hx => grow_grow hsz.out hx), hM.out.next hMM⟩
        | succ k =>
          have hc1 := h.hb.cell
          have hc2 := h.hs.cell
          unfold Lg.r at hc2
          rw [hent] at hc2
          have hpop := hidIt (c256 hL.out.1 (by rw [AL.popN_len]; omega) k hent (by omega))
          have hs : (a.popN (N - (k + 1))).pop = a.popN (N - k) := by rw [← AL.popN_succ]; congr 1; omega
          rw [hs] at hpop
          have hM := hidIt hL.out.2
          clear h hs hent okk hL
          go_wp2_with (first
            | (go_at_call 256; refine hpop.out.mono ?_; rintro _ w2 ⟨rfl, h1, h2⟩))
          go_roundw
          case rel => exact ⟨k, by omega, h1.mono (fun x hx => grow_grow hM.out.size hx), hM.out.next h2⟩
          case measure => exact Nat.lt_succ_of_le (least_le ⟨by omega, h1.mono (fun x hx => grow_grow hM.out.size hx), hM.out.next h2⟩)
theorem c86 (h : LMK W F b a) : Calls Tryz.prog 86 #[vp b] W fun r w' => r = .returned (.tuple #[]) ∧ LMK w' (grow F W) b a.now.al ∧ ModP F W w' := by
  obtain ⟨bs, bm, hv, bks, h⟩ := h
  have Hh := hidIt h
  have hcl := hidIt (c126 h.hs)
  have hb := h.hb
  clear h
  obtain ⟨w, hw, ib⟩ := hb.door
  subst hw
  clear hb
  go_enter Tryz.func86, Tryz.ntmps86
  go_wp2_with (go_at_call 126; refine hcl.out.mono ?_; rintro _ _ ⟨rfl, m, rfl⟩)
  go_end0
  have ne := At.neT Hh.out.hb Hh.out.hs (by decide)
  have hs := Hh.out.hs
  rw [World.At_put_ne' (Ne.symm ne)] at hs
  have hlt : bs < w.heap.size := hs.inB
  have ib' : b < w.heap.size := ib
  refine ⟨rfl, ⟨bs, w.heap.size, _, [], (by repeat (first | assumption | exact World.At_alloc_new | exact at_new (by first | rfl | (simp [World.size_put]; done) | (simp [World.size_put]; omega)) | refine World.At.alloc ?_ _ | refine World.At_drew.2 ?_ | refine (World.At_drewN _).2 ?_ | exact World.At_put_same (by first | assumption | (simp only [World.inB, World.size_put, World.alloc, World.drew, World.drewN, Array.size_push] at *; omega)) | refine (World.At_put_ne' (by first | assumption | (exact Ne.symm (by assumption)) | (simp only [World.inB, World.size_put] at *; omega))).2 ?_)), (by repeat (first | assumption | exact World.At_alloc_new | exact at_new (by first | rfl | (simp [World.size_put]; done) | (simp [World.size_put]; omega)) | refine World.At.alloc ?_ _ | refine World.At_drew.2 ?_ | refine (World.At_drewN _).2 ?_ | exact World.At_put_same (by first | assumption | (simp only [World.inB, World.size_put, World.alloc, World.drew, World.drewN, Array.size_push] at *; omega)) | refine (World.At_put_ne' (by first | assumption | (exact Ne.symm (by assumption)) | (simp only [World.inB, World.size_put] at *; omega))).2 ?_)), (by repeat (first | assumption | exact World.At_alloc_new | exact at_new (by first | rfl | (simp [World.size_put]; done) | (simp [World.size_put]; omega)) | refine World.At.alloc ?_ _ | refine World.At_drew.2 ?_ | refine (World.At_drewN _).2 ?_ | exact World.At_put_same (by first | assumption | (simp only [World.inB, World.size_put, World.alloc, World.drew, World.drewN, Array.size_push] at *; omega)) | refine (World.At_put_ne' (by first | assumption | (exact Ne.symm (by assumption)) | (simp only [World.inB, World.size_put] at *; omega))).2 ?_)), ownsRow_nil _ _ _ _, ?_, .inl Hh.out.fb, .inl Hh.out.fs, .inr (by simp [World.size_put]), by omega, ?_⟩, ?_⟩
  · intro j g hg; simp at hg
  · intro g hg; simp [Value.ownBlock] at hg
  · have fb := Hh.out.fb
    exact (by repeat (first | assumption | exact ModP.refl _ _ | refine ModP.fromPut ?_ (by assumption) | apply ModP.alloc | apply ModP.drew | apply ModP.drewN | refine ModP.put ?_ (by first | (left; assumption) | (left; rfl) | (right; simp only [World.inB, World.size_put] at *; omega)) _ _))
theorem c111 (W : World) : Calls Tryz.prog 111 #[] W fun r w' => ∃ b, r = .returned (vp b) ∧ LMK w' (fun k => W.heap.size ≤ k) b AL.new ∧ ModP (fun _ => False) W w' := by
  have hcl := fun (w' : World) (h : w'.At W.heap.size Lg.new.r.cells 248) => c126 h
  have Hcl := hidIt hcl
  clear hcl
  go_enter Tryz.func111, Tryz.ntmps111
  go_wp2_with (go_at_call 126; refine (Hcl.out _ (by repeat (first | assumption | exact World.At_alloc_new | exact at_new (by first | rfl | (simp [World.size_put]; done) | (simp [World.size_put]; omega)) | refine World.At.alloc ?_ _ | refine World.At_drew.2 ?_ | refine (World.At_drewN _).2 ?_ | exact World.At_put_same (by first | assumption | (simp only [World.inB, World.size_put, World.alloc, World.drew, World.drewN, Array.size_push] at *; omega)) | refine (World.At_put_ne' (by first | assumption | (exact Ne.symm (by assumption)) | (simp only [World.inB, World.size_put] at *; omega))).2 ?_))).mono ?_; rintro _ _ ⟨rfl, m, rfl⟩)
  go_ret
  refine ⟨W.heap.size + 1, rfl, ⟨W.heap.size, W.heap.size + 2, _, [], (by repeat (first | assumption | exact World.At_alloc_new | exact at_new (by first | rfl | (simp [World.size_put]; done) | (simp [World.size_put]; omega)) | refine World.At.alloc ?_ _ | refine World.At_drew.2 ?_ | refine (World.At_drewN _).2 ?_ | exact World.At_put_same (by first | assumption | (simp only [World.inB, World.size_put, World.alloc, World.drew, World.drewN, Array.size_push] at *; omega)) | refine (World.At_put_ne' (by first | assumption | (exact Ne.symm (by assumption)) | (simp only [World.inB, World.size_put] at *; omega))).2 ?_)), (by repeat (first | assumption | exact World.At_alloc_new | exact at_new (by first | rfl | (simp [World.size_put]; done) | (simp [World.size_put]; omega)) | refine World.At.alloc ?_ _ | refine World.At_drew.2 ?_ | refine (World.At_drewN _).2 ?_ | exact World.At_put_same (by first | assumption | (simp only [World.inB, World.size_put, World.alloc, World.drew, World.drewN, Array.size_push] at *; omega)) | refine (World.At_put_ne' (by first | assumption | (exact Ne.symm (by assumption)) | (simp only [World.inB, World.size_put] at *; omega))).2 ?_)), (by repeat (first | assumption | exact World.At_alloc_new | exact at_new (by first | rfl | (simp [World.size_put]; done) | (simp [World.size_put]; omega)) | refine World.At.alloc ?_ _ | refine World.At_drew.2 ?_ | refine (World.At_drewN _).2 ?_ | exact World.At_put_same (by first | assumption | (simp only [World.inB, World.size_put, World.alloc, World.drew, World.drewN, Array.size_push] at *; omega)) | refine (World.At_put_ne' (by first | assumption | (exact Ne.symm (by assumption)) | (simp only [World.inB, World.size_put] at *; omega))).2 ?_)), ownsRow_nil _ _ _ _, ?_, by omega, by omega, by omega, by omega, ?_⟩, (by repeat (first | assumption | exact ModP.refl _ _ | refine ModP.fromPut ?_ (by assumption) | apply ModP.alloc | apply ModP.drew | apply ModP.drewN | refine ModP.put ?_ (by first | (left; assumption) | (left; rfl) | (right; simp only [World.inB, World.size_put] at *; omega)) _ _))⟩
  · intro j g hg; simp at hg
  · intro g hg; simp [Value.ownBlock] at hg
theorem c73 (h : LMK W F b a) (hn : a.hist.length ≤ 9000) (k : Int) : Calls Tryz.prog 73 #[vp b, vi k] W fun r w' => ∃ b', r = .returned (vp b') ∧ LMK w' (fun k => W.heap.size ≤ k) b' (a.after k) ∧ ModP (fun _ => False) W w' := by
  obtain ⟨bs, bm, hv, bks, h⟩ := h
  have hc1 := h.hb.cell
  obtain ⟨ad, cap, rfl, hrow⟩ := ownsRow_form h.hr
  have hcl := hidIt (fun (w' : World) (g : Nat) (s : Lg) (h : w'.At g s.r.cells 248) => c126 h)
  have fin : ∀ (s : Lg) (w' : World), Dr (((W.alloc (.cells (LogM.cells ⟨vp (W.heap.size + 1), vp (W.heap.size + 2), .slice none 0 0⟩) 215 (0, 0))).alloc (.cells s.r.cells 248 (0, 0))).alloc (.cells s.r.cells 248 (0, 0))) w' → LMK w' (fun k => W.heap.size ≤ k) W.heap.size s.al ∧ ModP (fun _ => False) W w' := by
    rintro s _ ⟨m, rfl⟩
    refine ⟨⟨W.heap.size + 1, W.heap.size + 2, _, [], (by repeat (first | assumption | exact World.At_alloc_new | exact at_new (by first | rfl | (simp [World.size_put]; done) | (simp [World.size_put]; omega)) | refine World.At.alloc ?_ _ | refine World.At_drew.2 ?_ | refine (World.At_drewN _).2 ?_ | exact World.At_put_same (by first | assumption | (simp only [World.inB, World.size_put, World.alloc, World.drew, World.drewN, Array.size_push] at *; omega)) | refine (World.At_put_ne' (by first | assumption | (exact Ne.symm (by assumption)) | (simp only [World.inB, World.size_put] at *; omega))).2 ?_)), (by repeat (first | assumption | exact World.At_alloc_new | exact at_new (by first | rfl | (simp [World.size_put]; done) | (simp [World.size_put]; omega)) | refine World.At.alloc ?_ _ | refine World.At_drew.2 ?_ | refine (World.At_drewN _).2 ?_ | exact World.At_put_same (by first | assumption | (simp only [World.inB, World.size_put, World.alloc, World.drew, World.drewN, Array.size_push] at *; omega)) | refine (World.At_put_ne' (by first | assumption | (exact Ne.symm (by assumption)) | (simp only [World.inB, World.size_put] at *; omega))).2 ?_)), (by repeat (first | assumption | exact World.At_alloc_new | exact at_new (by first | rfl | (simp [World.size_put]; done) | (simp [World.size_put]; omega)) | refine World.At.alloc ?_ _ | refine World.At_drew.2 ?_ | refine (World.At_drewN _).2 ?_ | exact World.At_put_same (by first | assumption | (simp only [World.inB, World.size_put, World.alloc, World.drew, World.drewN, Array.size_push] at *; omega)) | refine (World.At_put_ne' (by first | assumption | (exact Ne.symm (by assumption)) | (simp only [World.inB, World.size_put] at *; omega))).2 ?_)), ownsRow_nil _ _ _ _, ?_, by omega, by omega, by omega, by omega, ?_⟩, (by repeat (first | assumption | exact ModP.refl _ _ | refine ModP.fromPut ?_ (by assumption) | apply ModP.alloc | apply ModP.drew | apply ModP.drewN | refine ModP.put ?_ (by first | (left; assumption) | (left; rfl) | (right; simp only [World.inB, World.size_put] at *; omega)) _ _))⟩
    · intro j g hg; simp at hg
    · intro g hg; simp [Value.ownBlock] at hg
  have Fin := hidIt fin
  clear fin
  by_cases h0 : k ≤ 0
  · have hk : Hid (a.after k = a.mark.al) := by unfold Hid AL.after AL.state; rw [show min k.toNat a.hist.length = 0 by omega]
    have hm := hidIt h.hm
    have h0' : k ≤ a.hist.length := by omega
    clear h hrow
    go_enter Tryz.func73, Tryz.ntmps73
    go_wp2_with (first
      | (go_at_call 126; refine (hcl.out _ bm a.mark (by first | exact hm.out.alloc _ | exact ((hm.out.alloc _).alloc _))).mono ?_; rintro _ _ ⟨rfl, m, rfl⟩))
    go_ret
    refine ⟨_, rfl, ?_⟩
    rw [hk.out]
    exact Fin.out _ _ (by repeat (first | exact Dr.refl _ | apply Dr.drew | apply Dr.drewN))
  by_cases hz : a.hist.length = 0
  · have hk : Hid (a.after k = a.mark.al) := by unfold Hid AL.after AL.state; rw [show min k.toNat a.hist.length = 0 by omega]
    have hm := hidIt h.hm
    have h0' : (a.hist.length : Int) < k := by omega
    rw [hz] at h0' hc1
    clear h hrow hz
    go_enter Tryz.func73, Tryz.ntmps73
    go_wp2_with (first
      | (go_at_call 126; refine (hcl.out _ bm a.mark (by first | exact hm.out.alloc _ | exact ((hm.out.alloc _).alloc _))).mono ?_; rintro _ _ ⟨rfl, m, rfl⟩))
    go_ret
    refine ⟨_, rfl, ?_⟩
    rw [hk.out]
    exact Fin.out _ _ (by repeat (first | exact Dr.refl _ | apply Dr.drew | apply Dr.drewN))
  by_cases hgt : (a.hist.length : Int) < k
  · obtain ⟨j, hj⟩ : ∃ j, a.hist.length = j + 1 := ⟨a.hist.length - 1, by omega⟩
    have hk : Hid (a.after k = (a.hist.getD j a.mark).al) := by unfold Hid AL.after AL.state; rw [show min k.toNat a.hist.length = j + 1 by omega]
    have hlb : bks.length = a.hist.length := by have := h.hr.1; simpa using this
    have hg : bks[j]? = some bks[j] := List.getElem?_eq_getElem (by omega)
    obtain ⟨g0, rfl, ig, hcg⟩ := hrow j (vp bks[j]) (by rw [List.getElem?_map, hg]; rfl)
    have hm := hidIt (h.hh j _ hg).1
    generalize bks[j] = g at *
    generalize a.hist.getD j a.mark = s at *
    rw [hj] at hgt hc1
    clear h hrow hz hg hlb
    go_enter Tryz.func73, Tryz.ntmps73
    go_wp2_with (first
      | (go_at_call 126; refine (hcl.out _ g s (by first | exact hm.out.alloc _ | exact ((hm.out.alloc _).alloc _))).mono ?_; rintro _ _ ⟨rfl, m, rfl⟩))
    go_ret
    refine ⟨_, rfl, ?_⟩
    rw [hk.out]
    exact Fin.out _ _ (by repeat (first | exact Dr.refl _ | apply Dr.drew | apply Dr.drewN))
  · obtain ⟨j, rfl⟩ : ∃ j : Nat, k = j + 1 := ⟨(k - 1).toNat, by omega⟩
    have hk : Hid (a.after (j + 1 : Int) = (a.hist.getD j a.mark).al) := by unfold Hid AL.after AL.state; rw [show min ((j : Int) + 1).toNat a.hist.length = j + 1 by omega]
    have hlb : bks.length = a.hist.length := by have := h.hr.1; simpa using this
    have hg : bks[j]? = some bks[j] := List.getElem?_eq_getElem (by omega)
    obtain ⟨g0, rfl, ig, hcg⟩ := hrow j (vp bks[j]) (by rw [List.getElem?_map, hg]; rfl)
    have hm := hidIt (h.hh j _ hg).1
    have hjl : j < a.hist.length := by omega
    have hle : (j : Int) + 1 ≤ a.hist.length := by omega
    generalize bks[j] = g at *
    generalize a.hist.getD j a.mark = s at *
    clear h hrow hz hg hlb hgt
    go_enter Tryz.func73, Tryz.ntmps73
    go_wp2_with (first
      | (go_at_call 126; refine (hcl.out _ g s (by first | exact hm.out.alloc _ | exact ((hm.out.alloc _).alloc _))).mono ?_; rintro _ _ ⟨rfl, m, rfl⟩))
    go_ret
    refine ⟨_, rfl, ?_⟩
    rw [hk.out]
    exact Fin.out _ _ (by repeat (first | exact Dr.refl _ | apply Dr.drew | apply Dr.drewN))
end
end Go.Proofs.Qxb6500990aGreat
