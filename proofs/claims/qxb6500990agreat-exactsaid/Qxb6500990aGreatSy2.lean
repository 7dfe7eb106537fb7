/- package sync: what only reads -/
import Derived.Test.Qxb6500990aGreatSy
set_option linter.unusedVariables false
set_option linter.unusedSimpArgs false
namespace Go.Proofs.Qxb6500990aGreat
open Go Go.RowKit Go.Tw
attribute [local go_sem] World.cell?_put_same World.cell?_put_ne World.cell?_put_ne' World.frozen?_put_same World.frozen?_put_ne World.frozen?_put_ne' World.setCell_put_same World.setCell_put_ne World.setCell_put_ne' World.inB_put World.inB_alloc World.inB_drew World.inB_drewN World.inB_new World.inB_setCell World.put_drew World.put_drewN World.q_setCell_drew World.q_setCell_drewN World.q_alloc_drew World.q_alloc_drewN World.put_put_same World.put_put_2 World.size_put World.q_cell?_alloc_old World.q_frozen?_alloc_old World.cell?_alloc_new' World.frozen?_alloc_new' World.q_setCell_alloc_old World.q_setCell_alloc_new World.q_put_alloc_old World.cell?_force_same World.frozen?_force_same World.cell?_force2_fst World.cell?_force2_snd SyncR.g0 SyncR.s0 SyncR.g1 SyncR.s1 SyncR.g2 SyncR.s2 SyncR.g3 SyncR.s3 SyncR.g4 SyncR.s4 SyncR.g5 SyncR.s5 SyncR.g6 SyncR.s6 SyncR.g7 SyncR.s7 SyncR.g8 SyncR.s8 SyncR.g9 SyncR.s9 SyncR.g10 SyncR.s10 SyncR.g11 SyncR.s11 SyncR.g12 SyncR.s12 SyncR.g13 SyncR.s13 SyncR.g14 SyncR.s14 SyncR.g15 SyncR.s15 SyncR.g16 SyncR.s16 SyncR.g17 SyncR.s17 SyncR.g18 SyncR.s18 SyncR.g19 SyncR.s19 SyncR.g20 SyncR.s20 SyncR.g21 SyncR.s21 SyncR.g22 SyncR.s22 SyncR.g23 SyncR.s23 SyncR.g24 SyncR.s24 SyncR.g25 SyncR.s25 SyncR.g26 SyncR.s26 SyncR.g27 SyncR.s27 SyncR.g28 SyncR.s28 SyncR.g29 SyncR.s29 SyncR.g30 SyncR.s30 SyncR.g31 SyncR.s31 SyncR.g32 SyncR.s32 SyncR.g33 SyncR.s33 SyncR.g34 SyncR.s34 SyncR.g35 SyncR.s35 SyncR.g36 SyncR.s36 SyncR.g37 SyncR.s37 SyncR.g38 SyncR.s38 SyncR.g39 SyncR.s39 SyncR.g40 SyncR.s40 SyncR.g41 SyncR.s41 SyncR.gi_next_0 SyncR.si_next_0 SyncR.gi_mtch_0 SyncR.si_mtch_0 SyncR.gi_box_0 SyncR.si_box_0 SyncR.gi_box_1 SyncR.si_box_1 SyncR.gi_box_2 SyncR.si_box_2 SyncR.gi_box_3 SyncR.si_box_3 SyncR.gi_box_4 SyncR.si_box_4 SyncR.gi_box_5 SyncR.si_box_5 SyncR.gi_box_6 SyncR.si_box_6 SyncR.gi_box_7 SyncR.si_box_7 SyncR.gi_box_8 SyncR.si_box_8 SyncR.gi_box_9 SyncR.si_box_9 Entry.g0 Entry.s0 Entry.g1 Entry.s1 SyncV.g0 SyncV.s0 SyncV.g1 SyncV.s1 SyncV.g2 SyncV.s2 SyncV.g3 SyncV.s3 SyncV.g4 SyncV.s4 SyncV.g5 SyncV.s5 SyncV.g6 SyncV.s6 SyncV.g7 SyncV.s7 SyncV.g8 SyncV.s8 SyncV.g9 SyncV.s9 SyncV.g10 SyncV.s10 SyncV.g11 SyncV.s11 SyncV.g12 SyncV.s12 SyncV.g13 SyncV.s13 SyncV.g14 SyncV.s14 SyncV.g15 SyncV.s15 SyncV.g16 SyncV.s16 SyncV.g17 SyncV.s17 SyncV.g18 SyncV.s18 SyncV.g19 SyncV.s19 SyncV.gi_got_0 SyncV.si_got_0 SyncV.gi_next_0 SyncV.si_next_0 SyncV.gi_mtch_0 SyncV.si_mtch_0
attribute [local go_sem] ba_get upd_same upd_upd
set_option maxHeartbeats 4000000
set_option maxRecDepth 100000
section
variable {W w : World} {G : Nat → Prop} {p : SyP} {A : AS} {la lt : Int} {ms : List Msg}
theorem c216 (h : RB G W p A la lt ms w) (i : Int) : Calls Tryz.prog 216 #[vp p.b, vi i] w fun x w' => x = .returned (.tuple #[.agg (A.lg.now.at_ i).1.cells, vi (A.lg.now.at_ i).2]) ∧ ModP (fun _ => False) w w' := by
  obtain ⟨bx, hb⟩ := h.hb
  obtain ⟨G1, hl⟩ := h.lk
  have q := hidIt (fun w' (m : ModP (fun _ => False) w w') => k177 (hl.frame0 m) i)
  have hc := hb.cell
  have ib := hb.inB
  generalize A.lg.now.at_ i = e at *
  obtain ⟨⟨et, ed⟩, er⟩ := e
  unfold Tw.Entry.cells at q
  unfold RSy at hc
  clear h hb hl
  go_enter Tryz.func216, Tryz.ntmps216
  go_wp2_with (go_at_call 177; refine (q.out _ (by repeat (first | assumption | exact ModP.refl _ _ | refine ModP.fromPut ?_ (by assumption) | apply ModP.alloc | apply ModP.drew | apply ModP.drewN | refine ModP.put ?_ (by first | (left; assumption) | (left; rfl) | (right; simp only [World.inB, World.size_put] at *; omega)) _ _))).mono ?_; rintro _ w2 ⟨rfl, m⟩; have hr2 := m.at (b := w.heap.size) (c := Entry.cells ⟨0, []⟩) (T := 232) (by repeat (first | assumption | exact World.At_alloc_new | exact at_new (by first | rfl | (simp [World.size_put]; done) | (simp [World.size_put]; omega)) | refine World.At.alloc ?_ _ | refine World.At_drew.2 ?_ | refine (World.At_drewN _).2 ?_ | exact World.At_put_same (by first | assumption | (simp only [World.inB, World.size_put, World.alloc, World.drew, World.drewN, Array.size_push] at *; omega)) | refine (World.At_put_ne' (by first | assumption | (exact Ne.symm (by assumption)) | (simp only [World.inB, World.size_put] at *; omega))).2 ?_)) (by simp); have M2 : ModP (fun _ => False) w w2 := ModP.trans (by repeat (first | assumption | exact ModP.refl _ _ | refine ModP.fromPut ?_ (by assumption) | apply ModP.alloc | apply ModP.drew | apply ModP.drewN | refine ModP.put ?_ (by first | (left; assumption) | (left; rfl) | (right; simp only [World.inB, World.size_put] at *; omega)) _ _)) m; clear m; obtain ⟨y, rfl, ir⟩ := hr2.door; have M3 := M2.ofPut0 (Nat.le_refl _); clear M2 hr2)
  refine bodyPost_ret (v := .tuple #[.agg (Entry.cells ⟨et, ed⟩), vi er]) (by simp [results, Tryz.results216, go_sem, Entry.cells, ir]) rfl ?_
  exact ⟨rfl, (by repeat (first | assumption | exact ModP.refl _ _ | refine ModP.fromPut ?_ (by assumption) | apply ModP.alloc | apply ModP.drew | apply ModP.drewN | refine ModP.put ?_ (by first | (left; assumption) | (left; rfl) | (right; simp only [World.inB, World.size_put] at *; omega)) _ _))⟩
theorem c226 (h : RB G W p A la lt ms w) (i : Int) : Calls Tryz.prog 226 #[vp p.b, vi i] w fun x w' => x = .returned (.tuple #[vi (A.lg.now.termAt i).1, vi (A.lg.now.termAt i).2]) ∧ ModP (fun _ => False) w w' := by
  obtain ⟨bx, hb⟩ := h.hb
  obtain ⟨G1, hl⟩ := h.lk
  have q := hidIt (k124 hl i)
  have hc := hb.cell
  have ib := hb.inB
  unfold RSy at hc
  clear h hb hl
  go_enter Tryz.func226, Tryz.ntmps226
  go_wp2_with (go_at_call 124; refine q.out.mono ?_; rintro _ w2 ⟨rfl, m⟩)
  go_ret2
  exact ⟨rfl, m⟩
theorem c40 (h : RS G W p A ms w) (oe : A.el.Ok) : Calls Tryz.prog 40 #[vp p.b] w fun r w' => ∃ b', r = .returned (vp b') ∧ w.heap.size ≤ b' ∧ w'.At b' A.view.cells 64 ∧ ModP (fun _ => False) w w' := by
  unfold RS at h
  have he := h.he
  obtain ⟨bx, hb⟩ := h.hb
  obtain ⟨G1, hl⟩ := h.lk
  have hL := hidIt (fun w' (m : ModP (fun _ => False) w w') => hl.frame0 m)
  have HE := hidIt he
  have hc := hb.cell
  have ib := hb.inB
  unfold RSy at hc
  have Hoe := hidIt oe
  generalize hlt : (A.lg.now.termAt A.lg.now.last).1 = lt at hc
  have hla : Hid (∃ la, la = A.lg.now.last) := ⟨_, rfl⟩
  clear h hl he hb oe hlt
  go_enter Tryz.func40, Tryz.ntmps40
  go_wp2_with (first
    | (go_at_call 77; refine (c77 (World.At.alloc HE.out _)).mono ?_; rintro _ _ ⟨rfl, rfl⟩)
    | (go_at_call 78; refine (c78 (World.At.alloc HE.out _)).mono ?_; rintro _ _ ⟨rfl, rfl⟩)
    | (go_at_call 79; refine (c79 (World.At.alloc HE.out _) Hoe.out).mono ?_; rintro _ _ ⟨rfl, rfl⟩)
    | (go_at_call 80; refine (c80 (World.At.alloc HE.out _) Hoe.out).mono ?_; rintro _ _ ⟨rfl, rfl⟩)
    | (go_at_call 81; refine (c81 (World.At.alloc HE.out _) Hoe.out).mono ?_; rintro _ _ ⟨rfl, rfl⟩)
    | (go_at_call 82; refine (c82 (World.At.alloc HE.out _) Hoe.out).mono ?_; rintro _ w3 ⟨rfl, m3, rfl⟩))
  go_loopw [4] (fun i u => ∃ j : Nat, j ≤ 3 ∧ i = vi j ∧ Dr (w.alloc (.cells (SyncV.cells ⟨A.el.id, A.el.term, A.el.vote, A.el.role, A.el.leader, A.el.clock, gotF A.el.got j, 0, 0, 0, 0, [], fun _ => 0, fun _ => 0⟩) 64 (0, 0))) u) (fun i _ => 3 - (intOf i).toNat)
  case atStart => exact ⟨0, by omega, rfl, (Dr.refl _).drewN _⟩
  case round =>
    obtain ⟨j, hj, rfl, m, rfl⟩ := hrel
    by_cases hj3 : j < 3
    · have hs := hidIt (gotF_step A.el.got j)
      go_wp2_with fail
      refine Ord.region3 (fun _ => True) [0, 1, 8, 9] [2, 3, 4, 5, 6] (.one 7 true (.val 10 (.one 11 false .fin))) true (fun _ _ => trivial) (by kernel_rfl) (by kernel_rfl) (fun _ _ d _ _ h => by cases d <;> exact h) trivial ?_
      simp only [Ord.pickO, Ord.nth]
      repeat (go_big_quiet_step (fail))
      refine wpQuiet_nil ?_
      repeat (go_big_quiet_step (fail))
      refine wpQuiet_nil ?_
      -- steps: ['L7', 'V10', 'N11']
      refine Ord.wpS_loose rfl ?_
      intro K hK
      dsimp only [Ord.nth]
      go_wp2_with (first
        | (go_at_call 83; refine (c83 (World.At_drew.2 ((World.At_drewN _).2 (World.At.alloc HE.out _))) j hj3).mono ?_; rintro _ w4 ⟨rfl, m4, rfl⟩))
      refine hK _ _ trivial ?_
      clear hK K
      refine Ord.wpS_val rfl ?_
      dsimp only [Ord.nth]
      go_big_quiet_step (fail)
      refine wpQuiet_nil ?_
      refine Ord.wpS_next rfl ?_
      intro K hK
      dsimp only [Ord.nth]
      go_wp2_with fail
      refine Ord.wpS_fin ?_
      go_wp2_with fail
      go_roundw
      case rel => exact ⟨j + 1, by omega, by go_num, by rw [← hs.out]; exact (Dr.refl _).drewN _⟩
      case measure => simp [intOf]; omega
    · obtain rfl : j = 3 := by omega
      go_wp2_with (first
        | (go_at_call 69; refine (k69 (hL.out _ (by repeat (first | assumption | exact ModP.refl _ _ | refine ModP.fromPut ?_ (by assumption) | apply ModP.alloc | apply ModP.drew | apply ModP.drewN | refine ModP.put ?_ (by first | (left; assumption) | (left; rfl) | (right; simp only [World.inB, World.size_put] at *; omega)) _ _)))).mono ?_; rintro _ _ ⟨rfl, rfl⟩)
        | (go_at_call 84; refine (k84 (hL.out _ (by repeat (first | assumption | exact ModP.refl _ _ | refine ModP.fromPut ?_ (by assumption) | apply ModP.alloc | apply ModP.drew | apply ModP.drewN | refine ModP.put ?_ (by first | (left; assumption) | (left; rfl) | (right; simp only [World.inB, World.size_put] at *; omega)) _ _)))).mono ?_; rintro _ _ ⟨rfl, rfl⟩)
        | (go_at_call 85; refine (k85 (hL.out _ (by repeat (first | assumption | exact ModP.refl _ _ | refine ModP.fromPut ?_ (by assumption) | apply ModP.alloc | apply ModP.drew | apply ModP.drewN | refine ModP.put ?_ (by first | (left; assumption) | (left; rfl) | (right; simp only [World.inB, World.size_put] at *; omega)) _ _)))).mono ?_; rintro _ _ ⟨rfl, rfl⟩))
      go_ret
      refine ⟨w.heap.size, rfl, Nat.le_refl _, ?_, (by repeat (first | assumption | exact ModP.refl _ _ | refine ModP.fromPut ?_ (by assumption) | apply ModP.alloc | apply ModP.drew | apply ModP.drewN | refine ModP.put ?_ (by first | (left; assumption) | (left; rfl) | (right; simp only [World.inB, World.size_put] at *; omega)) _ _))⟩
      exact (World.At_drewN _).2 (World.At_alloc_new)
end
end Go.Proofs.Qxb6500990aGreat
