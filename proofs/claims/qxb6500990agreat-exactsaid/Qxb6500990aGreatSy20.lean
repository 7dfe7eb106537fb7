/- package sync: acked, refused -/
import Derived.Test.Qxb6500990aGreatSy19
set_option linter.unusedVariables false
set_option linter.unusedSimpArgs false
namespace Go.Proofs.Qxb6500990aGreat
open Go Go.RowKit Go.Tw
attribute [local go_sem] World.cell?_put_same World.cell?_put_ne World.cell?_put_ne' World.frozen?_put_same World.frozen?_put_ne World.frozen?_put_ne' World.setCell_put_same World.setCell_put_ne World.setCell_put_ne' World.inB_put World.inB_alloc World.inB_drew World.inB_drewN World.inB_new World.inB_setCell World.put_drew World.put_drewN World.q_setCell_drew World.q_setCell_drewN World.q_alloc_drew World.q_alloc_drewN World.put_put_same World.put_put_2 World.size_put World.q_cell?_alloc_old World.q_frozen?_alloc_old World.cell?_alloc_new' World.frozen?_alloc_new' World.q_setCell_alloc_old World.q_setCell_alloc_new World.q_put_alloc_old World.cell?_force_same World.frozen?_force_same World.cell?_force2_fst World.cell?_force2_snd SyncR.g0 SyncR.s0 SyncR.g1 SyncR.s1 SyncR.g2 SyncR.s2 SyncR.g3 SyncR.s3 SyncR.g4 SyncR.s4 SyncR.g5 SyncR.s5 SyncR.g6 SyncR.s6 SyncR.g7 SyncR.s7 SyncR.g8 SyncR.s8 SyncR.g9 SyncR.s9 SyncR.g10 SyncR.s10 SyncR.g11 SyncR.s11 SyncR.g12 SyncR.s12 SyncR.g13 SyncR.s13 SyncR.g14 SyncR.s14 SyncR.g15 SyncR.s15 SyncR.g16 SyncR.s16 SyncR.g17 SyncR.s17 SyncR.g18 SyncR.s18 SyncR.g19 SyncR.s19 SyncR.g20 SyncR.s20 SyncR.g21 SyncR.s21 SyncR.g22 SyncR.s22 SyncR.g23 SyncR.s23 SyncR.g24 SyncR.s24 SyncR.g25 SyncR.s25 SyncR.g26 SyncR.s26 SyncR.g27 SyncR.s27 SyncR.g28 SyncR.s28 SyncR.g29 SyncR.s29 SyncR.g30 SyncR.s30 SyncR.g31 SyncR.s31 SyncR.g32 SyncR.s32 SyncR.g33 SyncR.s33 SyncR.g34 SyncR.s34 SyncR.g35 SyncR.s35 SyncR.g36 SyncR.s36 SyncR.g37 SyncR.s37 SyncR.g38 SyncR.s38 SyncR.g39 SyncR.s39 SyncR.g40 SyncR.s40 SyncR.g41 SyncR.s41 SyncR.gi_next_0 SyncR.si_next_0 SyncR.gi_mtch_0 SyncR.si_mtch_0 SyncR.gi_box_0 SyncR.si_box_0 SyncR.gi_box_1 SyncR.si_box_1 SyncR.gi_box_2 SyncR.si_box_2 SyncR.gi_box_3 SyncR.si_box_3 SyncR.gi_box_4 SyncR.si_box_4 SyncR.gi_box_5 SyncR.si_box_5 SyncR.gi_box_6 SyncR.si_box_6 SyncR.gi_box_7 SyncR.si_box_7 SyncR.gi_box_8 SyncR.si_box_8 SyncR.gi_box_9 SyncR.si_box_9
attribute [local go_sem] ba_get upd_same upd_upd
set_option maxHeartbeats 4000000
set_option maxRecDepth 100000
section
variable {W w : World} {G : Nat → Prop} {p : SyP} {A : AS}
theorem c250_no (h : RS G W p A [] w) (q : Nat) (q3 : q < 3) (i : Int) (hno : ¬ (A.mtch q < i ∧ i ≤ A.lg.now.last)) :
    Calls Tryz.prog 250 #[vp p.b, vi q, vi i] w fun r w' => r = .returned (.tuple #[]) ∧ RS G W p A [] w' := by
  have H := hidIt h
  obtain ⟨bx, hb⟩ := RB.hb h
  have hc := hb.cell
  have ib := hb.inB
  unfold RSy at hc
  have q3' : (q : Int) < 3 := by omega
  generalize hlt : (A.lg.now.termAt A.lg.now.last).1 = lt at *
  generalize hla : A.lg.now.last = la at *
  clear h hb hlt hla
  by_cases c1 : i ≤ A.mtch q
  · have d1 : decide (i ≤ A.mtch q) = true := by simpa using c1
    clear c1 hno
    go_enter Tryz.func250, Tryz.ntmps250
    go_wp2_with fail
    refine bodyPost_ret (results_none rfl _ _ _) rfl ?_
    exact ⟨rfl, H.out⟩
  · have d1 : decide (i ≤ A.mtch q) = false := by simpa using c1
    have d2 : decide (la < i) = true := by simp; omega
    clear c1 hno
    go_enter Tryz.func250, Tryz.ntmps250
    go_wp2_with fail
    refine bodyPost_ret (results_none rfl _ _ _) rfl ?_
    exact ⟨rfl, H.out⟩
theorem c250_yes (h : RS G W p A [] w) (ok : A.Ok) (ht : 1 ≤ A.el.term) (q : Nat) (q3 : q < 3) (i : Int) (h1 : A.mtch q < i) (h2 : i ≤ A.lg.now.last) :
    Calls Tryz.prog 250 #[vp p.b, vi q, vi i] w fun r w' => r = .returned (.tuple #[]) ∧ RS G W p (A.acked q i) (if (A.acked q i).next q ≤ A.lg.now.last then [(A.acked q i).send q] else []) w' := by
  obtain ⟨y, bx, rfl, iy, hset⟩ := RB.open h
  have HS := hidIt hset
  have q3' : (q : Int) < 3 := by omega
  have d1 : decide (i ≤ A.mtch q) = false := by simp; omega
  have d2 : decide (A.lg.now.last < i) = false := by simp; omega
  have hi0 : 0 ≤ i := by have := ok.m0 q; omega
  have him := ok.lg.last1
  have hok2 : AS.Ok { A with mtch := upd A.mtch q i, next := if A.next q ≤ i then upd A.next q (i + 1) else A.next } := by
    refine ⟨ok.lg, ok.el, ok.c0, ok.c1, ?_, ?_, ?_⟩
    · intro j
      show (if A.next q ≤ i then upd A.next q (i + 1) else A.next) j ≤ _
      split
      · unfold upd; split
        · omega
        · exact ok.n1 j
      · exact ok.n1 j
    · intro j; show 0 ≤ upd A.mtch q i j; unfold upd; split; exact hi0; exact ok.m0 j
    · intro j; show upd A.mtch q i j ≤ _; unfold upd; split; omega; exact ok.m1 j
  unfold AS.acked
  have hn2 := hok2.n1 q
  have q282 := hidIt (fun w (h : RS G W p { A with mtch := upd A.mtch q i, next := if A.next q ≤ i then upd A.next q (i + 1) else A.next } [] w) => c282 h hok2 ht)
  have him' : A.lg.now.last ≤ 72057594037927936 := him
  by_cases c3 : A.next q ≤ i
  · have d3 : decide (A.next q ≤ i) = true := by simpa using c3
    rw [if_pos c3] at q282 hn2 ⊢
    have HQ := hidIt (fun w (h : RS G W p (AS.advance { A with mtch := upd A.mtch q i, next := upd A.next q (i + 1) }) [] w) => c241 h q q3 (by simp) hn2)
    have S2 := hidIt (HS.out A.commit (upd A.next q (i + 1)) (upd A.mtch q i) A.lg.now.last (A.lg.now.termAt A.lg.now.last).1)
    have hnq : (AS.advance { A with mtch := upd A.mtch q i, next := upd A.next q (i + 1) }).next q = i + 1 := by show (upd A.next q (i + 1)) q = _; first | rfl | rw [upd_same]
    rw [hnq]
    clear h hset hok2 hn2 ok HS hnq him c3
    by_cases c9 : i + 1 ≤ A.lg.now.last
    · rw [if_pos c9]
      have d9 : decide (i + 1 ≤ A.lg.now.last) = true := by simpa using c9
      generalize hlt : (A.lg.now.termAt A.lg.now.last).1 = lt at *
      go_enter Tryz.func250, Tryz.ntmps250
      go_wp2_with (first
        | (go_at_call 282; refine (q282.out _ (by unfold RS; simp only []; rw [hlt]; exact S2.out)).mono ?_; rintro _ w1 ⟨rfl, s1⟩; have S3 := hidIt s1; obtain ⟨bx3, hb3⟩ := RB.hb s1; have hc3 : (∀ o, w1.cell? ⟨p.b, o, none⟩ = (SyncR.cells ⟨vp p.bl, vp p.be, (AS.advance { A with mtch := upd A.mtch q i, next := upd A.next q (i + 1) }).commit, upd A.next q (i + 1), upd A.mtch q i, A.lg.now.last, (A.lg.now.termAt A.lg.now.last).1, bx3, 0⟩)[o]?) := hb3.cell; have ib3 := hb3.inB; clear s1 hb3 S2))
      refine Ord.region1 [] [0, 1, 2, 3, 4, 5, 6, 7, 8, 9] [10] (by kernel_rfl) (by kernel_rfl) (fun _ _ d _ _ h => by cases d <;> exact h) ?_
      simp only [Ord.pickO, Ord.nth]
      refine wpQuiet_nil ?_
      repeat (go_big_quiet_step (fail))
      refine wpQuiet_nil ?_
      go_wp2_with (first
        | (go_at_call 241; refine (HQ.out _ (RB.fr S3.out ((ModP.refl (fun _ => False) _).drew))).mono ?_; rintro _ w5 ⟨rfl, s5⟩; have S5 := hidIt s5; clear s5))
      go_end0
      exact ⟨rfl, S5.out⟩
    · rw [if_neg c9]
      have d9 : decide (i + 1 ≤ A.lg.now.last) = false := by simpa using c9
      generalize hlt : (A.lg.now.termAt A.lg.now.last).1 = lt at *
      go_enter Tryz.func250, Tryz.ntmps250
      go_wp2_with (first
        | (go_at_call 282; refine (q282.out _ (by unfold RS; simp only []; rw [hlt]; exact S2.out)).mono ?_; rintro _ w1 ⟨rfl, s1⟩; have S3 := hidIt s1; obtain ⟨bx3, hb3⟩ := RB.hb s1; have hc3 : (∀ o, w1.cell? ⟨p.b, o, none⟩ = (SyncR.cells ⟨vp p.bl, vp p.be, (AS.advance { A with mtch := upd A.mtch q i, next := upd A.next q (i + 1) }).commit, upd A.next q (i + 1), upd A.mtch q i, A.lg.now.last, (A.lg.now.termAt A.lg.now.last).1, bx3, 0⟩)[o]?) := hb3.cell; have ib3 := hb3.inB; clear s1 hb3 S2))
      refine Ord.region1 [] [0, 1, 2, 3, 4, 5, 6, 7, 8, 9] [10] (by kernel_rfl) (by kernel_rfl) (fun _ _ d _ _ h => by cases d <;> exact h) ?_
      simp only [Ord.pickO, Ord.nth]
      refine wpQuiet_nil ?_
      repeat (go_big_quiet_step (fail))
      refine wpQuiet_nil ?_
      go_wp2_with fail
      go_end0
      exact ⟨rfl, RB.fr S3.out ((ModP.refl (fun _ => False) _).drew)⟩
  · have d3 : decide (A.next q ≤ i) = false := by simpa using c3
    rw [if_neg c3] at q282 hn2 ⊢
    have HQ := hidIt (fun w (h : RS G W p (AS.advance { A with mtch := upd A.mtch q i, next := A.next }) [] w) => c241 h q q3 (by simp) hn2)
    have S2 := hidIt (HS.out A.commit (A.next) (upd A.mtch q i) A.lg.now.last (A.lg.now.termAt A.lg.now.last).1)
    have hnq : (AS.advance { A with mtch := upd A.mtch q i, next := A.next }).next q = A.next q := by show (A.next) q = _; first | rfl | rw [upd_same]
    rw [hnq]
    clear h hset hok2 hn2 ok HS hnq him c3
    by_cases c9 : A.next q ≤ A.lg.now.last
    · rw [if_pos c9]
      have d9 : decide (A.next q ≤ A.lg.now.last) = true := by simpa using c9
      generalize hlt : (A.lg.now.termAt A.lg.now.last).1 = lt at *
      go_enter Tryz.func250, Tryz.ntmps250
      go_wp2_with (first
        | (go_at_call 282; refine (q282.out _ (by unfold RS; simp only []; rw [hlt]; exact S2.out)).mono ?_; rintro _ w1 ⟨rfl, s1⟩; have S3 := hidIt s1; obtain ⟨bx3, hb3⟩ := RB.hb s1; have hc3 : (∀ o, w1.cell? ⟨p.b, o, none⟩ = (SyncR.cells ⟨vp p.bl, vp p.be, (AS.advance { A with mtch := upd A.mtch q i, next := A.next }).commit, A.next, upd A.mtch q i, A.lg.now.last, (A.lg.now.termAt A.lg.now.last).1, bx3, 0⟩)[o]?) := hb3.cell; have ib3 := hb3.inB; clear s1 hb3 S2))
      refine Ord.region1 [] [0, 1, 2, 3, 4, 5, 6, 7, 8, 9] [10] (by kernel_rfl) (by kernel_rfl) (fun _ _ d _ _ h => by cases d <;> exact h) ?_
      simp only [Ord.pickO, Ord.nth]
      refine wpQuiet_nil ?_
      repeat (go_big_quiet_step (fail))
      refine wpQuiet_nil ?_
      go_wp2_with (first
        | (go_at_call 241; refine (HQ.out _ (RB.fr S3.out ((ModP.refl (fun _ => False) _).drew))).mono ?_; rintro _ w5 ⟨rfl, s5⟩; have S5 := hidIt s5; clear s5))
      go_end0
      exact ⟨rfl, S5.out⟩
    · rw [if_neg c9]
      have d9 : decide (A.next q ≤ A.lg.now.last) = false := by simpa using c9
      generalize hlt : (A.lg.now.termAt A.lg.now.last).1 = lt at *
      go_enter Tryz.func250, Tryz.ntmps250
      go_wp2_with (first
        | (go_at_call 282; refine (q282.out _ (by unfold RS; simp only []; rw [hlt]; exact S2.out)).mono ?_; rintro _ w1 ⟨rfl, s1⟩; have S3 := hidIt s1; obtain ⟨bx3, hb3⟩ := RB.hb s1; have hc3 : (∀ o, w1.cell? ⟨p.b, o, none⟩ = (SyncR.cells ⟨vp p.bl, vp p.be, (AS.advance { A with mtch := upd A.mtch q i, next := A.next }).commit, A.next, upd A.mtch q i, A.lg.now.last, (A.lg.now.termAt A.lg.now.last).1, bx3, 0⟩)[o]?) := hb3.cell; have ib3 := hb3.inB; clear s1 hb3 S2))
      refine Ord.region1 [] [0, 1, 2, 3, 4, 5, 6, 7, 8, 9] [10] (by kernel_rfl) (by kernel_rfl) (fun _ _ d _ _ h => by cases d <;> exact h) ?_
      simp only [Ord.pickO, Ord.nth]
      refine wpQuiet_nil ?_
      repeat (go_big_quiet_step (fail))
      refine wpQuiet_nil ?_
      go_wp2_with fail
      go_end0
      exact ⟨rfl, RB.fr S3.out ((ModP.refl (fun _ => False) _).drew)⟩
theorem c251 (h : RS G W p A [] w) (ok : A.Ok) (q : Nat) (q3 : q < 3) (i : Int) (i0 : 0 ≤ i) (i1 : i ≤ maxT) :
    Calls Tryz.prog 251 #[vp p.b, vi q, vi i] w fun r w' => r = .returned (.tuple #[]) ∧ RS G W p (if A.back q i < A.next q then { A with next := upd A.next q (A.back q i) } else A) (if A.back q i < A.next q then [AS.send { A with next := upd A.next q (A.back q i) } q] else []) w' := by
  obtain ⟨y, bx, rfl, iy, hset⟩ := RB.open h
  have HS := hidIt hset
  have q3' : (q : Int) < 3 := by omega
  have m0 := ok.m0 q
  have m1 := ok.m1 q
  unfold maxT at i1 m1
  by_cases c1 : i + 1 ≤ A.mtch q
  · have hb : A.back q i = A.mtch q + 1 := by unfold AS.back; rw [if_pos c1]
    rw [hb]
    have d1 : decide (i + 1 ≤ A.mtch q) = true := by simpa using c1
    clear c1 hb
    by_cases c3 : (A.mtch q + 1) < A.next q
    · rw [if_pos c3, if_pos c3]
      have d3 : decide ((A.mtch q + 1) < A.next q) = true := by simpa using c3
      have HQ := hidIt (fun w (h : RS G W p { A with next := upd A.next q (A.mtch q + 1) } [] w) => c241 h q q3 (by simp) (by show upd A.next q (A.mtch q + 1) q ≤ _; rw [upd_same]; have := ok.n1 q; omega))
      clear h hset ok c3
      go_enter Tryz.func251, Tryz.ntmps251
      go_wp2_with (first
        | (go_at_call 241; refine (HQ.out _ (HS.out A.commit (upd A.next q (A.mtch q + 1)) A.mtch _ _)).mono ?_; rintro _ w5 ⟨rfl, s5⟩; have S5 := hidIt s5; clear s5))
      go_end0
      exact ⟨rfl, S5.out⟩
    · rw [if_neg c3, if_neg c3]
      have d3 : decide ((A.mtch q + 1) < A.next q) = false := by simpa using c3
      clear h hset ok c3
      go_enter Tryz.func251, Tryz.ntmps251
      go_wp2_with fail
      go_end0
      exact ⟨rfl, HS.out A.commit A.next A.mtch _ _⟩
  · have hb : A.back q i = i + 1 := by unfold AS.back; rw [if_neg c1]
    rw [hb]
    have d1 : decide (i + 1 ≤ A.mtch q) = false := by simpa using c1
    clear c1 hb
    by_cases c3 : (i + 1) < A.next q
    · rw [if_pos c3, if_pos c3]
      have d3 : decide ((i + 1) < A.next q) = true := by simpa using c3
      have HQ := hidIt (fun w (h : RS G W p { A with next := upd A.next q (i + 1) } [] w) => c241 h q q3 (by simp) (by show upd A.next q (i + 1) q ≤ _; rw [upd_same]; have := ok.n1 q; omega))
      clear h hset ok c3
      go_enter Tryz.func251, Tryz.ntmps251
      go_wp2_with (first
        | (go_at_call 241; refine (HQ.out _ (HS.out A.commit (upd A.next q (i + 1)) A.mtch _ _)).mono ?_; rintro _ w5 ⟨rfl, s5⟩; have S5 := hidIt s5; clear s5))
      go_end0
      exact ⟨rfl, S5.out⟩
    · rw [if_neg c3, if_neg c3]
      have d3 : decide ((i + 1) < A.next q) = false := by simpa using c3
      clear h hset ok c3
      go_enter Tryz.func251, Tryz.ntmps251
      go_wp2_with fail
      go_end0
      exact ⟨rfl, HS.out A.commit A.next A.mtch _ _⟩
end
end Go.Proofs.Qxb6500990aGreat
