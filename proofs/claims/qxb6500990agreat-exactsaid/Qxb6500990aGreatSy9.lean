/- package sync: sendAll, Tick -/
import Derived.Test.Qxb6500990aGreatSy8
set_option linter.unusedVariables false
set_option linter.unusedSimpArgs false
namespace Go.Tw
open Go Go.Proofs Go.Proofs.Qxb6500990aGreat
theorem RS.elec {w w1 W : World} {G0 : Nat → Prop} {p : SyP} {A : AS} (h : RS G0 W p A [] w) {el' : EM} (m : Dr (w.put p.be el'.el.cells 155) w1) : RS G0 W p { A with el := el' } [] w1 := RB.elec h m
end Go.Tw
namespace Go.Proofs.Qxb6500990aGreat
open Go Go.RowKit Go.Tw
attribute [local go_sem] World.cell?_put_same World.cell?_put_ne World.cell?_put_ne' World.frozen?_put_same World.frozen?_put_ne World.frozen?_put_ne' World.setCell_put_same World.setCell_put_ne World.setCell_put_ne' World.inB_put World.inB_alloc World.inB_drew World.inB_drewN World.inB_new World.inB_setCell World.put_drew World.put_drewN World.q_setCell_drew World.q_setCell_drewN World.q_alloc_drew World.q_alloc_drewN World.put_put_same World.put_put_2 World.size_put World.q_cell?_alloc_old World.q_frozen?_alloc_old World.cell?_alloc_new' World.frozen?_alloc_new' World.q_setCell_alloc_old World.q_setCell_alloc_new World.q_put_alloc_old World.cell?_force_same World.frozen?_force_same World.cell?_force2_fst World.cell?_force2_snd SyncR.g0 SyncR.s0 SyncR.g1 SyncR.s1 SyncR.g2 SyncR.s2 SyncR.g3 SyncR.s3 SyncR.g4 SyncR.s4 SyncR.g5 SyncR.s5 SyncR.g6 SyncR.s6 SyncR.g7 SyncR.s7 SyncR.g8 SyncR.s8 SyncR.g9 SyncR.s9 SyncR.g10 SyncR.s10 SyncR.g11 SyncR.s11 SyncR.g12 SyncR.s12 SyncR.g13 SyncR.s13 SyncR.g14 SyncR.s14 SyncR.g15 SyncR.s15 SyncR.g16 SyncR.s16 SyncR.g17 SyncR.s17 SyncR.g18 SyncR.s18 SyncR.g19 SyncR.s19 SyncR.g20 SyncR.s20 SyncR.g21 SyncR.s21 SyncR.g22 SyncR.s22 SyncR.g23 SyncR.s23 SyncR.g24 SyncR.s24 SyncR.g25 SyncR.s25 SyncR.g26 SyncR.s26 SyncR.g27 SyncR.s27 SyncR.g28 SyncR.s28 SyncR.g29 SyncR.s29 SyncR.g30 SyncR.s30 SyncR.g31 SyncR.s31 SyncR.g32 SyncR.s32 SyncR.g33 SyncR.s33 SyncR.g34 SyncR.s34 SyncR.g35 SyncR.s35 SyncR.g36 SyncR.s36 SyncR.g37 SyncR.s37 SyncR.g38 SyncR.s38 SyncR.g39 SyncR.s39 SyncR.g40 SyncR.s40 SyncR.g41 SyncR.s41 SyncR.gi_next_0 SyncR.si_next_0 SyncR.gi_mtch_0 SyncR.si_mtch_0 SyncR.gi_box_0 SyncR.si_box_0 SyncR.gi_box_1 SyncR.si_box_1 SyncR.gi_box_2 SyncR.si_box_2 SyncR.gi_box_3 SyncR.si_box_3 SyncR.gi_box_4 SyncR.si_box_4 SyncR.gi_box_5 SyncR.si_box_5 SyncR.gi_box_6 SyncR.si_box_6 SyncR.gi_box_7 SyncR.si_box_7 SyncR.gi_box_8 SyncR.si_box_8 SyncR.gi_box_9 SyncR.si_box_9 MsgR.g0 MsgR.s0 MsgR.g1 MsgR.s1 MsgR.g2 MsgR.s2 MsgR.g3 MsgR.s3 MsgR.g4 MsgR.s4 MsgR.g5 MsgR.s5 MsgR.g6 MsgR.s6 MsgR.g7 MsgR.s7 MsgR.g8 MsgR.s8 MsgR.g9 MsgR.s9
attribute [local go_sem] ba_get upd_same upd_upd
set_option maxHeartbeats 4000000
set_option maxRecDepth 100000
section
variable {W w : World} {G : Nat → Prop} {p : SyP} {A : AS} {la lt : Int} {ms : List Msg}
theorem c187 (h : RS G W p A [] w) (hn0 : ∀ q, A.next q ≤ maxT + 1) : Calls Tryz.prog 187 #[vp p.b] w fun r w' => r = .returned (.tuple #[]) ∧ RS G W p A A.sendAll w' := by
  have hE := hidIt h.he
  have q241 := hidIt (fun w (j : Nat) (h : RS G W p A (A.sendN j) w) (hj : j < 3) => c241 h j hj (by have := A.sendN_len j; omega) (hn0 j))
  have H0 : Hid (RS G W p A (A.sendN 0) w) := h
  obtain ⟨bx, hb⟩ := RB.hb h
  have hc := hb.cell
  have ib := hb.inB
  unfold RSy at hc
  have hvs := hidIt (fun j => A.sendN_succ j)
  clear h hb hn0
  go_enter Tryz.func187, Tryz.ntmps187
  go_wp2_with (first
    | (go_at_call 77; refine (c77 hE.out).mono ?_; rintro _ w0 ⟨rfl, e⟩; obtain rfl := e.symm))
  clear hc ib hE
  go_loopw [3] (fun i u => ∃ j : Nat, j ≤ 3 ∧ i = vi j ∧ Hid (RS G W p A (A.sendN j) u)) (fun i _ => 3 - (intOf i).toNat)
  case atStart => exact ⟨0, by omega, rfl, H0⟩
  case round =>
    clear H0
    obtain ⟨j, hj, rfl, H1⟩ := hrel
    by_cases hj3 : j < 3
    · by_cases hid : (j : Int) = A.el.id
      · have Hs3 : Hid (A.sendN (j + 1) = A.sendN j) := by unfold Hid; rw [hvs.out j, if_pos hid]
        have d : ((j : Int) != A.el.id) = false := by simpa using hid
        clear hid
        go_wp2_with fail
        go_roundw
        case rel => exact ⟨j + 1, by omega, by go_num, by rw [Hs3.out]; exact H1⟩
        case measure => simp [intOf]; omega
      · have Hs3 : Hid (A.sendN (j + 1) = A.sendN j ++ [A.send j]) := by unfold Hid; rw [hvs.out j, if_neg hid]
        have d : ((j : Int) != A.el.id) = true := by simpa using hid
        have q := hidIt (q241.out _ j H1.out hj3)
        clear hid
        go_wp2_with (first
          | (go_at_call 241; refine q.out.mono ?_; rintro _ w1 ⟨rfl, m1⟩; have R1 := hidIt m1; clear m1))
        go_roundw
        case rel => exact ⟨j + 1, by omega, by go_num, by rw [Hs3.out]; exact R1⟩
        case measure => simp [intOf]; omega
    · obtain rfl : j = 3 := by omega
      go_wp2_with fail
      go_end0
      exact ⟨rfl, H1.out⟩
theorem c133 (h : RS G W p A [] w) (oe : A.el.Ok) (hn : A.lg.hist.length ≤ 470) (hn0 : ∀ q, A.next q ≤ maxT + 1) :
    Calls Tryz.prog 133 #[vp p.b] w fun r w' => ∃ v, r = .returned v ∧ RSm G W p A.tick.2 A.tick.1 w' v := by
  have hS0 := hidIt h
  obtain ⟨bx, hb⟩ := RB.hb h
  have hc := hb.cell
  have ib := hb.inB
  unfold RSy at hc
  have ht := hidIt (c185 h.he oe)
  have oe' := oe.tick
  clear h hb
  obtain ⟨⟨act, el'⟩, hel⟩ : ∃ x, A.el.tick = x := ⟨_, rfl⟩
  rw [hel] at ht oe'
  obtain ⟨A1, hA1⟩ : ∃ A1, AS.persist { A with el := el' } = A1 := ⟨_, rfl⟩
  have hnx : Hid (∀ p, A1.next p ≤ maxT + 1) := by unfold Hid; rw [← hA1, (AS.persist_eq _).2.2.1]; exact hn0
  have hk : Hid (A.tick = (if act = 2 then A1.sendAll else if act = 1 then A1.voteN 3 else [], A1)) := by unfold Hid AS.tick; rw [hel]; simp only []; rw [hA1]
  have hP := hidIt (fun w' (h : RS G W p { A with el := el' } [] w') => c186 h oe' (by show A.lg.hist.length ≤ 480; omega))
  rw [hA1] at hP
  simp only [] at ht
  clear hel hA1 oe hn hn0 oe'
  by_cases h2 : act = 2
  · have hk2 : Hid (A.tick = (A1.sendAll, A1)) := by unfold Hid; rw [hk.out, if_pos h2]
    clear hk
    subst h2
    go_enter Tryz.func133, Tryz.ntmps133
    go_wp2_with (first
      | (go_at_call 185; refine ht.out.mono ?_; rintro _ w1 ⟨rfl, m1⟩; have Hc1 := hidIt (hP.out _ (hS0.out.elec m1)); clear m1)
      | (go_at_call 186; refine Hc1.out.mono ?_; rintro _ w2 ⟨rfl, S2⟩; have Hc2 := hidIt (c187 S2 hnx.out); clear S2 Hc1)
      | (go_at_call 187; refine Hc2.out.mono ?_; rintro _ w3 ⟨rfl, S3⟩; have Hc3 := hidIt (c189 S3 (A1.sendN_len 3)); clear S3 Hc2)
      | (go_at_call 189; refine Hc3.out.mono ?_; rintro _ w4 ⟨v, rfl, S4⟩; have H4 := hidIt S4; clear S4))
    go_ret
    rw [hk2.out]
    exact ⟨_, rfl, H4.out⟩
  have h2' : (act == 2) = false := by simpa using h2
  by_cases h1 : act = 1
  · have hk2 : Hid (A.tick = (A1.voteN 3, A1)) := by unfold Hid; rw [hk.out, if_neg h2, if_pos h1]
    clear hk h2'
    subst h1
    have hvs := hidIt (fun j => A1.voteN_succ j)
    go_enter Tryz.func133, Tryz.ntmps133
    go_wp2_with (first
      | (go_at_call 185; refine ht.out.mono ?_; rintro _ w1 ⟨rfl, m1⟩; have Hc1 := hidIt (hP.out _ (hS0.out.elec m1)); clear m1)
      | (go_at_call 186; refine Hc1.out.mono ?_; rintro _ w2 ⟨rfl, S2⟩; have Hs2 := hidIt S2; obtain ⟨bx2, hb2⟩ := RB.hb S2; have hc2 := hb2.cell; have ib2 := hb2.inB; unfold RSy at hc2; have HE2 := hidIt S2.he; clear S2 Hc1 hb2)
      | (go_at_call 77; refine (c77 HE2.out).mono ?_; rintro _ w' ⟨rfl, e⟩; obtain rfl := e.symm)
      | (go_at_call 78; refine (c78 HE2.out).mono ?_; rintro _ w' ⟨rfl, e⟩; obtain rfl := e.symm))
    clear hc2 ib2
    go_loopw [6] (fun i u => ∃ j : Nat, j ≤ 3 ∧ i = vi j ∧ Hid (RS G W p A1 (A1.voteN j) u)) (fun i _ => 3 - (intOf i).toNat)
    case atStart => exact ⟨0, by omega, rfl, Hs2⟩
    case round =>
      obtain ⟨j, hj, rfl, H1⟩ := hrel
      by_cases hj3 : j < 3
      · by_cases hid : (j : Int) = A1.el.id
        · have Hs3 : Hid (A1.voteN (j + 1) = A1.voteN j) := by unfold Hid; rw [hvs.out j, if_pos hid]
          have d : ((j : Int) != A1.el.id) = false := by simpa using hid
          clear hid
          go_wp2_with fail
          go_roundw
          case rel => exact ⟨j + 1, by omega, by go_num, by rw [Hs3.out]; exact H1⟩
          case measure => simp [intOf]; omega
        · have d : ((j : Int) != A1.el.id) = true := by simpa using hid
          have Hs3 := hidIt (hvs.out j)
          rw [if_neg hid] at Hs3
          have hlj : (A1.voteN j).length < 3 := by have := A1.voteN_len j; omega
          obtain ⟨bx3, hb3⟩ := RB.hb H1.out
          have hc3 := hb3.cell
          have ib3 := hb3.inB
          unfold RSy at hc3
          unfold RS at H1
          have q188 := hidIt (fun w' (m : ModP (fun _ => False) wr w') => c188 H1.out m (x := ⟨1, A1.el.id, (j : Int), A1.el.term, A1.lg.now.last, (A1.lg.now.termAt A1.lg.now.last).1, 0, false, [], []⟩) (v := .slice none 0 0) (ownsRow_nil _ _ _ _) hlj)
          unfold Msg.r at q188
          simp only [MsgR.cells] at q188
          clear hid hb3 H1
          generalize hlt : (A1.lg.now.termAt A1.lg.now.last).1 = lt at *
          go_wp2_with fail
          refine Ord.region1 [] [0, 1, 2, 3, 4, 5, 6, 7, 8, 9, 10, 11, 12] [13] (by kernel_rfl) (by kernel_rfl) (fun _ _ d _ _ h => by cases d <;> exact h) ?_
          simp only [Ord.pickO, Ord.nth]
          refine wpQuiet_nil ?_
          repeat (go_big_quiet_step (fail))
          refine wpQuiet_nil ?_
          go_wp2_with (first
            | (go_at_call 188; refine (q188.out _ (by first | exact ModP.refl _ _ | exact (ModP.refl _ _).drew | exact (ModP.refl _ _).drew.drew)).mono ?_; rintro _ w5 ⟨rfl, m5⟩; have R5 := hidIt m5; clear m5))
          go_roundw
          case rel =>
            refine ⟨j + 1, by omega, by go_num, ?_⟩
            unfold Hid RS
            rw [Hs3.out, hlt]
            exact R5.out
          case measure => simp [intOf]; omega
      · obtain rfl : j = 3 := by omega
        have Hc3 := hidIt (c189 H1.out (A1.voteN_len 3))
        go_wp2_with (first
          | (go_at_call 189; refine Hc3.out.mono ?_; rintro _ w4 ⟨v, rfl, S4⟩; have H4 := hidIt S4; clear S4))
        go_ret
        rw [hk2.out]
        exact ⟨_, rfl, H4.out⟩
  · have hk2 : Hid (A.tick = ([], A1)) := by unfold Hid; rw [hk.out, if_neg h2, if_neg h1]
    have h1' : (act == 1) = false := by simpa using h1
    clear hk h2 h1
    go_enter Tryz.func133, Tryz.ntmps133
    go_wp2_with (first
      | (go_at_call 185; refine ht.out.mono ?_; rintro _ w1 ⟨rfl, m1⟩; have Hc1 := hidIt (hP.out _ (hS0.out.elec m1)); clear m1)
      | (go_at_call 186; refine Hc1.out.mono ?_; rintro _ w2 ⟨rfl, S2⟩; have Hc2 := hidIt (c189 S2 (by simp)); clear S2 Hc1)
      | (go_at_call 189; refine Hc2.out.mono ?_; rintro _ w4 ⟨v, rfl, S4⟩; have H4 := hidIt S4; clear S4))
    go_ret
    rw [hk2.out]
    exact ⟨_, rfl, H4.out⟩
end
end Go.Proofs.Qxb6500990aGreat
