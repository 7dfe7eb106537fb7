/- package syncm: Step, a vote comes -/
import Derived.Test.Qxb6500990aGreatSym12
set_option linter.unusedVariables false
set_option linter.unusedSimpArgs false
namespace Go.Tw
def fillF (f : Nat → Int) (x : Int) (j : Nat) : Nat → Int := fun k => if k < j then x else f k
theorem fillF_step (f : Nat → Int) (x : Int) (j : Nat) : upd (fillF f x j) j x = fillF f x (j + 1) := by
  funext k
  unfold upd fillF
  by_cases h : k = j
  · subst h; simp
  · by_cases h2 : k < j
    · simp [h, h2, Nat.lt_succ_of_lt h2]
    · have : ¬ k < j + 1 := by omega
      simp [h, h2, this]
theorem fillF_zero (f : Nat → Int) (x : Int) : fillF f x 0 = f := by funext k; simp [fillF]
theorem AS.persist_last (A : AS) : A.persist.lg.now.last = A.lg.now.last := by
  unfold AS.persist
  split
  · rfl
  · simp only [AL.setTerm]; split <;> rfl
end Go.Tw
namespace Go.Proofs.Qxb6500990aGreat
open Go Go.RowKit Go.Tw
attribute [local go_sem] World.cell?_put_same World.cell?_put_ne World.cell?_put_ne' World.frozen?_put_same World.frozen?_put_ne World.frozen?_put_ne' World.setCell_put_same World.setCell_put_ne World.setCell_put_ne' World.inB_put World.inB_alloc World.inB_drew World.inB_drewN World.inB_new World.inB_setCell World.put_drew World.put_drewN World.q_setCell_drew World.q_setCell_drewN World.q_alloc_drew World.q_alloc_drewN World.put_put_same World.put_put_2 World.size_put World.q_cell?_alloc_old World.q_frozen?_alloc_old World.cell?_alloc_new' World.frozen?_alloc_new' World.q_setCell_alloc_old World.q_setCell_alloc_new World.q_put_alloc_old World.cell?_force_same World.frozen?_force_same World.cell?_force2_fst World.cell?_force2_snd SyncM.g0 SyncM.s0 SyncM.g1 SyncM.s1 SyncM.g2 SyncM.s2 SyncM.g3 SyncM.s3 SyncM.g4 SyncM.s4 SyncM.g5 SyncM.s5 SyncM.g6 SyncM.s6 SyncM.g7 SyncM.s7 SyncM.g8 SyncM.s8 SyncM.gi_next_0 SyncM.si_next_0 SyncM.gi_mtch_0 SyncM.si_mtch_0 MsgR.g0 MsgR.s0 MsgR.g1 MsgR.s1 MsgR.g2 MsgR.s2 MsgR.g3 MsgR.s3 MsgR.g4 MsgR.s4 MsgR.g5 MsgR.s5 MsgR.g6 MsgR.s6 MsgR.g7 MsgR.s7 MsgR.g8 MsgR.s8 MsgR.g9 MsgR.s9 Entry.g0 Entry.s0 Entry.g1 Entry.s1
attribute [local go_sem] ba_get upd_same upd_upd
set_option maxHeartbeats 4000000
set_option maxRecDepth 100000
section
variable {W w : World} {G : Nat → Prop} {b bl be : Nat} {A : AS}
theorem c139_2 (h : SMp W G b bl be A) (ok : A.Ok) (hn : A.lg.hist.length ≤ 6900) {v : Value} {m : Msg} {B : Nat} (hv : EntsAt B W v m.ents) (hnv : ∀ g, v.ownBlock = some g → ¬ G g) (hm : msgOK m = true) (hto : m.to = A.el.id) (hfr : m.frm ≠ A.el.id) (hkd : m.kind = 2) :
    Calls Tryz.prog 139 #[vp b, .agg (m.r v).cells] W fun r w' => ∃ v, r = .returned v ∧ SBm G W b bl be (A.voteCame m).2 (A.voteCame m).1 w' v := by
  have hk : Hid (A.voteCame m = if (A.el.gotVote m.frm m.term m.ok).1 = true then ((AS.persist { A with el := (A.el.gotVote m.frm m.term m.ok).2 }).lead.sendAll, (AS.persist { A with el := (A.el.gotVote m.frm m.term m.ok).2 }).lead) else ([], AS.persist { A with el := (A.el.gotVote m.frm m.term m.ok).2 })) := rfl
  have hS0 := hidIt (SB.start h)
  have hc := h.hb.cell
  have ib := h.hb.inB
  unfold SyR at hc
  have hE := hidIt h.he
  obtain ⟨G1, hl1, -⟩ := h.hl
  have hL := hidIt (fun w' (m : ModP (fun _ => False) W w') => hl1.frame m (fun _ _ f => f))
  have hM := hidIt (fun w' (m' : ModP (fun _ => False) W w') => c194 (ownsRow_frame hv m' (fun _ _ f => f)))
  have Hv := hidIt hv
  have Hnv := hidIt hnv
  have Hok := hidIt ok
  obtain ⟨ad, cap, rfl, -⟩ := ownsRow_form hv
  rw [hm] at hM
  have Hm := hidIt (msgOK_iff.1 hm)
  have Hp := hidIt (peer_of Hm.out.f0 Hm.out.f1 hfr)
  clear h hl1 hv hnv ok hm
  obtain ⟨mk, mf, mt, mtm, mi, ml, mc, mo, me, md⟩ := m
  simp only [] at *
  unfold Msg.r at *
  simp only [] at *
  subst hkd hto
  have hfr' : (mf == A.el.id) = false := by simpa using hfr
  clear hfr
  obtain ⟨⟨ok1, el1⟩, hel⟩ : ∃ x, A.el.gotVote mf mtm mo = x := ⟨_, rfl⟩
  have hA := hidIt (fun (w' : World) (h : w'.At be A.el.cells 218) => c206 h Hok.out.el mo Hp.out (by have := Hm.out.t1; exact this))
  rw [hel] at hA hk
  simp only [] at hA hk
  obtain ⟨A1, hA1⟩ : ∃ A1, AS.persist { A with el := el1 } = A1 := ⟨_, rfl⟩
  rw [hA1] at hk
  have oA1 : Hid (A1.Ok) := by unfold Hid; rw [← hA1]; refine (Hok.out.with_el ?_).persist; have := Hok.out.el.gotVote mf mtm mo; rw [hel] at this; exact this
  have nA1 : Hid (A1.lg.hist.length ≤ 6901) := by have := AS.persist_len { A with el := el1 }; rw [hA1] at this; unfold Hid; simp only [] at this; omega
  have hla : Hid (A1.lg.now.last = A.lg.now.last) := by unfold Hid; rw [← hA1]; exact AS.persist_last _
  have hP := hidIt (fun G w' (h : SB G w' b bl be { A with el := el1 } w') => c201 h (by show A.lg.hist.length ≤ 9000; omega))
  rw [hA1] at hP
  clear hel hA1 hn
  cases ok1
  · rw [if_neg (by simp)] at hk
    go_enter Tryz.func139, Tryz.ntmps139
    go_wp2_with fail
    refine Ord.region1 [] [0, 1, 2, 3, 4, 5, 6, 7] [8] (by kernel_rfl) (by kernel_rfl) (fun _ _ d _ _ h => by cases d <;> exact h) ?_
    simp only [Ord.pickO, Ord.nth]
    refine wpQuiet_nil ?_
    repeat (first | go_big_quiet_step (fail) | (go_big_quiet_want; go_big_quiet_op; refine Exists.intro _ ⟨by first | (go_at_call 114; exact c114 (hE.out.alloc _)), ?_⟩; go_big_quiet_on))
    refine wpQuiet_nil ?_
    go_wp2_with (first
      | (go_at_call 194; refine (hM.out _ (by repeat (first | assumption | exact ModP.refl _ _ | refine ModP.fromPut ?_ (by assumption) | apply ModP.alloc | apply ModP.drew | apply ModP.drewN | refine ModP.put ?_ (by first | (left; assumption) | (left; rfl) | (right; simp only [World.inB, World.size_put] at *; omega)) _ _))).mono ?_; rintro _ w1 ⟨rfl, xo, hw1⟩; have M1 := hidIt (show ModP (fun _ => False) (W.alloc (.cells (MsgR.cells (MsgR.mk 2 mf A.el.id mtm mi ml mc mo (.slice ad me.length cap) md)) 159 (0, 0))) w1 by rw [hw1]; exact (by repeat (first | assumption | exact ModP.refl _ _ | refine ModP.fromPut ?_ (by assumption) | apply ModP.alloc | apply ModP.drew | apply ModP.drewN | refine ModP.put ?_ (by first | (left; assumption) | (left; rfl) | (right; simp only [World.inB, World.size_put] at *; omega)) _ _))); have hx1 := M1.out.at (b := W.heap.size) World.At_alloc_new (fun x => x); have Hx1 := hidIt hx1; have hcx1 := hx1.cell; have ix1 := hx1.inB; have M01 := hidIt (((ModP.refl _ _).alloc _).trans M1.out); have hc1 := fun o => (M01.out.cell ib (fun x => x) o).trans (hc o); have ib1 := M01.out.inB ib; clear hw1 hx1 hc)
      | (go_at_call 154; refine (c154 (hL.out _ (ModP.alloc M01.out _)) (by have := Hok.out.lg.n6; omega) Hok.out.lg.b0 (by have := Hok.out.lg.lm; omega)).mono ?_; rintro _ w2 ⟨rfl, m2, hw2⟩; have S2 : StX G W b bl be A W.heap.size (MsgR.mk 2 mf A.el.id mtm mi ml mc mo (.slice ad me.length cap) md) w1.heap.size ⟨4, A.el.id, mf, 0, 0, 0, 0, false, .slice none 0 0, []⟩ w2 := SB.stx hS0.out M1.out (ob2 := .cells (MsgR.cells ⟨4, A.el.id, mf, 0, 0, 0, 0, false, .slice none 0 0, []⟩) 159 (0, 0)) (by rw [hw2]; exact ModP.drewN (ModP.refl _ _) _) (by rw [hw2]; exact (World.At_drewN _).2 (Hx1.out.alloc _)) (by rw [hw2]; exact (World.At_drewN _).2 World.At_alloc_new); clear hw2 hc1 ib1 hcx1 ix1 m2 Hx1 M1; obtain ⟨y2, rfl, ix2, ir2, ib2, n12, n22, n32, HS2⟩ := S2.door; clear S2)
      )
    refine Ord.region1 [] [0, 1, 2, 3, 4, 5, 6, 7, 8] [9, 10] (by kernel_rfl) (by kernel_rfl) (fun _ _ d _ _ h => by cases d <;> exact h) ?_
    simp only [Ord.pickO, Ord.nth]
    refine wpQuiet_nil ?_
    repeat (go_big_quiet_step (fail))
    refine wpQuiet_nil ?_
    go_wp2_with (first
      | (go_at_call 206; refine (hA.out _ (World.At_drew.2 (HS2.out _ _ _ _).sx.sb.he)).mono ?_; rintro _ w4 ⟨rfl, m4⟩; have S4 := ((HS2.out ⟨4, A.el.id, mf, 0, 0, 0, 0, false, .slice none 0 0, []⟩ A.commit A.next A.mtch).fr (ModP.drew (ModP.refl _ _))).elec m4; clear m4 HS2 ix2 ir2 ib2 n12 n22 n32; obtain ⟨y4, rfl, ix4, ir4, ib4, n14, n24, n34, HS4⟩ := S4.door; clear S4)
      | (go_at_call 201; refine ((HS4.out ⟨4, A.el.id, mf, 0, 0, 0, 0, false, .slice none 0 0, []⟩ A.commit A.next A.mtch).call (fun G _ h => hP.out G _ h)).mono ?_; rintro _ w5 ⟨rfl, S5⟩; clear HS4 ix4 ir4 ib4 n14 n24 n34; obtain ⟨y5, rfl, ix5, ir5, ib5, n15, n25, n35, HS5⟩ := S5.door; clear S5))
    go_ret
    refine ⟨_, rfl, ?_⟩
    rw [hk.out]
    exact (HS5.out ⟨4, A.el.id, mf, 0, 0, 0, 0, false, .slice none 0 0, []⟩ A1.commit A1.next A1.mtch).sx.sb.none
  · rw [if_pos rfl] at hk
    have oL := hidIt oA1.out.lead
    have hAp := hidIt (fun G w' (h : LMK w' G bl A1.lg) => c156 h oA1.out.lg (by have := nA1.out; omega) ⟨A1.el.term, []⟩)
    have l0 := Hok.out.lg.last0
    have l1 : A.lg.now.last ≤ 72057594037927936 := Hok.out.lg.last1
    go_enter Tryz.func139, Tryz.ntmps139
    go_wp2_with fail
    refine Ord.region1 [] [0, 1, 2, 3, 4, 5, 6, 7] [8] (by kernel_rfl) (by kernel_rfl) (fun _ _ d _ _ h => by cases d <;> exact h) ?_
    simp only [Ord.pickO, Ord.nth]
    refine wpQuiet_nil ?_
    repeat (first | go_big_quiet_step (fail) | (go_big_quiet_want; go_big_quiet_op; refine Exists.intro _ ⟨by first | (go_at_call 114; exact c114 (hE.out.alloc _)), ?_⟩; go_big_quiet_on))
    refine wpQuiet_nil ?_
    go_wp2_with (first
      | (go_at_call 194; refine (hM.out _ (by repeat (first | assumption | exact ModP.refl _ _ | refine ModP.fromPut ?_ (by assumption) | apply ModP.alloc | apply ModP.drew | apply ModP.drewN | refine ModP.put ?_ (by first | (left; assumption) | (left; rfl) | (right; simp only [World.inB, World.size_put] at *; omega)) _ _))).mono ?_; rintro _ w1 ⟨rfl, xo, hw1⟩; have M1 := hidIt (show ModP (fun _ => False) (W.alloc (.cells (MsgR.cells (MsgR.mk 2 mf A.el.id mtm mi ml mc mo (.slice ad me.length cap) md)) 159 (0, 0))) w1 by rw [hw1]; exact (by repeat (first | assumption | exact ModP.refl _ _ | refine ModP.fromPut ?_ (by assumption) | apply ModP.alloc | apply ModP.drew | apply ModP.drewN | refine ModP.put ?_ (by first | (left; assumption) | (left; rfl) | (right; simp only [World.inB, World.size_put] at *; omega)) _ _))); have hx1 := M1.out.at (b := W.heap.size) World.At_alloc_new (fun x => x); have Hx1 := hidIt hx1; have hcx1 := hx1.cell; have ix1 := hx1.inB; have M01 := hidIt (((ModP.refl _ _).alloc _).trans M1.out); have hc1 := fun o => (M01.out.cell ib (fun x => x) o).trans (hc o); have ib1 := M01.out.inB ib; clear hw1 hx1 hc)
      | (go_at_call 154; refine (c154 (hL.out _ (ModP.alloc M01.out _)) (by have := Hok.out.lg.n6; omega) Hok.out.lg.b0 (by have := Hok.out.lg.lm; omega)).mono ?_; rintro _ w2 ⟨rfl, m2, hw2⟩; have S2 : StX G W b bl be A W.heap.size (MsgR.mk 2 mf A.el.id mtm mi ml mc mo (.slice ad me.length cap) md) w1.heap.size ⟨4, A.el.id, mf, 0, 0, 0, 0, false, .slice none 0 0, []⟩ w2 := SB.stx hS0.out M1.out (ob2 := .cells (MsgR.cells ⟨4, A.el.id, mf, 0, 0, 0, 0, false, .slice none 0 0, []⟩) 159 (0, 0)) (by rw [hw2]; exact ModP.drewN (ModP.refl _ _) _) (by rw [hw2]; exact (World.At_drewN _).2 (Hx1.out.alloc _)) (by rw [hw2]; exact (World.At_drewN _).2 World.At_alloc_new); clear hw2 hc1 ib1 hcx1 ix1 m2 Hx1 M1; obtain ⟨y2, rfl, ix2, ir2, ib2, n12, n22, n32, HS2⟩ := S2.door; clear S2)
      )
    refine Ord.region1 [] [0, 1, 2, 3, 4, 5, 6, 7, 8] [9, 10] (by kernel_rfl) (by kernel_rfl) (fun _ _ d _ _ h => by cases d <;> exact h) ?_
    simp only [Ord.pickO, Ord.nth]
    refine wpQuiet_nil ?_
    repeat (go_big_quiet_step (fail))
    refine wpQuiet_nil ?_
    go_wp2_with (first
      | (go_at_call 206; refine (hA.out _ (World.At_drew.2 (HS2.out _ _ _ _).sx.sb.he)).mono ?_; rintro _ w4 ⟨rfl, m4⟩; have S4 := ((HS2.out ⟨4, A.el.id, mf, 0, 0, 0, 0, false, .slice none 0 0, []⟩ A.commit A.next A.mtch).fr (ModP.drew (ModP.refl _ _))).elec m4; clear m4 HS2 ix2 ir2 ib2 n12 n22 n32; obtain ⟨y4, rfl, ix4, ir4, ib4, n14, n24, n34, HS4⟩ := S4.door; clear S4)
      | (go_at_call 201; refine ((HS4.out ⟨4, A.el.id, mf, 0, 0, 0, 0, false, .slice none 0 0, []⟩ A.commit A.next A.mtch).call (fun G _ h => hP.out G _ h)).mono ?_; rintro _ w5 ⟨rfl, S5⟩; clear HS4 ix4 ir4 ib4 n14 n24 n34; have H5 := hidIt S5; clear S5))
    go_loopw [14] (fun q u => ∃ j : Nat, j ≤ 3 ∧ q = vi j ∧ Hid (StX G W b bl be { A1 with next := fillF A1.next (A.lg.now.last + 1) j, mtch := fillF A1.mtch 0 j } W.heap.size (MsgR.mk 2 mf A.el.id mtm mi ml mc mo (.slice ad me.length cap) md) w1.heap.size ⟨4, A.el.id, mf, 0, 0, 0, 0, false, .slice none 0 0, []⟩ u)) (fun q _ => 3 - (intOf q).toNat)
    case atStart => exact ⟨0, by omega, rfl, by rw [fillF_zero, fillF_zero]; exact H5⟩
    case round =>
      obtain ⟨j, hj, rfl, H1⟩ := hrel
      clear H5
      have S6 := H1.out
      clear H1
      by_cases hj3 : j < 3
      · have f1 := hidIt (fillF_step A1.next (A.lg.now.last + 1) j)
        have f2 := hidIt (fillF_step A1.mtch 0 j)
        obtain ⟨y6, rfl, ix6, ir6, ib6, n16, n26, n36, HS6⟩ := S6.door; clear S6
        simp only [] at *
        generalize fillF A1.next (A.lg.now.last + 1) j = nx at *
        generalize fillF A1.mtch 0 j = mx at *
        go_wp2_with fail
        refine Ord.region1 [2, 3, 10, 11] [0, 1, 4, 5, 6, 7, 8] [9, 12, 13] (by kernel_rfl) (by kernel_rfl) (fun _ _ d _ _ h => by cases d <;> exact h) ?_
        simp only [Ord.pickO, Ord.nth]
        repeat (go_big_quiet_step (fail))
        refine wpQuiet_nil ?_
        repeat (go_big_quiet_step (fail))
        refine wpQuiet_nil ?_
        go_wp2_with fail
        go_roundw
        case rel => exact ⟨j + 1, by omega, by go_num, by have h9 := (HS6.out ⟨4, A.el.id, mf, 0, 0, 0, 0, false, .slice none 0 0, []⟩ A1.commit (upd nx j (A.lg.now.last + 1)) (upd mx j 0)).fr (ModP.drew (ModP.refl _ _)); unfold Hid; rw [← f1.out, ← f2.out]; exact h9⟩
        case measure => simp [intOf]; omega
      · obtain rfl : j = 3 := by omega
        clear hj3 hj
        obtain ⟨y6, rfl, ix6, ir6, ib6, n16, n26, n36, HS6⟩ := S6.door; clear S6
        simp only [] at *
        rw [show SyncM.cells ⟨vp bl, vp be, A1.commit, fillF A1.next (A.lg.now.last + 1) 3, fillF A1.mtch 0 3⟩ = SyncM.cells ⟨vp bl, vp be, A1.commit, fun _ => A.lg.now.last + 1, fun _ => 0⟩ from rfl]
        go_wp2_with (first
          | (go_at_call 147; refine (c147 (HS6.out _ A1.commit (fun _ => A.lg.now.last + 1) (fun _ => 0)).sx.sb.he).mono ?_; rintro _ _ ⟨rfl, rfl⟩)
          | (go_at_call 156; refine ((HS6.out ⟨4, A.el.id, mf, 0, 0, 0, 0, false, .slice none 0 0, []⟩ A1.commit (fun _ => A.lg.now.last + 1) (fun _ => 0)).log (P := fun r => r = .returned (vi (A1.lg.append ⟨A1.el.term, []⟩).1)) (lg' := (A1.lg.append ⟨A1.el.term, []⟩).2) (fun G h => hAp.out G _ h)).mono ?_; rintro _ w8 ⟨rfl, S8⟩; have HS8 := hidIt S8; have hc8 := S8.sx.sb.hb.cell; have ib8 := S8.sx.sb.hb.inB; unfold SyR at hc8; clear S8 HS6 ix6 ir6 ib6 n16 n26 n36)
          | (go_at_call 202; obtain ⟨G9, h9, -⟩ := HS8.out.sx; refine (c202 h9 oL.out.lg (by intro p; have := oL.out.n1 p; unfold AS.lead at this; rw [hla.out] at this; exact this)).mono ?_; rintro _ w9 ⟨v9, rfl, hm9, mp9⟩))
        go_ret
        refine ⟨_, rfl, ?_⟩
        rw [hk.out]
        have hfin := HS8.out.sx.sb.msgs mp9 hm9
        unfold AS.lead
        rw [hla.out]
        exact hfin
end
end Go.Proofs.Qxb6500990aGreat
