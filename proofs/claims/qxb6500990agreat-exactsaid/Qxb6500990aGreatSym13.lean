/- package syncm: Step, a vote is asked -/
import Derived.Test.Qxb6500990aGreatSym12
set_option linter.unusedVariables false
set_option linter.unusedSimpArgs false
namespace Go.Proofs.Qxb6500990aGreat
open Go Go.RowKit Go.Tw
attribute [local go_sem] World.cell?_put_same World.cell?_put_ne World.cell?_put_ne' World.frozen?_put_same World.frozen?_put_ne World.frozen?_put_ne' World.setCell_put_same World.setCell_put_ne World.setCell_put_ne' World.inB_put World.inB_alloc World.inB_drew World.inB_drewN World.inB_new World.inB_setCell World.put_drew World.put_drewN World.q_setCell_drew World.q_setCell_drewN World.q_alloc_drew World.q_alloc_drewN World.put_put_same World.put_put_2 World.size_put World.q_cell?_alloc_old World.q_frozen?_alloc_old World.cell?_alloc_new' World.frozen?_alloc_new' World.q_setCell_alloc_old World.q_setCell_alloc_new World.q_put_alloc_old World.cell?_force_same World.frozen?_force_same World.cell?_force2_fst World.cell?_force2_snd SyncM.g0 SyncM.s0 SyncM.g1 SyncM.s1 SyncM.g2 SyncM.s2 SyncM.g3 SyncM.s3 SyncM.g4 SyncM.s4 SyncM.g5 SyncM.s5 SyncM.g6 SyncM.s6 SyncM.g7 SyncM.s7 SyncM.g8 SyncM.s8 SyncM.gi_next_0 SyncM.si_next_0 SyncM.gi_mtch_0 SyncM.si_mtch_0 MsgR.g0 MsgR.s0 MsgR.g1 MsgR.s1 MsgR.g2 MsgR.s2 MsgR.g3 MsgR.s3 MsgR.g4 MsgR.s4 MsgR.g5 MsgR.s5 MsgR.g6 MsgR.s6 MsgR.g7 MsgR.s7 MsgR.g8 MsgR.s8 MsgR.g9 MsgR.s9 Entry.g0 Entry.s0 Entry.g1 Entry.s1
attribute [local go_sem] ba_get upd_same upd_upd
set_option maxHeartbeats 4000000
set_option maxRecDepth 100000
section
variable {W w : World} {G : Nat → Prop} {b bl be : Nat} {A : AS}
theorem c139_1 (h : SMp W G b bl be A) (ok : A.Ok) (hn : A.lg.hist.length ≤ 6900) {v : Value} {m : Msg} {B : Nat} (hv : EntsAt B W v m.ents) (hnv : ∀ g, v.ownBlock = some g → ¬ G g) (hm : msgOK m = true) (hto : m.to = A.el.id) (hfr : m.frm ≠ A.el.id) (hkd : m.kind = 1) :
    Calls Tryz.prog 139 #[vp b, .agg (m.r v).cells] W fun r w' => ∃ v, r = .returned v ∧ SBm G W b bl be (A.voteAsked m).2 (A.voteAsked m).1 w' v := by
  have hk : Hid (A.voteAsked m = ([(AS.persist { A with el := (A.el.asked m.frm m.term (A.upto m)).2 }).reply 2 m.frm (A.el.asked m.frm m.term (A.upto m)).1 0], AS.persist { A with el := (A.el.asked m.frm m.term (A.upto m)).2 })) := rfl
  obtain ⟨up, hup⟩ : ∃ u, Hid (A.upto m = u) := ⟨_, rfl⟩
  have hT := hidIt (fun G1 w' (h : LMK w' G1 bl A.lg) => c203 h ok.lg A.lg.now.last)
  have hup2 := hup.out
  unfold AS.upto at hup2
  have hS0 := hidIt (SB.start h)
  have hc := h.hb.cell
  have ib := h.hb.inB
  unfold SyR at hc
  have hE := hidIt h.he
  obtain ⟨G1, hl1, -⟩ := h.hl
  have hL := hidIt (fun w' (m : ModP (fun _ => False) W w') => hl1.frame m (fun _ _ f => f))
  have hM := hidIt (fun w' (m' : ModP (fun _ => False) W w') => c194 (ownsRow_frame hv m' (fun _ _ f => f)))
  have Hv := hidIt hv
  have Hnv := hidIt hnv
  have Hok := hidIt ok
  obtain ⟨ad, cap, rfl, -⟩ := ownsRow_form hv
  rw [hm] at hM
  have Hm := hidIt (msgOK_iff.1 hm)
  have Hp := hidIt (peer_of Hm.out.f0 Hm.out.f1 hfr)
  clear h hl1 hv hnv ok hm
  obtain ⟨mk, mf, mt, mtm, mi, ml, mc, mo, me, md⟩ := m
  simp only [] at *
  unfold Msg.r at *
  simp only [] at *
  subst hkd hto
  have hfr' : (mf == A.el.id) = false := by simpa using hfr
  clear hfr
  obtain ⟨⟨lt, le⟩, hlt⟩ : ∃ x, A.lg.now.termAt A.lg.now.last = x := ⟨_, rfl⟩
  rw [hlt] at hT hup2
  clear hlt
  simp only [] at hup2
  by_cases q1 : lt < ml
  · obtain rfl : true = up := by rw [← hup2]; simp [q1]
    clear hup2
    obtain ⟨⟨ok1, el1⟩, hel⟩ : ∃ x, A.el.asked mf mtm true = x := ⟨_, rfl⟩
    have hA := hidIt (fun (w' : World) (h : w'.At be A.el.cells 218) => c205 h Hok.out.el true Hp.out (by have := Hm.out.t1; exact this))
    rw [hel] at hA
    rw [hup.out, hel] at hk
    simp only [] at hA hk
    have oe1 : Hid (el1.Ok) := by have := Hok.out.el.asked Hp.out mtm true; rw [hel] at this; exact this
    obtain ⟨A1, hA1⟩ : ∃ A1, AS.persist { A with el := el1 } = A1 := ⟨_, rfl⟩
    rw [hA1] at hk
    have hP := hidIt (fun G w' (h : SB G w' b bl be { A with el := el1 } w') => c201 h (by show A.lg.hist.length ≤ 9000; omega))
    rw [hA1] at hP
    have hid : Hid (A1.el.id = A.el.id) := by unfold Hid; rw [← hA1, AS.persist_id]; have := A.el.asked_id mf mtm true; rw [hel] at this; exact this
    clear hel hup hA1 hn
    go_enter Tryz.func139, Tryz.ntmps139
    go_wp2_with fail
    refine Ord.region1 [] [0, 1, 2, 3, 4, 5, 6, 7] [8] (by kernel_rfl) (by kernel_rfl) (fun _ _ d _ _ h => by cases d <;> exact h) ?_
    simp only [Ord.pickO, Ord.nth]
    refine wpQuiet_nil ?_
    repeat (first | go_big_quiet_step (fail) | (go_big_quiet_want; go_big_quiet_op; refine Exists.intro _ ⟨by first | (go_at_call 114; exact c114 (hE.out.alloc _)), ?_⟩; go_big_quiet_on))
    refine wpQuiet_nil ?_
    go_wp2_with (first
      | (go_at_call 194; refine (hM.out _ (by repeat (first | assumption | exact ModP.refl _ _ | refine ModP.fromPut ?_ (by assumption) | apply ModP.alloc | apply ModP.drew | apply ModP.drewN | refine ModP.put ?_ (by first | (left; assumption) | (left; rfl) | (right; simp only [World.inB, World.size_put] at *; omega)) _ _))).mono ?_; rintro _ w1 ⟨rfl, xo, hw1⟩; have M1 := hidIt (show ModP (fun _ => False) (W.alloc (.cells (MsgR.cells (MsgR.mk 1 mf A.el.id mtm mi ml mc mo (.slice ad me.length cap) md)) 159 (0, 0))) w1 by rw [hw1]; exact (by repeat (first | assumption | exact ModP.refl _ _ | refine ModP.fromPut ?_ (by assumption) | apply ModP.alloc | apply ModP.drew | apply ModP.drewN | refine ModP.put ?_ (by first | (left; assumption) | (left; rfl) | (right; simp only [World.inB, World.size_put] at *; omega)) _ _))); have hx1 := M1.out.at (b := W.heap.size) World.At_alloc_new (fun x => x); have Hx1 := hidIt hx1; have hcx1 := hx1.cell; have ix1 := hx1.inB; have M01 := hidIt (((ModP.refl _ _).alloc _).trans M1.out); have hc1 := fun o => (M01.out.cell ib (fun x => x) o).trans (hc o); have ib1 := M01.out.inB ib; clear hw1 hx1 hc)
      | (go_at_call 154; refine (c154 (hL.out _ (ModP.alloc M01.out _)) (by have := Hok.out.lg.n6; omega) Hok.out.lg.b0 (by have := Hok.out.lg.lm; omega)).mono ?_; rintro _ w2 ⟨rfl, m2, hw2⟩; have S2 : StX G W b bl be A W.heap.size (MsgR.mk 1 mf A.el.id mtm mi ml mc mo (.slice ad me.length cap) md) w1.heap.size ⟨4, A.el.id, mf, 0, 0, 0, 0, false, .slice none 0 0, []⟩ w2 := SB.stx hS0.out M1.out (ob2 := .cells (MsgR.cells ⟨4, A.el.id, mf, 0, 0, 0, 0, false, .slice none 0 0, []⟩) 159 (0, 0)) (by rw [hw2]; exact ModP.drewN (ModP.refl _ _) _) (by rw [hw2]; exact (World.At_drewN _).2 (Hx1.out.alloc _)) (by rw [hw2]; exact (World.At_drewN _).2 World.At_alloc_new); clear hw2 hc1 ib1 hcx1 ix1 m2 Hx1 M1; obtain ⟨y2, rfl, ix2, ir2, ib2, n12, n22, n32, HS2⟩ := S2.door; clear S2)
      | (go_at_call 203; refine (hT.out _ _ (HS2.out _ _ _ _).sx.sb.lk.choose_spec).mono ?_; rintro _ w3 ⟨rfl, m3⟩; have S3 := (HS2.out ⟨4, A.el.id, mf, 0, 0, 0, 0, false, .slice none 0 0, []⟩ A.commit A.next A.mtch).fr m3.toP0; clear m3 HS2 ix2 ir2 ib2 n12 n22 n32; obtain ⟨y3, rfl, ix3, ir3, ib3, n13, n23, n33, HS3⟩ := S3.door; clear S3))
    refine Ord.region1 [] [0, 1, 2, 3, 4, 5, 6, 7] [8, 9, 10] (by kernel_rfl) (by kernel_rfl) (fun _ _ d _ _ h => by cases d <;> exact h) ?_
    simp only [Ord.pickO, Ord.nth]
    refine wpQuiet_nil ?_
    repeat (go_big_quiet_step (fail))
    refine wpQuiet_nil ?_
    go_wp2_with (first
      | (go_at_call 205; refine (hA.out _ (World.At_drew.2 (HS3.out _ _ _ _).sx.sb.he)).mono ?_; rintro _ w4 ⟨rfl, m4⟩; have S4 := ((HS3.out ⟨4, A.el.id, mf, 0, 0, 0, 0, false, .slice none 0 0, []⟩ A.commit A.next A.mtch).fr (ModP.drew (ModP.refl _ _))).elec m4; clear m4 HS3 ix3 ir3 ib3 n13 n23 n33; obtain ⟨y4, rfl, ix4, ir4, ib4, n14, n24, n34, HS4⟩ := S4.door; clear S4)
      | (go_at_call 201; refine ((HS4.out ⟨4, A.el.id, mf, 0, 0, 0, 0, ok1, .slice none 0 0, []⟩ A.commit A.next A.mtch).call (fun G _ h => hP.out G _ h)).mono ?_; rintro _ w5 ⟨rfl, S5⟩; clear HS4 ix4 ir4 ib4 n14 n24 n34; obtain ⟨y5, rfl, ix5, ir5, ib5, n15, n25, n35, HS5⟩ := S5.door; clear S5)
      | (go_at_call 147; refine (c147 (HS5.out ⟨2, A.el.id, mf, 0, 0, 0, 0, ok1, .slice none 0 0, []⟩ _ _ _).sx.sb.he).mono ?_; rintro _ _ ⟨rfl, rfl⟩)
      | (at_builtin; (refine wp_appM (B := y5.heap.size) (ms := []) (m := ⟨2, A.el.id, mf, A1.el.term, 0, 0, 0, ok1, [], []⟩) (ev := .slice none 0 0) rfl _ _ rfl rfl rfl (at_new (by simp [World.size_put])) (MsgsAt.nil _ _) (ownsRow_nil _ _ _ _) (by simp [World.size_put]) (by simp) ?_; intro v2 w6 h6 m6; have S6 := HS5.out ⟨2, A.el.id, mf, A1.el.term, 0, 0, 0, ok1, .slice none 0 0, []⟩ A1.commit A1.next A1.mtch; have H6 := hidIt h6; have M6 := hidIt m6; clear h6 m6)))
    go_ret
    refine ⟨_, rfl, ?_⟩
    rw [hk.out]
    refine S6.sx.sb.msgs ?_ ?_
    · exact ModP.step (G := fun k => y5.heap.size ≤ k) (ModP.alloc (ModP.refl _ _) _) M6.out (fun k hk => .inr (by simpa [World.size_put] using hk))
    · have := H6.out
      unfold AS.reply
      rw [hid.out]
      simpa [World.size_put] using this
  have q1' : ml ≤ lt := by omega
  by_cases q2 : ml = lt
  · subst q2
    obtain rfl : decide (A.lg.now.last ≤ mi) = up := by rw [← hup2]; simp
    clear hup2 q1 q1'
    obtain ⟨⟨ok1, el1⟩, hel⟩ : ∃ x, A.el.asked mf mtm (decide (A.lg.now.last ≤ mi)) = x := ⟨_, rfl⟩
    have hA := hidIt (fun (w' : World) (h : w'.At be A.el.cells 218) => c205 h Hok.out.el (decide (A.lg.now.last ≤ mi)) Hp.out (by have := Hm.out.t1; exact this))
    rw [hel] at hA
    rw [hup.out, hel] at hk
    simp only [] at hA hk
    have oe1 : Hid (el1.Ok) := by have := Hok.out.el.asked Hp.out mtm (decide (A.lg.now.last ≤ mi)); rw [hel] at this; exact this
    obtain ⟨A1, hA1⟩ : ∃ A1, AS.persist { A with el := el1 } = A1 := ⟨_, rfl⟩
    rw [hA1] at hk
    have hP := hidIt (fun G w' (h : SB G w' b bl be { A with el := el1 } w') => c201 h (by show A.lg.hist.length ≤ 9000; omega))
    rw [hA1] at hP
    have hid : Hid (A1.el.id = A.el.id) := by unfold Hid; rw [← hA1, AS.persist_id]; have := A.el.asked_id mf mtm (decide (A.lg.now.last ≤ mi)); rw [hel] at this; exact this
    clear hel hup hA1 hn
    go_enter Tryz.func139, Tryz.ntmps139
    go_wp2_with fail
    refine Ord.region1 [] [0, 1, 2, 3, 4, 5, 6, 7] [8] (by kernel_rfl) (by kernel_rfl) (fun _ _ d _ _ h => by cases d <;> exact h) ?_
    simp only [Ord.pickO, Ord.nth]
    refine wpQuiet_nil ?_
    repeat (first | go_big_quiet_step (fail) | (go_big_quiet_want; go_big_quiet_op; refine Exists.intro _ ⟨by first | (go_at_call 114; exact c114 (hE.out.alloc _)), ?_⟩; go_big_quiet_on))
    refine wpQuiet_nil ?_
    go_wp2_with (first
      | (go_at_call 194; refine (hM.out _ (by repeat (first | assumption | exact ModP.refl _ _ | refine ModP.fromPut ?_ (by assumption) | apply ModP.alloc | apply ModP.drew | apply ModP.drewN | refine ModP.put ?_ (by first | (left; assumption) | (left; rfl) | (right; simp only [World.inB, World.size_put] at *; omega)) _ _))).mono ?_; rintro _ w1 ⟨rfl, xo, hw1⟩; have M1 := hidIt (show ModP (fun _ => False) (W.alloc (.cells (MsgR.cells (MsgR.mk 1 mf A.el.id mtm mi ml mc mo (.slice ad me.length cap) md)) 159 (0, 0))) w1 by rw [hw1]; exact (by repeat (first | assumption | exact ModP.refl _ _ | refine ModP.fromPut ?_ (by assumption) | apply ModP.alloc | apply ModP.drew | apply ModP.drewN | refine ModP.put ?_ (by first | (left; assumption) | (left; rfl) | (right; simp only [World.inB, World.size_put] at *; omega)) _ _))); have hx1 := M1.out.at (b := W.heap.size) World.At_alloc_new (fun x => x); have Hx1 := hidIt hx1; have hcx1 := hx1.cell; have ix1 := hx1.inB; have M01 := hidIt (((ModP.refl _ _).alloc _).trans M1.out); have hc1 := fun o => (M01.out.cell ib (fun x => x) o).trans (hc o); have ib1 := M01.out.inB ib; clear hw1 hx1 hc)
      | (go_at_call 154; refine (c154 (hL.out _ (ModP.alloc M01.out _)) (by have := Hok.out.lg.n6; omega) Hok.out.lg.b0 (by have := Hok.out.lg.lm; omega)).mono ?_; rintro _ w2 ⟨rfl, m2, hw2⟩; have S2 : StX G W b bl be A W.heap.size (MsgR.mk 1 mf A.el.id mtm mi ml mc mo (.slice ad me.length cap) md) w1.heap.size ⟨4, A.el.id, mf, 0, 0, 0, 0, false, .slice none 0 0, []⟩ w2 := SB.stx hS0.out M1.out (ob2 := .cells (MsgR.cells ⟨4, A.el.id, mf, 0, 0, 0, 0, false, .slice none 0 0, []⟩) 159 (0, 0)) (by rw [hw2]; exact ModP.drewN (ModP.refl _ _) _) (by rw [hw2]; exact (World.At_drewN _).2 (Hx1.out.alloc _)) (by rw [hw2]; exact (World.At_drewN _).2 World.At_alloc_new); clear hw2 hc1 ib1 hcx1 ix1 m2 Hx1 M1; obtain ⟨y2, rfl, ix2, ir2, ib2, n12, n22, n32, HS2⟩ := S2.door; clear S2)
      | (go_at_call 203; refine (hT.out _ _ (HS2.out _ _ _ _).sx.sb.lk.choose_spec).mono ?_; rintro _ w3 ⟨rfl, m3⟩; have S3 := (HS2.out ⟨4, A.el.id, mf, 0, 0, 0, 0, false, .slice none 0 0, []⟩ A.commit A.next A.mtch).fr m3.toP0; clear m3 HS2 ix2 ir2 ib2 n12 n22 n32; obtain ⟨y3, rfl, ix3, ir3, ib3, n13, n23, n33, HS3⟩ := S3.door; clear S3))
    refine Ord.region1 [] [0, 1, 2, 3, 4, 5, 6, 7] [8, 9, 10] (by kernel_rfl) (by kernel_rfl) (fun _ _ d _ _ h => by cases d <;> exact h) ?_
    simp only [Ord.pickO, Ord.nth]
    refine wpQuiet_nil ?_
    repeat (go_big_quiet_step (fail))
    refine wpQuiet_nil ?_
    go_wp2_with (first
      | (go_at_call 205; refine (hA.out _ (World.At_drew.2 (HS3.out _ _ _ _).sx.sb.he)).mono ?_; rintro _ w4 ⟨rfl, m4⟩; have S4 := ((HS3.out ⟨4, A.el.id, mf, 0, 0, 0, 0, false, .slice none 0 0, []⟩ A.commit A.next A.mtch).fr (ModP.drew (ModP.refl _ _))).elec m4; clear m4 HS3 ix3 ir3 ib3 n13 n23 n33; obtain ⟨y4, rfl, ix4, ir4, ib4, n14, n24, n34, HS4⟩ := S4.door; clear S4)
      | (go_at_call 201; refine ((HS4.out ⟨4, A.el.id, mf, 0, 0, 0, 0, ok1, .slice none 0 0, []⟩ A.commit A.next A.mtch).call (fun G _ h => hP.out G _ h)).mono ?_; rintro _ w5 ⟨rfl, S5⟩; clear HS4 ix4 ir4 ib4 n14 n24 n34; obtain ⟨y5, rfl, ix5, ir5, ib5, n15, n25, n35, HS5⟩ := S5.door; clear S5)
      | (go_at_call 147; refine (c147 (HS5.out ⟨2, A.el.id, mf, 0, 0, 0, 0, ok1, .slice none 0 0, []⟩ _ _ _).sx.sb.he).mono ?_; rintro _ _ ⟨rfl, rfl⟩)
      | (at_builtin; (refine wp_appM (B := y5.heap.size) (ms := []) (m := ⟨2, A.el.id, mf, A1.el.term, 0, 0, 0, ok1, [], []⟩) (ev := .slice none 0 0) rfl _ _ rfl rfl rfl (at_new (by simp [World.size_put])) (MsgsAt.nil _ _) (ownsRow_nil _ _ _ _) (by simp [World.size_put]) (by simp) ?_; intro v2 w6 h6 m6; have S6 := HS5.out ⟨2, A.el.id, mf, A1.el.term, 0, 0, 0, ok1, .slice none 0 0, []⟩ A1.commit A1.next A1.mtch; have H6 := hidIt h6; have M6 := hidIt m6; clear h6 m6)))
    go_ret
    refine ⟨_, rfl, ?_⟩
    rw [hk.out]
    refine S6.sx.sb.msgs ?_ ?_
    · exact ModP.step (G := fun k => y5.heap.size ≤ k) (ModP.alloc (ModP.refl _ _) _) M6.out (fun k hk => .inr (by simpa [World.size_put] using hk))
    · have := H6.out
      unfold AS.reply
      rw [hid.out]
      simpa [World.size_put] using this
  · have q2' : (ml == lt) = false := by simpa using q2
    obtain rfl : decide (lt < ml) = up := by rw [← hup2]; simp [q1, q2]
    clear hup2 q1 q2
    obtain ⟨⟨ok1, el1⟩, hel⟩ : ∃ x, A.el.asked mf mtm (decide (lt < ml)) = x := ⟨_, rfl⟩
    have hA := hidIt (fun (w' : World) (h : w'.At be A.el.cells 218) => c205 h Hok.out.el (decide (lt < ml)) Hp.out (by have := Hm.out.t1; exact this))
    rw [hel] at hA
    rw [hup.out, hel] at hk
    simp only [] at hA hk
    have oe1 : Hid (el1.Ok) := by have := Hok.out.el.asked Hp.out mtm (decide (lt < ml)); rw [hel] at this; exact this
    obtain ⟨A1, hA1⟩ : ∃ A1, AS.persist { A with el := el1 } = A1 := ⟨_, rfl⟩
    rw [hA1] at hk
    have hP := hidIt (fun G w' (h : SB G w' b bl be { A with el := el1 } w') => c201 h (by show A.lg.hist.length ≤ 9000; omega))
    rw [hA1] at hP
    have hid : Hid (A1.el.id = A.el.id) := by unfold Hid; rw [← hA1, AS.persist_id]; have := A.el.asked_id mf mtm (decide (lt < ml)); rw [hel] at this; exact this
    clear hel hup hA1 hn
    go_enter Tryz.func139, Tryz.ntmps139
    go_wp2_with fail
    refine Ord.region1 [] [0, 1, 2, 3, 4, 5, 6, 7] [8] (by kernel_rfl) (by kernel_rfl) (fun _ _ d _ _ h => by cases d <;> exact h) ?_
    simp only [Ord.pickO, Ord.nth]
    refine wpQuiet_nil ?_
    repeat (first | go_big_quiet_step (fail) | (go_big_quiet_want; go_big_quiet_op; refine Exists.intro _ ⟨by first | (go_at_call 114; exact c114 (hE.out.alloc _)), ?_⟩; go_big_quiet_on))
    refine wpQuiet_nil ?_
    go_wp2_with (first
      | (go_at_call 194; refine (hM.out _ (by repeat (first | assumption | exact ModP.refl _ _ | refine ModP.fromPut ?_ (by assumption) | apply ModP.alloc | apply ModP.drew | apply ModP.drewN | refine ModP.put ?_ (by first | (left; assumption) | (left; rfl) | (right; simp only [World.inB, World.size_put] at *; omega)) _ _))).mono ?_; rintro _ w1 ⟨rfl, xo, hw1⟩; have M1 := hidIt (show ModP (fun _ => False) (W.alloc (.cells (MsgR.cells (MsgR.mk 1 mf A.el.id mtm mi ml mc mo (.slice ad me.length cap) md)) 159 (0, 0))) w1 by rw [hw1]; exact (by repeat (first | assumption | exact ModP.refl _ _ | refine ModP.fromPut ?_ (by assumption) | apply ModP.alloc | apply ModP.drew | apply ModP.drewN | refine ModP.put ?_ (by first | (left; assumption) | (left; rfl) | (right; simp only [World.inB, World.size_put] at *; omega)) _ _))); have hx1 := M1.out.at (b := W.heap.size) World.At_alloc_new (fun x => x); have Hx1 := hidIt hx1; have hcx1 := hx1.cell; have ix1 := hx1.inB; have M01 := hidIt (((ModP.refl _ _).alloc _).trans M1.out); have hc1 := fun o => (M01.out.cell ib (fun x => x) o).trans (hc o); have ib1 := M01.out.inB ib; clear hw1 hx1 hc)
      | (go_at_call 154; refine (c154 (hL.out _ (ModP.alloc M01.out _)) (by have := Hok.out.lg.n6; omega) Hok.out.lg.b0 (by have := Hok.out.lg.lm; omega)).mono ?_; rintro _ w2 ⟨rfl, m2, hw2⟩; have S2 : StX G W b bl be A W.heap.size (MsgR.mk 1 mf A.el.id mtm mi ml mc mo (.slice ad me.length cap) md) w1.heap.size ⟨4, A.el.id, mf, 0, 0, 0, 0, false, .slice none 0 0, []⟩ w2 := SB.stx hS0.out M1.out (ob2 := .cells (MsgR.cells ⟨4, A.el.id, mf, 0, 0, 0, 0, false, .slice none 0 0, []⟩) 159 (0, 0)) (by rw [hw2]; exact ModP.drewN (ModP.refl _ _) _) (by rw [hw2]; exact (World.At_drewN _).2 (Hx1.out.alloc _)) (by rw [hw2]; exact (World.At_drewN _).2 World.At_alloc_new); clear hw2 hc1 ib1 hcx1 ix1 m2 Hx1 M1; obtain ⟨y2, rfl, ix2, ir2, ib2, n12, n22, n32, HS2⟩ := S2.door; clear S2)
      | (go_at_call 203; refine (hT.out _ _ (HS2.out _ _ _ _).sx.sb.lk.choose_spec).mono ?_; rintro _ w3 ⟨rfl, m3⟩; have S3 := (HS2.out ⟨4, A.el.id, mf, 0, 0, 0, 0, false, .slice none 0 0, []⟩ A.commit A.next A.mtch).fr m3.toP0; clear m3 HS2 ix2 ir2 ib2 n12 n22 n32; obtain ⟨y3, rfl, ix3, ir3, ib3, n13, n23, n33, HS3⟩ := S3.door; clear S3))
    refine Ord.region1 [] [0, 1, 2, 3, 4, 5, 6, 7] [8, 9, 10] (by kernel_rfl) (by kernel_rfl) (fun _ _ d _ _ h => by cases d <;> exact h) ?_
    simp only [Ord.pickO, Ord.nth]
    refine wpQuiet_nil ?_
    repeat (go_big_quiet_step (fail))
    refine wpQuiet_nil ?_
    go_wp2_with (first
      | (go_at_call 205; refine (hA.out _ (World.At_drew.2 (HS3.out _ _ _ _).sx.sb.he)).mono ?_; rintro _ w4 ⟨rfl, m4⟩; have S4 := ((HS3.out ⟨4, A.el.id, mf, 0, 0, 0, 0, false, .slice none 0 0, []⟩ A.commit A.next A.mtch).fr (ModP.drew (ModP.refl _ _))).elec m4; clear m4 HS3 ix3 ir3 ib3 n13 n23 n33; obtain ⟨y4, rfl, ix4, ir4, ib4, n14, n24, n34, HS4⟩ := S4.door; clear S4)
      | (go_at_call 201; refine ((HS4.out ⟨4, A.el.id, mf, 0, 0, 0, 0, ok1, .slice none 0 0, []⟩ A.commit A.next A.mtch).call (fun G _ h => hP.out G _ h)).mono ?_; rintro _ w5 ⟨rfl, S5⟩; clear HS4 ix4 ir4 ib4 n14 n24 n34; obtain ⟨y5, rfl, ix5, ir5, ib5, n15, n25, n35, HS5⟩ := S5.door; clear S5)
      | (go_at_call 147; refine (c147 (HS5.out ⟨2, A.el.id, mf, 0, 0, 0, 0, ok1, .slice none 0 0, []⟩ _ _ _).sx.sb.he).mono ?_; rintro _ _ ⟨rfl, rfl⟩)
      | (at_builtin; (refine wp_appM (B := y5.heap.size) (ms := []) (m := ⟨2, A.el.id, mf, A1.el.term, 0, 0, 0, ok1, [], []⟩) (ev := .slice none 0 0) rfl _ _ rfl rfl rfl (at_new (by simp [World.size_put])) (MsgsAt.nil _ _) (ownsRow_nil _ _ _ _) (by simp [World.size_put]) (by simp) ?_; intro v2 w6 h6 m6; have S6 := HS5.out ⟨2, A.el.id, mf, A1.el.term, 0, 0, 0, ok1, .slice none 0 0, []⟩ A1.commit A1.next A1.mtch; have H6 := hidIt h6; have M6 := hidIt m6; clear h6 m6)))
    go_ret
    refine ⟨_, rfl, ?_⟩
    rw [hk.out]
    refine S6.sx.sb.msgs ?_ ?_
    · exact ModP.step (G := fun k => y5.heap.size ≤ k) (ModP.alloc (ModP.refl _ _) _) M6.out (fun k hk => .inr (by simpa [World.size_put] using hk))
    · have := H6.out
      unfold AS.reply
      rw [hid.out]
      simpa [World.size_put] using this
end
end Go.Proofs.Qxb6500990aGreat
