/- package syncm: Step, an answer comes: a peer refuses -/
import Derived.Test.Qxb6500990aGreatSym12
set_option linter.unusedVariables false
set_option linter.unusedSimpArgs false
namespace Go.Proofs.Qxb6500990aGreat
open Go Go.RowKit Go.Tw
attribute [local go_sem] World.cell?_put_same World.cell?_put_ne World.cell?_put_ne' World.frozen?_put_same World.frozen?_put_ne World.frozen?_put_ne' World.setCell_put_same World.setCell_put_ne World.setCell_put_ne' World.inB_put World.inB_alloc World.inB_drew World.inB_drewN World.inB_new World.inB_setCell World.put_drew World.put_drewN World.q_setCell_drew World.q_setCell_drewN World.q_alloc_drew World.q_alloc_drewN World.put_put_same World.put_put_2 World.size_put World.q_cell?_alloc_old World.q_frozen?_alloc_old World.cell?_alloc_new' World.frozen?_alloc_new' World.q_setCell_alloc_old World.q_setCell_alloc_new World.q_put_alloc_old World.cell?_force_same World.frozen?_force_same World.cell?_force2_fst World.cell?_force2_snd SyncM.g0 SyncM.s0 SyncM.g1 SyncM.s1 SyncM.g2 SyncM.s2 SyncM.g3 SyncM.s3 SyncM.g4 SyncM.s4 SyncM.g5 SyncM.s5 SyncM.g6 SyncM.s6 SyncM.g7 SyncM.s7 SyncM.g8 SyncM.s8 SyncM.gi_next_0 SyncM.si_next_0 SyncM.gi_mtch_0 SyncM.si_mtch_0 MsgR.g0 MsgR.s0 MsgR.g1 MsgR.s1 MsgR.g2 MsgR.s2 MsgR.g3 MsgR.s3 MsgR.g4 MsgR.s4 MsgR.g5 MsgR.s5 MsgR.g6 MsgR.s6 MsgR.g7 MsgR.s7 MsgR.g8 MsgR.s8 MsgR.g9 MsgR.s9 Entry.g0 Entry.s0 Entry.g1 Entry.s1
attribute [local go_sem] ba_get upd_same upd_upd
set_option maxHeartbeats 4000000
set_option maxRecDepth 100000
section
variable {W w : World} {G : Nat → Prop} {b bl be : Nat} {A : AS}
theorem c139_4f (h : SMp W G b bl be A) (ok : A.Ok) (hn : A.lg.hist.length ≤ 6900) {v : Value} {m : Msg} {B : Nat} (hv : EntsAt B W v m.ents) (hnv : ∀ g, v.ownBlock = some g → ¬ G g) (hm : msgOK m = true) (hto : m.to = A.el.id) (hfr : m.frm ≠ A.el.id) (hkd : m.kind = 4) (hsf : A.el.sees m.term = false) (hr : A.el.role = 2) (ht : m.term = A.el.term) (hmo : m.ok = false) :
    Calls Tryz.prog 139 #[vp b, .agg (m.r v).cells] W fun r w' => ∃ v, r = .returned v ∧ SBm G W b bl be (A.ackCame m).2 (A.ackCame m).1 w' v := by
  have hk : Hid (A.ackCame m = if A.back m.frm.toNat m.index < A.next m.frm.toNat then
    ([AS.send { A with next := upd A.next m.frm.toNat (A.back m.frm.toNat m.index) } m.frm.toNat], { A with next := upd A.next m.frm.toNat (A.back m.frm.toNat m.index) })
  else ([], A)) := by unfold Hid AS.ackCame; rw [if_neg (by rw [hsf]; simp), if_neg (fun h => h.elim (fun h => h hr) (fun h => h ht)), if_neg (by rw [hmo]; simp)]
  have hS0 := hidIt (SB.start h)
  have hc := h.hb.cell
  have ib := h.hb.inB
  unfold SyR at hc
  have hE := hidIt h.he
  obtain ⟨G1, hl1, -⟩ := h.hl
  have hL := hidIt (fun w' (m : ModP (fun _ => False) W w') => hl1.frame m (fun _ _ f => f))
  have hM := hidIt (fun w' (m' : ModP (fun _ => False) W w') => c194 (ownsRow_frame hv m' (fun _ _ f => f)))
  have Hv := hidIt hv
  have Hnv := hidIt hnv
  have Hok := hidIt ok
  obtain ⟨ad, cap, rfl, -⟩ := ownsRow_form hv
  rw [hm] at hM
  have Hm := hidIt (msgOK_iff.1 hm)
  have Hp := hidIt (peer_of Hm.out.f0 Hm.out.f1 hfr)
  clear h hl1 hv hnv ok hm
  obtain ⟨mk, mf, mt, mtm, mi, ml, mc, mo, me, md⟩ := m
  simp only [] at *
  unfold Msg.r at *
  simp only [] at *
  subst hkd hto
  have hfr' : (mf == A.el.id) = false := by simpa using hfr
  clear hfr
  subst hmo
  have hA := hidIt (fun (w' : World) (h : w'.At be A.el.cells 218) => c210 h Hok.out.el mtm)
  have hse : A.el.see mtm = A.el := by unfold EM.see; rw [hsf]; rfl
  rw [hsf, hse] at hA
  clear hse hsf
  have hR := hidIt (fun (w' : World) (h : w'.At be A.el.cells 218) => c149 h)
  have hT := hidIt (fun (w' : World) (h : w'.At be A.el.cells 218) => c147 h)
  rw [hr] at hR
  rw [← ht] at hT
  clear hr ht hn
  have f0 := Hm.out.f0
  have f1 := Hm.out.f1
  have i0 := Hm.out.i0
  have i1 : mi ≤ 72057594037927936 := Hm.out.i1
  simp only [] at f0 f1 i0
  have f3 : mf.toNat < 3 := by omega
  have m0 := Hok.out.m0 mf.toNat
  have m1 : A.mtch mf.toNat ≤ 72057594037927936 := Hok.out.m1 mf.toNat
  by_cases q1 : mi + 1 ≤ A.mtch mf.toNat
  · obtain ⟨nn, hn0⟩ : ∃ nn, nn = A.mtch mf.toNat + 1 := ⟨_, rfl⟩
    have hbk : A.back mf.toNat mi = nn := by unfold AS.back; rw [if_pos q1, hn0]
    have hnn : nn ≤ maxT + 1 := by unfold maxT; omega
    rw [hbk] at hk
    clear hbk
    by_cases q2 : nn < A.next mf.toNat
    · rw [if_pos q2] at hk
      obtain ⟨A2, hA2⟩ : ∃ A2 : AS, A2 = { A with next := upd A.next mf.toNat nn } := ⟨_, rfl⟩
      have oA2 : Hid (AS.Ok { A with next := upd A.next mf.toNat nn }) := by
        refine ⟨Hok.out.lg, Hok.out.el, Hok.out.c0, Hok.out.c1, fun q => ?_, Hok.out.m0, Hok.out.m1⟩
        show upd A.next _ _ q ≤ _
        unfold upd
        split
        · exact hnn
        · exact Hok.out.n1 q
      obtain ⟨⟨sk, sf, st, stm, si, sl, sc, so, se, sd⟩, hsd0⟩ : ∃ x, AS.send { A with next := upd A.next mf.toNat nn } mf.toNat = x := ⟨_, rfl⟩
      have hsd := hidIt hsd0
      clear hsd0 hA2
      clear hnn
      subst hn0
      go_enter Tryz.func139, Tryz.ntmps139
      go_wp2_with fail
      refine Ord.region1 [] [0, 1, 2, 3, 4, 5, 6, 7] [8] (by kernel_rfl) (by kernel_rfl) (fun _ _ d _ _ h => by cases d <;> exact h) ?_
      simp only [Ord.pickO, Ord.nth]
      refine wpQuiet_nil ?_
      repeat (first | go_big_quiet_step (fail) | (go_big_quiet_want; go_big_quiet_op; refine Exists.intro _ ⟨by first | (go_at_call 114; exact c114 (hE.out.alloc _)), ?_⟩; go_big_quiet_on))
      refine wpQuiet_nil ?_
      go_wp2_with (first
        | (go_at_call 194; refine (hM.out _ (by repeat (first | assumption | exact ModP.refl _ _ | refine ModP.fromPut ?_ (by assumption) | apply ModP.alloc | apply ModP.drew | apply ModP.drewN | refine ModP.put ?_ (by first | (left; assumption) | (left; rfl) | (right; simp only [World.inB, World.size_put] at *; omega)) _ _))).mono ?_; rintro _ w1 ⟨rfl, xo, hw1⟩; have M1 := hidIt (show ModP (fun _ => False) (W.alloc (.cells (MsgR.cells (MsgR.mk 4 mf A.el.id mtm mi ml mc false (.slice ad me.length cap) md)) 159 (0, 0))) w1 by rw [hw1]; exact (by repeat (first | assumption | exact ModP.refl _ _ | refine ModP.fromPut ?_ (by assumption) | apply ModP.alloc | apply ModP.drew | apply ModP.drewN | refine ModP.put ?_ (by first | (left; assumption) | (left; rfl) | (right; simp only [World.inB, World.size_put] at *; omega)) _ _))); have hx1 := M1.out.at (b := W.heap.size) World.At_alloc_new (fun x => x); have Hx1 := hidIt hx1; have hcx1 := hx1.cell; have ix1 := hx1.inB; have M01 := hidIt (((ModP.refl _ _).alloc _).trans M1.out); have hc1 := fun o => (M01.out.cell ib (fun x => x) o).trans (hc o); have ib1 := M01.out.inB ib; clear hw1 hx1 hc)
        | (go_at_call 154; refine (c154 (hL.out _ (ModP.alloc M01.out _)) (by have := Hok.out.lg.n6; omega) Hok.out.lg.b0 (by have := Hok.out.lg.lm; omega)).mono ?_; rintro _ w2 ⟨rfl, m2, hw2⟩; have S2 : StX G W b bl be A W.heap.size (MsgR.mk 4 mf A.el.id mtm mi ml mc false (.slice ad me.length cap) md) w1.heap.size ⟨4, A.el.id, mf, 0, 0, 0, 0, false, .slice none 0 0, []⟩ w2 := SB.stx hS0.out M1.out (ob2 := .cells (MsgR.cells ⟨4, A.el.id, mf, 0, 0, 0, 0, false, .slice none 0 0, []⟩) 159 (0, 0)) (by rw [hw2]; exact ModP.drewN (ModP.refl _ _) _) (by rw [hw2]; exact (World.At_drewN _).2 (Hx1.out.alloc _)) (by rw [hw2]; exact (World.At_drewN _).2 World.At_alloc_new); clear hw2 hc1 ib1 hcx1 ix1 m2 Hx1 M1; obtain ⟨y2, rfl, ix2, ir2, ib2, n12, n22, n32, HS2⟩ := S2.door; clear S2)
        )
      refine Ord.region1 [] [0, 1, 2, 3, 4, 5] [6, 7] (by kernel_rfl) (by kernel_rfl) (fun _ _ d _ _ h => by cases d <;> exact h) ?_
      simp only [Ord.pickO, Ord.nth]
      refine wpQuiet_nil ?_
      repeat (go_big_quiet_step (fail))
      refine wpQuiet_nil ?_
      go_wp2_with (first
        | (go_at_call 210; refine (hA.out _ (World.At_drew.2 (HS2.out _ _ _ _).sx.sb.he)).mono ?_; rintro _ w4 ⟨rfl, m4⟩; have S4 := ((HS2.out ⟨4, A.el.id, mf, 0, 0, 0, 0, false, .slice none 0 0, []⟩ A.commit A.next A.mtch).fr (ModP.drew (ModP.refl _ _))).elec m4; clear m4 HS2 ix2 ir2 ib2 n12 n22 n32; obtain ⟨y4, rfl, ix4, ir4, ib4, n14, n24, n34, HS4⟩ := S4.door; clear S4) | (go_at_call 149; refine (hR.out _ (by repeat (first | exact (HS4.out _ _ _ _).sx.sb.he | refine World.At_drew.2 ?_))).mono ?_; rintro _ _ ⟨rfl, rfl⟩) | (go_at_call 147; refine (hT.out _ (by repeat (first | exact (HS4.out _ _ _ _).sx.sb.he | refine World.At_drew.2 ?_))).mono ?_; rintro _ _ ⟨rfl, rfl⟩)
        | (go_at_call 212; obtain ⟨G9, h9, -⟩ := (HS4.out ⟨4, A.el.id, mf, 0, 0, 0, 0, false, .slice none 0 0, []⟩ A.commit (upd A.next mf.toNat (A.mtch mf.toNat + 1)) A.mtch).sx; have c9 := c212 h9 oA2.out.lg mf.toNat f3 (oA2.out.n1 _); rw [Int.toNat_of_nonneg f0, hsd.out] at c9; unfold Msg.r at c9; simp only [] at c9; unfold MsgR.cells at c9; refine c9.mono ?_; rintro _ w7 ⟨v7, rfl, e7, m7⟩; obtain ⟨ad7, cap7, rfl, -⟩ := ownsRow_form e7; have E7 := hidIt e7; have M7 := hidIt m7; have S7 := hidIt ((HS4.out ⟨4, A.el.id, mf, 0, 0, 0, 0, false, .slice none 0 0, []⟩ A.commit (upd A.next mf.toNat (A.mtch mf.toNat + 1)) A.mtch).sx.sb); clear e7 m7 c9 h9)
        | (at_builtin; go_loud (refine wp_appM (B := y4.heap.size) (ms := []) (m := ⟨sk, sf, st, stm, si, sl, sc, so, se, sd⟩) (ev := .slice ad7 se.length cap7) rfl _ _ rfl rfl rfl (at_new (by simp [World.size_put])) (MsgsAt.nil _ _) (ownsRow_low (ownsRow_alloc (ownsRow_alloc E7.out _) _) (by simp [World.size_put])) (by have := M7.out.size; simp [World.size_put] at *; omega) (by simp) ?_; intro v8 w8 h8 m8; have H8 := hidIt h8; have M8 := hidIt m8; clear h8 m8)))
      go_ret
      refine ⟨_, rfl, ?_⟩
      rw [hk.out]
      refine S7.out.msgs ?_ ?_
      · exact ModP.step (G := fun k => y4.heap.size ≤ k) (ModP.alloc (ModP.alloc M7.out _) _) M8.out (fun k hk => .inr (by simpa [World.size_put] using hk))
      · have := H8.out
        rw [hsd.out]
        simpa [World.size_put] using this
    · rw [if_neg q2] at hk
      have q2' : A.next mf.toNat ≤ nn := by omega
      clear q2 hnn
      subst hn0
      go_enter Tryz.func139, Tryz.ntmps139
      go_wp2_with fail
      refine Ord.region1 [] [0, 1, 2, 3, 4, 5, 6, 7] [8] (by kernel_rfl) (by kernel_rfl) (fun _ _ d _ _ h => by cases d <;> exact h) ?_
      simp only [Ord.pickO, Ord.nth]
      refine wpQuiet_nil ?_
      repeat (first | go_big_quiet_step (fail) | (go_big_quiet_want; go_big_quiet_op; refine Exists.intro _ ⟨by first | (go_at_call 114; exact c114 (hE.out.alloc _)), ?_⟩; go_big_quiet_on))
      refine wpQuiet_nil ?_
      go_wp2_with (first
        | (go_at_call 194; refine (hM.out _ (by repeat (first | assumption | exact ModP.refl _ _ | refine ModP.fromPut ?_ (by assumption) | apply ModP.alloc | apply ModP.drew | apply ModP.drewN | refine ModP.put ?_ (by first | (left; assumption) | (left; rfl) | (right; simp only [World.inB, World.size_put] at *; omega)) _ _))).mono ?_; rintro _ w1 ⟨rfl, xo, hw1⟩; have M1 := hidIt (show ModP (fun _ => False) (W.alloc (.cells (MsgR.cells (MsgR.mk 4 mf A.el.id mtm mi ml mc false (.slice ad me.length cap) md)) 159 (0, 0))) w1 by rw [hw1]; exact (by repeat (first | assumption | exact ModP.refl _ _ | refine ModP.fromPut ?_ (by assumption) | apply ModP.alloc | apply ModP.drew | apply ModP.drewN | refine ModP.put ?_ (by first | (left; assumption) | (left; rfl) | (right; simp only [World.inB, World.size_put] at *; omega)) _ _))); have hx1 := M1.out.at (b := W.heap.size) World.At_alloc_new (fun x => x); have Hx1 := hidIt hx1; have hcx1 := hx1.cell; have ix1 := hx1.inB; have M01 := hidIt (((ModP.refl _ _).alloc _).trans M1.out); have hc1 := fun o => (M01.out.cell ib (fun x => x) o).trans (hc o); have ib1 := M01.out.inB ib; clear hw1 hx1 hc)
        | (go_at_call 154; refine (c154 (hL.out _ (ModP.alloc M01.out _)) (by have := Hok.out.lg.n6; omega) Hok.out.lg.b0 (by have := Hok.out.lg.lm; omega)).mono ?_; rintro _ w2 ⟨rfl, m2, hw2⟩; have S2 : StX G W b bl be A W.heap.size (MsgR.mk 4 mf A.el.id mtm mi ml mc false (.slice ad me.length cap) md) w1.heap.size ⟨4, A.el.id, mf, 0, 0, 0, 0, false, .slice none 0 0, []⟩ w2 := SB.stx hS0.out M1.out (ob2 := .cells (MsgR.cells ⟨4, A.el.id, mf, 0, 0, 0, 0, false, .slice none 0 0, []⟩) 159 (0, 0)) (by rw [hw2]; exact ModP.drewN (ModP.refl _ _) _) (by rw [hw2]; exact (World.At_drewN _).2 (Hx1.out.alloc _)) (by rw [hw2]; exact (World.At_drewN _).2 World.At_alloc_new); clear hw2 hc1 ib1 hcx1 ix1 m2 Hx1 M1; obtain ⟨y2, rfl, ix2, ir2, ib2, n12, n22, n32, HS2⟩ := S2.door; clear S2)
        )
      refine Ord.region1 [] [0, 1, 2, 3, 4, 5] [6, 7] (by kernel_rfl) (by kernel_rfl) (fun _ _ d _ _ h => by cases d <;> exact h) ?_
      simp only [Ord.pickO, Ord.nth]
      refine wpQuiet_nil ?_
      repeat (go_big_quiet_step (fail))
      refine wpQuiet_nil ?_
      go_wp2_with (first
        | (go_at_call 210; refine (hA.out _ (World.At_drew.2 (HS2.out _ _ _ _).sx.sb.he)).mono ?_; rintro _ w4 ⟨rfl, m4⟩; have S4 := ((HS2.out ⟨4, A.el.id, mf, 0, 0, 0, 0, false, .slice none 0 0, []⟩ A.commit A.next A.mtch).fr (ModP.drew (ModP.refl _ _))).elec m4; clear m4 HS2 ix2 ir2 ib2 n12 n22 n32; obtain ⟨y4, rfl, ix4, ir4, ib4, n14, n24, n34, HS4⟩ := S4.door; clear S4) | (go_at_call 149; refine (hR.out _ (by repeat (first | exact (HS4.out _ _ _ _).sx.sb.he | refine World.At_drew.2 ?_))).mono ?_; rintro _ _ ⟨rfl, rfl⟩) | (go_at_call 147; refine (hT.out _ (by repeat (first | exact (HS4.out _ _ _ _).sx.sb.he | refine World.At_drew.2 ?_))).mono ?_; rintro _ _ ⟨rfl, rfl⟩))
      go_ret
      refine ⟨_, rfl, ?_⟩
      rw [hk.out]
      exact ((HS4.out ⟨4, A.el.id, mf, 0, 0, 0, 0, false, .slice none 0 0, []⟩ A.commit A.next A.mtch).fr (by repeat (first | exact ModP.refl _ _ | apply ModP.drew))).sx.sb.none
  · obtain ⟨nn, hn0⟩ : ∃ nn, nn = mi + 1 := ⟨_, rfl⟩
    have hbk : A.back mf.toNat mi = nn := by unfold AS.back; rw [if_neg q1, hn0]
    have hnn : nn ≤ maxT + 1 := by unfold maxT; omega
    have q1' : A.mtch mf.toNat < mi + 1 := by omega
    rw [hbk] at hk
    clear hbk q1
    by_cases q2 : nn < A.next mf.toNat
    · rw [if_pos q2] at hk
      obtain ⟨A2, hA2⟩ : ∃ A2 : AS, A2 = { A with next := upd A.next mf.toNat nn } := ⟨_, rfl⟩
      have oA2 : Hid (AS.Ok { A with next := upd A.next mf.toNat nn }) := by
        refine ⟨Hok.out.lg, Hok.out.el, Hok.out.c0, Hok.out.c1, fun q => ?_, Hok.out.m0, Hok.out.m1⟩
        show upd A.next _ _ q ≤ _
        unfold upd
        split
        · exact hnn
        · exact Hok.out.n1 q
      obtain ⟨⟨sk, sf, st, stm, si, sl, sc, so, se, sd⟩, hsd0⟩ : ∃ x, AS.send { A with next := upd A.next mf.toNat nn } mf.toNat = x := ⟨_, rfl⟩
      have hsd := hidIt hsd0
      clear hsd0 hA2
      clear hnn
      subst hn0
      go_enter Tryz.func139, Tryz.ntmps139
      go_wp2_with fail
      refine Ord.region1 [] [0, 1, 2, 3, 4, 5, 6, 7] [8] (by kernel_rfl) (by kernel_rfl) (fun _ _ d _ _ h => by cases d <;> exact h) ?_
      simp only [Ord.pickO, Ord.nth]
      refine wpQuiet_nil ?_
      repeat (first | go_big_quiet_step (fail) | (go_big_quiet_want; go_big_quiet_op; refine Exists.intro _ ⟨by first | (go_at_call 114; exact c114 (hE.out.alloc _)), ?_⟩; go_big_quiet_on))
      refine wpQuiet_nil ?_
      go_wp2_with (first
        | (go_at_call 194; refine (hM.out _ (by repeat (first | assumption | exact ModP.refl _ _ | refine ModP.fromPut ?_ (by assumption) | apply ModP.alloc | apply ModP.drew | apply ModP.drewN | refine ModP.put ?_ (by first | (left; assumption) | (left; rfl) | (right; simp only [World.inB, World.size_put] at *; omega)) _ _))).mono ?_; rintro _ w1 ⟨rfl, xo, hw1⟩; have M1 := hidIt (show ModP (fun _ => False) (W.alloc (.cells (MsgR.cells (MsgR.mk 4 mf A.el.id mtm mi ml mc false (.slice ad me.length cap) md)) 159 (0, 0))) w1 by rw [hw1]; exact (by repeat (first | assumption | exact ModP.refl _ _ | refine ModP.fromPut ?_ (by assumption) | apply ModP.alloc | apply ModP.drew | apply ModP.drewN | refine ModP.put ?_ (by first | (left; assumption) | (left; rfl) | (right; simp only [World.inB, World.size_put] at *; omega)) _ _))); have hx1 := M1.out.at (b := W.heap.size) World.At_alloc_new (fun x => x); have Hx1 := hidIt hx1; have hcx1 := hx1.cell; have ix1 := hx1.inB; have M01 := hidIt (((ModP.refl _ _).alloc _).trans M1.out); have hc1 := fun o => (M01.out.cell ib (fun x => x) o).trans (hc o); have ib1 := M01.out.inB ib; clear hw1 hx1 hc)
        | (go_at_call 154; refine (c154 (hL.out _ (ModP.alloc M01.out _)) (by have := Hok.out.lg.n6; omega) Hok.out.lg.b0 (by have := Hok.out.lg.lm; omega)).mono ?_; rintro _ w2 ⟨rfl, m2, hw2⟩; have S2 : StX G W b bl be A W.heap.size (MsgR.mk 4 mf A.el.id mtm mi ml mc false (.slice ad me.length cap) md) w1.heap.size ⟨4, A.el.id, mf, 0, 0, 0, 0, false, .slice none 0 0, []⟩ w2 := SB.stx hS0.out M1.out (ob2 := .cells (MsgR.cells ⟨4, A.el.id, mf, 0, 0, 0, 0, false, .slice none 0 0, []⟩) 159 (0, 0)) (by rw [hw2]; exact ModP.drewN (ModP.refl _ _) _) (by rw [hw2]; exact (World.At_drewN _).2 (Hx1.out.alloc _)) (by rw [hw2]; exact (World.At_drewN _).2 World.At_alloc_new); clear hw2 hc1 ib1 hcx1 ix1 m2 Hx1 M1; obtain ⟨y2, rfl, ix2, ir2, ib2, n12, n22, n32, HS2⟩ := S2.door; clear S2)
        )
      refine Ord.region1 [] [0, 1, 2, 3, 4, 5] [6, 7] (by kernel_rfl) (by kernel_rfl) (fun _ _ d _ _ h => by cases d <;> exact h) ?_
      simp only [Ord.pickO, Ord.nth]
      refine wpQuiet_nil ?_
      repeat (go_big_quiet_step (fail))
      refine wpQuiet_nil ?_
      go_wp2_with (first
        | (go_at_call 210; refine (hA.out _ (World.At_drew.2 (HS2.out _ _ _ _).sx.sb.he)).mono ?_; rintro _ w4 ⟨rfl, m4⟩; have S4 := ((HS2.out ⟨4, A.el.id, mf, 0, 0, 0, 0, false, .slice none 0 0, []⟩ A.commit A.next A.mtch).fr (ModP.drew (ModP.refl _ _))).elec m4; clear m4 HS2 ix2 ir2 ib2 n12 n22 n32; obtain ⟨y4, rfl, ix4, ir4, ib4, n14, n24, n34, HS4⟩ := S4.door; clear S4) | (go_at_call 149; refine (hR.out _ (by repeat (first | exact (HS4.out _ _ _ _).sx.sb.he | refine World.At_drew.2 ?_))).mono ?_; rintro _ _ ⟨rfl, rfl⟩) | (go_at_call 147; refine (hT.out _ (by repeat (first | exact (HS4.out _ _ _ _).sx.sb.he | refine World.At_drew.2 ?_))).mono ?_; rintro _ _ ⟨rfl, rfl⟩)
        | (go_at_call 212; obtain ⟨G9, h9, -⟩ := (HS4.out ⟨4, A.el.id, mf, 0, 0, 0, 0, false, .slice none 0 0, []⟩ A.commit (upd A.next mf.toNat (mi + 1)) A.mtch).sx; have c9 := c212 h9 oA2.out.lg mf.toNat f3 (oA2.out.n1 _); rw [Int.toNat_of_nonneg f0, hsd.out] at c9; unfold Msg.r at c9; simp only [] at c9; unfold MsgR.cells at c9; refine c9.mono ?_; rintro _ w7 ⟨v7, rfl, e7, m7⟩; obtain ⟨ad7, cap7, rfl, -⟩ := ownsRow_form e7; have E7 := hidIt e7; have M7 := hidIt m7; have S7 := hidIt ((HS4.out ⟨4, A.el.id, mf, 0, 0, 0, 0, false, .slice none 0 0, []⟩ A.commit (upd A.next mf.toNat (mi + 1)) A.mtch).sx.sb); clear e7 m7 c9 h9)
        | (at_builtin; go_loud (refine wp_appM (B := y4.heap.size) (ms := []) (m := ⟨sk, sf, st, stm, si, sl, sc, so, se, sd⟩) (ev := .slice ad7 se.length cap7) rfl _ _ rfl rfl rfl (at_new (by simp [World.size_put])) (MsgsAt.nil _ _) (ownsRow_low (ownsRow_alloc (ownsRow_alloc E7.out _) _) (by simp [World.size_put])) (by have := M7.out.size; simp [World.size_put] at *; omega) (by simp) ?_; intro v8 w8 h8 m8; have H8 := hidIt h8; have M8 := hidIt m8; clear h8 m8)))
      go_ret
      refine ⟨_, rfl, ?_⟩
      rw [hk.out]
      refine S7.out.msgs ?_ ?_
      · exact ModP.step (G := fun k => y4.heap.size ≤ k) (ModP.alloc (ModP.alloc M7.out _) _) M8.out (fun k hk => .inr (by simpa [World.size_put] using hk))
      · have := H8.out
        rw [hsd.out]
        simpa [World.size_put] using this
    · rw [if_neg q2] at hk
      have q2' : A.next mf.toNat ≤ nn := by omega
      clear q2 hnn
      subst hn0
      go_enter Tryz.func139, Tryz.ntmps139
      go_wp2_with fail
      refine Ord.region1 [] [0, 1, 2, 3, 4, 5, 6, 7] [8] (by kernel_rfl) (by kernel_rfl) (fun _ _ d _ _ h => by cases d <;> exact h) ?_
      simp only [Ord.pickO, Ord.nth]
      refine wpQuiet_nil ?_
      repeat (first | go_big_quiet_step (fail) | (go_big_quiet_want; go_big_quiet_op; refine Exists.intro _ ⟨by first | (go_at_call 114; exact c114 (hE.out.alloc _)), ?_⟩; go_big_quiet_on))
      refine wpQuiet_nil ?_
      go_wp2_with (first
        | (go_at_call 194; refine (hM.out _ (by repeat (first | assumption | exact ModP.refl _ _ | refine ModP.fromPut ?_ (by assumption) | apply ModP.alloc | apply ModP.drew | apply ModP.drewN | refine ModP.put ?_ (by first | (left; assumption) | (left; rfl) | (right; simp only [World.inB, World.size_put] at *; omega)) _ _))).mono ?_; rintro _ w1 ⟨rfl, xo, hw1⟩; have M1 := hidIt (show ModP (fun _ => False) (W.alloc (.cells (MsgR.cells (MsgR.mk 4 mf A.el.id mtm mi ml mc false (.slice ad me.length cap) md)) 159 (0, 0))) w1 by rw [hw1]; exact (by repeat (first | assumption | exact ModP.refl _ _ | refine ModP.fromPut ?_ (by assumption) | apply ModP.alloc | apply ModP.drew | apply ModP.drewN | refine ModP.put ?_ (by first | (left; assumption) | (left; rfl) | (right; simp only [World.inB, World.size_put] at *; omega)) _ _))); have hx1 := M1.out.at (b := W.heap.size) World.At_alloc_new (fun x => x); have Hx1 := hidIt hx1; have hcx1 := hx1.cell; have ix1 := hx1.inB; have M01 := hidIt (((ModP.refl _ _).alloc _).trans M1.out); have hc1 := fun o => (M01.out.cell ib (fun x => x) o).trans (hc o); have ib1 := M01.out.inB ib; clear hw1 hx1 hc)
        | (go_at_call 154; refine (c154 (hL.out _ (ModP.alloc M01.out _)) (by have := Hok.out.lg.n6; omega) Hok.out.lg.b0 (by have := Hok.out.lg.lm; omega)).mono ?_; rintro _ w2 ⟨rfl, m2, hw2⟩; have S2 : StX G W b bl be A W.heap.size (MsgR.mk 4 mf A.el.id mtm mi ml mc false (.slice ad me.length cap) md) w1.heap.size ⟨4, A.el.id, mf, 0, 0, 0, 0, false, .slice none 0 0, []⟩ w2 := SB.stx hS0.out M1.out (ob2 := .cells (MsgR.cells ⟨4, A.el.id, mf, 0, 0, 0, 0, false, .slice none 0 0, []⟩) 159 (0, 0)) (by rw [hw2]; exact ModP.drewN (ModP.refl _ _) _) (by rw [hw2]; exact (World.At_drewN _).2 (Hx1.out.alloc _)) (by rw [hw2]; exact (World.At_drewN _).2 World.At_alloc_new); clear hw2 hc1 ib1 hcx1 ix1 m2 Hx1 M1; obtain ⟨y2, rfl, ix2, ir2, ib2, n12, n22, n32, HS2⟩ := S2.door; clear S2)
        )
      refine Ord.region1 [] [0, 1, 2, 3, 4, 5] [6, 7] (by kernel_rfl) (by kernel_rfl) (fun _ _ d _ _ h => by cases d <;> exact h) ?_
      simp only [Ord.pickO, Ord.nth]
      refine wpQuiet_nil ?_
      repeat (go_big_quiet_step (fail))
      refine wpQuiet_nil ?_
      go_wp2_with (first
        | (go_at_call 210; refine (hA.out _ (World.At_drew.2 (HS2.out _ _ _ _).sx.sb.he)).mono ?_; rintro _ w4 ⟨rfl, m4⟩; have S4 := ((HS2.out ⟨4, A.el.id, mf, 0, 0, 0, 0, false, .slice none 0 0, []⟩ A.commit A.next A.mtch).fr (ModP.drew (ModP.refl _ _))).elec m4; clear m4 HS2 ix2 ir2 ib2 n12 n22 n32; obtain ⟨y4, rfl, ix4, ir4, ib4, n14, n24, n34, HS4⟩ := S4.door; clear S4) | (go_at_call 149; refine (hR.out _ (by repeat (first | exact (HS4.out _ _ _ _).sx.sb.he | refine World.At_drew.2 ?_))).mono ?_; rintro _ _ ⟨rfl, rfl⟩) | (go_at_call 147; refine (hT.out _ (by repeat (first | exact (HS4.out _ _ _ _).sx.sb.he | refine World.At_drew.2 ?_))).mono ?_; rintro _ _ ⟨rfl, rfl⟩))
      go_ret
      refine ⟨_, rfl, ?_⟩
      rw [hk.out]
      exact ((HS4.out ⟨4, A.el.id, mf, 0, 0, 0, 0, false, .slice none 0 0, []⟩ A.commit A.next A.mtch).fr (by repeat (first | exact ModP.refl _ _ | apply ModP.drew))).sx.sb.none
end
end Go.Proofs.Qxb6500990aGreat
