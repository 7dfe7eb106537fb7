/- package syncm: Tick -/
import Derived.Test.Qxb6500990aGreatSym5
set_option linter.unusedVariables false
set_option linter.unusedSimpArgs false
namespace Go.Tw
open Go Go.Proofs Go.Proofs.Qxb6500990aGreat Go.RowKit
/-- the core A behind some steps from W on, and a list of messages in blocks of its own -/
def SBm (G0 : Nat → Prop) (W : World) (b bl be : Nat) (A : AS) (ms : List Msg) (w : World) (v : Value) : Prop :=
  ∃ G B, SMp w G b bl be A ∧ Grows G0 W G ∧ ModP G0 W w ∧ MsgsAt B w v ms ∧ (∀ k, G k → k < B) ∧ W.heap.size ≤ B
theorem SB.msgs {G0 : Nat → Prop} {W w w1 : World} {b bl be : Nat} {A : AS} {ms : List Msg} {v : Value} (h : SB G0 W b bl be A w) (m : ModP (fun _ => False) w w1) (hm : MsgsAt w.heap.size w1 v ms) : SBm G0 W b bl be A ms w1 v := by
  obtain ⟨G, h1, h2, h3⟩ := h
  exact ⟨G, w.heap.size, h1.frame m (fun _ _ f => f), h2, h3.trans (m.mono fun _ f => f.elim), hm, h1.wi, h3.size⟩
theorem SB.none {G0 : Nat → Prop} {W w : World} {b bl be : Nat} {A : AS} (h : SB G0 W b bl be A w) : SBm G0 W b bl be A [] w (.slice none 0 0) := h.msgs (ModP.refl _ _) (MsgsAt.nil _ _)
def AS.voteN (A : AS) (j : Nat) : List Msg := ((List.range j).filter fun p : Nat => decide ((p : Int) ≠ A.el.id)).map fun p : Nat => (⟨1, A.el.id, (p : Int), A.el.term, A.lg.now.last, (A.lg.now.termAt A.lg.now.last).1, 0, false, [], []⟩ : Msg)
theorem AS.voteN_succ (A : AS) (j : Nat) : A.voteN (j + 1) = if (j : Int) = A.el.id then A.voteN j else A.voteN j ++ [⟨1, A.el.id, (j : Int), A.el.term, A.lg.now.last, (A.lg.now.termAt A.lg.now.last).1, 0, false, [], []⟩] := by
  unfold AS.voteN
  rw [List.range_succ, List.filter_append, List.map_append]
  by_cases h : (j : Int) = A.el.id
  · rw [if_pos h]; simp [h]
  · rw [if_neg h]; simp [h]
theorem AS.voteN_len (A : AS) : ∀ j, (A.voteN j).length ≤ j
  | 0 => by simp [AS.voteN]
  | j + 1 => by have := AS.voteN_len A j; rw [AS.voteN_succ]; split <;> simp <;> omega
def AS.tick (A : AS) : List Msg × AS :=
  let A1 := AS.persist { A with el := A.el.tick.2 }
  (if A.el.tick.1 = 2 then A1.sendAll else if A.el.tick.1 = 1 then A1.voteN 3 else [], A1)
theorem AS.persist_ok {A : AS} (h : A.lg.now.Ok) : A.persist.lg.now.Ok := by
  unfold AS.persist
  split
  · exact h
  · exact AL.setTerm_ok h _ _
theorem AS.persist_len (A : AS) : A.persist.lg.hist.length ≤ A.lg.hist.length + 1 := by
  unfold AS.persist
  split
  · omega
  · exact AL.setTerm_len _ _ _
theorem AS.persist_eq (A : AS) : A.persist.el = A.el ∧ A.persist.commit = A.commit ∧ A.persist.next = A.next ∧ A.persist.mtch = A.mtch := by
  unfold AS.persist
  split <;> exact ⟨rfl, rfl, rfl, rfl⟩
end Go.Tw
namespace Go.Proofs.Qxb6500990aGreat
open Go Go.RowKit Go.Tw
attribute [local go_sem] World.cell?_put_same World.cell?_put_ne World.cell?_put_ne' World.frozen?_put_same World.frozen?_put_ne World.frozen?_put_ne' World.setCell_put_same World.setCell_put_ne World.setCell_put_ne' World.inB_put World.inB_alloc World.inB_drew World.inB_drewN World.inB_new World.inB_setCell World.put_drew World.put_drewN World.q_setCell_drew World.q_setCell_drewN World.q_alloc_drew World.q_alloc_drewN World.put_put_same World.put_put_2 World.size_put World.q_cell?_alloc_old World.q_frozen?_alloc_old World.cell?_alloc_new' World.frozen?_alloc_new' World.q_setCell_alloc_old World.q_setCell_alloc_new World.q_put_alloc_old World.cell?_force_same World.frozen?_force_same World.cell?_force2_fst World.cell?_force2_snd SyncM.g0 SyncM.s0 SyncM.g1 SyncM.s1 SyncM.g2 SyncM.s2 SyncM.g3 SyncM.s3 SyncM.g4 SyncM.s4 SyncM.g5 SyncM.s5 SyncM.g6 SyncM.s6 SyncM.g7 SyncM.s7 SyncM.g8 SyncM.s8 SyncM.gi_next_0 SyncM.si_next_0 SyncM.gi_mtch_0 SyncM.si_mtch_0 MsgR.g0 MsgR.s0 MsgR.g1 MsgR.s1 MsgR.g2 MsgR.s2 MsgR.g3 MsgR.s3 MsgR.g4 MsgR.s4 MsgR.g5 MsgR.s5 MsgR.g6 MsgR.s6 MsgR.g7 MsgR.s7 MsgR.g8 MsgR.s8 MsgR.g9 MsgR.s9 Entry.g0 Entry.s0 Entry.g1 Entry.s1
attribute [local go_sem] ba_get upd_same upd_upd
set_option maxHeartbeats 4000000
set_option maxRecDepth 100000
section
variable {W w : World} {G : Nat → Prop} {b bl be : Nat} {A : AS}
theorem c137 (h : SMp W G b bl be A) (ok : A.lg.now.Ok) (oe : A.el.Ok) (hn : A.lg.hist.length ≤ 8000) (hn0 : ∀ p, A.next p ≤ maxT + 1) :
    Calls Tryz.prog 137 #[vp b] W fun r w' => ∃ v, r = .returned v ∧ SBm G W b bl be A.tick.2 A.tick.1 w' v := by
  have hS0 := hidIt (SB.start h)
  have hc := h.hb.cell
  have ib := h.hb.inB
  unfold SyR at hc
  have ht := hidIt (c200 h.he oe)
  clear h
  obtain ⟨⟨act, el'⟩, hel⟩ : ∃ x, A.el.tick = x := ⟨_, rfl⟩
  rw [hel] at ht
  obtain ⟨A1, hA1⟩ : ∃ A1, AS.persist { A with el := el' } = A1 := ⟨_, rfl⟩
  have ok1 : Hid (A1.lg.now.Ok) := by unfold Hid; rw [← hA1]; exact AS.persist_ok ok
  have hnx : Hid (∀ p, A1.next p ≤ maxT + 1) := by unfold Hid; rw [← hA1, (AS.persist_eq _).2.2.1]; exact hn0
  have hk : Hid (A.tick = (if act = 2 then A1.sendAll else if act = 1 then A1.voteN 3 else [], A1)) := by unfold Hid AS.tick; rw [hel]; simp only []; rw [hA1]
  have hP := hidIt (fun w' (h : SB G W b bl be { A with el := el' } w') => c201 h (by show A.lg.hist.length ≤ 9000; omega))
  rw [hA1] at hP
  simp only [] at ht
  clear hel hA1 ok oe hn hn0
  by_cases h2 : act = 2
  · have hk2 : Hid (A.tick = (A1.sendAll, A1)) := by unfold Hid; rw [hk.out, if_pos h2]
    clear hk
    subst h2
    go_enter Tryz.func137, Tryz.ntmps137
    go_wp2_with (first
      | (go_at_call 200; refine ht.out.mono ?_; rintro _ w1 ⟨rfl, m1⟩; have S1 := hS0.out.elec m1; have Hc1 := hidIt (hP.out _ S1); clear m1)
      | (go_at_call 201; refine Hc1.out.mono ?_; rintro _ w2 ⟨rfl, S2⟩; have Hs2 := hidIt S2; have Hc2 := hidIt (by obtain ⟨G2, h5, h6, h7⟩ := S2; exact c202 h5 ok1.out hnx.out); clear S1 S2 Hc1)
      | (go_at_call 202; refine Hc2.out.mono ?_; rintro _ w3 ⟨v, rfl, h8, h9⟩))
    go_ret
    refine ⟨_, rfl, ?_⟩
    rw [hk2.out]
    exact Hs2.out.msgs h9 h8
  have h2' : (act == 2) = false := by simpa using h2
  by_cases h1 : act = 1
  · have hk2 : Hid (A.tick = (A1.voteN 3, A1)) := by unfold Hid; rw [hk.out, if_neg h2, if_pos h1]
    clear hk h2'
    subst h1
    have hvs := fun j => hidIt (A1.voteN_succ j)
    go_enter Tryz.func137, Tryz.ntmps137
    go_wp2_with (first
      | (go_at_call 200; refine ht.out.mono ?_; rintro _ w1 ⟨rfl, m1⟩; have S1 := hS0.out.elec m1; have Hc1 := hidIt (hP.out _ S1); clear m1)
      | (go_at_call 201; refine Hc1.out.mono ?_; rintro _ w2 ⟨rfl, S2⟩; have Hs2 := hidIt S2; have hc2 := S2.hb.cell; have ib2 := S2.hb.inB; unfold SyR at hc2; have HE2 := hidIt S2.he; have HL2 := hidIt S2.lk; clear S1 S2 Hc1)
      | (go_at_call 114; refine (c114 HE2.out).mono ?_; rintro _ w' ⟨rfl, e⟩; obtain rfl := e.symm)
      | (go_at_call 147; refine (c147 HE2.out).mono ?_; rintro _ w' ⟨rfl, e⟩; obtain rfl := e.symm)
      | (go_at_call 154; obtain ⟨G1, h5⟩ := HL2.out; refine (c154 h5 (by have := ok1.out.n6; omega) ok1.out.b0 (by have := ok1.out.lm; omega)).mono ?_; rintro _ _ ⟨rfl, m2, rfl⟩)
      | (go_at_call 203; obtain ⟨G1, h5⟩ := HL2.out; refine (c203 (h5.frame (G := fun _ => False) (by repeat (first | assumption | exact ModP.refl _ _ | refine ModP.fromPut ?_ (by assumption) | apply ModP.alloc | apply ModP.drew | apply ModP.drewN | refine ModP.put ?_ (by first | (left; assumption) | (left; rfl) | (right; simp only [World.inB, World.size_put] at *; omega)) _ _)) (fun _ _ f => f)) ok1.out A1.lg.now.last).mono ?_; rintro _ w3 ⟨rfl, m3⟩; have M3 : Hid (ModP (fun _ => False) w2 w3) := ModP.trans (by repeat (first | assumption | exact ModP.refl _ _ | refine ModP.fromPut ?_ (by assumption) | apply ModP.alloc | apply ModP.drew | apply ModP.drewN | refine ModP.put ?_ (by first | (left; assumption) | (left; rfl) | (right; simp only [World.inB, World.size_put] at *; omega)) _ _)) m3.toP0; clear m3))
    have Z3 := hidIt M3.out.size
    obtain ⟨lt, hlt⟩ : ∃ lt, (A1.lg.now.termAt A1.lg.now.last).1 = lt := ⟨_, rfl⟩
    simp only [hlt] at hvs ⊢
    clear hlt hc2
    go_loopw [4, 10] (fun v i u => ∃ j : Nat, j ≤ 3 ∧ i = vi j ∧ Hid (MsgsAt w2.heap.size u v (A1.voteN j)) ∧ Hid (ModP (fun _ => False) w2 u)) (fun _ i _ => 3 - (intOf i).toNat)
    case atStart => exact ⟨0, by omega, rfl, MsgsAt.nil _ _, M3⟩
    case round =>
      obtain ⟨j, hj, rfl, H1, H2⟩ := hrel
      by_cases hj3 : j < 3
      · have Hsu := hvs j
        have Hl := hidIt (A1.voteN_len j)
        clear hvs
        by_cases hid : (j : Int) = A1.el.id
        · have Hs3 : Hid (A1.voteN (j + 1) = A1.voteN j) := by unfold Hid; rw [Hsu.out, if_pos hid]
          clear Hsu
          go_wp2_with fail
          go_roundw
          case rel => exact ⟨j + 1, by omega, by go_num, by rw [Hs3.out]; exact H1, H2⟩
          case measure => simp [intOf]; omega
        · have Hs3 : Hid (A1.voteN (j + 1) = A1.voteN j ++ [⟨1, A1.el.id, (j : Int), A1.el.term, A1.lg.now.last, lt, 0, false, [], []⟩]) := by unfold Hid; rw [Hsu.out, if_neg hid]
          have hid' : ((j : Int) == A1.el.id) = false := by simpa using hid
          clear Hsu hid
          go_wp2_with (first | (at_builtin; refine wp_appM (B := w2.heap.size) (ms := A1.voteN j) (m := ⟨1, A1.el.id, (j : Int), A1.el.term, A1.lg.now.last, lt, 0, false, [], []⟩) (ev := .slice none 0 0) rfl _ _ rfl rfl rfl (at_new rfl) (H1.out.frame (F := fun _ => False) (ModP.alloc (ModP.refl _ _) _) (fun _ _ f => f)) (ownsRow_nil _ _ _ _) (by have := H2.out.size; simp; omega) (by have := Hl.out; omega) ?_; intro v2 w4 h5 h6; have H5 := hidIt h5; have H6 : Hid (ModP (fun _ => False) w2 w4) := ModP.step (G := fun k => w2.heap.size ≤ k) (ModP.alloc H2.out _) h6 (fun k hk => .inr hk); clear h5 h6))
          go_roundw
          case rel => exact ⟨j + 1, by omega, by go_num, by rw [Hs3.out]; exact H5, H6⟩
          case measure => simp [intOf]; omega
      · obtain rfl : j = 3 := by omega
        go_wp2_with fail
        go_ret
        refine ⟨_, rfl, ?_⟩
        rw [hk2.out]
        exact Hs2.out.msgs H2.out H1.out
  · have hk2 : Hid (A.tick = ([], A1)) := by unfold Hid; rw [hk.out, if_neg h2, if_neg h1]
    have h1' : (act == 1) = false := by simpa using h1
    clear hk
    go_enter Tryz.func137, Tryz.ntmps137
    go_wp2_with (first
      | (go_at_call 200; refine ht.out.mono ?_; rintro _ w1 ⟨rfl, m1⟩; have S1 := hS0.out.elec m1; have Hc1 := hidIt (hP.out _ S1); clear m1)
      | (go_at_call 201; refine Hc1.out.mono ?_; rintro _ w2 ⟨rfl, S2⟩; have Hs2 := hidIt S2; clear S1 S2 Hc1))
    go_ret
    refine ⟨_, rfl, ?_⟩
    rw [hk2.out]
    exact Hs2.out.none
end
end Go.Proofs.Qxb6500990aGreat
