/- package sync: blocks set aside; voteAsked -/
import Derived.Test.Qxb6500990aGreatSy9
set_option linter.unusedVariables false
set_option linter.unusedSimpArgs false
namespace Go.Tw
open Go Go.Proofs Go.Proofs.Qxb6500990aGreat
/-- the core behind some steps from W on; the blocks X are none of its own -/
def RSx (G0 : Nat → Prop) (W : World) (X : Nat → Prop) (p : SyP) (A : AS) (w : World) : Prop :=
  ∃ G bx, RSp w G p A A.lg.now.last (A.lg.now.termAt A.lg.now.last).1 bx 0 ∧ Grows G0 W G ∧ ModP G0 W w ∧ ∀ k, X k → k < w.heap.size ∧ ¬ G k
section
variable {w w1 W : World} {G0 X : Nat → Prop} {p : SyP} {A A' : AS} {ms : List Msg}
theorem RSx.rs (h : RSx G0 W X p A w) : RS G0 W p A [] w := by
  obtain ⟨G, bx, h1, h2, h3, _⟩ := h
  exact ⟨G, bx, w.heap.size, h1, BoxAt.nil _ _ _, h2, h3, h1.wi, h3.size, Nat.le_refl _⟩
theorem RS.aside (h : RS G0 W p A [] w) (ob : Obj) : RSx G0 W (fun k => k = w.heap.size) p A (w.alloc ob) := by
  obtain ⟨G, bx, B, h1, h2, h3, h4, _⟩ := h
  have m : ModP (fun _ => False) w (w.alloc ob) := (ModP.refl _ _).alloc _
  refine ⟨G, bx, h1.frame m (fun _ _ f => f), h3, h4.trans (m.mono fun _ f => f.elim), fun k hk => ⟨by subst hk; simp, fun g => ?_⟩⟩
  have := h1.wi _ g
  omega
theorem RSx.fr (h : RSx G0 W X p A w) (m : ModP (fun _ => False) w w1) : RSx G0 W X p A w1 := by
  obtain ⟨G, bx, h1, h2, h3, h4⟩ := h
  exact ⟨G, bx, h1.frame m (fun _ _ f => f), h2, h3.trans (m.mono fun _ f => f.elim), fun k hk => ⟨Nat.lt_of_lt_of_le (h4 k hk).1 m.size, (h4 k hk).2⟩⟩
theorem RSx.elec (h : RSx G0 W X p A w) {el' : EM} (m : Dr (w.put p.be el'.el.cells 155) w1) : RSx G0 W X p { A with el := el' } w1 ∧ ∀ x c T, X x → w.At x c T → w1.At x c T := by
  obtain ⟨G, bx, h1, h2, h3, h4⟩ := h
  obtain ⟨k1, k2⟩ := h1.elec m
  exact ⟨⟨G, bx, k1, h2, h3.step k2 h2, fun k hk => ⟨Nat.lt_of_lt_of_le (h4 k hk).1 k2.size, (h4 k hk).2⟩⟩, fun x c T hx ha => k2.at ha (h4 x hx).2⟩
theorem RS.lift {G : Nat → Prop} (h : RS G w p A ms w1) (hg : Grows G0 W G) (hm : ModP G0 W w) : RS G0 W p A ms w1 := by
  obtain ⟨G', bx, B, h1, h2, h3, h4, h5, h6, h7⟩ := h
  exact ⟨G', bx, B, h1, h2, fun k hk => (h3 k hk).elim (hg k) (fun a => .inr (Nat.le_trans hm.size a)), hm.step h4 hg, h5, Nat.le_trans hm.size h6, h7⟩
theorem RSp.rs {G : Nat → Prop} {bx : Nat → MsgR} (h : RSp w G p A A.lg.now.last (A.lg.now.termAt A.lg.now.last).1 bx 0) : RS G w p A [] w := RSp.start h
/-- a call that a contract from here on is known of -/
theorem RSx.call (h : RSx G0 W X p A w) {f : Nat} {args : Array Value} {R : Ending → Prop} (hc : ∀ G, RS G w p A [] w → Calls Tryz.prog f args w fun x w' => R x ∧ RS G w p A' [] w') :
    Calls Tryz.prog f args w fun x w' => R x ∧ RSx G0 W X p A' w' ∧ ∀ x c T, X x → w.At x c T → w'.At x c T := by
  obtain ⟨G, bx, h1, h2, h3, h4⟩ := h
  refine (hc G h1.rs).mono ?_
  rintro x w' ⟨hr, G', bx', B, k1, k2, k3, k4, k5, k6, k7⟩
  refine ⟨hr, ⟨G', bx', k1, fun k hk => (k3 k hk).elim (h2 k) (fun a => .inr (Nat.le_trans h3.size a)), h3.step k4 h2, fun k hk => ⟨Nat.lt_of_lt_of_le (h4 k hk).1 k4.size, fun g => (k3 k g).elim (h4 k hk).2 (fun a => ?_)⟩⟩, fun x c T hx ha => k4.at ha (h4 x hx).2⟩
  have := (h4 k hk).1
  omega
end
end Go.Tw
namespace Go.Proofs.Qxb6500990aGreat
open Go Go.RowKit Go.Tw
attribute [local go_sem] World.cell?_put_same World.cell?_put_ne World.cell?_put_ne' World.frozen?_put_same World.frozen?_put_ne World.frozen?_put_ne' World.setCell_put_same World.setCell_put_ne World.setCell_put_ne' World.inB_put World.inB_alloc World.inB_drew World.inB_drewN World.inB_new World.inB_setCell World.put_drew World.put_drewN World.q_setCell_drew World.q_setCell_drewN World.q_alloc_drew World.q_alloc_drewN World.put_put_same World.put_put_2 World.size_put World.q_cell?_alloc_old World.q_frozen?_alloc_old World.cell?_alloc_new' World.frozen?_alloc_new' World.q_setCell_alloc_old World.q_setCell_alloc_new World.q_put_alloc_old World.cell?_force_same World.frozen?_force_same World.cell?_force2_fst World.cell?_force2_snd SyncR.g0 SyncR.s0 SyncR.g1 SyncR.s1 SyncR.g2 SyncR.s2 SyncR.g3 SyncR.s3 SyncR.g4 SyncR.s4 SyncR.g5 SyncR.s5 SyncR.g6 SyncR.s6 SyncR.g7 SyncR.s7 SyncR.g8 SyncR.s8 SyncR.g9 SyncR.s9 SyncR.g10 SyncR.s10 SyncR.g11 SyncR.s11 SyncR.g12 SyncR.s12 SyncR.g13 SyncR.s13 SyncR.g14 SyncR.s14 SyncR.g15 SyncR.s15 SyncR.g16 SyncR.s16 SyncR.g17 SyncR.s17 SyncR.g18 SyncR.s18 SyncR.g19 SyncR.s19 SyncR.g20 SyncR.s20 SyncR.g21 SyncR.s21 SyncR.g22 SyncR.s22 SyncR.g23 SyncR.s23 SyncR.g24 SyncR.s24 SyncR.g25 SyncR.s25 SyncR.g26 SyncR.s26 SyncR.g27 SyncR.s27 SyncR.g28 SyncR.s28 SyncR.g29 SyncR.s29 SyncR.g30 SyncR.s30 SyncR.g31 SyncR.s31 SyncR.g32 SyncR.s32 SyncR.g33 SyncR.s33 SyncR.g34 SyncR.s34 SyncR.g35 SyncR.s35 SyncR.g36 SyncR.s36 SyncR.g37 SyncR.s37 SyncR.g38 SyncR.s38 SyncR.g39 SyncR.s39 SyncR.g40 SyncR.s40 SyncR.g41 SyncR.s41 SyncR.gi_next_0 SyncR.si_next_0 SyncR.gi_mtch_0 SyncR.si_mtch_0 SyncR.gi_box_0 SyncR.si_box_0 SyncR.gi_box_1 SyncR.si_box_1 SyncR.gi_box_2 SyncR.si_box_2 SyncR.gi_box_3 SyncR.si_box_3 SyncR.gi_box_4 SyncR.si_box_4 SyncR.gi_box_5 SyncR.si_box_5 SyncR.gi_box_6 SyncR.si_box_6 SyncR.gi_box_7 SyncR.si_box_7 SyncR.gi_box_8 SyncR.si_box_8 SyncR.gi_box_9 SyncR.si_box_9 MsgR.g0 MsgR.s0 MsgR.g1 MsgR.s1 MsgR.g2 MsgR.s2 MsgR.g3 MsgR.s3 MsgR.g4 MsgR.s4 MsgR.g5 MsgR.s5 MsgR.g6 MsgR.s6 MsgR.g7 MsgR.s7 MsgR.g8 MsgR.s8 MsgR.g9 MsgR.s9
attribute [local go_sem] ba_get upd_same upd_upd
set_option maxHeartbeats 4000000
set_option maxRecDepth 100000
section
variable {W w : World} {G : Nat → Prop} {p : SyP} {A : AS}
theorem c195 (h : RS G W p A [] w) (ok : A.Ok) (hn : A.lg.hist.length ≤ 470) {m : Msg} {ad : Option Addr} {le cap : Nat} (hp : A.el.peer m.frm = true) (ht : m.term ≤ maxT) :
    Calls Tryz.prog 195 #[vp p.b, .agg (m.r (.slice ad le cap)).cells] w fun r w' => r = .returned (.tuple #[]) ∧ RS G W p (A.voteAsked m).2 (A.voteAsked m).1 w' := by
  unfold AS.voteAsked
  simp only []
  have S0 := hidIt (h.aside (.cells (m.r (.slice ad le cap)).cells 159))
  have hm0 : Hid ((w.alloc (.cells (m.r (.slice ad le cap)).cells 159)).At w.heap.size (m.r (.slice ad le cap)).cells 159) := World.At_alloc_new
  have q243 := hidIt (fun (w' : World) (h : w'.At p.be A.el.el.cells 155) => c243 h ok.el (A.upto m) hp ht)
  have oe' := ok.el.asked hp m.term (A.upto m)
  have hup : A.upto m = (decide ((A.lg.now.termAt A.lg.now.last).1 < m.logTerm) || (m.logTerm == (A.lg.now.termAt A.lg.now.last).1 && decide (A.lg.now.last ≤ m.index))) := by
    unfold AS.upto
    by_cases c1 : (A.lg.now.termAt A.lg.now.last).1 < m.logTerm
    · simp [c1]
    · by_cases c2 : m.logTerm = (A.lg.now.termAt A.lg.now.last).1
      · simp [c2]
      · simp [c1, c2]
  have Hup := hidIt hup
  obtain ⟨bx, hb⟩ := RB.hb h
  have hc := hb.cell
  have ib := hb.inB
  unfold RSy at hc
  have hbm : p.b < w.heap.size := ib
  have nbm : p.b ≠ w.heap.size := by omega
  generalize A.upto m = up at *
  generalize A.el.asked m.frm m.term up = ea at *
  obtain ⟨g, el'⟩ := ea
  simp only [] at q243 oe' ⊢
  have q186 := hidIt (fun w' G' (h : RS G' w' p { A with el := el' } [] w') => c186 h oe' (by show A.lg.hist.length ≤ 480; omega))
  generalize (AS.persist { A with el := el' }) = A1 at *
  generalize hlt : (A.lg.now.termAt A.lg.now.last).1 = lt at *
  generalize hla : A.lg.now.last = la at *
  clear h hb ok hup oe' hlt hla
  unfold Msg.r at *
  go_enter Tryz.func195, Tryz.ntmps195
  go_upto_region 1 with fail
  go_cut [4] from 6 (fun s4 wc => s4 = .bool up ∧ wc = (w.alloc (.cells (MsgR.cells ⟨m.kind, m.frm, m.to, m.term, m.index, m.logTerm, m.commit, m.ok, .slice ad le cap, m.data⟩) 159)).drew)
  case first =>
    by_cases c1 : lt < m.logTerm
    · have d1 : decide (lt < m.logTerm) = true := by simpa using c1
      clear c1
      refine Ord.region1 [] [0, 1, 2, 3, 4, 5, 6, 7, 8, 9, 10, 11, 12, 13, 14, 15, 16, 17, 18, 19, 20, 21, 22, 23, 24] [25] (by kernel_rfl) (by kernel_rfl) (fun _ _ d _ _ h => by cases d <;> exact h) ?_
      simp only [Ord.pickO, Ord.nth]
      refine wpQuiet_nil ?_
      repeat (go_big_quiet_step (fail))
      refine wpQuiet_nil ?_
      go_wp2_with fail
      go_meet
      case rel => exact ⟨by rw [Hup.out, d1]; rfl, rfl⟩
    · have d1 : decide (lt < m.logTerm) = false := by simpa using c1
      clear c1
      by_cases c2 : m.logTerm = lt
      · have d2 : (m.logTerm == lt) = true := by simpa using c2
        clear c2
        refine Ord.region1 [] [0, 1, 2, 3, 4, 5, 6, 7, 8, 9, 10, 11, 12, 13, 14, 15, 16, 17, 18, 19, 20, 21, 22, 23, 24] [25] (by kernel_rfl) (by kernel_rfl) (fun _ _ d _ _ h => by cases d <;> exact h) ?_
        simp only [Ord.pickO, Ord.nth]
        refine wpQuiet_nil ?_
        repeat (go_big_quiet_step (fail))
        refine wpQuiet_nil ?_
        go_wp2_with fail
        go_meet
        case rel => exact ⟨by rw [Hup.out, d1, d2]; simp, rfl⟩
      · have d2 : (m.logTerm == lt) = false := by simpa using c2
        clear c2
        refine Ord.region1 [] [0, 1, 2, 3, 4, 5, 6, 7, 8, 9, 10, 11, 12, 13, 14, 15, 16, 17, 18, 19, 20, 21, 22, 23, 24] [25] (by kernel_rfl) (by kernel_rfl) (fun _ _ d _ _ h => by cases d <;> exact h) ?_
        simp only [Ord.pickO, Ord.nth]
        refine wpQuiet_nil ?_
        repeat (go_big_quiet_step (fail))
        refine wpQuiet_nil ?_
        go_wp2_with fail
        go_meet
        case rel => exact ⟨by rw [Hup.out, d1, d2]; rfl, rfl⟩
  case rest =>
    obtain ⟨rfl, rfl⟩ := hcut
    go_wp2_with fail
    have S1 := hidIt (S0.out.fr (w1 := World.drew (World.drew _)) (ModP.refl (fun _ => False) _).drew.drew)
    have hm1 := hidIt (World.At_drew.2 (World.At_drew.2 hm0.out))
    clear S0 hm0
    refine Ord.region1 [] [0, 1, 2, 3, 4, 5, 6, 7, 8] [9, 10] (by kernel_rfl) (by kernel_rfl) (fun _ _ d _ _ h => by cases d <;> exact h) ?_
    simp only [Ord.pickO, Ord.nth]
    refine wpQuiet_nil ?_
    repeat (go_big_quiet_step (fail))
    refine wpQuiet_nil ?_
    go_wp2_with (first
      | (go_at_call 243; refine (q243.out _ (RB.he S1.out.rs)).mono ?_; rintro _ w1 ⟨rfl, m1⟩; obtain ⟨s1, k1⟩ := S1.out.elec m1; have S2 := hidIt s1; have hm2 := hidIt (k1 _ _ _ rfl hm1.out); clear m1 s1 k1 S1 hm1)
      | (go_at_call 186; refine (S2.out.call (fun G' h => q186.out _ G' h)).mono ?_; rintro _ w2 ⟨rfl, s3, k3⟩; have S3 := hidIt s3; have hm3 := k3 _ _ _ rfl hm2.out; have hc3 := hm3.cell; have ib3 := hm3.inB; clear s3 k3 S2 hm2 hm3)
      | (go_at_call 244; refine (c244 S3.out.rs (by simp) 2 m.frm g 0).mono ?_; rintro _ w3 ⟨rfl, s4⟩; have S4 := hidIt s4; clear s4))
    go_end0
    exact ⟨rfl, S4.out⟩
end
end Go.Proofs.Qxb6500990aGreat
