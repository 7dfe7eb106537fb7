/- package sync: snapCame -/
import Derived.Test.Qxb6500990aGreatSy11
set_option linter.unusedVariables false
set_option linter.unusedSimpArgs false
namespace Go.Tw
open Go Go.Proofs Go.Proofs.Qxb6500990aGreat
def RBx (G0 : Nat → Prop) (W : World) (X : Nat → Prop) (p : SyP) (A : AS) (la lt : Int) (w : World) : Prop :=
  ∃ G bx, RSp w G p A la lt bx 0 ∧ Grows G0 W G ∧ ModP G0 W w ∧ ∀ k, X k → k < w.heap.size ∧ ¬ G k
section
variable {w w1 W : World} {G0 X : Nat → Prop} {p : SyP} {A A' : AS} {la lt la' lt' : Int}
theorem RSx.bx (h : RSx G0 W X p A w) : RBx G0 W X p A A.lg.now.last (A.lg.now.termAt A.lg.now.last).1 w := h
theorem RBx.rb (h : RBx G0 W X p A la lt w) : RB G0 W p A la lt [] w := by
  obtain ⟨G, bx, h1, h2, h3, _⟩ := h
  exact ⟨G, bx, w.heap.size, h1, BoxAt.nil _ _ _, h2, h3, h1.wi, h3.size, Nat.le_refl _⟩
theorem RBx.fr (h : RBx G0 W X p A la lt w) (m : ModP (fun _ => False) w w1) : RBx G0 W X p A la lt w1 := by
  obtain ⟨G, bx, h1, h2, h3, h4⟩ := h
  exact ⟨G, bx, h1.frame m (fun _ _ f => f), h2, h3.trans (m.mono fun _ f => f.elim), fun k hk => ⟨Nat.lt_of_lt_of_le (h4 k hk).1 m.size, (h4 k hk).2⟩⟩
theorem RBx.call (h : RBx G0 W X p A la lt w) {f : Nat} {args : Array Value} {R : Ending → Prop} (hc : ∀ G, RB G w p A la lt [] w → Calls Tryz.prog f args w fun x w' => R x ∧ RB G w p A' la' lt' [] w') :
    Calls Tryz.prog f args w fun x w' => R x ∧ RBx G0 W X p A' la' lt' w' ∧ ∀ x c T, X x → w.At x c T → w'.At x c T := by
  obtain ⟨G, bx, h1, h2, h3, h4⟩ := h
  refine (hc G (RSp.start h1)).mono ?_
  rintro x w' ⟨hr, G', bx', B, k1, k2, k3, k4, k5, k6, k7⟩
  refine ⟨hr, ⟨G', bx', k1, fun k hk => (k3 k hk).elim (h2 k) (fun a => .inr (Nat.le_trans h3.size a)), h3.step k4 h2, fun k hk => ⟨Nat.lt_of_lt_of_le (h4 k hk).1 k4.size, fun g => (k3 k g).elim (h4 k hk).2 (fun a => ?_)⟩⟩, fun x c T hx ha => k4.at ha (h4 x hx).2⟩
  have := (h4 k hk).1
  omega
theorem RBx.open (h : RBx G0 W X p A la lt w) : ∃ (y : World) (bx : Nat → MsgR), w = y.put p.b (SyncR.cells ⟨vp p.bl, vp p.be, A.commit, A.next, A.mtch, la, lt, bx, 0⟩) 162 ∧ y.inB p.b ∧ ¬ X p.b ∧
    ∀ c nx mt la' lt', RBx G0 W X p { A with commit := c, next := nx, mtch := mt } la' lt' (y.put p.b (SyncR.cells ⟨vp p.bl, vp p.be, c, nx, mt, la', lt', bx, 0⟩) 162) := by
  obtain ⟨G, bx, h1, h2, h3, h4⟩ := h
  obtain ⟨y, e, iy⟩ := h1.hb.door
  subst e
  refine ⟨y, bx, rfl, iy, fun a => (h4 _ a).2 h1.fb, ?_⟩
  intro c nx mt la' lt'
  have k1 := h1.own c nx mt la' lt' bx 0
  rw [World.put_put_same] at k1
  have m : ModP (fun x => x = p.b) (y.put p.b (RSy p A la lt bx 0).cells 162) (y.put p.b (SyncR.cells ⟨vp p.bl, vp p.be, c, nx, mt, la', lt', bx, 0⟩) 162) := ((ModP.refl (fun x => x = p.b) y).put (.inl rfl) _ _).fromPut rfl
  exact ⟨G, bx, k1, h2, h3.step m (fun k e => e ▸ h2 _ h1.fb), fun k hk => ⟨by have := (h4 k hk).1; rw [World.size_put] at this ⊢; exact this, (h4 k hk).2⟩⟩
end
theorem AL.install_err {a : AL} {i t : Int} {sn : Bs} (h : (a.install i t sn).1 ≠ 0) : (a.install i t sn).2 = a := by
  unfold AL.install at *
  (repeat' split) <;> simp_all
end Go.Tw
namespace Go.Proofs.Qxb6500990aGreat
open Go Go.RowKit Go.Tw
attribute [local go_sem] World.cell?_put_same World.cell?_put_ne World.cell?_put_ne' World.frozen?_put_same World.frozen?_put_ne World.frozen?_put_ne' World.setCell_put_same World.setCell_put_ne World.setCell_put_ne' World.inB_put World.inB_alloc World.inB_drew World.inB_drewN World.inB_new World.inB_setCell World.put_drew World.put_drewN World.q_setCell_drew World.q_setCell_drewN World.q_alloc_drew World.q_alloc_drewN World.put_put_same World.put_put_2 World.size_put World.q_cell?_alloc_old World.q_frozen?_alloc_old World.cell?_alloc_new' World.frozen?_alloc_new' World.q_setCell_alloc_old World.q_setCell_alloc_new World.q_put_alloc_old World.cell?_force_same World.frozen?_force_same World.cell?_force2_fst World.cell?_force2_snd SyncR.g0 SyncR.s0 SyncR.g1 SyncR.s1 SyncR.g2 SyncR.s2 SyncR.g3 SyncR.s3 SyncR.g4 SyncR.s4 SyncR.g5 SyncR.s5 SyncR.g6 SyncR.s6 SyncR.g7 SyncR.s7 SyncR.g8 SyncR.s8 SyncR.g9 SyncR.s9 SyncR.g10 SyncR.s10 SyncR.g11 SyncR.s11 SyncR.g12 SyncR.s12 SyncR.g13 SyncR.s13 SyncR.g14 SyncR.s14 SyncR.g15 SyncR.s15 SyncR.g16 SyncR.s16 SyncR.g17 SyncR.s17 SyncR.g18 SyncR.s18 SyncR.g19 SyncR.s19 SyncR.g20 SyncR.s20 SyncR.g21 SyncR.s21 SyncR.g22 SyncR.s22 SyncR.g23 SyncR.s23 SyncR.g24 SyncR.s24 SyncR.g25 SyncR.s25 SyncR.g26 SyncR.s26 SyncR.g27 SyncR.s27 SyncR.g28 SyncR.s28 SyncR.g29 SyncR.s29 SyncR.g30 SyncR.s30 SyncR.g31 SyncR.s31 SyncR.g32 SyncR.s32 SyncR.g33 SyncR.s33 SyncR.g34 SyncR.s34 SyncR.g35 SyncR.s35 SyncR.g36 SyncR.s36 SyncR.g37 SyncR.s37 SyncR.g38 SyncR.s38 SyncR.g39 SyncR.s39 SyncR.g40 SyncR.s40 SyncR.g41 SyncR.s41 SyncR.gi_next_0 SyncR.si_next_0 SyncR.gi_mtch_0 SyncR.si_mtch_0 SyncR.gi_box_0 SyncR.si_box_0 SyncR.gi_box_1 SyncR.si_box_1 SyncR.gi_box_2 SyncR.si_box_2 SyncR.gi_box_3 SyncR.si_box_3 SyncR.gi_box_4 SyncR.si_box_4 SyncR.gi_box_5 SyncR.si_box_5 SyncR.gi_box_6 SyncR.si_box_6 SyncR.gi_box_7 SyncR.si_box_7 SyncR.gi_box_8 SyncR.si_box_8 SyncR.gi_box_9 SyncR.si_box_9 MsgR.g0 MsgR.s0 MsgR.g1 MsgR.s1 MsgR.g2 MsgR.s2 MsgR.g3 MsgR.s3 MsgR.g4 MsgR.s4 MsgR.g5 MsgR.s5 MsgR.g6 MsgR.s6 MsgR.g7 MsgR.s7 MsgR.g8 MsgR.s8 MsgR.g9 MsgR.s9 LogR.g0 LogR.s0 LogR.g1 LogR.s1 LogR.g2 LogR.s2 LogR.g3 LogR.s3 LogR.g4 LogR.s4 LogR.g5 LogR.s5 LogR.g6 LogR.s6 LogR.g7 LogR.s7 LogR.g8 LogR.s8 LogR.g9 LogR.s9 LogR.g10 LogR.s10 LogR.g11 LogR.s11 LogR.g12 LogR.s12 LogR.g13 LogR.s13 LogR.g14 LogR.s14 LogR.g15 LogR.s15 LogR.g16 LogR.s16 LogR.g17 LogR.s17 LogR.g18 LogR.s18 LogR.gi_terms_0 LogR.si_terms_0 LogR.gi_data_0 LogR.si_data_0
attribute [local go_sem] ba_get upd_same upd_upd
set_option maxHeartbeats 4000000
set_option maxRecDepth 100000
theorem c248_low {W : World} {F : Nat → Prop} {bl bd : Nat} {A : AL} {N r : Nat} (h : RLK W F bl bd A N r) {idx t : Int} {sn : Bs} (i0 : 0 ≤ idx) (h1 : idx ≤ A.now.base) (h2 : idx ≤ maxT) (t0 : 0 ≤ t) (t1 : t ≤ maxT) (hs : sn.length ≤ 128) :
    Calls Tryz.prog 248 #[vp bl, vi idx, vi t, vs sn] W fun x w' => x = .returned (vi (A.install idx t sn).1) ∧ RLK w' (grow F W) bl bd (A.install idx t sn).2 N r ∧ ModP F W w' := by
  have hin : A.install idx t sn = (7, A) := by
    unfold AL.install; rw [if_neg (by omega), if_neg (by omega), if_pos h1]
  rw [hin]
  have H := hidIt h
  obtain ⟨Fd, bt, L, D, hp⟩ := h
  have hc := hp.hl.cell
  have ib := hp.hl.inB
  have lb := hp.lr.b
  have h2' : idx ≤ 72057594037927936 := h2
  have t1' : t ≤ 72057594037927936 := t1
  have q1 : decide (idx < 0) = false := by simp; omega
  have q2 : decide (72057594037927936 < idx) = false := by simp; omega
  have q3 : decide (t < 0) = false := by simp; omega
  have q4 : decide (72057594037927936 < t) = false := by simp; omega
  have q5 : decide (128 < (sn.length : Int)) = false := by simp; omega
  have g2 : decide (idx ≤ L.base) = true := by simp; omega
  clear hp hin h1 h2 h2' t1 t1' t0 i0 hs lb
  go_enter Tryz.func248, Tryz.ntmps248
  go_wp2_with fail
  go_ret
  exact ⟨rfl, H.out.mono (fun _ => .inl), ModP.refl _ _⟩
theorem k248 {W : World} {F : Nat → Prop} {bl bd : Nat} {A : AL} {N r : Nat} (h : RLK W F bl bd A N r) (hh : A.hist.length ≤ 480) {idx t : Int} {sn : Bs} (i0 : 0 ≤ idx) (h2 : idx ≤ maxT) (t0 : 0 ≤ t) (t1 : t ≤ maxT) (hs : sn.length ≤ 128) :
    Calls Tryz.prog 248 #[vp bl, vi idx, vi t, vs sn] W fun x w' => x = .returned (vi (A.install idx t sn).1) ∧ RLK w' (grow F W) bl bd (A.install idx t sn).2 N r ∧ ModP F W w' := by
  by_cases h1 : idx ≤ A.now.base
  · exact c248_low h i0 h1 h2 t0 t1 hs
  · exact c248 h hh (by omega) h2 t0 t1 hs
section
variable {W w : World} {G : Nat → Prop} {p : SyP} {A : AS}
theorem c198 (h : RS G W p A [] w) (ok : A.Ok) (hn : A.lg.hist.length ≤ 470) {m : Msg} {ad : Option Addr} {le cap : Nat} (hp : A.el.peer m.frm = true) (hok : MsgOk m) :
    Calls Tryz.prog 198 #[vp p.b, .agg (m.r (.slice ad le cap)).cells] w fun r w' => r = .returned (.tuple #[]) ∧ RS G W p (A.snapCame m).2 (A.snapCame m).1 w' := by
  unfold AS.snapCame
  simp only []
  have S0 := hidIt (h.aside (.cells (m.r (.slice ad le cap)).cells 159))
  have hm0 : Hid ((w.alloc (.cells (m.r (.slice ad le cap)).cells 159)).At w.heap.size (m.r (.slice ad le cap)).cells 159) := World.At_alloc_new
  have q246 := hidIt (fun (w' : World) (h : w'.At p.be A.el.el.cells 155) => c246 h ok.el hp hok.t1)
  have oe' := ok.el.heard hp m.term
  obtain ⟨bx, hb⟩ := RB.hb h
  have hc := hb.cell
  have ib := hb.inB
  unfold RSy at hc
  have hbm : p.b < w.heap.size := ib
  have nbm : p.b ≠ w.heap.size := by omega
  generalize A.el.heard m.frm m.term = ea at *
  obtain ⟨g, el'⟩ := ea
  simp only [] at q246 oe' ⊢
  have q186 := hidIt (fun w' G' (h : RS G' w' p { A with el := el' } [] w') => c186 h oe' (by show A.lg.hist.length ≤ 480; omega))
  have hlen := AS.persist_len { A with el := el' }
  have hlen' : (AS.persist { A with el := el' }).lg.hist.length ≤ 480 := by have : A.lg.hist.length ≤ 470 := hn; exact Nat.le_trans hlen (by show A.lg.hist.length + 1 ≤ 480; omega)
  generalize (AS.persist { A with el := el' }) = A1 at *
  generalize hlt : (A.lg.now.termAt A.lg.now.last).1 = lt at *
  generalize hla : A.lg.now.last = la at *
  clear h hb ok oe' hlt hla hlen hn
  have HMO := hidIt hok
  clear hok
  unfold Msg.r at *
  cases g with
  | false =>
    simp only [Bool.false_eq_true, if_false]
    go_enter Tryz.func198, Tryz.ntmps198
    go_wp2_with fail
    have S1 := hidIt (S0.out.fr (w1 := World.drew _) (ModP.refl (fun _ => False) _).drew)
    have hm1 := hidIt (World.At_drew.2 hm0.out)
    clear S0 hm0
    refine Ord.region1 [] [0, 1, 2, 3, 4, 5, 6, 7] [8, 9] (by kernel_rfl) (by kernel_rfl) (fun _ _ d _ _ h => by cases d <;> exact h) ?_
    simp only [Ord.pickO, Ord.nth]
    refine wpQuiet_nil ?_
    repeat (go_big_quiet_step (fail))
    refine wpQuiet_nil ?_
    go_wp2_with (first
      | (go_at_call 246; refine (q246.out _ (RB.he S1.out.rs)).mono ?_; rintro _ w1 ⟨rfl, m1⟩; obtain ⟨s1, k1⟩ := S1.out.elec m1; have S2 := hidIt s1; have hm2 := hidIt (k1 _ _ _ rfl hm1.out); clear m1 s1 k1 S1 hm1)
      | (go_at_call 186; refine (S2.out.call (fun G' h => q186.out _ G' h)).mono ?_; rintro _ w2 ⟨rfl, s3, k3⟩; have S3 := hidIt s3; have hm3 := k3 _ _ _ rfl hm2.out; have hc3 := hm3.cell; have ib3 := hm3.inB; clear s3 k3 S2 hm2 hm3)
      | (go_at_call 244; refine (c244 S3.out.rs (by simp) 4 m.frm false 0).mono ?_; rintro _ w3 ⟨rfl, s4⟩; have S4 := hidIt s4; clear s4))
    refine bodyPost_ret (results_none rfl _ _ _) rfl ?_
    exact ⟨rfl, S4.out⟩
  | true =>
    simp only [if_true]
    by_cases hi : m.index ≤ A1.commit
    · rw [if_pos hi]
      have d1 : decide (m.index ≤ A1.commit) = true := by simpa using hi
      clear hi
      go_enter Tryz.func198, Tryz.ntmps198
      go_wp2_with fail
      have S1 := hidIt (S0.out.fr (w1 := World.drew _) (ModP.refl (fun _ => False) _).drew)
      have hm1 := hidIt (World.At_drew.2 hm0.out)
      clear S0 hm0
      refine Ord.region1 [] [0, 1, 2, 3, 4, 5, 6, 7] [8, 9] (by kernel_rfl) (by kernel_rfl) (fun _ _ d _ _ h => by cases d <;> exact h) ?_
      simp only [Ord.pickO, Ord.nth]
      refine wpQuiet_nil ?_
      repeat (go_big_quiet_step (fail))
      refine wpQuiet_nil ?_
      go_wp2_with (first
        | (go_at_call 246; refine (q246.out _ (RB.he S1.out.rs)).mono ?_; rintro _ w1 ⟨rfl, m1⟩; obtain ⟨s1, k1⟩ := S1.out.elec m1; have S2 := hidIt s1; have hm2 := hidIt (k1 _ _ _ rfl hm1.out); clear m1 s1 k1 S1 hm1 hc ib)
        | (go_at_call 186; refine (S2.out.call (fun G' h => q186.out _ G' h)).mono ?_; rintro _ w2 ⟨rfl, s3, k3⟩; have S3 := hidIt s3; have hm3 := k3 _ _ _ rfl hm2.out; have HM3 := hidIt hm3; have hc3 := hm3.cell; have ib3 := hm3.inB; obtain ⟨bx3, hb3⟩ := RB.hb s3.rs; have hcb := hb3.cell; have ibb := hb3.inB; unfold RSy at hcb; clear s3 k3 S2 hm2 hm3 hb3))
      refine Ord.region1 [] [0, 1, 2, 3, 4, 5] [6] (by kernel_rfl) (by kernel_rfl) (fun _ _ d _ _ h => by cases d <;> exact h) ?_
      simp only [Ord.pickO, Ord.nth]
      refine wpQuiet_nil ?_
      repeat (go_big_quiet_step (fail))
      refine wpQuiet_nil ?_
      go_wp2_with fail
      refine Ord.region1 [] [0, 1, 2, 3, 4, 5, 6] [7] (by kernel_rfl) (by kernel_rfl) (fun _ _ d _ _ h => by cases d <;> exact h) ?_
      simp only [Ord.pickO, Ord.nth]
      refine wpQuiet_nil ?_
      repeat (go_big_quiet_step (fail))
      refine wpQuiet_nil ?_
      go_wp2_with (first
        | (go_at_call 244; refine (c244 (RB.fr S3.out.rs ?mm) (by simp) 4 m.frm true A1.commit).mono ?_; (case mm => first | exact ModP.refl _ _ | exact (ModP.refl _ _).drew | exact (ModP.refl _ _).drew.drew | exact (ModP.refl _ _).drew.drew.drew); rintro _ w5 ⟨rfl, s4⟩; have S4 := hidIt s4; clear s4))
      refine bodyPost_ret (results_none rfl _ _ _) rfl ?_
      exact ⟨rfl, S4.out⟩
    · rw [if_neg hi]
      have d1 : decide (m.index ≤ A1.commit) = false := by simpa using hi
      clear hi
      have q248 := hidIt (fun (w' : World) G' la lt (h : RB G' w' p A1 la lt [] w') => RB.log h (R := fun x => x = .returned (vi (A1.lg.install m.index m.logTerm m.data).1)) (lg' := (A1.lg.install m.index m.logTerm m.data).2) (fun G1 h1 _ => k248 h1 hlen' HMO.out.i0 HMO.out.i1 HMO.out.l0 HMO.out.l1 HMO.out.d))
      have her := hidIt (@AL.install_err A1.lg m.index m.logTerm m.data)
      generalize A1.lg.install m.index m.logTerm m.data = inst at *
      obtain ⟨ie, il⟩ := inst
      simp only [] at q248 her ⊢
      by_cases he : ie = 0
      · subst he
        simp only [if_true]
        clear her
        go_enter Tryz.func198, Tryz.ntmps198
        go_wp2_with fail
        have S1 := hidIt (S0.out.fr (w1 := World.drew _) (ModP.refl (fun _ => False) _).drew)
        have hm1 := hidIt (World.At_drew.2 hm0.out)
        clear S0 hm0
        refine Ord.region1 [] [0, 1, 2, 3, 4, 5, 6, 7] [8, 9] (by kernel_rfl) (by kernel_rfl) (fun _ _ d _ _ h => by cases d <;> exact h) ?_
        simp only [Ord.pickO, Ord.nth]
        refine wpQuiet_nil ?_
        repeat (go_big_quiet_step (fail))
        refine wpQuiet_nil ?_
        go_wp2_with (first
          | (go_at_call 246; refine (q246.out _ (RB.he S1.out.rs)).mono ?_; rintro _ w1 ⟨rfl, m1⟩; obtain ⟨s1, k1⟩ := S1.out.elec m1; have S2 := hidIt s1; have hm2 := hidIt (k1 _ _ _ rfl hm1.out); clear m1 s1 k1 S1 hm1 hc ib)
          | (go_at_call 186; refine (S2.out.call (fun G' h => q186.out _ G' h)).mono ?_; rintro _ w2 ⟨rfl, s3, k3⟩; have S3 := hidIt s3; have hm3 := k3 _ _ _ rfl hm2.out; have HM3 := hidIt hm3; have hc3 := hm3.cell; have ib3 := hm3.inB; obtain ⟨bx3, hb3⟩ := RB.hb s3.rs; have hcb := hb3.cell; have ibb := hb3.inB; unfold RSy at hcb; clear s3 k3 S2 hm2 hm3 hb3))
        refine Ord.region1 [] [0, 1, 2, 3, 4, 5] [6] (by kernel_rfl) (by kernel_rfl) (fun _ _ d _ _ h => by cases d <;> exact h) ?_
        simp only [Ord.pickO, Ord.nth]
        refine wpQuiet_nil ?_
        repeat (go_big_quiet_step (fail))
        refine wpQuiet_nil ?_
        go_wp2_with fail
        refine Ord.region1 [] [0, 1, 2, 3, 4, 5, 6, 7, 8, 9] [10, 11] (by kernel_rfl) (by kernel_rfl) (fun _ _ d _ _ h => by cases d <;> exact h) ?_
        simp only [Ord.pickO, Ord.nth]
        refine wpQuiet_nil ?_
        repeat (go_big_quiet_step (fail))
        refine wpQuiet_nil ?_
        go_wp2_with (first
          | (go_at_call 248; refine (RBx.call (RSx.bx (S3.out.fr ?mm)) (fun G' h => q248.out _ G' _ _ h)).mono ?_; (case mm => first | exact ModP.refl _ _ | exact (ModP.refl _ _).drew | exact (ModP.refl _ _).drew.drew | exact (ModP.refl _ _).drew.drew.drew); rintro _ w5 ⟨rfl, s5, k5⟩; have S5 := hidIt s5; have hm5 := hidIt (k5 _ _ _ rfl (by first | exact HM3.out | exact World.At_drew.2 HM3.out | exact World.At_drew.2 (World.At_drew.2 HM3.out))); clear s5 k5 hc3 ib3 hcb ibb S3 HM3)
          | (go_at_call 70; refine (RBx.call S5.out (fun G' h => c70 h)).mono ?_; rintro _ w6 ⟨rfl, s6, k6⟩; have hm6 := k6 _ _ _ rfl hm5.out; obtain ⟨y, bx6, rfl, iy, nX, hset⟩ := RBx.open s6; have HS := hidIt hset; have ne6 : w.heap.size ≠ p.b := (fun e => nX e.symm); have hm7 := (World.At_put_ne' ne6).1 hm6; have hc6 := hm7.cell; have ib6 := hm7.inB; clear s6 k6 S5 hm5 hset hm6 hm7)
          | (go_at_call 244; refine (c244 (HS.out m.index A1.next A1.mtch _ _).rb (by simp) 4 m.frm true m.index).mono ?_; rintro _ w8 ⟨rfl, s8⟩; have S8 := hidIt s8; clear s8))
        go_end0
        exact ⟨rfl, S8.out⟩
      · rw [if_neg he]
        have hil : il = A1.lg := her.out he
        subst hil
        have d2 : (ie != 0) = true := by simpa using he
        clear her he
        go_enter Tryz.func198, Tryz.ntmps198
        go_wp2_with fail
        have S1 := hidIt (S0.out.fr (w1 := World.drew _) (ModP.refl (fun _ => False) _).drew)
        have hm1 := hidIt (World.At_drew.2 hm0.out)
        clear S0 hm0
        refine Ord.region1 [] [0, 1, 2, 3, 4, 5, 6, 7] [8, 9] (by kernel_rfl) (by kernel_rfl) (fun _ _ d _ _ h => by cases d <;> exact h) ?_
        simp only [Ord.pickO, Ord.nth]
        refine wpQuiet_nil ?_
        repeat (go_big_quiet_step (fail))
        refine wpQuiet_nil ?_
        go_wp2_with (first
          | (go_at_call 246; refine (q246.out _ (RB.he S1.out.rs)).mono ?_; rintro _ w1 ⟨rfl, m1⟩; obtain ⟨s1, k1⟩ := S1.out.elec m1; have S2 := hidIt s1; have hm2 := hidIt (k1 _ _ _ rfl hm1.out); clear m1 s1 k1 S1 hm1 hc ib)
          | (go_at_call 186; refine (S2.out.call (fun G' h => q186.out _ G' h)).mono ?_; rintro _ w2 ⟨rfl, s3, k3⟩; have S3 := hidIt s3; have hm3 := k3 _ _ _ rfl hm2.out; have HM3 := hidIt hm3; have hc3 := hm3.cell; have ib3 := hm3.inB; obtain ⟨bx3, hb3⟩ := RB.hb s3.rs; have hcb := hb3.cell; have ibb := hb3.inB; unfold RSy at hcb; clear s3 k3 S2 hm2 hm3 hb3))
        refine Ord.region1 [] [0, 1, 2, 3, 4, 5] [6] (by kernel_rfl) (by kernel_rfl) (fun _ _ d _ _ h => by cases d <;> exact h) ?_
        simp only [Ord.pickO, Ord.nth]
        refine wpQuiet_nil ?_
        repeat (go_big_quiet_step (fail))
        refine wpQuiet_nil ?_
        go_wp2_with fail
        refine Ord.region1 [] [0, 1, 2, 3, 4, 5, 6, 7, 8, 9] [10, 11] (by kernel_rfl) (by kernel_rfl) (fun _ _ d _ _ h => by cases d <;> exact h) ?_
        simp only [Ord.pickO, Ord.nth]
        refine wpQuiet_nil ?_
        repeat (go_big_quiet_step (fail))
        refine wpQuiet_nil ?_
        go_wp2_with (first
          | (go_at_call 248; refine (RBx.call (RSx.bx (S3.out.fr ?mm)) (fun G' h => q248.out _ G' _ _ h)).mono ?_; (case mm => first | exact ModP.refl _ _ | exact (ModP.refl _ _).drew | exact (ModP.refl _ _).drew.drew | exact (ModP.refl _ _).drew.drew.drew); rintro _ w5 ⟨rfl, s5, k5⟩; have S5 := hidIt s5; have hm5 := k5 _ _ _ rfl (by first | exact HM3.out | exact World.At_drew.2 HM3.out | exact World.At_drew.2 (World.At_drew.2 HM3.out)); have hc5 := hm5.cell; have ib5 := hm5.inB; clear s5 k5 hc3 ib3 hcb ibb S3 HM3 hm5)
          | (go_at_call 244; refine (c244 S5.out.rb (by simp) 4 m.frm false 0).mono ?_; rintro _ w8 ⟨rfl, s8⟩; have S8 := hidIt s8; clear s8))
        refine bodyPost_ret (results_none rfl _ _ _) rfl ?_
        exact ⟨rfl, S8.out⟩
end
end Go.Proofs.Qxb6500990aGreat
