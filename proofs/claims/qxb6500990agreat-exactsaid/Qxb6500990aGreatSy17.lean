/- package sync: entriesCame -/
import Derived.Test.Qxb6500990aGreatSy16
set_option linter.unusedVariables false
set_option linter.unusedSimpArgs false
namespace Go.Proofs.Qxb6500990aGreat
open Go Go.RowKit Go.Tw
attribute [local go_sem] World.cell?_put_same World.cell?_put_ne World.cell?_put_ne' World.frozen?_put_same World.frozen?_put_ne World.frozen?_put_ne' World.setCell_put_same World.setCell_put_ne World.setCell_put_ne' World.inB_put World.inB_alloc World.inB_drew World.inB_drewN World.inB_new World.inB_setCell World.put_drew World.put_drewN World.q_setCell_drew World.q_setCell_drewN World.q_alloc_drew World.q_alloc_drewN World.put_put_same World.put_put_2 World.size_put World.q_cell?_alloc_old World.q_frozen?_alloc_old World.cell?_alloc_new' World.frozen?_alloc_new' World.q_setCell_alloc_old World.q_setCell_alloc_new World.q_put_alloc_old World.cell?_force_same World.frozen?_force_same World.cell?_force2_fst World.cell?_force2_snd SyncR.g0 SyncR.s0 SyncR.g1 SyncR.s1 SyncR.g2 SyncR.s2 SyncR.g3 SyncR.s3 SyncR.g4 SyncR.s4 SyncR.g5 SyncR.s5 SyncR.g6 SyncR.s6 SyncR.g7 SyncR.s7 SyncR.g8 SyncR.s8 SyncR.g9 SyncR.s9 SyncR.g10 SyncR.s10 SyncR.g11 SyncR.s11 SyncR.g12 SyncR.s12 SyncR.g13 SyncR.s13 SyncR.g14 SyncR.s14 SyncR.g15 SyncR.s15 SyncR.g16 SyncR.s16 SyncR.g17 SyncR.s17 SyncR.g18 SyncR.s18 SyncR.g19 SyncR.s19 SyncR.g20 SyncR.s20 SyncR.g21 SyncR.s21 SyncR.g22 SyncR.s22 SyncR.g23 SyncR.s23 SyncR.g24 SyncR.s24 SyncR.g25 SyncR.s25 SyncR.g26 SyncR.s26 SyncR.g27 SyncR.s27 SyncR.g28 SyncR.s28 SyncR.g29 SyncR.s29 SyncR.g30 SyncR.s30 SyncR.g31 SyncR.s31 SyncR.g32 SyncR.s32 SyncR.g33 SyncR.s33 SyncR.g34 SyncR.s34 SyncR.g35 SyncR.s35 SyncR.g36 SyncR.s36 SyncR.g37 SyncR.s37 SyncR.g38 SyncR.s38 SyncR.g39 SyncR.s39 SyncR.g40 SyncR.s40 SyncR.g41 SyncR.s41 SyncR.gi_next_0 SyncR.si_next_0 SyncR.gi_mtch_0 SyncR.si_mtch_0 SyncR.gi_box_0 SyncR.si_box_0 SyncR.gi_box_1 SyncR.si_box_1 SyncR.gi_box_2 SyncR.si_box_2 SyncR.gi_box_3 SyncR.si_box_3 SyncR.gi_box_4 SyncR.si_box_4 SyncR.gi_box_5 SyncR.si_box_5 SyncR.gi_box_6 SyncR.si_box_6 SyncR.gi_box_7 SyncR.si_box_7 SyncR.gi_box_8 SyncR.si_box_8 SyncR.gi_box_9 SyncR.si_box_9 MsgR.g0 MsgR.s0 MsgR.g1 MsgR.s1 MsgR.g2 MsgR.s2 MsgR.g3 MsgR.s3 MsgR.g4 MsgR.s4 MsgR.g5 MsgR.s5 MsgR.g6 MsgR.s6 MsgR.g7 MsgR.s7 MsgR.g8 MsgR.s8 MsgR.g9 MsgR.s9
attribute [local go_sem] ba_get upd_same upd_upd
set_option maxHeartbeats 4000000
set_option maxRecDepth 100000
section
variable {W w : World} {G X : Nat → Prop} {p : SyP} {A : AS}
theorem c197 (h : RSx G W X p A w) (ok : A.Ok) (hn : A.lg.hist.length ≤ 430) {m : Msg} {v : Value} {B : Nat} (hv : EntsAt B w v m.ents) (hX : ∀ g, v.ownBlock = some g → X g) (hp : A.el.peer m.frm = true) (mo : MsgOk m) :
    Calls Tryz.prog 197 #[vp p.b, .agg (m.r v).cells] w fun r w' => r = .returned (.tuple #[]) ∧ RS G W p (A.entriesCame m).2 (A.entriesCame m).1 w' := by
  unfold AS.entriesCame
  simp only []
  have S0 := hidIt (h.aside (.cells (m.r v).cells 159))
  have hm0 : Hid ((w.alloc (.cells (m.r v).cells 159)).At w.heap.size (m.r v).cells 159) := World.At_alloc_new
  have V0 : Hid (EntsAt B (w.alloc (.cells (m.r v).cells 159)) v m.ents) := ownsRow_alloc hv _
  have HX : Hid (∀ g, v.ownBlock = some g → (fun k => X k ∨ k = w.heap.size) g) := fun g hg => .inl (hX g hg)
  have q246 := hidIt (fun (w' : World) (h : w'.At p.be A.el.el.cells 155) => c246 h ok.el hp mo.t1)
  have oe' := ok.el.heard hp m.term
  obtain ⟨bx, hb⟩ := RB.hb h.rs
  have hc := hb.cell
  have ib := hb.inB
  unfold RSy at hc
  have hbm : p.b < w.heap.size := ib
  have nbm : p.b ≠ w.heap.size := by omega
  generalize A.el.heard m.frm m.term = ea at *
  obtain ⟨g, el'⟩ := ea
  simp only [] at q246 oe' ⊢
  have q186 := hidIt (fun w' G' (h : RS G' w' p { A with el := el' } [] w') => c186 h oe' (by show A.lg.hist.length ≤ 480; omega))
  have hlen := AS.persist_len { A with el := el' }
  have hlen' : (AS.persist { A with el := el' }).lg.hist.length ≤ 440 := by have : A.lg.hist.length ≤ 430 := hn; exact Nat.le_trans hlen (by show A.lg.hist.length + 1 ≤ 440; omega)
  generalize (AS.persist { A with el := el' }) = A1 at *
  have q247 := hidIt (fun (w' : World) (h : RSx G W (fun k => X k ∨ k = w.heap.size) p A1 w') (hv : EntsAt B w' v m.ents) => c247 h hv HX.out mo hlen')
  generalize A1.accept m = ac at *
  obtain ⟨⟨a1, a2⟩, A2⟩ := ac
  simp only [] at q247 ⊢
  obtain ⟨ad, cap, hv0, _⟩ := EntsAt.form hv
  subst hv0
  generalize hlt : (A.lg.now.termAt A.lg.now.last).1 = lt at *
  generalize hla : A.lg.now.last = la at *
  clear h hb ok oe' hlt hla hlen hn mo hv hX
  unfold Msg.r at *
  cases g with
  | false =>
    simp only [Bool.false_eq_true, if_false]
    go_enter Tryz.func197, Tryz.ntmps197
    go_wp2_with fail
    have S1 := hidIt (S0.out.fr (w1 := World.drew _) (ModP.refl (fun _ => False) _).drew)
    have hm1 := hidIt (World.At_drew.2 hm0.out)
    clear S0 hm0
    refine Ord.region1 [] [0, 1, 2, 3, 4, 5, 6, 7] [8, 9] (by kernel_rfl) (by kernel_rfl) (fun _ _ d _ _ h => by cases d <;> exact h) ?_
    simp only [Ord.pickO, Ord.nth]
    refine wpQuiet_nil ?_
    repeat (go_big_quiet_step (fail))
    refine wpQuiet_nil ?_
    go_wp2_with (first
      | (go_at_call 246; refine (q246.out _ (RB.he S1.out.rs)).mono ?_; rintro _ w1 ⟨rfl, m1⟩; obtain ⟨s1, k1⟩ := S1.out.elec m1; have S2 := hidIt s1; have hm2 := hidIt (k1 _ _ _ (.inr rfl) hm1.out); clear m1 s1 k1 S1 hm1 hc ib)
      | (go_at_call 186; refine (S2.out.call (fun G' h => q186.out _ G' h)).mono ?_; rintro _ w2 ⟨rfl, s3, k3⟩; have S3 := hidIt s3; have hm3 := k3 _ _ _ (.inr rfl) hm2.out; have hc3 := hm3.cell; have ib3 := hm3.inB; clear s3 k3 S2 hm2 hm3)
      | (go_at_call 244; refine (c244 S3.out.rs (by simp) 4 m.frm false 0).mono ?_; rintro _ w3 ⟨rfl, s4⟩; have S4 := hidIt s4; clear s4))
    refine bodyPost_ret (results_none rfl _ _ _) rfl ?_
    exact ⟨rfl, S4.out⟩
  | true =>
    simp only [if_true]
    go_enter Tryz.func197, Tryz.ntmps197
    go_wp2_with fail
    have S1 := hidIt (S0.out.fr (w1 := World.drew _) (ModP.refl (fun _ => False) _).drew)
    have hm1 := hidIt (World.At_drew.2 hm0.out)
    have V1 : Hid (EntsAt B (World.drew _) _ m.ents) := ownsRow_drew V0.out
    clear S0 hm0 V0
    refine Ord.region1 [] [0, 1, 2, 3, 4, 5, 6, 7] [8, 9] (by kernel_rfl) (by kernel_rfl) (fun _ _ d _ _ h => by cases d <;> exact h) ?_
    simp only [Ord.pickO, Ord.nth]
    refine wpQuiet_nil ?_
    repeat (go_big_quiet_step (fail))
    refine wpQuiet_nil ?_
    go_wp2_with (first
      | (go_at_call 246; refine (q246.out _ (RB.he S1.out.rs)).mono ?_; rintro _ w1 ⟨rfl, m1⟩; obtain ⟨s1, k1⟩ := S1.out.elec m1; have S2 := hidIt s1; have hm2 := hidIt (k1 _ _ _ (.inr rfl) hm1.out); have V2 := hidIt (EntsAt.keep V1.out HX.out k1); clear m1 s1 k1 S1 hm1 V1 hc ib)
      | (go_at_call 186; refine (S2.out.call (fun G' h => q186.out _ G' h)).mono ?_; rintro _ w2 ⟨rfl, s3, k3⟩; have S3 := hidIt s3; have HM3 := hidIt (k3 _ _ _ (.inr rfl) hm2.out); have hc3 := HM3.out.cell; have ib3 := HM3.out.inB; have V3 := hidIt (EntsAt.keep V2.out HX.out k3); clear s3 k3 S2 hm2 V2)
      | (go_at_call 247; refine (q247.out _ S3.out V3.out).mono ?_; rintro _ w4 ⟨rfl, s4, k4⟩; have S4 := hidIt s4; have hm4 := k4 _ _ _ (.inr rfl) HM3.out; clear hc3 ib3; have hc3 := hm4.cell; have ib3 := hm4.inB; clear s4 k4 S3 HM3 V3 hm4)
      | (go_at_call 244; refine (c244 S4.out.rs (by simp) 4 m.frm a1 a2).mono ?_; rintro _ w5 ⟨rfl, s5⟩; have S5 := hidIt s5; clear s5))
    go_end0
    exact ⟨rfl, S5.out⟩
end
end Go.Proofs.Qxb6500990aGreat
