/- package sync: Step, the good case -/
import Derived.Test.Qxb6500990aGreatSy22
set_option linter.unusedVariables false
set_option linter.unusedSimpArgs false
namespace Go.Proofs.Qxb6500990aGreat
open Go Go.RowKit Go.Tw
attribute [local go_sem] World.cell?_put_same World.cell?_put_ne World.cell?_put_ne' World.frozen?_put_same World.frozen?_put_ne World.frozen?_put_ne' World.setCell_put_same World.setCell_put_ne World.setCell_put_ne' World.inB_put World.inB_alloc World.inB_drew World.inB_drewN World.inB_new World.inB_setCell World.put_drew World.put_drewN World.q_setCell_drew World.q_setCell_drewN World.q_alloc_drew World.q_alloc_drewN World.put_put_same World.put_put_2 World.size_put World.q_cell?_alloc_old World.q_frozen?_alloc_old World.cell?_alloc_new' World.frozen?_alloc_new' World.q_setCell_alloc_old World.q_setCell_alloc_new World.q_put_alloc_old World.cell?_force_same World.frozen?_force_same World.cell?_force2_fst World.cell?_force2_snd SyncR.g0 SyncR.s0 SyncR.g1 SyncR.s1 SyncR.g2 SyncR.s2 SyncR.g3 SyncR.s3 SyncR.g4 SyncR.s4 SyncR.g5 SyncR.s5 SyncR.g6 SyncR.s6 SyncR.g7 SyncR.s7 SyncR.g8 SyncR.s8 SyncR.g9 SyncR.s9 SyncR.g10 SyncR.s10 SyncR.g11 SyncR.s11 SyncR.g12 SyncR.s12 SyncR.g13 SyncR.s13 SyncR.g14 SyncR.s14 SyncR.g15 SyncR.s15 SyncR.g16 SyncR.s16 SyncR.g17 SyncR.s17 SyncR.g18 SyncR.s18 SyncR.g19 SyncR.s19 SyncR.g20 SyncR.s20 SyncR.g21 SyncR.s21 SyncR.g22 SyncR.s22 SyncR.g23 SyncR.s23 SyncR.g24 SyncR.s24 SyncR.g25 SyncR.s25 SyncR.g26 SyncR.s26 SyncR.g27 SyncR.s27 SyncR.g28 SyncR.s28 SyncR.g29 SyncR.s29 SyncR.g30 SyncR.s30 SyncR.g31 SyncR.s31 SyncR.g32 SyncR.s32 SyncR.g33 SyncR.s33 SyncR.g34 SyncR.s34 SyncR.g35 SyncR.s35 SyncR.g36 SyncR.s36 SyncR.g37 SyncR.s37 SyncR.g38 SyncR.s38 SyncR.g39 SyncR.s39 SyncR.g40 SyncR.s40 SyncR.g41 SyncR.s41 SyncR.gi_next_0 SyncR.si_next_0 SyncR.gi_mtch_0 SyncR.si_mtch_0 SyncR.gi_box_0 SyncR.si_box_0 SyncR.gi_box_1 SyncR.si_box_1 SyncR.gi_box_2 SyncR.si_box_2 SyncR.gi_box_3 SyncR.si_box_3 SyncR.gi_box_4 SyncR.si_box_4 SyncR.gi_box_5 SyncR.si_box_5 SyncR.gi_box_6 SyncR.si_box_6 SyncR.gi_box_7 SyncR.si_box_7 SyncR.gi_box_8 SyncR.si_box_8 SyncR.gi_box_9 SyncR.si_box_9 MsgR.g0 MsgR.s0 MsgR.g1 MsgR.s1 MsgR.g2 MsgR.s2 MsgR.g3 MsgR.s3 MsgR.g4 MsgR.s4 MsgR.g5 MsgR.s5 MsgR.g6 MsgR.s6 MsgR.g7 MsgR.s7 MsgR.g8 MsgR.s8 MsgR.g9 MsgR.s9
attribute [local go_sem] ba_get upd_same upd_upd
set_option maxHeartbeats 4000000
set_option maxRecDepth 100000
section
variable {W w : World} {G X : Nat → Prop} {p : SyP} {A : AS}
theorem c135_yes (h : RSx G W X p A w) (ok : A.Ok) (hn : A.lg.hist.length ≤ 430) (ht : A.el.role = 2 → 1 ≤ A.el.term) {m : Msg} {v : Value} {B : Nat} (hv : EntsAt B w v m.ents) (hX : ∀ g, v.ownBlock = some g → X g) (hm : msgOK m = true) (h1 : m.to = A.el.id) (h2 : m.frm ≠ A.el.id) :
    Calls Tryz.prog 135 #[vp p.b, .agg (m.r v).cells] w fun r w' => ∃ v', r = .returned v' ∧ RSm G W p (A.step m).2 (A.step m).1 w' v' := by
  have mo := msgOK_iff.1 hm
  have hp : A.el.peer m.frm = true := by unfold EM.peer; have := mo.f0; have := mo.f1; simp; omega
  have hcnt := hidIt (A.step_cnt m)
  have hstep : A.step m = if m.kind = 1 then A.voteAsked m else if m.kind = 2 then A.voteCame m else if m.kind = 3 then A.entriesCame m else if m.kind = 5 then A.snapCame m else A.ackCame m := by
    unfold AS.step; rw [if_neg (by rw [hm]; simp [h1, h2])]
  have S0 := hidIt (h.aside (.cells (m.r v).cells 159))
  have hm0 : Hid ((w.alloc (.cells (m.r v).cells 159)).At w.heap.size (m.r v).cells 159) := World.At_alloc_new
  have V0 : Hid (EntsAt B (w.alloc (.cells (m.r v).cells 159)) v m.ents) := ownsRow_alloc hv _
  have HX : Hid (∀ g, v.ownBlock = some g → (fun k => X k ∨ k = w.heap.size) g) := fun g hg => .inl (hX g hg)
  have q194 := hidIt (fun (w' : World) (hv : EntsAt B w' v m.ents) => c194 hv)
  obtain ⟨ad, cap, hv0, _⟩ := EntsAt.form hv
  subst hv0
  rw [hm] at q194
  have q1' : (m.to != A.el.id) = false := by simpa using h1
  have q2' : (m.frm == A.el.id) = false := by simpa using h2
  have K0 := mo.k0
  have K1 := mo.k1
  have Q195 := hidIt (fun w' (h : RS G W p A [] w') => c195 h ok (by omega) (m := m) (ad := ad) (le := m.ents.length) (cap := cap) hp mo.t1)
  have Q196 := hidIt (fun w' (h : RS G W p A [] w') => c196 h ok (by omega) (m := m) (ad := ad) (le := m.ents.length) (cap := cap) hp mo.t1)
  have Q197 := hidIt (fun (w' : World) (h : RSx G W (fun k => X k ∨ k = w.heap.size) p A w') (hv : EntsAt B w' (.slice ad m.ents.length cap) m.ents) => c197 h ok hn hv HX.out hp mo)
  have Q198 := hidIt (fun w' (h : RS G W p A [] w') => c198 h ok (by omega) (m := m) (ad := ad) (le := m.ents.length) (cap := cap) hp mo)
  have Q199 := hidIt (fun w' (h : RS G W p A [] w') => c199 h ok (by omega) ht (m := m) (ad := ad) (le := m.ents.length) (cap := cap) mo)
  unfold Msg.r at *
  simp only [MsgR.cells] at Q195 Q196 Q197 Q198 Q199
  by_cases k1 : m.kind = 1
  · rw [if_pos k1] at hstep
    have d1 : (m.kind == 1) = true := by simpa using k1
    clear k1
    have HSt := hidIt hstep
    clear h ok hn ht hv hX hm h1 h2 mo hp hstep K0 K1
    go_enter Tryz.func135, Tryz.ntmps135
    go_wp2_with (first
      | (go_at_call 194; refine (q194.out _ V0.out).mono ?_; rintro _ w1 ⟨rfl, x1, e1⟩; have m1 : ModP (fun _ => False) (w.alloc (.cells (MsgR.cells ⟨m.kind, m.frm, m.to, m.term, m.index, m.logTerm, m.commit, m.ok, .slice ad m.ents.length cap, m.data⟩) 159)) w1 := (by rw [e1]; exact (ModP.refl _ _).alloc _); have S1 := hidIt (S0.out.fr m1); have HM1 := hidIt (m1.at hm0.out (fun f => f)); have hcm := HM1.out.cell; have ibm := HM1.out.inB; have V1 : Hid (EntsAt B w1 _ m.ents) := ownsRow_frame V0.out m1 (fun _ _ f => f); obtain ⟨bx1, hb1⟩ := RB.hb S1.out.rs; have hc1 := hb1.cell; have ib1 := hb1.inB; unfold RSy at hc1; have HE1 := hidIt (RB.he S1.out.rs); clear m1 e1 S0 hm0 V0 hb1 q194)
      | (go_at_call 77; refine (c77 HE1.out).mono ?_; rintro _ w0 ⟨rfl, e⟩; obtain rfl := e.symm)
      | (go_at_call 195; refine (Q195.out _ S1.out.rs).mono ?_; rintro _ w3 ⟨rfl, s3⟩; have Q189 := hidIt (c189 s3 (by rw [← HSt.out]; exact hcnt.out)); clear s3 hcm ibm hc1 ib1)
      | (go_at_call 189; refine Q189.out.mono ?_; rintro _ w4 ⟨v4, rfl, s4⟩; have S4 := hidIt s4; clear s4))
    go_ret
    rw [HSt.out]
    exact ⟨_, rfl, S4.out⟩
  have d1 : (m.kind == 1) = false := by simpa using k1
  rw [if_neg k1] at hstep
  by_cases k2 : m.kind = 2
  · rw [if_pos k2] at hstep
    have d2 : (m.kind == 2) = true := by simpa using k2
    clear k2 k1
    have HSt := hidIt hstep
    clear h ok hn ht hv hX hm h1 h2 mo hp hstep K0 K1
    go_enter Tryz.func135, Tryz.ntmps135
    go_wp2_with (first
      | (go_at_call 194; refine (q194.out _ V0.out).mono ?_; rintro _ w1 ⟨rfl, x1, e1⟩; have m1 : ModP (fun _ => False) (w.alloc (.cells (MsgR.cells ⟨m.kind, m.frm, m.to, m.term, m.index, m.logTerm, m.commit, m.ok, .slice ad m.ents.length cap, m.data⟩) 159)) w1 := (by rw [e1]; exact (ModP.refl _ _).alloc _); have S1 := hidIt (S0.out.fr m1); have HM1 := hidIt (m1.at hm0.out (fun f => f)); have hcm := HM1.out.cell; have ibm := HM1.out.inB; have V1 : Hid (EntsAt B w1 _ m.ents) := ownsRow_frame V0.out m1 (fun _ _ f => f); obtain ⟨bx1, hb1⟩ := RB.hb S1.out.rs; have hc1 := hb1.cell; have ib1 := hb1.inB; unfold RSy at hc1; have HE1 := hidIt (RB.he S1.out.rs); clear m1 e1 S0 hm0 V0 hb1 q194)
      | (go_at_call 77; refine (c77 HE1.out).mono ?_; rintro _ w0 ⟨rfl, e⟩; obtain rfl := e.symm)
      | (go_at_call 196; refine (Q196.out _ S1.out.rs).mono ?_; rintro _ w3 ⟨rfl, s3⟩; have Q189 := hidIt (c189 s3 (by rw [← HSt.out]; exact hcnt.out)); clear s3 hcm ibm hc1 ib1)
      | (go_at_call 189; refine Q189.out.mono ?_; rintro _ w4 ⟨v4, rfl, s4⟩; have S4 := hidIt s4; clear s4))
    go_ret
    rw [HSt.out]
    exact ⟨_, rfl, S4.out⟩
  have d2 : (m.kind == 2) = false := by simpa using k2
  rw [if_neg k2] at hstep
  by_cases k3 : m.kind = 3
  · rw [if_pos k3] at hstep
    have d3 : (m.kind == 3) = true := by simpa using k3
    clear k3 k2 k1
    have HSt := hidIt hstep
    clear h ok hn ht hv hX hm h1 h2 mo hp hstep K0 K1
    go_enter Tryz.func135, Tryz.ntmps135
    go_wp2_with (first
      | (go_at_call 194; refine (q194.out _ V0.out).mono ?_; rintro _ w1 ⟨rfl, x1, e1⟩; have m1 : ModP (fun _ => False) (w.alloc (.cells (MsgR.cells ⟨m.kind, m.frm, m.to, m.term, m.index, m.logTerm, m.commit, m.ok, .slice ad m.ents.length cap, m.data⟩) 159)) w1 := (by rw [e1]; exact (ModP.refl _ _).alloc _); have S1 := hidIt (S0.out.fr m1); have HM1 := hidIt (m1.at hm0.out (fun f => f)); have hcm := HM1.out.cell; have ibm := HM1.out.inB; have V1 : Hid (EntsAt B w1 _ m.ents) := ownsRow_frame V0.out m1 (fun _ _ f => f); obtain ⟨bx1, hb1⟩ := RB.hb S1.out.rs; have hc1 := hb1.cell; have ib1 := hb1.inB; unfold RSy at hc1; have HE1 := hidIt (RB.he S1.out.rs); clear m1 e1 S0 hm0 V0 hb1 q194)
      | (go_at_call 77; refine (c77 HE1.out).mono ?_; rintro _ w0 ⟨rfl, e⟩; obtain rfl := e.symm)
      | (go_at_call 197; refine (Q197.out _ S1.out V1.out).mono ?_; rintro _ w3 ⟨rfl, s3⟩; have Q189 := hidIt (c189 s3 (by rw [← HSt.out]; exact hcnt.out)); clear s3 hcm ibm hc1 ib1)
      | (go_at_call 189; refine Q189.out.mono ?_; rintro _ w4 ⟨v4, rfl, s4⟩; have S4 := hidIt s4; clear s4))
    go_ret
    rw [HSt.out]
    exact ⟨_, rfl, S4.out⟩
  have d3 : (m.kind == 3) = false := by simpa using k3
  rw [if_neg k3] at hstep
  by_cases k5 : m.kind = 5
  · rw [if_pos k5] at hstep
    have d5 : (m.kind == 5) = true := by simpa using k5
    clear k5 k3 k2 k1
    have HSt := hidIt hstep
    clear h ok hn ht hv hX hm h1 h2 mo hp hstep K0 K1
    go_enter Tryz.func135, Tryz.ntmps135
    go_wp2_with (first
      | (go_at_call 194; refine (q194.out _ V0.out).mono ?_; rintro _ w1 ⟨rfl, x1, e1⟩; have m1 : ModP (fun _ => False) (w.alloc (.cells (MsgR.cells ⟨m.kind, m.frm, m.to, m.term, m.index, m.logTerm, m.commit, m.ok, .slice ad m.ents.length cap, m.data⟩) 159)) w1 := (by rw [e1]; exact (ModP.refl _ _).alloc _); have S1 := hidIt (S0.out.fr m1); have HM1 := hidIt (m1.at hm0.out (fun f => f)); have hcm := HM1.out.cell; have ibm := HM1.out.inB; have V1 : Hid (EntsAt B w1 _ m.ents) := ownsRow_frame V0.out m1 (fun _ _ f => f); obtain ⟨bx1, hb1⟩ := RB.hb S1.out.rs; have hc1 := hb1.cell; have ib1 := hb1.inB; unfold RSy at hc1; have HE1 := hidIt (RB.he S1.out.rs); clear m1 e1 S0 hm0 V0 hb1 q194)
      | (go_at_call 77; refine (c77 HE1.out).mono ?_; rintro _ w0 ⟨rfl, e⟩; obtain rfl := e.symm)
      | (go_at_call 198; refine (Q198.out _ S1.out.rs).mono ?_; rintro _ w3 ⟨rfl, s3⟩; have Q189 := hidIt (c189 s3 (by rw [← HSt.out]; exact hcnt.out)); clear s3 hcm ibm hc1 ib1)
      | (go_at_call 189; refine Q189.out.mono ?_; rintro _ w4 ⟨v4, rfl, s4⟩; have S4 := hidIt s4; clear s4))
    go_ret
    rw [HSt.out]
    exact ⟨_, rfl, S4.out⟩
  have d5 : (m.kind == 5) = false := by simpa using k5
  rw [if_neg k5] at hstep
  have d4 : (m.kind == 4) = true := by simp; omega
  clear k5 k3 k2 k1
  have HSt := hidIt hstep
  clear h ok hn ht hv hX hm h1 h2 mo hp hstep K0 K1
  go_enter Tryz.func135, Tryz.ntmps135
  go_wp2_with (first
    | (go_at_call 194; refine (q194.out _ V0.out).mono ?_; rintro _ w1 ⟨rfl, x1, e1⟩; have m1 : ModP (fun _ => False) (w.alloc (.cells (MsgR.cells ⟨m.kind, m.frm, m.to, m.term, m.index, m.logTerm, m.commit, m.ok, .slice ad m.ents.length cap, m.data⟩) 159)) w1 := (by rw [e1]; exact (ModP.refl _ _).alloc _); have S1 := hidIt (S0.out.fr m1); have HM1 := hidIt (m1.at hm0.out (fun f => f)); have hcm := HM1.out.cell; have ibm := HM1.out.inB; have V1 : Hid (EntsAt B w1 _ m.ents) := ownsRow_frame V0.out m1 (fun _ _ f => f); obtain ⟨bx1, hb1⟩ := RB.hb S1.out.rs; have hc1 := hb1.cell; have ib1 := hb1.inB; unfold RSy at hc1; have HE1 := hidIt (RB.he S1.out.rs); clear m1 e1 S0 hm0 V0 hb1 q194)
    | (go_at_call 77; refine (c77 HE1.out).mono ?_; rintro _ w0 ⟨rfl, e⟩; obtain rfl := e.symm)
    | (go_at_call 199; refine (Q199.out _ S1.out.rs).mono ?_; rintro _ w3 ⟨rfl, s3⟩; have Q189 := hidIt (c189 s3 (by rw [← HSt.out]; exact hcnt.out)); clear s3 hcm ibm hc1 ib1)
    | (go_at_call 189; refine Q189.out.mono ?_; rintro _ w4 ⟨v4, rfl, s4⟩; have S4 := hidIt s4; clear s4))
  go_ret
  rw [HSt.out]
  exact ⟨_, rfl, S4.out⟩
theorem c135 (h : RSx G W X p A w) (ok : A.Ok) (hn : A.lg.hist.length ≤ 430) (ht : A.el.role = 2 → 1 ≤ A.el.term) {m : Msg} {v : Value} {B : Nat} (hv : EntsAt B w v m.ents) (hX : ∀ g, v.ownBlock = some g → X g) :
    Calls Tryz.prog 135 #[vp p.b, .agg (m.r v).cells] w fun r w' => ∃ v', r = .returned v' ∧ RSm G W p (A.step m).2 (A.step m).1 w' v' := by
  by_cases hno : msgOK m = false ∨ m.to ≠ A.el.id ∨ m.frm = A.el.id
  · have e : A.step m = ([], A) := by unfold AS.step; rw [if_pos hno]
    rw [e]
    exact c135_no h hv hX hno
  · exact c135_yes h ok hn ht hv hX (by cases q : msgOK m; exact absurd (.inl q) hno; rfl) (Decidable.of_not_not (fun q => hno (.inr (.inl q)))) (fun q => hno (.inr (.inr q)))
end
end Go.Proofs.Qxb6500990aGreat
