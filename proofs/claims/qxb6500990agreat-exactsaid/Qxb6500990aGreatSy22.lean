/- package sync: Step -/
import Derived.Test.Qxb6500990aGreatSy21
import Derived.Test.Qxb6500990aGreatNod4
set_option linter.unusedVariables false
set_option linter.unusedSimpArgs false
namespace Go.Proofs.Qxb6500990aGreat
open Go Go.RowKit Go.Tw
attribute [local go_sem] World.cell?_put_same World.cell?_put_ne World.cell?_put_ne' World.frozen?_put_same World.frozen?_put_ne World.frozen?_put_ne' World.setCell_put_same World.setCell_put_ne World.setCell_put_ne' World.inB_put World.inB_alloc World.inB_drew World.inB_drewN World.inB_new World.inB_setCell World.put_drew World.put_drewN World.q_setCell_drew World.q_setCell_drewN World.q_alloc_drew World.q_alloc_drewN World.put_put_same World.put_put_2 World.size_put World.q_cell?_alloc_old World.q_frozen?_alloc_old World.cell?_alloc_new' World.frozen?_alloc_new' World.q_setCell_alloc_old World.q_setCell_alloc_new World.q_put_alloc_old World.cell?_force_same World.frozen?_force_same World.cell?_force2_fst World.cell?_force2_snd SyncR.g0 SyncR.s0 SyncR.g1 SyncR.s1 SyncR.g2 SyncR.s2 SyncR.g3 SyncR.s3 SyncR.g4 SyncR.s4 SyncR.g5 SyncR.s5 SyncR.g6 SyncR.s6 SyncR.g7 SyncR.s7 SyncR.g8 SyncR.s8 SyncR.g9 SyncR.s9 SyncR.g10 SyncR.s10 SyncR.g11 SyncR.s11 SyncR.g12 SyncR.s12 SyncR.g13 SyncR.s13 SyncR.g14 SyncR.s14 SyncR.g15 SyncR.s15 SyncR.g16 SyncR.s16 SyncR.g17 SyncR.s17 SyncR.g18 SyncR.s18 SyncR.g19 SyncR.s19 SyncR.g20 SyncR.s20 SyncR.g21 SyncR.s21 SyncR.g22 SyncR.s22 SyncR.g23 SyncR.s23 SyncR.g24 SyncR.s24 SyncR.g25 SyncR.s25 SyncR.g26 SyncR.s26 SyncR.g27 SyncR.s27 SyncR.g28 SyncR.s28 SyncR.g29 SyncR.s29 SyncR.g30 SyncR.s30 SyncR.g31 SyncR.s31 SyncR.g32 SyncR.s32 SyncR.g33 SyncR.s33 SyncR.g34 SyncR.s34 SyncR.g35 SyncR.s35 SyncR.g36 SyncR.s36 SyncR.g37 SyncR.s37 SyncR.g38 SyncR.s38 SyncR.g39 SyncR.s39 SyncR.g40 SyncR.s40 SyncR.g41 SyncR.s41 SyncR.gi_next_0 SyncR.si_next_0 SyncR.gi_mtch_0 SyncR.si_mtch_0 SyncR.gi_box_0 SyncR.si_box_0 SyncR.gi_box_1 SyncR.si_box_1 SyncR.gi_box_2 SyncR.si_box_2 SyncR.gi_box_3 SyncR.si_box_3 SyncR.gi_box_4 SyncR.si_box_4 SyncR.gi_box_5 SyncR.si_box_5 SyncR.gi_box_6 SyncR.si_box_6 SyncR.gi_box_7 SyncR.si_box_7 SyncR.gi_box_8 SyncR.si_box_8 SyncR.gi_box_9 SyncR.si_box_9 MsgR.g0 MsgR.s0 MsgR.g1 MsgR.s1 MsgR.g2 MsgR.s2 MsgR.g3 MsgR.s3 MsgR.g4 MsgR.s4 MsgR.g5 MsgR.s5 MsgR.g6 MsgR.s6 MsgR.g7 MsgR.s7 MsgR.g8 MsgR.s8 MsgR.g9 MsgR.s9
attribute [local go_sem] ba_get upd_same upd_upd
set_option maxHeartbeats 4000000
set_option maxRecDepth 100000
section
variable {W w : World} {G X : Nat → Prop} {p : SyP} {A : AS}
theorem c135_no (h : RSx G W X p A w) {m : Msg} {v : Value} {B : Nat} (hv : EntsAt B w v m.ents) (hX : ∀ g, v.ownBlock = some g → X g) (hno : msgOK m = false ∨ m.to ≠ A.el.id ∨ m.frm = A.el.id) :
    Calls Tryz.prog 135 #[vp p.b, .agg (m.r v).cells] w fun r w' => ∃ v', r = .returned v' ∧ RSm G W p A [] w' v' := by
  have HF : Hid (∀ (w' : World), RS G W p A [] w' → RSm G W p A [] w' (.slice none 0 0)) := by
    intro w' h'
    obtain ⟨G1, bx1, B, h1, h2, h3, h4, h5, h6, h7⟩ := h'
    exact ⟨G1, bx1, B, h1, h3, h4, MsgsAt.nil _ _, h5, h6⟩
  have S0 := hidIt (h.aside (.cells (m.r v).cells 159))
  have hm0 : Hid ((w.alloc (.cells (m.r v).cells 159)).At w.heap.size (m.r v).cells 159) := World.At_alloc_new
  have V0 : Hid (EntsAt B (w.alloc (.cells (m.r v).cells 159)) v m.ents) := ownsRow_alloc hv _
  have HX : Hid (∀ g, v.ownBlock = some g → (fun k => X k ∨ k = w.heap.size) g) := fun g hg => .inl (hX g hg)
  have q194 := hidIt (fun (w' : World) (hv : EntsAt B w' v m.ents) => c194 hv)
  obtain ⟨ad, cap, hv0, _⟩ := EntsAt.form hv
  subst hv0
  unfold Msg.r at *
  cases hb : msgOK m with
  | false =>
    rw [hb] at q194
    clear hno hb h hv hX
    go_enter Tryz.func135, Tryz.ntmps135
    go_wp2_with (first
      | (go_at_call 194; refine (q194.out _ V0.out).mono ?_; rintro _ w1 ⟨rfl, x1, e1⟩; have m1 : ModP (fun _ => False) (w.alloc (.cells (MsgR.cells ⟨m.kind, m.frm, m.to, m.term, m.index, m.logTerm, m.commit, m.ok, .slice ad m.ents.length cap, m.data⟩) 159)) w1 := (by rw [e1]; exact (ModP.refl _ _).alloc _); have S1 := hidIt (S0.out.fr m1); have HM1 := hidIt (m1.at hm0.out (fun f => f)); have hcm := HM1.out.cell; have ibm := HM1.out.inB; have V1 : Hid (EntsAt B w1 _ m.ents) := ownsRow_frame V0.out m1 (fun _ _ f => f); obtain ⟨bx1, hb1⟩ := RB.hb S1.out.rs; have hc1 := hb1.cell; have ib1 := hb1.inB; unfold RSy at hc1; have HE1 := hidIt (RB.he S1.out.rs); clear m1 e1 S0 hm0 V0 hb1 q194))
    go_ret
    exact ⟨_, rfl, HF.out _ S1.out.rs⟩
  | true =>
    rw [hb] at q194
    have hno2 := hno.resolve_left (by rw [hb]; simp)
    clear hno hb h hv hX
    by_cases q1 : m.to = A.el.id
    · have q2 := hno2.resolve_left (fun h => h q1)
      have q1' : (m.to != A.el.id) = false := by simpa using q1
      have q2' : (m.frm == A.el.id) = true := by simpa using q2
      clear hno2 q1 q2
      go_enter Tryz.func135, Tryz.ntmps135
      go_wp2_with (first
        | (go_at_call 194; refine (q194.out _ V0.out).mono ?_; rintro _ w1 ⟨rfl, x1, e1⟩; have m1 : ModP (fun _ => False) (w.alloc (.cells (MsgR.cells ⟨m.kind, m.frm, m.to, m.term, m.index, m.logTerm, m.commit, m.ok, .slice ad m.ents.length cap, m.data⟩) 159)) w1 := (by rw [e1]; exact (ModP.refl _ _).alloc _); have S1 := hidIt (S0.out.fr m1); have HM1 := hidIt (m1.at hm0.out (fun f => f)); have hcm := HM1.out.cell; have ibm := HM1.out.inB; have V1 : Hid (EntsAt B w1 _ m.ents) := ownsRow_frame V0.out m1 (fun _ _ f => f); obtain ⟨bx1, hb1⟩ := RB.hb S1.out.rs; have hc1 := hb1.cell; have ib1 := hb1.inB; unfold RSy at hc1; have HE1 := hidIt (RB.he S1.out.rs); clear m1 e1 S0 hm0 V0 hb1 q194)
        | (go_at_call 77; refine (c77 HE1.out).mono ?_; rintro _ w0 ⟨rfl, e⟩; obtain rfl := e.symm))
      go_ret
      exact ⟨_, rfl, HF.out _ S1.out.rs⟩
    · have q1' : (m.to != A.el.id) = true := by simpa using q1
      clear hno2 q1
      go_enter Tryz.func135, Tryz.ntmps135
      go_wp2_with (first
        | (go_at_call 194; refine (q194.out _ V0.out).mono ?_; rintro _ w1 ⟨rfl, x1, e1⟩; have m1 : ModP (fun _ => False) (w.alloc (.cells (MsgR.cells ⟨m.kind, m.frm, m.to, m.term, m.index, m.logTerm, m.commit, m.ok, .slice ad m.ents.length cap, m.data⟩) 159)) w1 := (by rw [e1]; exact (ModP.refl _ _).alloc _); have S1 := hidIt (S0.out.fr m1); have HM1 := hidIt (m1.at hm0.out (fun f => f)); have hcm := HM1.out.cell; have ibm := HM1.out.inB; have V1 : Hid (EntsAt B w1 _ m.ents) := ownsRow_frame V0.out m1 (fun _ _ f => f); obtain ⟨bx1, hb1⟩ := RB.hb S1.out.rs; have hc1 := hb1.cell; have ib1 := hb1.inB; unfold RSy at hc1; have HE1 := hidIt (RB.he S1.out.rs); clear m1 e1 S0 hm0 V0 hb1 q194)
        | (go_at_call 77; refine (c77 HE1.out).mono ?_; rintro _ w0 ⟨rfl, e⟩; obtain rfl := e.symm))
      go_ret
      exact ⟨_, rfl, HF.out _ S1.out.rs⟩
end
end Go.Proofs.Qxb6500990aGreat
