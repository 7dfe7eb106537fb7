/- package sync: accept -/
import Derived.Test.Qxb6500990aGreatSy14
set_option linter.unusedVariables false
set_option linter.unusedSimpArgs false
namespace Go.Proofs.Qxb6500990aGreat
open Go Go.RowKit Go.Tw
attribute [local go_sem] World.cell?_put_same World.cell?_put_ne World.cell?_put_ne' World.frozen?_put_same World.frozen?_put_ne World.frozen?_put_ne' World.setCell_put_same World.setCell_put_ne World.setCell_put_ne' World.inB_put World.inB_alloc World.inB_drew World.inB_drewN World.inB_new World.inB_setCell World.put_drew World.put_drewN World.q_setCell_drew World.q_setCell_drewN World.q_alloc_drew World.q_alloc_drewN World.put_put_same World.put_put_2 World.size_put World.q_cell?_alloc_old World.q_frozen?_alloc_old World.cell?_alloc_new' World.frozen?_alloc_new' World.q_setCell_alloc_old World.q_setCell_alloc_new World.q_put_alloc_old World.cell?_force_same World.frozen?_force_same World.cell?_force2_fst World.cell?_force2_snd SyncR.g0 SyncR.s0 SyncR.g1 SyncR.s1 SyncR.g2 SyncR.s2 SyncR.g3 SyncR.s3 SyncR.g4 SyncR.s4 SyncR.g5 SyncR.s5 SyncR.g6 SyncR.s6 SyncR.g7 SyncR.s7 SyncR.g8 SyncR.s8 SyncR.g9 SyncR.s9 SyncR.g10 SyncR.s10 SyncR.g11 SyncR.s11 SyncR.g12 SyncR.s12 SyncR.g13 SyncR.s13 SyncR.g14 SyncR.s14 SyncR.g15 SyncR.s15 SyncR.g16 SyncR.s16 SyncR.g17 SyncR.s17 SyncR.g18 SyncR.s18 SyncR.g19 SyncR.s19 SyncR.g20 SyncR.s20 SyncR.g21 SyncR.s21 SyncR.g22 SyncR.s22 SyncR.g23 SyncR.s23 SyncR.g24 SyncR.s24 SyncR.g25 SyncR.s25 SyncR.g26 SyncR.s26 SyncR.g27 SyncR.s27 SyncR.g28 SyncR.s28 SyncR.g29 SyncR.s29 SyncR.g30 SyncR.s30 SyncR.g31 SyncR.s31 SyncR.g32 SyncR.s32 SyncR.g33 SyncR.s33 SyncR.g34 SyncR.s34 SyncR.g35 SyncR.s35 SyncR.g36 SyncR.s36 SyncR.g37 SyncR.s37 SyncR.g38 SyncR.s38 SyncR.g39 SyncR.s39 SyncR.g40 SyncR.s40 SyncR.g41 SyncR.s41 SyncR.gi_next_0 SyncR.si_next_0 SyncR.gi_mtch_0 SyncR.si_mtch_0 SyncR.gi_box_0 SyncR.si_box_0 SyncR.gi_box_1 SyncR.si_box_1 SyncR.gi_box_2 SyncR.si_box_2 SyncR.gi_box_3 SyncR.si_box_3 SyncR.gi_box_4 SyncR.si_box_4 SyncR.gi_box_5 SyncR.si_box_5 SyncR.gi_box_6 SyncR.si_box_6 SyncR.gi_box_7 SyncR.si_box_7 SyncR.gi_box_8 SyncR.si_box_8 SyncR.gi_box_9 SyncR.si_box_9 MsgR.g0 MsgR.s0 MsgR.g1 MsgR.s1 MsgR.g2 MsgR.s2 MsgR.g3 MsgR.s3 MsgR.g4 MsgR.s4 MsgR.g5 MsgR.s5 MsgR.g6 MsgR.s6 MsgR.g7 MsgR.s7 MsgR.g8 MsgR.s8 MsgR.g9 MsgR.s9
attribute [local go_sem] ba_get upd_same upd_upd
set_option maxHeartbeats 4000000
set_option maxRecDepth 100000
section
variable {W w : World} {G X : Nat → Prop} {p : SyP} {A : AS}
theorem c247_no (h : RSx G W X p A w) {m : Msg} {v : Value} {B : Nat} (hv : EntsAt B w v m.ents) (mo : MsgOk m) (hno : m.index < A.lg.now.base ∨ A.lg.now.last < m.index ∨ (A.lg.now.termAt m.index).1 ≠ m.logTerm) :
    Calls Tryz.prog 247 #[vp p.b, .agg (m.r v).cells] w fun x w' => x = .returned (.tuple #[.bool (A.accept m).1.1, vi (A.accept m).1.2]) ∧ RSx G W X p (A.accept m).2 w' ∧ ∀ x c T, X x → w.At x c T → w'.At x c T := by
  have hRx : ∀ {X' : Nat → Prop} {A' : AS} {w' : World}, RSx G W (fun k => X k ∨ k = w.heap.size) p A' w' → RSx G W X p A' w' := fun ⟨G, bx, h1, h2, h3, h4⟩ => ⟨G, bx, h1, h2, h3, fun k hk => h4 k (.inl hk)⟩
  have HRX := hidIt (fun A' (w' : World) (q : RSx G W (fun k => X k ∨ k = w.heap.size) p A' w') => (show RSx G W X p A' w' from by obtain ⟨G, bx, h1, h2, h3, h4⟩ := q; exact ⟨G, bx, h1, h2, h3, fun k hk => h4 k (.inl hk)⟩))
  clear hRx
  have i0 := mo.i0
  have i1 := mo.i1
  unfold maxT at i1
  have S0 := hidIt (h.aside (.cells (m.r v).cells 159))
  have hm0 : Hid ((w.alloc (.cells (m.r v).cells 159)).At w.heap.size (m.r v).cells 159) := World.At_alloc_new
  have K0 : Hid (∀ x c T, X x → w.At x c T → (w.alloc (.cells (m.r v).cells 159)).At x c T) := fun x c T _ ha => ha.alloc _
  obtain ⟨ad, cap, hv0, _⟩ := EntsAt.form hv
  obtain ⟨G1, hl1⟩ := RB.lk h.rs
  have hL := hidIt (fun w' (q : ModP (fun _ => False) w w') => hl1.frame0 q)
  obtain ⟨bx, hb⟩ := RB.hb h.rs
  have hc := hb.cell
  have ib := hb.inB
  unfold RSy at hc
  have hbm : p.b < w.heap.size := ib
  have nbm : p.b ≠ w.heap.size := by omega
  subst hv0
  unfold Msg.r at *
  by_cases c1 : m.index < A.lg.now.base
  · have hk : Hid (A.accept m = ((true, A.lg.now.base), A)) := by unfold Hid AS.accept; rw [if_pos c1]
    have d1 : decide (m.index < A.lg.now.base) = true := by simpa using c1
    clear h hb hl1 hv hno c1 mo
    go_enter Tryz.func247, Tryz.ntmps247
    go_wp2_with (first
      | (go_at_call 69; refine (k69 (hL.out _ (by repeat (first | assumption | exact ModP.refl _ _ | refine ModP.fromPut ?_ (by assumption) | apply ModP.alloc | apply ModP.drew | apply ModP.drewN | refine ModP.put ?_ (by first | (left; assumption) | (left; rfl) | (right; simp only [World.inB, World.size_put] at *; omega)) _ _)))).mono ?_; rintro _ w0 ⟨rfl, e⟩; obtain rfl := e.symm))
    go_ret2
    rw [hk.out]
    exact ⟨rfl, HRX.out _ _ S0.out, K0.out⟩
  have d1 : decide (m.index < A.lg.now.base) = false := by simpa using c1
  by_cases c2 : A.lg.now.last < m.index
  · have hk : Hid (A.accept m = ((false, A.lg.now.last), A)) := by unfold Hid AS.accept; rw [if_neg c1, if_pos c2]
    have d2 : decide (A.lg.now.last < m.index) = true := by simpa using c2
    clear h hb hl1 hv hno c1 c2 mo
    go_enter Tryz.func247, Tryz.ntmps247
    go_wp2_with (first
      | (go_at_call 69; refine (k69 (hL.out _ (by repeat (first | assumption | exact ModP.refl _ _ | refine ModP.fromPut ?_ (by assumption) | apply ModP.alloc | apply ModP.drew | apply ModP.drewN | refine ModP.put ?_ (by first | (left; assumption) | (left; rfl) | (right; simp only [World.inB, World.size_put] at *; omega)) _ _)))).mono ?_; rintro _ w0 ⟨rfl, e⟩; obtain rfl := e.symm))
    refine Ord.region1 [] [0, 1, 2, 3, 4] [5] (by kernel_rfl) (by kernel_rfl) (fun _ _ d _ _ h => by cases d <;> exact h) ?_
    simp only [Ord.pickO, Ord.nth]
    refine wpQuiet_nil ?_
    repeat (go_big_quiet_step (fail))
    refine wpQuiet_nil ?_
    go_wp2_with fail
    go_ret2
    rw [hk.out]
    exact ⟨rfl, HRX.out _ _ (S0.out.fr ((ModP.refl _ _).drew)), fun x c T hx ha => World.At_drew.2 (K0.out x c T hx ha)⟩
  have d2 : decide (A.lg.now.last < m.index) = false := by simpa using c2
  have c3 : (A.lg.now.termAt m.index).1 ≠ m.logTerm := by rcases hno with q | q | q; exact absurd q c1; exact absurd q c2; exact q
  have hk : Hid (A.accept m = ((false, if m.index = 0 then 0 else m.index - 1), A)) := by unfold Hid AS.accept; rw [if_neg c1, if_neg c2, if_pos c3]
  have q124 := hidIt (fun w' (q : ModP (fun _ => False) w w') => k124 (hl1.frame0 q) m.index)
  generalize A.lg.now.termAt m.index = tt at *
  obtain ⟨t1, t2⟩ := tt
  simp only [] at c3
  have d3 : (t1 != m.logTerm) = true := by simpa using c3
  clear h hb hl1 hv hno c1 c2 c3 mo
  by_cases c4 : m.index = 0
  · rw [if_pos c4] at hk
    have d4 : (m.index == 0) = true := by simpa using c4
    clear c4
    go_enter Tryz.func247, Tryz.ntmps247
    go_wp2_with (first
      | (go_at_call 69; refine (k69 (hL.out _ (by repeat (first | assumption | exact ModP.refl _ _ | refine ModP.fromPut ?_ (by assumption) | apply ModP.alloc | apply ModP.drew | apply ModP.drewN | refine ModP.put ?_ (by first | (left; assumption) | (left; rfl) | (right; simp only [World.inB, World.size_put] at *; omega)) _ _)))).mono ?_; rintro _ w0 ⟨rfl, e⟩; obtain rfl := e.symm)
      | (go_at_call 124; refine (q124.out _ (by repeat (first | assumption | exact ModP.refl _ _ | refine ModP.fromPut ?_ (by assumption) | apply ModP.alloc | apply ModP.drew | apply ModP.drewN | refine ModP.put ?_ (by first | (left; assumption) | (left; rfl) | (right; simp only [World.inB, World.size_put] at *; omega)) _ _))).mono ?_; rintro _ w1 ⟨rfl, m1⟩; have S1 := hidIt (S0.out.fr m1); have K1 := hidIt (fun x c T hx ha => m1.at (K0.out x c T hx ha) (fun f => f)); have hm1 := m1.at hm0.out (fun f => f); have hcm := hm1.cell; have ibm := hm1.inB; clear m1 S0 K0 hm1 hc ib hm0))
    go_ret2
    rw [hk.out]
    exact ⟨rfl, HRX.out _ _ S1.out, K1.out⟩
  · rw [if_neg c4] at hk
    have d4 : (m.index == 0) = false := by simpa using c4
    clear c4
    go_enter Tryz.func247, Tryz.ntmps247
    go_wp2_with (first
      | (go_at_call 69; refine (k69 (hL.out _ (by repeat (first | assumption | exact ModP.refl _ _ | refine ModP.fromPut ?_ (by assumption) | apply ModP.alloc | apply ModP.drew | apply ModP.drewN | refine ModP.put ?_ (by first | (left; assumption) | (left; rfl) | (right; simp only [World.inB, World.size_put] at *; omega)) _ _)))).mono ?_; rintro _ w0 ⟨rfl, e⟩; obtain rfl := e.symm)
      | (go_at_call 124; refine (q124.out _ (by repeat (first | assumption | exact ModP.refl _ _ | refine ModP.fromPut ?_ (by assumption) | apply ModP.alloc | apply ModP.drew | apply ModP.drewN | refine ModP.put ?_ (by first | (left; assumption) | (left; rfl) | (right; simp only [World.inB, World.size_put] at *; omega)) _ _))).mono ?_; rintro _ w1 ⟨rfl, m1⟩; have S1 := hidIt (S0.out.fr m1); have K1 := hidIt (fun x c T hx ha => m1.at (K0.out x c T hx ha) (fun f => f)); have hm1 := m1.at hm0.out (fun f => f); have hcm := hm1.cell; have ibm := hm1.inB; clear m1 S0 K0 hm1 hc ib hm0))
    go_ret2
    rw [hk.out]
    exact ⟨rfl, HRX.out _ _ S1.out, K1.out⟩
end
end Go.Proofs.Qxb6500990aGreat
