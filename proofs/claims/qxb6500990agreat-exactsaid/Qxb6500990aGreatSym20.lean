/- package syncm: Step -/
import Derived.Test.Qxb6500990aGreatSym13
import Derived.Test.Qxb6500990aGreatSym14
import Derived.Test.Qxb6500990aGreatSym15
import Derived.Test.Qxb6500990aGreatSym16
import Derived.Test.Qxb6500990aGreatSym17
import Derived.Test.Qxb6500990aGreatSym18
import Derived.Test.Qxb6500990aGreatSym19
set_option linter.unusedVariables false
set_option linter.unusedSimpArgs false
namespace Go.Proofs.Qxb6500990aGreat
open Go Go.RowKit Go.Tw
attribute [local go_sem] World.cell?_put_same World.cell?_put_ne World.cell?_put_ne' World.frozen?_put_same World.frozen?_put_ne World.frozen?_put_ne' World.setCell_put_same World.setCell_put_ne World.setCell_put_ne' World.inB_put World.inB_alloc World.inB_drew World.inB_drewN World.inB_new World.inB_setCell World.put_drew World.put_drewN World.q_setCell_drew World.q_setCell_drewN World.q_alloc_drew World.q_alloc_drewN World.put_put_same World.put_put_2 World.size_put World.q_cell?_alloc_old World.q_frozen?_alloc_old World.cell?_alloc_new' World.frozen?_alloc_new' World.q_setCell_alloc_old World.q_setCell_alloc_new World.q_put_alloc_old World.cell?_force_same World.frozen?_force_same World.cell?_force2_fst World.cell?_force2_snd SyncM.g0 SyncM.s0 SyncM.g1 SyncM.s1 SyncM.g2 SyncM.s2 SyncM.g3 SyncM.s3 SyncM.g4 SyncM.s4 SyncM.g5 SyncM.s5 SyncM.g6 SyncM.s6 SyncM.g7 SyncM.s7 SyncM.g8 SyncM.s8 SyncM.gi_next_0 SyncM.si_next_0 SyncM.gi_mtch_0 SyncM.si_mtch_0 MsgR.g0 MsgR.s0 MsgR.g1 MsgR.s1 MsgR.g2 MsgR.s2 MsgR.g3 MsgR.s3 MsgR.g4 MsgR.s4 MsgR.g5 MsgR.s5 MsgR.g6 MsgR.s6 MsgR.g7 MsgR.s7 MsgR.g8 MsgR.s8 MsgR.g9 MsgR.s9 Entry.g0 Entry.s0 Entry.g1 Entry.s1
attribute [local go_sem] ba_get upd_same upd_upd
set_option maxHeartbeats 4000000
set_option maxRecDepth 100000
section
variable {W w : World} {G : Nat → Prop} {b bl be : Nat} {A : AS}
theorem c139_no (h : SMp W G b bl be A) {v : Value} {m : Msg} {B : Nat} (hv : EntsAt B W v m.ents) (hno : msgOK m = false ∨ m.to ≠ A.el.id ∨ m.frm = A.el.id) :
    Calls Tryz.prog 139 #[vp b, .agg (m.r v).cells] W fun r w' => ∃ v, r = .returned v ∧ SBm G W b bl be A [] w' v := by
  have hS0 := hidIt (SB.start h)
  have hc := h.hb.cell
  have ib := h.hb.inB
  unfold SyR at hc
  have hE := hidIt h.he
  have hM := hidIt (fun w' (m' : ModP (fun _ => False) W w') => c194 (ownsRow_frame hv m' (fun _ _ f => f)))
  obtain ⟨ad, cap, rfl, -⟩ := ownsRow_form hv
  clear h hv
  obtain ⟨mk, mf, mt, mtm, mi, ml, mc, mo, me, md⟩ := m
  simp only [] at *
  unfold Msg.r at *
  simp only [] at *
  rcases hb : msgOK ⟨mk, mf, mt, mtm, mi, ml, mc, mo, me, md⟩ with _ | _
  · rw [hb] at hM
    clear hno hb
    go_enter Tryz.func139, Tryz.ntmps139
    go_wp2_with fail
    refine Ord.region1 [] [0, 1, 2, 3, 4, 5, 6, 7] [8] (by kernel_rfl) (by kernel_rfl) (fun _ _ d _ _ h => by cases d <;> exact h) ?_
    simp only [Ord.pickO, Ord.nth]
    refine wpQuiet_nil ?_
    repeat (first | go_big_quiet_step (fail) | (go_big_quiet_want; go_big_quiet_op; refine Exists.intro _ ⟨by first | (go_at_call 114; exact c114 (hE.out.alloc _)), ?_⟩; go_big_quiet_on))
    refine wpQuiet_nil ?_
    go_wp2_with (first
      | (go_at_call 194; refine (hM.out _ (by repeat (first | assumption | exact ModP.refl _ _ | refine ModP.fromPut ?_ (by assumption) | apply ModP.alloc | apply ModP.drew | apply ModP.drewN | refine ModP.put ?_ (by first | (left; assumption) | (left; rfl) | (right; simp only [World.inB, World.size_put] at *; omega)) _ _))).mono ?_; rintro _ w1 ⟨rfl, xo, hw1⟩; have M1 := hidIt (show ModP (fun _ => False) (W.alloc (.cells (MsgR.cells (MsgR.mk mk mf mt mtm mi ml mc mo (.slice ad me.length cap) md)) 159 (0, 0))) w1 by rw [hw1]; exact (by repeat (first | assumption | exact ModP.refl _ _ | refine ModP.fromPut ?_ (by assumption) | apply ModP.alloc | apply ModP.drew | apply ModP.drewN | refine ModP.put ?_ (by first | (left; assumption) | (left; rfl) | (right; simp only [World.inB, World.size_put] at *; omega)) _ _))); have hx1 := M1.out.at (b := W.heap.size) World.At_alloc_new (fun x => x); have hcx1 := hx1.cell; have ix1 := hx1.inB; have M01 := hidIt (((ModP.refl _ _).alloc _).trans M1.out); clear hw1 hx1 hc))
    go_ret
    exact ⟨_, rfl, (hS0.out.fr M01.out).none⟩
  · rw [hb] at hM
    have hno2 := hno.resolve_left (by rw [hb]; simp)
    clear hno hb
    by_cases q1 : mt = A.el.id
    · have q2 := hno2.resolve_left (fun h => h q1)
      have q1' : (mt != A.el.id) = false := by simp [q1]
      have q2' : (mf == A.el.id) = true := by simpa using q2
      clear hno2 q1 q2
      go_enter Tryz.func139, Tryz.ntmps139
      go_wp2_with fail
      refine Ord.region1 [] [0, 1, 2, 3, 4, 5, 6, 7] [8] (by kernel_rfl) (by kernel_rfl) (fun _ _ d _ _ h => by cases d <;> exact h) ?_
      simp only [Ord.pickO, Ord.nth]
      refine wpQuiet_nil ?_
      repeat (first | go_big_quiet_step (fail) | (go_big_quiet_want; go_big_quiet_op; refine Exists.intro _ ⟨by first | (go_at_call 114; exact c114 (hE.out.alloc _)), ?_⟩; go_big_quiet_on))
      refine wpQuiet_nil ?_
      go_wp2_with (first
        | (go_at_call 194; refine (hM.out _ (by repeat (first | assumption | exact ModP.refl _ _ | refine ModP.fromPut ?_ (by assumption) | apply ModP.alloc | apply ModP.drew | apply ModP.drewN | refine ModP.put ?_ (by first | (left; assumption) | (left; rfl) | (right; simp only [World.inB, World.size_put] at *; omega)) _ _))).mono ?_; rintro _ w1 ⟨rfl, xo, hw1⟩; have M1 := hidIt (show ModP (fun _ => False) (W.alloc (.cells (MsgR.cells (MsgR.mk mk mf mt mtm mi ml mc mo (.slice ad me.length cap) md)) 159 (0, 0))) w1 by rw [hw1]; exact (by repeat (first | assumption | exact ModP.refl _ _ | refine ModP.fromPut ?_ (by assumption) | apply ModP.alloc | apply ModP.drew | apply ModP.drewN | refine ModP.put ?_ (by first | (left; assumption) | (left; rfl) | (right; simp only [World.inB, World.size_put] at *; omega)) _ _))); have hx1 := M1.out.at (b := W.heap.size) World.At_alloc_new (fun x => x); have hcx1 := hx1.cell; have ix1 := hx1.inB; have M01 := hidIt (((ModP.refl _ _).alloc _).trans M1.out); clear hw1 hx1 hc))
      go_ret
      exact ⟨_, rfl, (hS0.out.fr M01.out).none⟩
    · have q1' : (mt == A.el.id) = false := by simpa using q1
      clear hno2 q1
      go_enter Tryz.func139, Tryz.ntmps139
      go_wp2_with fail
      refine Ord.region1 [] [0, 1, 2, 3, 4, 5, 6, 7] [8] (by kernel_rfl) (by kernel_rfl) (fun _ _ d _ _ h => by cases d <;> exact h) ?_
      simp only [Ord.pickO, Ord.nth]
      refine wpQuiet_nil ?_
      repeat (first | go_big_quiet_step (fail) | (go_big_quiet_want; go_big_quiet_op; refine Exists.intro _ ⟨by first | (go_at_call 114; exact c114 (hE.out.alloc _)), ?_⟩; go_big_quiet_on))
      refine wpQuiet_nil ?_
      go_wp2_with (first
        | (go_at_call 194; refine (hM.out _ (by repeat (first | assumption | exact ModP.refl _ _ | refine ModP.fromPut ?_ (by assumption) | apply ModP.alloc | apply ModP.drew | apply ModP.drewN | refine ModP.put ?_ (by first | (left; assumption) | (left; rfl) | (right; simp only [World.inB, World.size_put] at *; omega)) _ _))).mono ?_; rintro _ w1 ⟨rfl, xo, hw1⟩; have M1 := hidIt (show ModP (fun _ => False) (W.alloc (.cells (MsgR.cells (MsgR.mk mk mf mt mtm mi ml mc mo (.slice ad me.length cap) md)) 159 (0, 0))) w1 by rw [hw1]; exact (by repeat (first | assumption | exact ModP.refl _ _ | refine ModP.fromPut ?_ (by assumption) | apply ModP.alloc | apply ModP.drew | apply ModP.drewN | refine ModP.put ?_ (by first | (left; assumption) | (left; rfl) | (right; simp only [World.inB, World.size_put] at *; omega)) _ _))); have hx1 := M1.out.at (b := W.heap.size) World.At_alloc_new (fun x => x); have hcx1 := hx1.cell; have ix1 := hx1.inB; have M01 := hidIt (((ModP.refl _ _).alloc _).trans M1.out); clear hw1 hx1 hc))
      go_ret
      exact ⟨_, rfl, (hS0.out.fr M01.out).none⟩
theorem c139 (h : SMp W G b bl be A) (ok : A.Ok) (hn : A.lg.hist.length ≤ 6900) {v : Value} {m : Msg} {B : Nat} (hv : EntsAt B W v m.ents) (hnv : ∀ g, v.ownBlock = some g → ¬ G g) :
    Calls Tryz.prog 139 #[vp b, .agg (m.r v).cells] W fun r w' => ∃ v, r = .returned v ∧ SBm G W b bl be (A.step m).2 (A.step m).1 w' v := by
  unfold AS.step
  split
  · rename_i hno; exact c139_no h hv hno
  · rename_i hg
    have hm : msgOK m = true := by
      rcases hb : msgOK m with _ | _
      · exact absurd (.inl hb) hg
      · rfl
    have hf : m.frm ≠ A.el.id := fun e => hg (.inr (.inr e))
    have ht : m.to = A.el.id := Decidable.of_not_not (fun e => hg (.inr (.inl e)))
    split
    · exact c139_1 h ok hn hv hnv hm ht hf (by assumption)
    · split
      · exact c139_2 h ok hn hv hnv hm ht hf (by assumption)
      · split
        · exact c139_3 h ok hn hv hnv hm ht hf (by assumption)
        · split
          · exact c139_5 h ok hn hv hnv hm ht hf (by assumption)
          · have hk : m.kind = 4 := by have := (msgOK_iff.1 hm).k0; have := (msgOK_iff.1 hm).k1; omega
            rcases hs : A.el.sees m.term with _ | _
            · by_cases hr : A.el.role = 2
              · by_cases htm : m.term = A.el.term
                · rcases hmo : m.ok with _ | _
                  · exact c139_4f h ok hn hv hnv hm ht hf hk hs hr htm hmo
                  · by_cases q : A.mtch m.frm.toNat < m.index ∧ m.index ≤ A.lg.now.last
                    · by_cases q3 : A.next m.frm.toNat ≤ m.index
                      · exact c139_4d h ok hn hv hnv hm ht hf hk hs hr htm hmo q.1 q.2 q3
                      · exact c139_4e h ok hn hv hnv hm ht hf hk hs hr htm hmo q.1 q.2 (by omega)
                    · exact c139_4c h ok hn hv hnv hm ht hf hk hs hr htm hmo q
                · exact c139_4b h ok hn hv hnv hm ht hf hk hs (.inr htm)
              · exact c139_4b h ok hn hv hnv hm ht hf hk hs (.inl hr)
            · exact c139_4a h ok hn hv hnv hm ht hf hk hs
end
end Go.Proofs.Qxb6500990aGreat
