/- package sync: the outbox -/
import Derived.Test.Qxb6500990aGreatSy4
import Derived.Test.Qxb6500990aGreatStructs2
set_option linter.unusedVariables false
set_option linter.unusedSimpArgs false
namespace Go.Tw
open Go Go.Proofs Go.Proofs.Qxb6500990aGreat
theorem ownsRow_low {B B' e s n : Nat} {w : World} {v : Value} {xs : List Value} (h : w.ownsRow B e s v n xs) (hB : B' ≤ B) : w.ownsRow B' e s v n xs := by
  refine ⟨h.1, ?_⟩
  rcases h.2 with h2 | ⟨g, cap, cur, hv, h3, h4⟩
  · exact .inl h2
  · exact .inr ⟨g, cap, cur, hv, Nat.le_trans hB h3, h4⟩
section
variable {w w0 W : World} {G0 : Nat → Prop} {p : SyP} {A : AS} {la lt : Int} {ms : List Msg}
theorem RB.post (h : RB G0 W p A la lt ms w0) (m : ModP (fun _ => False) w0 w) {x : Msg} {v : Value} (hv : EntsAt w0.heap.size w v x.ents) :
    ∃ (y : World) (bx : Nat → MsgR), w = y.put p.b (SyncR.cells ⟨vp p.bl, vp p.be, A.commit, A.next, A.mtch, la, lt, bx, ms.length⟩) 162 ∧ y.inB p.b ∧ w0.heap.size ≤ y.heap.size ∧ p.b < w0.heap.size ∧
      RB G0 W p A la lt (ms ++ [x]) (y.put p.b (SyncR.cells ⟨vp p.bl, vp p.be, A.commit, A.next, A.mtch, la, lt, upd bx ms.length (x.r v), ms.length + 1⟩) 162) := by
  obtain ⟨G, bx, B, h1, h2, h3, h4, h5, h6, h7⟩ := h
  have hb0 : p.b < w0.heap.size := h1.hb.inB
  have h1' := h1.frame m (fun _ _ f => f)
  have h2' := h2.frame m (fun _ _ _ f => f)
  have h4' := h4.trans (m.mono (G := G0) fun _ f => f.elim)
  obtain ⟨y, e, iy⟩ := h1'.hb.door
  subst e
  have hz := m.size
  rw [World.size_put] at hz
  refine ⟨y, bx, rfl, iy, hz, hb0, ?_⟩
  have k1 := h1'.own A.commit A.next A.mtch la lt (upd bx ms.length (x.r v)) (ms.length + 1)
  rw [World.put_put_same] at k1
  have mm : ModP (fun x => x = p.b) (y.put p.b (RSy p A la lt bx ms.length).cells 162) (y.put p.b (SyncR.cells ⟨vp p.bl, vp p.be, A.commit, A.next, A.mtch, la, lt, upd bx ms.length (x.r v), ms.length + 1⟩) 162) := ((ModP.refl (fun x => x = p.b) y).put (.inl rfl) _ _).fromPut rfl
  have hb5 := h5 _ h1.fb
  refine ⟨G, upd bx ms.length (x.r v), B, ?_, ?_, h3, h4'.step mm (fun k e => e ▸ h3 _ h1.fb), h5, h6, by rw [World.size_put]; omega⟩
  · have e : ((ms ++ [x]).length : Nat) = ms.length + 1 := by simp
    rw [e]
    exact k1
  · intro i q hq
    by_cases hi : i < ms.length
    · rw [List.getElem?_append_left hi] at hq
      obtain ⟨v', e1, e2⟩ := (h2'.frame mm (fun k a _ e => by subst e; omega)) i q hq
      exact ⟨v', by rw [upd_ne _ _ (by omega)]; exact e1, e2⟩
    · have hi2 : i = ms.length := by
        have := (List.getElem?_eq_some_iff.1 hq).1
        simp at this; omega
      subst hi2
      rw [List.getElem?_append_right (Nat.le_refl _)] at hq
      simp at hq
      subst hq
      refine ⟨v, upd_same _ _ _, ?_⟩
      exact ownsRow_frame (ownsRow_low hv h7) mm (fun g hg e => by
        have := (ownsRow_block hv hg).2
        subst e; omega)
end
end Go.Tw
namespace Go.Proofs.Qxb6500990aGreat
open Go Go.RowKit Go.Tw
attribute [local go_sem] World.cell?_put_same World.cell?_put_ne World.cell?_put_ne' World.frozen?_put_same World.frozen?_put_ne World.frozen?_put_ne' World.setCell_put_same World.setCell_put_ne World.setCell_put_ne' World.inB_put World.inB_alloc World.inB_drew World.inB_drewN World.inB_new World.inB_setCell World.put_drew World.put_drewN World.q_setCell_drew World.q_setCell_drewN World.q_alloc_drew World.q_alloc_drewN World.put_put_same World.put_put_2 World.size_put World.q_cell?_alloc_old World.q_frozen?_alloc_old World.cell?_alloc_new' World.frozen?_alloc_new' World.q_setCell_alloc_old World.q_setCell_alloc_new World.q_put_alloc_old World.cell?_force_same World.frozen?_force_same World.cell?_force2_fst World.cell?_force2_snd SyncR.g0 SyncR.s0 SyncR.g1 SyncR.s1 SyncR.g2 SyncR.s2 SyncR.g3 SyncR.s3 SyncR.g4 SyncR.s4 SyncR.g5 SyncR.s5 SyncR.g6 SyncR.s6 SyncR.g7 SyncR.s7 SyncR.g8 SyncR.s8 SyncR.g9 SyncR.s9 SyncR.g10 SyncR.s10 SyncR.g11 SyncR.s11 SyncR.g12 SyncR.s12 SyncR.g13 SyncR.s13 SyncR.g14 SyncR.s14 SyncR.g15 SyncR.s15 SyncR.g16 SyncR.s16 SyncR.g17 SyncR.s17 SyncR.g18 SyncR.s18 SyncR.g19 SyncR.s19 SyncR.g20 SyncR.s20 SyncR.g21 SyncR.s21 SyncR.g22 SyncR.s22 SyncR.g23 SyncR.s23 SyncR.g24 SyncR.s24 SyncR.g25 SyncR.s25 SyncR.g26 SyncR.s26 SyncR.g27 SyncR.s27 SyncR.g28 SyncR.s28 SyncR.g29 SyncR.s29 SyncR.g30 SyncR.s30 SyncR.g31 SyncR.s31 SyncR.g32 SyncR.s32 SyncR.g33 SyncR.s33 SyncR.g34 SyncR.s34 SyncR.g35 SyncR.s35 SyncR.g36 SyncR.s36 SyncR.g37 SyncR.s37 SyncR.g38 SyncR.s38 SyncR.g39 SyncR.s39 SyncR.g40 SyncR.s40 SyncR.g41 SyncR.s41 SyncR.gi_next_0 SyncR.si_next_0 SyncR.gi_mtch_0 SyncR.si_mtch_0 SyncR.gi_box_0 SyncR.si_box_0 SyncR.gi_box_1 SyncR.si_box_1 SyncR.gi_box_2 SyncR.si_box_2 SyncR.gi_box_3 SyncR.si_box_3 SyncR.gi_box_4 SyncR.si_box_4 SyncR.gi_box_5 SyncR.si_box_5 SyncR.gi_box_6 SyncR.si_box_6 SyncR.gi_box_7 SyncR.si_box_7 SyncR.gi_box_8 SyncR.si_box_8 SyncR.gi_box_9 SyncR.si_box_9 MsgR.g0 MsgR.s0 MsgR.g1 MsgR.s1 MsgR.g2 MsgR.s2 MsgR.g3 MsgR.s3 MsgR.g4 MsgR.s4 MsgR.g5 MsgR.s5 MsgR.g6 MsgR.s6 MsgR.g7 MsgR.s7 MsgR.g8 MsgR.s8 MsgR.g9 MsgR.s9
attribute [local go_sem] SyncR.gia_box_1 SyncR.sia_box_1 SyncR.gia_box_2 SyncR.sia_box_2 SyncR.gia_box_3 SyncR.sia_box_3 SyncR.gia_box_4 SyncR.sia_box_4 SyncR.gia_box_5 SyncR.sia_box_5 SyncR.gia_box_6 SyncR.sia_box_6 SyncR.gia_box_7 SyncR.sia_box_7 SyncR.gia_box_8 SyncR.sia_box_8 SyncR.gia_box_9 SyncR.sia_box_9
attribute [local go_sem] ba_get upd_same upd_upd
set_option maxHeartbeats 4000000
set_option maxRecDepth 100000
section
variable {W w w0 : World} {G : Nat → Prop} {p : SyP} {A : AS} {la lt : Int} {ms : List Msg}
theorem c188 (h : RB G W p A la lt ms w0) (m : ModP (fun _ => False) w0 w) {x : Msg} {v : Value} (hv : EntsAt w0.heap.size w v x.ents) (h3 : ms.length < 3) :
    Calls Tryz.prog 188 #[vp p.b, .agg (x.r v).cells] w fun r w' => r = .returned (.tuple #[]) ∧ RB G W p A la lt (ms ++ [x]) w' := by
  obtain ⟨ad, cap, rfl, _⟩ := EntsAt.form hv
  have hp := RB.post h (w := w.alloc (.cells (x.r (.slice ad x.ents.length cap)).cells 159)) (m.alloc _) (ownsRow_alloc hv _)
  have hm : Hid ((w.alloc (.cells (x.r (.slice ad x.ents.length cap)).cells 159)).At w.heap.size (x.r (.slice ad x.ents.length cap)).cells 159) := World.At_alloc_new
  have z := m.size
  clear h m hv
  obtain ⟨y, bx, hy, iy, zy, zb, hR⟩ := hp
  rw [hy] at hm
  have HR := hidIt hR
  have Hy := hidIt hy
  have nb : w.heap.size ≠ p.b := by omega
  have hm2 := (World.At_put_ne' nb).1 hm.out
  have hc2 := hm2.cell
  have ib2 := hm2.inB
  have n3 : (ms.length : Int) < 3 := by omega
  clear hR hy hm hm2
  generalize ms.length = n at HR Hy h3 n3
  unfold Msg.r at *
  generalize x.ents.length = le at *
  go_enter Tryz.func188, Tryz.ntmps188
  go_upto_region 1 with fail
  rw [Hy.out]
  go_wp2_with fail
  refine Ord.region1 [] [0, 1, 2, 3, 4, 5, 6, 7, 8] [9] (by kernel_rfl) (by kernel_rfl) (fun _ _ d _ _ h => by cases d <;> exact h) ?_
  simp only [Ord.pickO, Ord.nth]
  refine wpQuiet_nil ?_
  repeat (go_big_quiet_step (fail))
  refine wpQuiet_nil ?_
  go_wp2_with fail
  go_end0
  exact ⟨rfl, HR.out.fr ((ModP.refl _ _).drew)⟩
end
end Go.Proofs.Qxb6500990aGreat
