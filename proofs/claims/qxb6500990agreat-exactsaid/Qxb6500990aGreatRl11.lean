/- package rlog: Open -/
import Derived.Test.Qxb6500990aGreatRl10
set_option linter.unusedVariables false
set_option linter.unusedSimpArgs false
namespace Go.Tw
open Go Go.Proofs Go.Proofs.Qxb6500990aGreat
theorem Good.mid {l : List Bs} {s : Lg} {N : Nat} (h : Good l s N) : Mid s.al ⟨l, l, []⟩ N := by
  refine ⟨⟨?_, h, rfl⟩, h, rfl⟩
  intro k hk
  have : k = 0 := by simpa using hk
  subst this
  exact ⟨0, Nat.le_refl _, h⟩
theorem Cl.tie {s : Lg} {l : List Bs} {D : Dk} {N : Nat} (h : Cl s.al ⟨l, l, []⟩ D N 6) (hN : N ≤ 1125899906842624) : Tie s.al D N D.wr.length ∧ D.wr.length ≤ 12 ∧ (CleanS (stOf (vp 0) l) s → D.wr.length = 0) := by
  have hw := h.w
  simp only [List.length_nil, Nat.zero_add] at hw
  refine ⟨⟨h.m.c, h.m.g, fun c hc hu => h.c c hc hu, rfl, by simp [Lg.al]; omega, fun _ => rfl, hN⟩, by omega, ?_⟩
  intro hcl
  rw [h.z hcl]; rfl
end Go.Tw
namespace Go.Proofs.Qxb6500990aGreat
open Go Go.RowKit Go.Tw
attribute [local go_sem] World.cell?_put_same World.cell?_put_ne World.cell?_put_ne' World.frozen?_put_same World.frozen?_put_ne World.frozen?_put_ne' World.setCell_put_same World.setCell_put_ne World.setCell_put_ne' World.inB_put World.inB_alloc World.inB_drew World.inB_drewN World.inB_new World.inB_setCell World.put_drew World.put_drewN World.q_setCell_drew World.q_setCell_drewN World.q_alloc_drew World.q_alloc_drewN World.put_put_same World.put_put_2 World.size_put World.q_cell?_alloc_old World.q_frozen?_alloc_old World.cell?_alloc_new' World.frozen?_alloc_new' World.q_setCell_alloc_old World.q_setCell_alloc_new World.q_put_alloc_old World.cell?_force_same World.frozen?_force_same World.cell?_force2_fst World.cell?_force2_snd LogR.g0 LogR.s0 LogR.g1 LogR.s1 LogR.g2 LogR.s2 LogR.g3 LogR.s3 LogR.g4 LogR.s4 LogR.g5 LogR.s5 LogR.g6 LogR.s6 LogR.g7 LogR.s7 LogR.g8 LogR.s8 LogR.g9 LogR.s9 LogR.g10 LogR.s10 LogR.g11 LogR.s11 LogR.g12 LogR.s12 LogR.g13 LogR.s13 LogR.g14 LogR.s14 LogR.g15 LogR.s15 LogR.g16 LogR.s16 LogR.g17 LogR.s17 LogR.g18 LogR.s18 LogR.gi_terms_0 LogR.si_terms_0 LogR.gi_data_0 LogR.si_data_0
attribute [local go_sem] ba_get upd_same upd_upd
set_option maxHeartbeats 4000000
set_option maxRecDepth 100000
section
variable {W : World} {Fd : Nat → Prop} {bt bd : Nat} {l : List Bs} {s : Lg} {N : Nat}
theorem c32 (sk : SK W Fd bt bd ⟨l, l, []⟩) (g : Tw.Good l s N) (hN : N ≤ 1125899906842624) :
    Calls Tryz.prog 32 #[vp bt] W fun x w' => ∃ bl r, x = .returned (vp bl) ∧ W.heap.size ≤ bl ∧ r ≤ 12 ∧ RLK w' (fun k => Fd k ∨ k = bt ∨ W.heap.size ≤ k) bl bd s.al N r ∧ ModP (fun k => Fd k ∨ k = bt) W w' ∧ (CleanS (stOf (vp 0) l) s → r = 0) := by
  obtain ⟨bl, hbl⟩ : ∃ bl, bl = W.heap.size := ⟨_, rfl⟩
  have Hbl := hidIt hbl
  have hz : ∀ w : World, ModP (fun _ => False) W w → SK w Fd bt bd ⟨l, l, []⟩ := fun w m => sk.frame m (fun _ _ f => f) (fun f => f)
  have HS := hidIt hz
  have G := hidIt g
  have b0 := g.ok.b0
  have n6 := g.ok.n6
  have lm := g.ok.lm
  unfold maxT at lm
  have q60 := hidIt (fun (w : World) (m : ModP (fun _ => False) W w) => (show Calls Tryz.prog 60 #[vp bt] w fun r w' => r = .returned (.tuple #[vi s.term, vi s.vote]) ∧ ModP (fun _ => False) w w' from by rw [← g.rc.t, ← g.rc.v]; exact c60 (S := stOf (vp bd) l) (hz w m).t))
  have q61 := hidIt (fun (w : World) (m : ModP (fun _ => False) W w) => (show Calls Tryz.prog 61 #[vp bt] w fun r w' => r = .returned (.tuple #[vi s.base, vi s.baseTerm, vs s.snap]) ∧ ModP (fun _ => False) w w' from by rw [← g.rc.b, ← g.rc.bt, ← g.rc.sn]; exact c61 (S := stOf (vp bd) l) (hz w m).t))
  have hup := hidIt g.rc.up
  have hdn := hidIt g.rc.dn
  have hlast := hidIt (show s.last = s.base + s.ents.length from rfl)
  have hbt : bt < W.heap.size := sk.t.inB
  have P1 : Hid (ModP (fun _ => False) W (W.alloc (.cells (LogR.cells ⟨vp bt, 0, 0, 0, 0, [], 0, fun _ => 0, fun _ => []⟩) 149))) := (ModP.refl _ _).alloc _
  have P2 : Hid ((W.alloc (.cells (LogR.cells ⟨vp bt, 0, 0, 0, 0, [], 0, fun _ => 0, fun _ => []⟩) 149)).At bl (LogR.cells ⟨vp bt, 0, 0, 0, 0, [], 0, fun _ => 0, fun _ => []⟩) 149) := at_new hbl
  obtain ⟨n, hn⟩ : ∃ n, n = s.ents.length := ⟨_, rfl⟩
  rw [← hn] at n6 lm hlast
  have Hn := hidIt hn
  have NF := hidIt sk.wi
  clear hz sk g hn hbl
  go_enter Tryz.func32, Tryz.ntmps32
  have hge : W.heap.size ≤ bl := by rw [Hbl.out]; exact Nat.le_refl _
  go_wp2_with (first
    | (go_at_call 60; refine Calls.mono (q60.out _ P1.out) ?_; rintro _ w1 ⟨rfl, m1⟩; have M1 := hidIt (P1.out.trans m1); have ha := m1.at P2.out (fun f => f); clear m1 P1 P2; rw [← Hbl.out]; obtain ⟨y, rfl, iy⟩ := ha.door; clear ha; have M2 := hidIt (M1.out.unput (.inr hge)); clear M1)
    | (go_at_call 61; refine Calls.mono (q61.out _ (M2.out.put (.inr hge) _ _)) ?_; rintro _ w1 ⟨rfl, m1⟩; have M1 := hidIt ((M2.out.put (.inr hge) _ _).trans m1); have ha := m1.at (World.At_put_same iy) (fun f => f); clear m1 M2; obtain ⟨y2, rfl, iy2⟩ := ha.door; clear ha; have M2 := hidIt (M1.out.unput (.inr hge)); clear M1))
  have P3 : Hid (ModP (fun _ => False) W (y2.put bl (LogR.cells ⟨vp bt, s.term, s.vote, s.base, s.baseTerm, s.snap, s.base, fun _ => 0, fun _ => []⟩) 149)) := M2.out.put (.inr hge) _ _
  have P4 : Hid ((y2.put bl (LogR.cells ⟨vp bt, s.term, s.vote, s.base, s.baseTerm, s.snap, s.base, fun _ => 0, fun _ => []⟩) 149).At bl (LogR.cells ⟨vp bt, s.term, s.vote, s.base, s.baseTerm, s.snap, s.base, fun _ => 0, fun _ => []⟩) 149) := World.At_put_same iy2
  clear M2
  go_loopw [58] (fun _ u => ∃ (k : Nat) (lts : Nat → Int) (lds : Nat → Bs), k ≤ n ∧ Hid (u.At bl (LogR.cells ⟨vp bt, s.term, s.vote, s.base, s.baseTerm, s.snap, s.base + k, lts, lds⟩) 149) ∧ Hid (∀ (i : Nat) (x : Entry), i < k → s.ents[i]? = some x → lts (slN (s.base + 1 + i)) = x.term ∧ lds (slN (s.base + 1 + i)) = x.data) ∧ Hid (ModP (fun _ => False) W u)) (fun _ u => (s.base + 7 - intOf ((u.cell? ⟨bl, 6, none⟩).getD (vi 0))).toNat)
  case atStart => exact ⟨0, fun _ => 0, fun _ => [], by omega, by simpa using P4, by intro i x hi; omega, P3⟩
  case round =>
    clear P3 P4
    obtain ⟨k, lts, lds, hk, H1, H2, H3⟩ := hrel
    have hc := H1.out.cell
    have ib := H1.out.inB
    by_cases hkn : k < n
    · have d1 : (k : Int) < 6 := by omega
      have d2 : decide (s.base + (k : Int) - s.base < 6) = true := by simp; omega
      obtain ⟨x, hx⟩ : ∃ x, s.ents[k]? = some x := ⟨_, List.getElem?_eq_getElem (by have := Hn.out; omega)⟩
      obtain ⟨u1, u2⟩ := hup.out k x hx
      obtain ⟨c, hcc⟩ : ∃ c, c = slN (s.base + (k : Int) + 1) := ⟨_, rfl⟩
      have e1 : s.base + 1 + (k : Int) = s.base + (k : Int) + 1 := by omega
      have q62 := hidIt (fun (w : World) (m : ModP (fun _ => False) wr w) => c62_t (L := ⟨vp bt, s.term, s.vote, s.base, s.baseTerm, s.snap, s.base + k, lts, lds⟩) (m.at H1.out (fun f => f)) rfl (HS.out w (H3.out.trans m)) (i := s.base + (k : Int) + 1) (by omega) (by omega) (by rw [← e1]; exact u1) (qt := x.term) (qd := x.data) (by rw [← e1]; exact u2))
      rw [← hcc] at q62
      have HX := hidIt (And.intro hx (And.intro hcc e1))
      have hcm := hidIt (hc 6)
      clear u1 u2 hx hcc e1
      go_wp2_with fail
      refine Ord.region1 [] [0, 1, 2, 3, 4, 5, 6, 7, 8, 9, 10, 11, 12, 13, 14, 15, 16] [17, 18] (by kernel_rfl) (by kernel_rfl) (fun _ _ d _ _ h => by cases d <;> exact h) ?_
      simp only [Ord.pickO, Ord.nth]
      refine wpQuiet_nil ?_
      repeat (go_big_quiet_step (fail))
      refine wpQuiet_nil ?_
      go_wp2_with (first
        | (go_at_call 62; refine Calls.mono (q62.out _ (by first | exact ModP.refl _ _ | exact (ModP.refl _ _).drew | exact (ModP.refl _ _).drew.drew)) ?_; rintro _ w2 ⟨rfl, a2, m2⟩; have M2 : Hid (ModP (fun k => k = bl) wr w2) := (ModP.trans (by first | exact ModP.refl _ _ | exact (ModP.refl _ _).drew | exact (ModP.refl _ _).drew.drew) m2); clear m2 hc ib q62; obtain ⟨y, rfl, iy⟩ := a2.door; clear a2))
      refine ⟨⟨k + 1, upd lts c x.term, upd lds c x.data, by omega, ?_, ?_, ?_⟩, ?_⟩
      · unfold Hid
        rw [show s.base + ((k + 1 : Nat) : Int) = s.base + (k : Int) + 1 by omega]
        exact World.At_put_same iy
      · intro i z hi hz
        obtain ⟨hx, hcc, e1⟩ := HX.out
        by_cases e : i = k
        · subst e
          rw [hx] at hz
          injection hz with hz
          subst hz
          rw [e1, ← hcc, upd_same, upd_same]
          exact ⟨rfl, rfl⟩
        · have hne : slN (s.base + 1 + i) ≠ c := by
            rw [hcc]
            intro q
            have := slN_eq q (by omega) (by omega)
            omega
          rw [upd_ne _ _ hne, upd_ne _ _ hne]
          exact H2.out i z (by omega) hz
      · have h1 := M2.out.step (F := fun k => k = bl) (w := wr) (ModP.refl (fun _ => False) _) (fun _ f => f.elim)
        have h2 : ModP (fun _ => False) W y := (H3.out.step M2.out (fun k e => .inr (by rw [e]; exact hge))).unput (.inr hge)
        exact h2.put (.inr hge) _ _
      · rw [hcm.out, (World.At_put_same iy).cell]
        show (s.base + 7 - (s.base + (k : Int) + 1)).toNat < (s.base + 7 - (s.base + (k : Int))).toNat
        omega
    · obtain rfl : k = n := by omega
      have LRR : Hid (LR ⟨vp bt, s.term, s.vote, s.base, s.baseTerm, s.snap, s.base + k, lts, lds⟩ s) := ⟨rfl, rfl, rfl, rfl, rfl, hlast.out.symm, fun i x hx => H2.out i x (by have := (List.getElem?_eq_some_iff.1 hx).1; have := Hn.out; omega) hx⟩
      have q63 := hidIt (fun (w : World) (m : ModP (fun _ => False) wr w) => c63 (L := ⟨vp bt, s.term, s.vote, s.base, s.baseTerm, s.snap, s.base + k, lts, lds⟩) (m.at H1.out (fun f => f)) rfl (HS.out w (H3.out.trans m)) (A := s.al) (fun a => by have := NF.out _ a; omega) rfl hlast.out.symm G.out.mid (by simp))
      by_cases k6 : k = 6
      · have d2 : decide (s.base + (k : Int) - s.base < 6) = false := by simp; omega
        clear k6
        go_wp2_with fail
        refine Ord.region1 [] [0, 1, 2, 3, 4, 5, 6, 7, 8, 9, 10, 11, 12, 13, 14, 15, 16] [17, 18] (by kernel_rfl) (by kernel_rfl) (fun _ _ d _ _ h => by cases d <;> exact h) ?_
        simp only [Ord.pickO, Ord.nth]
        refine wpQuiet_nil ?_
        repeat (go_big_quiet_step (fail))
        refine wpQuiet_nil ?_
        go_wp2_with (first
          | (go_at_call 63; refine Calls.mono (q63.out _ (by first | exact ModP.refl _ _ | exact (ModP.refl _ _).drew | exact (ModP.refl _ _).drew.drew)) ?_; rintro _ w3 ⟨rfl, Gd, D', s3, g3, c3, a3, m3⟩; have g4 : (∀ k, Gd k → Fd k ∨ wr.heap.size ≤ k) := g3; have FIN := hidIt (And.intro s3 (And.intro g4 (And.intro c3 a3))); have M3 : Hid (ModP (fun k => Fd k ∨ k = bt) wr w3) := ModP.trans (by first | exact ModP.refl _ _ | exact (ModP.refl _ _).drew | exact (ModP.refl _ _).drew.drew) m3; clear s3 g3 c3 a3 m3 g4))
        go_ret
        obtain ⟨s3, g3, c3, a3⟩ := FIN.out
        obtain ⟨t1, t2, t3⟩ := c3.tie hN
        have hz3 := H3.out.size
        refine ⟨bl, D'.wr.length, rfl, hge, t2, ⟨Gd, bt, _, D', a3, rfl, LRR.out, s3, t1, ?_, .inr (.inr hge), .inr (.inl rfl), ?_⟩, (H3.out.mono (fun _ f => f.elim)).trans M3.out, t3⟩
        · intro k a
          rcases g3 k a with a | a
          · exact .inl a
          · exact .inr (.inr (by omega))
        · intro a
          rcases g3 _ a with a | a
          · have := NF.out _ a; omega
          · have : bl < wr.heap.size := H1.out.inB
            omega
      · have d2 : decide (s.base + (k : Int) - s.base < 6) = true := by simp; omega
        have q62 := hidIt (fun (w : World) (m : ModP (fun _ => False) wr w) => c62_f (L := ⟨vp bt, s.term, s.vote, s.base, s.baseTerm, s.snap, s.base + k, lts, lds⟩) (m.at H1.out (fun f => f)) rfl (HS.out w (H3.out.trans m)) (i := s.base + (k : Int) + 1) (by omega) (by omega) (fun hu e => by
          have := (hdn.out _ (slN_lt _) hu).2.2
          have e' : (stRec l (slN (s.base + (k : Int) + 1))).idx = s.base + (k : Int) + 1 := e
          rw [hlast.out] at this
          have t' : (stRec l (slN (s.base + (k : Int) + 1))).idx ≤ s.base + (k : Int) := this
          omega))
        clear k6
        go_wp2_with fail
        refine Ord.region1 [] [0, 1, 2, 3, 4, 5, 6, 7, 8, 9, 10, 11, 12, 13, 14, 15, 16] [17, 18] (by kernel_rfl) (by kernel_rfl) (fun _ _ d _ _ h => by cases d <;> exact h) ?_
        simp only [Ord.pickO, Ord.nth]
        refine wpQuiet_nil ?_
        repeat (go_big_quiet_step (fail))
        refine wpQuiet_nil ?_
        go_wp2_with (first
          | (go_at_call 62; refine Calls.mono (q62.out _ (by first | exact ModP.refl _ _ | exact (ModP.refl _ _).drew | exact (ModP.refl _ _).drew.drew)) ?_; rintro _ w2 ⟨rfl, m2⟩; have M2 : Hid (ModP (fun _ => False) wr w2) := (ModP.trans (by first | exact ModP.refl _ _ | exact (ModP.refl _ _).drew | exact (ModP.refl _ _).drew.drew) m2); clear m2 hc ib q62)
          | (go_at_call 63; refine Calls.mono (q63.out _ M2.out) ?_; rintro _ w3 ⟨rfl, Gd, D', s3, g3, c3, a3, m3⟩; have g4 : (∀ k, Gd k → Fd k ∨ wr.heap.size ≤ k) := (fun k a => (g3 k a).imp id (fun q => Nat.le_trans M2.out.size q)); have FIN := hidIt (And.intro s3 (And.intro g4 (And.intro c3 a3))); have M3 : Hid (ModP (fun k => Fd k ∨ k = bt) wr w3) := ModP.trans (M2.out.mono (fun _ f => f.elim)) m3; clear s3 g3 c3 a3 m3 g4))
        go_ret
        obtain ⟨s3, g3, c3, a3⟩ := FIN.out
        obtain ⟨t1, t2, t3⟩ := c3.tie hN
        have hz3 := H3.out.size
        refine ⟨bl, D'.wr.length, rfl, hge, t2, ⟨Gd, bt, _, D', a3, rfl, LRR.out, s3, t1, ?_, .inr (.inr hge), .inr (.inl rfl), ?_⟩, (H3.out.mono (fun _ f => f.elim)).trans M3.out, t3⟩
        · intro k a
          rcases g3 k a with a | a
          · exact .inl a
          · exact .inr (.inr (by omega))
        · intro a
          rcases g3 _ a with a | a
          · have := NF.out _ a; omega
          · have : bl < wr.heap.size := H1.out.inB
            omega
end
end Go.Proofs.Qxb6500990aGreat
