/- package kv: Restore -/
import Derived.Test.Qxb6500990aGreatKv19
set_option linter.unusedVariables false
set_option linter.unusedSimpArgs false
namespace Go.Tw
open Go Go.Proofs Go.Proofs.Qxb6500990aGreat
def RestP (W : World) (b : Nat) (Kx : KvX) (A : AK) (s : Bs) (r : Ending) (w' : World) : Prop := r = .returned (vi (A.restore s).1) ∧ (∃ K' : KvX, w'.At b K'.cells 175 ∧ (KvRel Kx A → KvRel K' (A.restore s).2)) ∧ ModP (fun x => x = b) W w'
theorem RestP.bad {W w' : World} {b : Nat} {Kx : KvX} {A : AK} {s : Bs} (hn : restoreO s = none) (hb : w'.At b Kx.cells 175) (m : ModP (fun _ => False) W w') : RestP W b Kx A s (.returned (vi 15)) w' := by
  have e : A.restore s = (15, A) := by unfold AK.restore; rw [hn]
  unfold RestP
  rw [e]
  exact ⟨rfl, ⟨Kx, hb, fun h => h⟩, m.mono fun _ f => f.elim⟩
end Go.Tw
namespace Go.Proofs.Qxb6500990aGreat
open Go Go.RowKit Go.Tw
attribute [local go_sem] World.cell?_put_same World.cell?_put_ne World.cell?_put_ne' World.frozen?_put_same World.frozen?_put_ne World.frozen?_put_ne' World.setCell_put_same World.setCell_put_ne World.setCell_put_ne' World.inB_put World.inB_alloc World.inB_drew World.inB_drewN World.inB_new World.inB_setCell World.put_drew World.put_drewN World.q_setCell_drew World.q_setCell_drewN World.q_alloc_drew World.q_alloc_drewN World.put_put_same World.put_put_2 World.size_put World.q_cell?_alloc_old World.q_frozen?_alloc_old World.cell?_alloc_new' World.frozen?_alloc_new' World.q_setCell_alloc_old World.q_setCell_alloc_new World.q_put_alloc_old World.cell?_force_same World.frozen?_force_same World.cell?_force2_fst World.cell?_force2_snd KvX.g0 KvX.g1 KvX.g2 KvX.g3 KvX.g4 KvX.g5 KvX.g6 KvX.g7 KvX.g8 KvX.g9 KvX.g10 KvX.g11 KvX.g12 KvX.g13 KvX.g14 KvX.g15 KvX.g16 KvX.g17 KvX.g18 KvX.g19 KvX.g20 KvX.g21 KvX.g22 KvX.g23 KvX.g24 KvX.g25 KvX.g26 KvX.g27 KvX.g28 KvX.g29 KvX.g30 KvX.g31 KvX.g32 KvX.g33 KvX.g34 KvX.g35 KvX.g36 KvX.g37 KvX.g38 KvX.g39 KvX.g40 KvX.g41 KvX.g42 KvX.g43 KvX.g44 KvX.g45 KvX.g46 KvX.g47 KvX.g48 KvX.g49 KvX.g50 KvX.g51 KvX.g52 KvX.g53 KvX.g54 KvX.g55 KvX.g56 KvX.g57 KvX.g58 KvX.g59 KvX.g60 KvX.g61 KvX.g62 KvX.g63 KvX.g64 KvX.g65 KvX.g66 KvX.g67 KvX.g68 KvX.g69 KvX.g70 KvX.g71 KvX.g72 KvX.g73 KvX.g74 KvX.g75 KvX.g76 KvX.g77 KvX.g78 KvX.g79 KvX.g80 KvX.g81 KvX.g82 KvX.g83 KvX.gi_cells__0 KvX.gi_cells__1 KvX.gi_cells__2 KvX.gi_cells__3 KvX.gi_cells__4 KvX.gi_cells__5 KvX.gi_cells__6 KvX.gi_cells__7 KvX.gi_ss_0 KvX.gi_ss_1 KvX.gi_ss_2 KvX.gi_ss_3 KvX.gi_ss_4 KvX.gi_ss_5 KvX.gia_cells__1 KvX.gia_cells__2 KvX.gia_cells__3 KvX.gia_cells__4 KvX.gia_cells__5 KvX.gia_cells__6 KvX.gia_cells__7 KvX.gia_ss_1 KvX.gia_ss_2 KvX.gia_ss_3 KvX.gia_ss_4 KvX.gia_ss_5 KvX.pa_cells_ KvX.pa_ss KvX.s64 KvX.s65 Reader.g0 Reader.s0 Reader.g1 Reader.s1 Reader.g2 Reader.s2 TableR.g0 TableR.g1 TableR.g2 TableR.g3 TableR.g4 TableR.g5 TableR.g6 TableR.g7 TableR.g8 TableR.g9 TableR.g10 TableR.g11 TableR.g12 TableR.g13 TableR.g14 TableR.g15 TableR.g16 TableR.g17 TableR.g18 TableR.g19 TableR.g20 TableR.g21 TableR.g22 TableR.g23 TableR.g24 TableR.g25 TableR.g26 TableR.g27 TableR.g28 TableR.g29 TableR.g30 TableR.g31 TableR.g32 TableR.g33 TableR.g34 TableR.g35 TableR.g36 TableR.g37 TableR.g38 TableR.g39 TableR.g40 TableR.g41 TableR.g42 TableR.g43 TableR.g44 TableR.g45 TableR.g46 TableR.g47 TableR.g48 TableR.g49 TableR.g50 TableR.g51 TableR.g52 TableR.g53 TableR.g54 TableR.g55 TableR.g56 TableR.g57 TableR.g58 TableR.g59 TableR.g60 TableR.g61 TableR.g62 TableR.g63 TableR.g64 TableR.g65 TableR.gi_cells__0 TableR.gi_cells__1 TableR.gi_cells__2 TableR.gi_cells__3 TableR.gi_cells__4 TableR.gi_cells__5 TableR.gi_cells__6 TableR.gi_cells__7 TableR.gia_cells__1 TableR.gia_cells__2 TableR.gia_cells__3 TableR.gia_cells__4 TableR.gia_cells__5 TableR.gia_cells__6 TableR.gia_cells__7 TableR.s64 TableR.s65 TableR.pa_cells_ Sess3.g0 Sess3.g1 Sess3.g2 Sess3.g3 Sess3.g4 Sess3.g5 Sess3.g6 Sess3.g7 Sess3.g8 Sess3.g9 Sess3.g10 Sess3.g11 Sess3.g12 Sess3.g13 Sess3.g14 Sess3.g15 Sess3.g16 Sess3.g17 Sess3.gi_ss_0 Sess3.gi_ss_1 Sess3.gi_ss_2 Sess3.gi_ss_3 Sess3.gi_ss_4 Sess3.gi_ss_5 Sess3.gia_ss_1 Sess3.gia_ss_2 Sess3.gia_ss_3 Sess3.gia_ss_4 Sess3.gia_ss_5 Sess3.pa_ss Cell.g0 Cell.s0 Cell.g1 Cell.s1 Cell.g2 Cell.s2 Cell.g3 Cell.s3 Cell.g4 Cell.s4 Cell.g5 Cell.s5 Cell.g6 Cell.s6 Cell.g7 Cell.s7 Cell.gi_key_0 Cell.si_key_0 Cell.gi_val_0 Cell.si_val_0 Sess.g0 Sess.s0 Sess.g1 Sess.s1 Sess.g2 Sess.s2 Sess.g3 Sess.s3 Sess.g4 Sess.s4 Sess.g5 Sess.s5 Sess.gi_val_0 Sess.si_val_0
attribute [local go_sem] ba_get
set_option maxHeartbeats 4000000
set_option maxRecDepth 100000
section
variable {W : World} {b : Nat} {Kx : KvX}
theorem c125_main (h : W.At b Kx.cells 175) (A : AK) (s : Bs) (hl : s.length ≤ 1000) (h1 : 1 ≤ s.length) (h4 : byt s 0 ≤ 4) : Calls Tryz.prog 125 #[vp b, vs s] W (RestP W b Kx A s) := by
  have H0 := hidIt (ReB.start h s)
  have q1 := hidIt (c178_ok (q := 0) H0.out.hr hl h1)
  obtain ⟨N, hN⟩ := Int.eq_ofNat_of_zero_le (byt_bd s 0)
  have hro : Hid (restoreO s = restT s (rPairs s N)) := by
    unfold Hid
    rw [restoreO_eq, if_neg (by omega), hN]; rfl
  rw [hN] at q1 h4
  have n4 : N ≤ 4 := by omega
  have d1 : decide ((N : Int) > 4) = false := by simp; omega
  have HL := hidIt hl
  have H1' := hidIt h1
  have hb : b < W.heap.size := h.inB
  clear h h4 hN hl h1
  go_enter Tryz.func125, Tryz.ntmps125
  go_wp2_with (first
    | (go_at_call 178; refine q1.out.mono ?_; rintro _ w1 ⟨rfl, a1, m1⟩; have H1 := hidIt (H0.out.setR (rd' := ⟨s, 1, false⟩) a1 m1); clear a1 m1 q1 H0))
  go_loopw [9, 10] (fun bv iv u => ∃ (i : Nat) (ps : List (Bs × Bs)) (q : Nat) (f : Nat → Cell) (l t : Int), i ≤ N ∧ iv = vi i ∧ bv = vs (lastK ps) ∧ Hid (PairSt s i ps q f l t) ∧ Hid (ReB W b Kx u ⟨s, q, false⟩ ⟨f, l, t⟩ ⟨fun _ => zSess⟩)) (fun _ iv _ => N - (intOf iv).toNat)
  case atStart => exact ⟨0, [], 1, _, 0, 0, by omega, rfl, rfl, PairSt.start s H1'.out, H1⟩
  case round =>
    clear H1
    obtain ⟨i, ps, q, f, l, t, hi, rfl, rfl, P, H1⟩ := hrel
    have hr1 := H1.out.hr.cell
    have ir1 := H1.out.hr.inB
    by_cases hin : i < N
    · have fl : Hid (rPairs s (i + 1) = none → restoreO s = none) := by
        intro hn
        rw [hro.out, rPairs_none N (i + 1) (by omega) hn]; rfl
      have hq := P.out.q1
      by_cases ha : (takeS s q 1 2).2 < 0
      · have hn := hidIt (fl.out (P.out.bad0 ha))
        have qa := hidIt (c179_no H1.out.hr HL.out (by have := HL.out; omega) ha)
        clear ha fl
        go_wp2_with (first
          | (go_at_call 179; refine qa.out.mono ?_; rintro _ w2 ⟨rfl, ⟨p', a2⟩, m2⟩; have H2 := hidIt (H1.out.setR (rd' := ⟨s, p', true⟩) a2 m2); have qb := hidIt (c179_bad H2.out.hr 0 3); clear a2 m2 qa H1 hr1 ir1)
          | (go_at_call 179; refine qb.out.mono ?_; rintro _ w3 ⟨rfl, a3, m3⟩; have H3 := hidIt (H2.out.setR (rd' := ⟨s, p', true⟩) a3 m3); have hc := H3.out.hr.cell; have ib := H3.out.hr.inB; clear a3 m3 qb H2))
        go_ret
        exact RestP.bad hn.out H3.out.hb H3.out.md
      obtain ⟨q', hq'⟩ := Int.eq_ofNat_of_zero_le (show 0 ≤ (takeS s q 1 2).2 by omega)
      have bd1 := (takeS_bd s q 1 2 (by omega)).2
      have kl1 := takeS_val s q 1 2 (by omega) (by decide)
      have qa := hidIt (c179_yes H1.out.hr HL.out (lo := 1) (hi := 2) (by decide) (by omega))
      have bd := hidIt (fun hb => P.out.bad hb (by omega))
      have nx := hidIt (fun h2 h3 => (P.out.good (by omega) h2 h3).2)
      have nt := hidIt (fun h2 h3 f' l' t' => P.out.next (by omega) h2 h3 (f' := f') (l' := l') (t' := t'))
      rw [hq'] at qa bd nx nt bd1
      by_cases hb2 : (takeS s q' 0 3).2 < 0
      · have hn := hidIt (fl.out (bd.out (.inl hb2)))
        have qb := hidIt (fun (u : World) (hu : u.At W.heap.size (Reader.cells ⟨s, q', false⟩) 252) => c179_no hu HL.out (by have := HL.out; omega) hb2)
        generalize (takeS s q 1 2).1 = key at *
        clear hb2 fl ha bd nx nt hq' P
        go_wp2_with (first
          | (go_at_call 179; refine qa.out.mono ?_; rintro _ w2 ⟨rfl, a2, m2⟩; have H2 := hidIt (H1.out.setR (rd' := ⟨s, q', false⟩) a2 m2); clear a2 m2 qa H1 hr1 ir1)
          | (go_at_call 179; refine (qb.out _ H2.out.hr).mono ?_; rintro _ w3 ⟨rfl, ⟨p', a3⟩, m3⟩; have H3 := hidIt (H2.out.setR (rd' := ⟨s, p', true⟩) a3 m3); have hc := H3.out.hr.cell; have ib := H3.out.hr.inB; clear a3 m3 qb H2))
        go_ret
        exact RestP.bad hn.out H3.out.hb H3.out.md
      obtain ⟨q2, hq2⟩ := Int.eq_ofNat_of_zero_le (show 0 ≤ (takeS s q' 0 3).2 by omega)
      have kl2 := takeS_val s q' 0 3 (by omega) (by decide)
      have qb := hidIt (fun (u : World) (hu : u.At W.heap.size (Reader.cells ⟨s, q', false⟩) 252) => c179_yes hu HL.out (lo := 0) (hi := 3) (by decide) (by omega))
      by_cases hc3 : Op.bytesLess (lastK ps) (takeS s q 1 2).1 = false
      · have hn := hidIt (fl.out (bd.out (.inr hc3)))
        rw [hq2] at qb
        generalize (takeS s q 1 2).1 = key at *
        generalize (takeS s q' 0 3).1 = val at *
        clear hb2 fl ha bd nx nt hq' P hq2
        generalize lastK ps = lk at *
        by_cases ek : key = lk
        · have b1 : Op.bytesLess key lk = false := by rw [ek]; exact less_irrefl _
          have b2 : (key == lk) = true := by simpa using ek
          clear ek hc3
          go_wp2_with (first
            | (go_at_call 179; refine qa.out.mono ?_; rintro _ w2 ⟨rfl, a2, m2⟩; have H2 := hidIt (H1.out.setR (rd' := ⟨s, q', false⟩) a2 m2); clear a2 m2 qa H1 hr1 ir1)
            | (go_at_call 179; refine (qb.out _ H2.out.hr).mono ?_; rintro _ w3 ⟨rfl, a3, m3⟩; have H3 := hidIt (H2.out.setR (rd' := ⟨s, q2, false⟩) a3 m3); have hc := H3.out.hr.cell; have ib := H3.out.hr.inB; clear a3 m3 qb H2))
          go_ret
          exact RestP.bad hn.out H3.out.hb H3.out.md
        · have b1 : Op.bytesLess key lk = true := less_total hc3 (fun e => ek e.symm)
          clear ek hc3
          go_wp2_with (first
            | (go_at_call 179; refine qa.out.mono ?_; rintro _ w2 ⟨rfl, a2, m2⟩; have H2 := hidIt (H1.out.setR (rd' := ⟨s, q', false⟩) a2 m2); clear a2 m2 qa H1 hr1 ir1)
            | (go_at_call 179; refine (qb.out _ H2.out.hr).mono ?_; rintro _ w3 ⟨rfl, a3, m3⟩; have H3 := hidIt (H2.out.setR (rd' := ⟨s, q2, false⟩) a3 m3); have hc := H3.out.hr.cell; have ib := H3.out.hr.inB; clear a3 m3 qb H2))
          go_ret
          exact RestP.bad hn.out H3.out.hb H3.out.md
      · have hc4 : Op.bytesLess (lastK ps) (takeS s q 1 2).1 = true := by simpa using hc3
        have nd := nx.out (by omega) hc4
        have NT := hidIt (fun f' l' t' => nt.out (by omega) hc4 f' l' t')
        have q180 := hidIt (fun (u : World) (hu : u.At (W.heap.size + 1) (TableR.cells ⟨f, l, t⟩) 170) => t180 hu (ps := ps) P.out.tk (by have := P.out.n; omega) (key := (takeS s q 1 2).1) (val := (takeS s q' 0 3).1) (by omega) (by omega) (by omega) nd)
        rw [hq2] at qb NT
        have ls := hidIt (lastK_snoc ps (takeS s q 1 2).1 (takeS s q' 0 3).1)
        generalize (takeS s q 1 2).1 = key at *
        generalize (takeS s q' 0 3).1 = val at *
        have b2 : (key == lastK ps) = false := by
          simp only [beq_eq_false_iff_ne, ne_eq]
          intro e
          rw [e, less_irrefl] at hc4
          cases hc4
        have b1 : Op.bytesLess key (lastK ps) = false := by
          cases hbb : Op.bytesLess key (lastK ps) with
          | false => rfl
          | true => have := less_trans hc4 hbb; rw [less_irrefl] at this; cases this
        clear hb2 fl ha bd nx nt hq' hq2 hc3 nd P hc4
        generalize lastK ps = lk at *
        go_wp2_with (first
          | (go_at_call 179; refine qa.out.mono ?_; rintro _ w2 ⟨rfl, a2, m2⟩; have H2 := hidIt (H1.out.setR (rd' := ⟨s, q', false⟩) a2 m2); clear a2 m2 qa H1 hr1 ir1)
          | (go_at_call 179; refine (qb.out _ H2.out.hr).mono ?_; rintro _ w3 ⟨rfl, a3, m3⟩; have H3 := hidIt (H2.out.setR (rd' := ⟨s, q2, false⟩) a3 m3); have hc := H3.out.hr.cell; have ib := H3.out.hr.inB; clear a3 m3 qb H2)
          | (go_at_call 180; refine (q180.out _ H3.out.ht).mono ?_; rintro _ w4 ⟨rfl, f', l', t', a4, t4, m4⟩; have H4 := hidIt (H3.out.setT (tb' := ⟨f', l', t'⟩) a4 m4); have P4 := hidIt (NT.out f' l' t' t4); clear a4 m4 t4 H3 hc ib q180))
        go_roundw
        case rel => exact ⟨i + 1, ps ++ [(key, val)], q2, f', l', t', by omega, by go_num, by rw [ls.out], P4, H4⟩
        case measure => simp [intOf]; omega
    · have hr : Hid (rPairs s N = some (ps, (q : Int))) := by
        have e : i = N := by omega
        subst e
        exact P.out.r
      have hT := hidIt P.out.tk
      have d2 : decide (i < N) = false := by simpa using hin
      have hfin : Hid (restoreO s = restT2 s ps (rSess s q 3)) := by unfold Hid; rw [hro.out, hr.out]; rfl
      have hq0 := P.out.q1
      clear hro hr P hin
      generalize lastK ps = lk at *
      go_wp2_with fail
      go_loopw [13] (fun cv u => ∃ (c : Nat) (ss : List (Int × Ans)) (q' : Nat), c ≤ 3 ∧ cv = vi c ∧ Hid (rSess s q c = some (ss, (q' : Int))) ∧ q' ≤ s.length ∧ Hid (ss.length = c) ∧ Hid (ReB W b Kx u ⟨s, q', false⟩ ⟨f, l, t⟩ ⟨seF ss⟩)) (fun cv _ => 3 - (intOf cv).toNat)
      case atStart => exact ⟨0, [], q, by omega, rfl, rfl, hq0, rfl, H1⟩
      case round =>
        clear H1 hr1 ir1 hq0 d2
        obtain ⟨c, ss, q', hc3, rfl, HS, hq', hsl, H1⟩ := hrel
        have hr1 := H1.out.hr.cell
        have ir1 := H1.out.hr.inB
        by_cases hcn : c < 3
        · have fl : Hid (rSess s q (c + 1) = none → restoreO s = none) := by
            intro hn
            rw [hfin.out, rSess_none 3 (c + 1) (by omega) hn]; rfl
          have hsu := rSess_succ HS.out
          have c5 : (c : Int) < 3 := by omega
          have L1 := HL.out
          by_cases hg : getU64 s q' < 0
          · have hn := hidIt (fl.out (by rw [hsu, if_pos (.inl hg)]))
            have qa := hidIt (c181_no H1.out.hr HL.out (by omega) (by omega) hg)
            clear fl hsu hg L1
            go_wp2_with (first
              | (go_at_call 181; refine qa.out.mono ?_; rintro _ w1 ⟨rfl, a1, m1⟩; have H2 := hidIt (H1.out.setR (rd' := ⟨s, q', true⟩) a1 m1); have q3 := hidIt (c178_bad H2.out.hr); clear a1 m1 qa H1 hr1 ir1)
              | (go_at_call 178; refine q3.out.mono ?_; rintro _ w2 ⟨rfl, a2, m2⟩; have H3 := hidIt (H2.out.setR (rd' := ⟨s, q', true⟩) a2 m2); have q4 := hidIt (c179_bad H3.out.hr 0 3); clear a2 m2 q3 H2)
              | (go_at_call 179; refine q4.out.mono ?_; rintro _ w3 ⟨rfl, a3, m3⟩; have H4 := hidIt (H3.out.setR (rd' := ⟨s, q', true⟩) a3 m3); have hc := H4.out.hr.cell; have ib := H4.out.hr.inB; clear a3 m3 q4 H3))
            go_ret
            exact RestP.bad hn.out H4.out.hb H4.out.md
          have qa := hidIt (c181_yes H1.out.hr HL.out (by omega) (by omega) (by omega))
          have g1 := getU64_bd s q'
          by_cases he : (s.length : Int) ≤ (q' : Int) + 8
          · have hn := hidIt (fl.out (by rw [hsu, if_pos (.inr (.inl he))]))
            have qb := hidIt (fun (u : World) (hu : u.At W.heap.size (Reader.cells ⟨s, (q' : Int) + 8, false⟩) 252) => c178_end hu he)
            generalize getU64 s q' = g at *
            clear fl hsu hg L1 he g1
            go_wp2_with (first
              | (go_at_call 181; refine qa.out.mono ?_; rintro _ w1 ⟨rfl, a1, m1⟩; have H2 := hidIt (H1.out.setR (rd' := ⟨s, (q' : Int) + 8, false⟩) a1 m1); have q3 := hidIt (qb.out _ H2.out.hr); clear a1 m1 qa H1 hr1 ir1)
              | (go_at_call 178; refine q3.out.mono ?_; rintro _ w2 ⟨rfl, a2, m2⟩; have H3 := hidIt (H2.out.setR (rd' := ⟨s, (q' : Int) + 8, true⟩) a2 m2); have q4 := hidIt (c179_bad H3.out.hr 0 3); clear a2 m2 q3 H2)
              | (go_at_call 179; refine q4.out.mono ?_; rintro _ w3 ⟨rfl, a3, m3⟩; have H4 := hidIt (H3.out.setR (rd' := ⟨s, (q' : Int) + 8, true⟩) a3 m3); have hc := H4.out.hr.cell; have ib := H4.out.hr.inB; clear a3 m3 q4 H3))
            go_ret
            exact RestP.bad hn.out H4.out.hb H4.out.md
          have qb := hidIt (fun (u : World) (hu : u.At W.heap.size (Reader.cells ⟨s, ((q' + 8 : Nat) : Int), false⟩) 252) => c178_ok hu HL.out (by omega))
          have e8 : ((q' : Int) + 8).toNat = q' + 8 := by omega
          rw [e8] at hsu
          have eb0 := byt_bd s (q' + 8)
          have e9 : (q' : Int) + 9 = ((q' + 9 : Nat) : Int) := by omega
          rw [e9] at hsu
          by_cases hv : (takeS s ((q' + 9 : Nat) : Int) 0 3).2 < 0
          · have hn := hidIt (fl.out (by rw [hsu, if_pos (.inr (.inr (.inr hv)))]))
            have qc := hidIt (fun (u : World) (hu : u.At W.heap.size (Reader.cells ⟨s, ((q' + 9 : Nat) : Int), false⟩) 252) => c179_no hu HL.out (by omega) hv)
            generalize getU64 s q' = g at *
            generalize byt s (q' + 8) = e at *
            clear fl hsu hg L1 he g1 hv e8 e9
            go_wp2_with (first
              | (go_at_call 181; refine qa.out.mono ?_; rintro _ w1 ⟨rfl, a1, m1⟩; have H2 := hidIt (H1.out.setR (rd' := ⟨s, ((q' + 8 : Nat) : Int), false⟩) a1 m1); have q3 := hidIt (qb.out _ H2.out.hr); clear a1 m1 qa H1 hr1 ir1)
              | (go_at_call 178; refine q3.out.mono ?_; rintro _ w2 ⟨rfl, a2, m2⟩; have H3 := hidIt (H2.out.setR (rd' := ⟨s, ((q' + 9 : Nat) : Int), false⟩) a2 m2); have q4 := hidIt (qc.out _ H3.out.hr); clear a2 m2 q3 H2)
              | (go_at_call 179; refine q4.out.mono ?_; rintro _ w3 ⟨rfl, ⟨p', a3⟩, m3⟩; have H4 := hidIt (H3.out.setR (rd' := ⟨s, p', true⟩) a3 m3); have hc := H4.out.hr.cell; have ib := H4.out.hr.inB; clear a3 m3 q4 H3))
            go_ret
            exact RestP.bad hn.out H4.out.hb H4.out.md
          obtain ⟨q2, hq2⟩ := Int.eq_ofNat_of_zero_le (show 0 ≤ (takeS s ((q' + 9 : Nat) : Int) 0 3).2 by omega)
          have bd2 := (takeS_bd s ((q' + 9 : Nat) : Int) 0 3 (by omega)).2
          have kl2 := takeS_val s ((q' + 9 : Nat) : Int) 0 3 (by omega) (by decide)
          have qc := hidIt (fun (u : World) (hu : u.At W.heap.size (Reader.cells ⟨s, ((q' + 9 : Nat) : Int), false⟩) 252) => c179_yes hu HL.out (lo := 0) (hi := 3) (by decide) (by omega))
          rw [hq2] at qc bd2 hsu
          by_cases h16 : 16 ≤ byt s (q' + 8)
          · have hn := hidIt (fl.out (by rw [hsu, if_pos (.inr (.inr (.inl h16)))]))
            have d6 : decide (byt s (q' + 8) ≥ 16) = true := by simpa using h16
            generalize getU64 s q' = g at *
            generalize byt s (q' + 8) = e at *
            generalize (takeS s ((q' + 9 : Nat) : Int) 0 3).1 = val at *
            clear fl hsu hg L1 he g1 hv e8 e9 h16 hq2
            go_wp2_with (first
              | (go_at_call 181; refine qa.out.mono ?_; rintro _ w1 ⟨rfl, a1, m1⟩; have H2 := hidIt (H1.out.setR (rd' := ⟨s, ((q' + 8 : Nat) : Int), false⟩) a1 m1); have q3 := hidIt (qb.out _ H2.out.hr); clear a1 m1 qa H1 hr1 ir1)
              | (go_at_call 178; refine q3.out.mono ?_; rintro _ w2 ⟨rfl, a2, m2⟩; have H3 := hidIt (H2.out.setR (rd' := ⟨s, ((q' + 9 : Nat) : Int), false⟩) a2 m2); have q4 := hidIt (qc.out _ H3.out.hr); clear a2 m2 q3 H2)
              | (go_at_call 179; refine q4.out.mono ?_; rintro _ w3 ⟨rfl, a3, m3⟩; have H4 := hidIt (H3.out.setR (rd' := ⟨s, q2, false⟩) a3 m3); have hc := H4.out.hr.cell; have ib := H4.out.hr.inB; clear a3 m3 q4 H3))
            go_ret
            exact RestP.bad hn.out H4.out.hb H4.out.md
          · have hnx : Hid (rSess s q (c + 1) = some (ss ++ [(getU64 s q', ⟨byt s (q' + 8), (takeS s ((q' + 9 : Nat) : Int) 0 3).1⟩)], (q2 : Int))) := by
              unfold Hid
              rw [hsu, if_neg]
              omega
            have d6 : decide (byt s (q' + 8) ≥ 16) = false := by simpa using h16
            have q182 := hidIt (fun u => c182 u (getU64 s q') ⟨byt s (q' + 8), (takeS s ((q' + 9 : Nat) : Int) 0 3).1⟩ (by simp only []; omega))
            have sn := hidIt (seF_snoc ss (getU64 s q') ⟨byt s (q' + 8), (takeS s ((q' + 9 : Nat) : Int) 0 3).1⟩ c hsl.out.symm)
            simp only [Sess.cells, Ans.cells] at q182
            generalize getU64 s q' = g at *
            generalize byt s (q' + 8) = e at *
            generalize (takeS s ((q' + 9 : Nat) : Int) 0 3).1 = val at *
            clear fl hsu hg L1 he g1 hv e8 e9 h16 hq2
            go_wp2_with (first
              | (go_at_call 181; refine qa.out.mono ?_; rintro _ w1 ⟨rfl, a1, m1⟩; have H2 := hidIt (H1.out.setR (rd' := ⟨s, ((q' + 8 : Nat) : Int), false⟩) a1 m1); have q3 := hidIt (qb.out _ H2.out.hr); clear a1 m1 qa H1 hr1 ir1)
              | (go_at_call 178; refine q3.out.mono ?_; rintro _ w2 ⟨rfl, a2, m2⟩; have H3 := hidIt (H2.out.setR (rd' := ⟨s, ((q' + 9 : Nat) : Int), false⟩) a2 m2); have q4 := hidIt (qc.out _ H3.out.hr); clear a2 m2 q3 H2)
              | (go_at_call 179; refine q4.out.mono ?_; rintro _ w3 ⟨rfl, a3, m3⟩; have H4 := hidIt (H3.out.setR (rd' := ⟨s, q2, false⟩) a3 m3); have hc := H4.out.hr.cell; have ib := H4.out.hr.inB; clear a3 m3 q4 H3)
              | (go_at_call 182; refine (q182.out _).mono ?_; rintro _ w4 ⟨rfl, m4⟩; obtain ⟨y, rfl, iy, hy⟩ := (H4.out.mod m4).door; have HY := hidIt hy; clear hy m4 hc ib H4))
            go_roundw
            case rel => exact ⟨c + 1, ss ++ [(g, ⟨e, val⟩)], q2, by omega, by go_num, hnx, by omega, by have := hsl.out; unfold Hid; simp [this], by have := HY.out ⟨seF (ss ++ [(g, ⟨e, val⟩)])⟩; rw [← sn.out] at this ⊢; exact this⟩
            case measure => simp [intOf]; omega
        · have hS3 : Hid (rSess s q 3 = some (ss, (q' : Int))) := by
            have e : c = 3 := by omega
            subst e
            exact HS
          have d3 : decide ((c : Int) < 3) = false := by simp; omega
          clear hcn
          by_cases hqe : q' = s.length
          · have hro : Hid (restoreO s = some (ofSess ps ss)) := by
              unfold Hid
              rw [hfin.out, hS3.out]
              unfold restT2
              simp only []
              rw [if_pos (by omega)]
            have d4 : ((q' : Int) != (s.length : Int)) = false := by simp only [bne_eq_false_iff_eq]; omega
            have n1 : b ≠ W.heap.size + 1 := by omega
            have n2 : b ≠ W.heap.size + 2 := by omega
            have n3 : W.heap.size + 1 ≠ W.heap.size + 2 := by omega
            have nr1 : W.heap.size ≠ b := by omega
            have nr2 : W.heap.size ≠ W.heap.size + 1 := by omega
            have nr3 : W.heap.size ≠ W.heap.size + 2 := by omega
            have H2 := hidIt H1.out
            have fn := hidIt (fun g h => KvRel.restored (g := g) (h := h) hro.out hT.out)
            have hA : Hid (A.restore s = (0, ofSess ps ss)) := by unfold Hid AK.restore; rw [hro.out]
            clear hfin hS3 hqe
            go_wp2_with fail
            obtain ⟨y, e, i1, i2, i3⟩ := open3 H2.out.hb H2.out.ht H2.out.hs n1 n2 n3
            have MY : Hid (ModP (fun x => x = b) W y) := by
              have m := H2.out.md.mono (G := fun x => x = b) (fun _ f => f.elim)
              rw [e] at m
              exact ((ModP.unput m (.inr (by omega))).unput (.inr (by omega))).unput (.inl rfl)
            subst e
            clear H1 H2 hr1 ir1
            go_loopw [17] (fun iv u => ∃ (i : Nat) (y : World), i ≤ 8 ∧ iv = vi i ∧ u = ((y.put b (KvX.cells { Kx with cells_ := cpF f Kx.cells_ i }) 175).put (W.heap.size + 1) (TableR.cells ⟨f, l, t⟩) 170).put (W.heap.size + 2) (Sess3.cells ⟨seF ss⟩) 173 ∧ y.inB b ∧ y.inB (W.heap.size + 1) ∧ y.inB (W.heap.size + 2) ∧ Hid (ModP (fun x => x = b) W y)) (fun iv _ => 8 - (intOf iv).toNat)
            case atStart => exact ⟨0, y, by omega, rfl, by rw [cpF_0], i1, i2, i3, MY⟩
            case round =>
              clear i1 i2 i3 MY d3 d4
              clear y
              obtain ⟨j, y, hj, rfl, rfl, i1, i2, i3, MY⟩ := hrel
              by_cases hj8 : j < 8
              · have j9 : (j : Int) < 8 := by omega
                have st := hidIt (cpF_step f Kx.cells_ j)
                go_wp2_with fail
                refine Ord.region1 [] [0, 1, 2, 3, 4, 5, 6, 7, 8, 9] [10] (by kernel_rfl) (by kernel_rfl) (fun _ _ d _ _ h => by cases d <;> exact h) ?_
                simp only [Ord.pickO, Ord.nth]
                refine wpQuiet_nil ?_
                repeat (go_big_quiet_step (fail))
                refine wpQuiet_nil ?_
                go_wp2_with fail
                go_roundw
                case rel => exact ⟨j + 1, y.drew, by omega, by go_num, by rw [← st.out]; rfl, i1, i2, i3, MY.out.drew⟩
                case measure => simp [intOf]; omega
              · have d8 : decide ((j : Int) < 8) = false := by simp; omega
                have e8 : Hid (j = 8) := by unfold Hid; omega
                clear hj8
                go_wp2_with fail
                go_loopw [18] (fun iv u => ∃ (i : Nat) (y : World), i ≤ 3 ∧ iv = vi i ∧ u = ((y.put b (KvX.cells ⟨cpF f Kx.cells_ j, l, t, cpF (seF ss) Kx.ss i⟩) 175).put (W.heap.size + 1) (TableR.cells ⟨f, l, t⟩) 170).put (W.heap.size + 2) (Sess3.cells ⟨seF ss⟩) 173 ∧ y.inB b ∧ y.inB (W.heap.size + 1) ∧ y.inB (W.heap.size + 2) ∧ Hid (ModP (fun x => x = b) W y)) (fun iv _ => 3 - (intOf iv).toNat)
                case atStart => exact ⟨0, y, by omega, rfl, by rw [cpF_0], i1, i2, i3, MY⟩
                case round =>
                  clear i1 i2 i3 MY d8
                  clear y
                  obtain ⟨m, y, hm, rfl, rfl, i1, i2, i3, MY⟩ := hrel
                  by_cases hm3 : m < 3
                  · have m9 : (m : Int) < 3 := by omega
                    have st := hidIt (cpF_step (seF ss) Kx.ss m)
                    go_wp2_with fail
                    refine Ord.region1 [] [0, 1, 2, 3, 4, 5, 6, 7] [8] (by kernel_rfl) (by kernel_rfl) (fun _ _ d _ _ h => by cases d <;> exact h) ?_
                    simp only [Ord.pickO, Ord.nth]
                    refine wpQuiet_nil ?_
                    repeat (go_big_quiet_step (fail))
                    refine wpQuiet_nil ?_
                    go_wp2_with fail
                    go_roundw
                    case rel => exact ⟨m + 1, y.drew, by omega, by go_num, by rw [← st.out]; rfl, i1, i2, i3, MY.out.drew⟩
                    case measure => simp [intOf]; omega
                  · have dm : decide ((m : Int) < 3) = false := by simp; omega
                    have e3 : Hid (m = 3) := by unfold Hid; omega
                    clear hm3
                    go_wp2_with fail
                    go_ret
                    unfold RestP
                    rw [hA.out]
                    refine ⟨rfl, ⟨⟨cpF f Kx.cells_ j, l, t, cpF (seF ss) Kx.ss m⟩, (by repeat (first | assumption | (with_reducible refine World.At_drew.2 ?_) | (with_reducible refine (World.At_drewN _).2 ?_) | (with_reducible exact World.At_put_same (by first | assumption | (simp only [World.inB, World.size_put, World.alloc, World.drew, World.drewN, Array.size_push] at *; omega))) | (with_reducible refine (World.At_put_ne' (by first | assumption | (exact Ne.symm (by assumption)) | (simp only [World.inB, World.size_put] at *; omega))).2 ?_) | (with_reducible exact World.At_alloc_new) | (with_reducible exact at_new (by first | rfl | (simp [World.size_put]; done) | (simp [World.size_put]; omega))) | (with_reducible refine World.At.alloc ?_ _))), fun _ => ?_⟩, ?_⟩
                    · rw [e8.out, e3.out]; exact fn.out _ _
                    · have := MY.out
                      exact (by repeat (first | assumption | exact ModP.refl _ _ | refine ModP.fromPut ?_ (by assumption) | apply ModP.alloc | apply ModP.drew | apply ModP.drewN | refine ModP.put ?_ (by first | (left; assumption) | (left; rfl) | (right; simp only [World.inB, World.size_put] at *; omega)) _ _))
          · have hn : Hid (restoreO s = none) := by
              unfold Hid
              rw [hfin.out, hS3.out]
              unfold restT2
              simp only []
              rw [if_neg (by omega)]
            have d4 : ((q' : Int) != (s.length : Int)) = true := by simp only [bne_iff_ne, ne_eq]; omega
            clear hqe
            go_wp2_with fail
            go_ret
            exact RestP.bad hn.out H1.out.hb H1.out.md
theorem c125 (h : W.At b Kx.cells 175) {A : AK} (R : KvRel Kx A) (s : Bs) (hl : s.length ≤ 1000) : Calls Tryz.prog 125 #[vp b, vs s] W fun r w' => r = .returned (vi (A.restore s).1) ∧ (∃ K' : KvX, w'.At b K'.cells 175 ∧ KvRel K' (A.restore s).2) ∧ ModP (fun x => x = b) W w' := by
  have key : Calls Tryz.prog 125 #[vp b, vs s] W (RestP W b Kx A s) := by
    by_cases h1 : s.length < 1
    · have e : s = [] := List.length_eq_zero_iff.1 (by omega)
      subst e
      refine (c125_nil h).mono ?_
      rintro _ w' ⟨rfl, m⟩
      exact RestP.bad (by unfold restoreO; rw [if_pos (.inl h1)]) (m.at h (fun f => f)) m
    · by_cases h4 : 4 < byt s 0
      · refine (c125_big h s hl (by omega) h4).mono ?_
        rintro _ w' ⟨rfl, m⟩
        exact RestP.bad (by unfold restoreO; rw [if_pos (.inr h4)]) (m.at h (fun f => f)) m
      · exact c125_main h A s hl (by omega) (by omega)
  refine key.mono ?_
  rintro r w' ⟨h1, ⟨K', h2, h3⟩, h4⟩
  exact ⟨h1, ⟨K', h2, h3 R⟩, h4⟩
end
end Go.Proofs.Qxb6500990aGreat
