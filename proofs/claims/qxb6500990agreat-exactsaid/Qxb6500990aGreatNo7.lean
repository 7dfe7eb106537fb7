/- package node: decode, the whole -/
import Derived.Test.Qxb6500990aGreatNo6
import Derived.Test.Qxb6500990aGreatSy5
import Derived.Deep.Cut
set_option linter.unusedVariables false
set_option linter.unusedSimpArgs false
namespace Go.Proofs.Qxb6500990aGreat
open Go Go.RowKit Go.Tw
attribute [local go_sem] World.cell?_put_same World.cell?_put_ne World.cell?_put_ne' World.frozen?_put_same World.frozen?_put_ne World.frozen?_put_ne' World.setCell_put_same World.setCell_put_ne World.setCell_put_ne' World.inB_put World.inB_alloc World.inB_drew World.inB_drewN World.inB_new World.inB_setCell World.put_drew World.put_drewN World.q_setCell_drew World.q_setCell_drewN World.q_alloc_drew World.q_alloc_drewN World.put_put_same World.put_put_2 World.size_put World.q_cell?_alloc_old World.q_frozen?_alloc_old World.cell?_alloc_new' World.frozen?_alloc_new' World.q_setCell_alloc_old World.q_setCell_alloc_new World.q_put_alloc_old World.cell?_force_same World.frozen?_force_same World.cell?_force2_fst World.cell?_force2_snd MsgR.g0 MsgR.s0 MsgR.g1 MsgR.s1 MsgR.g2 MsgR.s2 MsgR.g3 MsgR.s3 MsgR.g4 MsgR.s4 MsgR.g5 MsgR.s5 MsgR.g6 MsgR.s6 MsgR.g7 MsgR.s7 MsgR.g8 MsgR.s8 MsgR.g9 MsgR.s9 Dec.g0 Dec.s0 Dec.g1 Dec.s1 Dec.g2 Dec.s2 Dec.g3 Dec.s3
attribute [local go_sem] ba_get w64_byte ByteArray.extract_mk
set_option maxHeartbeats 4000000
set_option maxRecDepth 100000
theorem c134_main (W : World) (l : Bs) (h0 : 40 ≤ l.length) (h1 : l.length ≤ 234) (hs : sumF (bi (l.take (l.length - 2))) = byt l (l.length - 2) * 256 + byt l (l.length - 1)) : Calls Tryz.prog 134 #[vs l] W (DecR W l) := by
  have hk : Hid (decMsg l = decB l) := by unfold Hid decMsg; rw [if_neg (by omega), if_neg (by omega)]
  obtain ⟨e, he⟩ : ∃ e, e = l.length - 2 := ⟨_, rfl⟩
  have HEQ := hidIt he
  rw [← he] at hs
  have el : l.length = e + 2 := by omega
  have q := hidIt (fun u => c190 u l e (by omega) (by omega))
  have d1 : decide ((l.length : Int) < 40) = false := by simp; omega
  have d2 : decide ((l.length : Int) > 234) = false := by simp; omega
  have s1 : (l.length : Int) - 2 = (e : Int) := by omega
  obtain ⟨e1, he1⟩ : ∃ e1 : Nat, e1 = e + 1 := ⟨_, rfl⟩
  have s2 : (e : Int) + 1 = (e1 : Int) := by omega
  have i1 : e < l.length := by omega
  have i2 : e1 < l.length := by omega
  have i3 : (e : Int) < l.length := by omega
  have i4 : (e1 : Int) < l.length := by omega
  have b1 := byte_lt l[e]
  have b2 := byte_lt l[e1]
  have hb : byt l e = (l[e].toNat : Int) := by unfold byt; simp [List.getD_eq_getElem?_getD, i1]
  have hb2 : byt l (l.length - 1) = (l[e1].toNat : Int) := by rw [show l.length - 1 = e1 by omega]; unfold byt; simp [List.getD_eq_getElem?_getD, i2]
  rw [hb, hb2] at hs
  have ho : bits .or .i64 ((l[e].toNat : Int) * 256) (l[e1].toNat : Int) = (l[e].toNat : Int) * 256 + (l[e1].toNat : Int) := or_byte2 _ _ (by omega) (by omega) (by omega) (by omega)
  have HE : e ≤ l.length := by omega
  have HL : l.length ≤ 1000 := by omega
  have H38 : Hid (38 ≤ e) := by unfold Hid; omega
  rw [hs] at q
  have H0 : Hid (DcB W l e 0 false ⟨0, 0, 0, 0, 0, 0, 0, false, .slice none 0 0, []⟩ [] (((W.alloc (.cells (zMsg.r (.slice none 0 0)).cells 159)).alloc (.cells (Dec.cells ⟨l, 0, e, false⟩) 260)).alloc (.cells (zMsg.r (.slice none 0 0)).cells 159)).drew) := by
    refine DcB.drew ⟨World.At.alloc (at_new (by simp)) _, World.At.alloc (World.At.alloc World.At_alloc_new _) _, at_new (by simp), ownsRow_nil _ _ _ _, (by repeat (first | assumption | exact ModP.refl _ _ | refine ModP.fromPut ?_ (by assumption) | apply ModP.alloc | apply ModP.drew | apply ModP.drewN | refine ModP.put ?_ (by first | (left; assumption) | (left; rfl) | (right; simp only [World.inB, World.size_put] at *; omega)) _ _))⟩
  have P0 : Hid (0 ≤ e) := Nat.zero_le _
  have T0 : Hid True := trivial
  have T1 : Hid True := trivial
  have T2 : Hid True := trivial
  have T3 : Hid True := trivial
  have T4 : Hid True := trivial
  have T5 : Hid True := trivial
  have T6 : Hid True := trivial
  have T7 : Hid True := trivial
  have T8 : Hid True := trivial
  clear hb hb2 he he1 el hs h0 h1
  go_enter Tryz.func134, Tryz.ntmps134
  go_wp2_with (first
    | (go_at_call 190; refine (q.out _).mono ?_; rintro _ w1 ⟨rfl, ee⟩; obtain rfl := ee.symm))
  refine Ord.region1 [] [0, 1, 2, 3, 4, 5, 6, 7, 8, 9, 10, 11] [12] (by kernel_rfl) (by kernel_rfl) (fun _ _ d _ _ h => by cases d <;> exact h) ?_
  simp only [Ord.pickO, Ord.nth]
  refine wpQuiet_nil ?_
  repeat (go_big_quiet_step (fail))
  refine wpQuiet_nil ?_
  go_upto_region 18 with (first
    | (go_at_call 191; clear T0; refine (k191 H0.out.dr HE HL P0.out).mono ?_; rintro _ w1 ⟨k, p1, f1, ee, pp, rfl, a1, m1⟩; obtain ⟨yy, rfl, iy, hy⟩ := (H0.out.rd a1 m1).door; have HD := hidIt hy; have E0 := hidIt ee; have P1 := hidIt pp; clear a1 m1 hy ee pp H0)
    | (go_at_call 191; clear T1; refine (k191 (HD.out _ (by rfl)).dr HE HL (P1).out).mono ?_; rintro _ w1 ⟨fr, p2, f2, ee, pp, rfl, a1, m1⟩; obtain ⟨yy, rfl, iy, hy⟩ := ((HD.out _ (by rfl)).rd a1 m1).door; replace HD := hidIt hy; have E1 := hidIt ee; have P2 := hidIt pp; clear a1 m1 hy ee pp)
    | (go_at_call 191; clear T2; refine (k191 (HD.out _ (by rfl)).dr HE HL (P2).out).mono ?_; rintro _ w1 ⟨to, p3, f3, ee, pp, rfl, a1, m1⟩; obtain ⟨yy, rfl, iy, hy⟩ := ((HD.out _ (by rfl)).rd a1 m1).door; replace HD := hidIt hy; have E2 := hidIt ee; have P3 := hidIt pp; clear a1 m1 hy ee pp)
    | (go_at_call 191; clear T3; refine (k191 (HD.out _ (by rfl)).dr HE HL (P3).out).mono ?_; rintro _ w1 ⟨okv, p4, f4, ee, pp, rfl, a1, m1⟩; obtain ⟨yy, rfl, iy, hy⟩ := ((HD.out _ (by rfl)).rd a1 m1).door; replace HD := hidIt hy; have E3 := hidIt ee; have P4 := hidIt pp; clear a1 m1 hy ee pp)
    | (go_at_call 192; clear T4; refine (k192 (HD.out _ (by rfl)).dr HE HL (P4).out).mono ?_; rintro _ w1 ⟨te, p5, f5, ee, pp, rfl, a1, m1⟩; obtain ⟨yy, rfl, iy, hy⟩ := ((HD.out _ (by rfl)).rd a1 m1).door; replace HD := hidIt hy; have N0 := hidIt ee; have P5 := hidIt pp; clear a1 m1 hy ee pp)
    | (go_at_call 192; clear T5; refine (k192 (HD.out _ (by rfl)).dr HE HL (P5).out).mono ?_; rintro _ w1 ⟨ix, p6, f6, ee, pp, rfl, a1, m1⟩; obtain ⟨yy, rfl, iy, hy⟩ := ((HD.out _ (by rfl)).rd a1 m1).door; replace HD := hidIt hy; have N1 := hidIt ee; have P6 := hidIt pp; clear a1 m1 hy ee pp)
    | (go_at_call 192; clear T6; refine (k192 (HD.out _ (by rfl)).dr HE HL (P6).out).mono ?_; rintro _ w1 ⟨lt, p7, f7, ee, pp, rfl, a1, m1⟩; obtain ⟨yy, rfl, iy, hy⟩ := ((HD.out _ (by rfl)).rd a1 m1).door; replace HD := hidIt hy; have N2 := hidIt ee; have P7 := hidIt pp; clear a1 m1 hy ee pp)
    | (go_at_call 192; clear T7; refine (k192 (HD.out _ (by rfl)).dr HE HL (P7).out).mono ?_; rintro _ w1 ⟨cm, p8, f8, ee, pp, rfl, a1, m1⟩; obtain ⟨yy, rfl, iy, hy⟩ := ((HD.out _ (by rfl)).rd a1 m1).door; replace HD := hidIt hy; have N3 := hidIt ee; have P8 := hidIt pp; clear a1 m1 hy ee pp)
    | (go_at_call 191; clear T8; refine (k191 (HD.out _ (by rfl)).dr HE HL (P8).out).mono ?_; rintro _ w1 ⟨cn, p9, f9, ee, pp, rfl, a1, m1⟩; obtain ⟨yy, rfl, iy, hy⟩ := ((HD.out _ (by rfl)).rd a1 m1).door; replace HD := hidIt hy; have E4 := hidIt ee; have P9 := hidIt pp; clear a1 m1 hy ee pp))
  have HH := hidIt (HD.out ⟨k, fr, to, te, ix, lt, cm, false, .slice none 0 0, []⟩ rfl)
  have hc7 := HH.out.t7.cell
  have ic7 := HH.out.t7.inB
  obtain ⟨hv, hst⟩ := head_law H38.out HE E0.out E1.out E2.out E3.out N0.out N1.out N2.out N3.out E4.out
  have HV := hidIt hv
  have HS := hidIt hst
  clear HD E0 E1 E2 E3 N0 N1 N2 N3 E4 P0 P1 P2 P3 P4 P5 P6 P7 P8 hv hst q ho s2 b1 b2
  obtain ⟨C, hC⟩ : ∃ C : Bool, C = decide (k < 1 ∨ 5 < k ∨ 3 ≤ fr ∨ 3 ≤ to ∨ 1 < okv ∨ 2 < cn) := ⟨_, rfl⟩
  have HCC := hidIt hC
  clear hC
  go_cut [96] from 13 (fun s96 wc => s96 = .bool C ∧ Hid (DcB W l e p9 f9 ⟨k, fr, to, te, ix, lt, cm, false, .slice none 0 0, []⟩ [] wc))
  case first =>
    by_cases c1 : k < 1
    · have t1 : decide (k < 1) = true := by simpa using c1
      have eC : Hid (C = true) := by unfold Hid; rw [HCC.out]; simp; omega
      clear c1
      go_wp2_with fail
      go_meet
      case rel => exact ⟨by rw [eC.out], HH⟩
    have t1 : decide (k < 1) = false := by simpa using c1
    by_cases c2 : 5 < k
    · have t2 : decide (k > 5) = true := by simpa using c2
      have eC : Hid (C = true) := by unfold Hid; rw [HCC.out]; simp; omega
      clear c1 c2
      go_wp2_with fail
      go_meet
      case rel => exact ⟨by rw [eC.out], HH⟩
    have t2 : decide (k > 5) = false := by simpa using c2
    by_cases c3 : 3 ≤ fr
    · have t3 : decide (fr ≥ 3) = true := by simpa using c3
      have eC : Hid (C = true) := by unfold Hid; rw [HCC.out]; simp; omega
      clear c1 c2 c3
      go_wp2_with fail
      go_meet
      case rel => exact ⟨by rw [eC.out], HH⟩
    have t3 : decide (fr ≥ 3) = false := by simpa using c3
    by_cases c4 : 3 ≤ to
    · have t4 : decide (to ≥ 3) = true := by simpa using c4
      have eC : Hid (C = true) := by unfold Hid; rw [HCC.out]; simp; omega
      clear c1 c2 c3 c4
      go_wp2_with fail
      go_meet
      case rel => exact ⟨by rw [eC.out], HH⟩
    have t4 : decide (to ≥ 3) = false := by simpa using c4
    by_cases c5 : 1 < okv
    · have t5 : decide (okv > 1) = true := by simpa using c5
      have eC : Hid (C = true) := by unfold Hid; rw [HCC.out]; simp; omega
      clear c1 c2 c3 c4 c5
      go_wp2_with fail
      go_meet
      case rel => exact ⟨by rw [eC.out], HH⟩
    have t5 : decide (okv > 1) = false := by simpa using c5
    by_cases c6 : 2 < cn
    · have t6 : decide (cn > 2) = true := by simpa using c6
      have eC : Hid (C = true) := by unfold Hid; rw [HCC.out]; simp; omega
      clear c1 c2 c3 c4 c5 c6
      go_wp2_with fail
      go_meet
      case rel => exact ⟨by rw [eC.out], HH⟩
    · have t6 : decide (cn > 2) = false := by simpa using c6
      have eC : Hid (C = false) := by unfold Hid; rw [HCC.out]; simp; omega
      clear c1 c2 c3 c4 c5 c6
      go_wp2_with fail
      go_meet
      case rel => exact ⟨by rw [eC.out], HH⟩
  case rest =>
    clear HH hc7 ic7
    obtain ⟨rfl, HH⟩ := hcut
    go_upto_if 96 with fail
    go_cut [] from 13 (fun wc => Hid (DcB W l e p9 (f9 || C) ⟨k, fr, to, te, ix, lt, cm, false, .slice none 0 0, []⟩ [] wc))
    case first =>
      cases hCv : C
      · go_wp2_with fail
        go_meet
        case rel => rw [hCv, Bool.or_false]; exact HH
      · obtain ⟨y2, e2, j1⟩ := HH.out.dr.door
        have H2 := hidIt (HH.out.rd (u' := y2.put (W.heap.size + 1) (Dec.cells ⟨l, p9, e, true⟩) 260) (World.At_put_same j1) (by rw [e2]; exact ModP.fromPut (ModP.put (F := fun x => x = W.heap.size + 1) (ModP.refl _ _) (.inl rfl) _ _) rfl))
        subst e2
        clear HH
        go_wp2_with fail
        go_meet
        case rel => rw [hCv, Bool.or_true]; exact H2
    case rest =>
      clear HH
      have HH := hcut
      clear hcut
      have FB : Hid ((f9 || C) = true → decB l = none) := by
        intro hb
        rcases HS.out with ⟨_, hg⟩ | ⟨rfl, -, -, -, -, hcn, -, -⟩
        · exact head_none hg
        · obtain ⟨rfl, rfl, rfl, rfl⟩ := HV.out
          subst hcn
          have : C = true := by simpa using hb
          rw [HCC.out] at this
          exact cond_none (of_decide_eq_true this)
      have FG : Hid ((f9 || C) = false → (te = getU64 l 4 ∧ ix = getU64 l 12 ∧ lt = getU64 l 20 ∧ cm = getU64 l 28 ∧ cn = byt l 36 ∧ p9 = 37 ∧ (0 ≤ getU64 l 4 ∧ 0 ≤ getU64 l 12 ∧ 0 ≤ getU64 l 20 ∧ 0 ≤ getU64 l 28)) ∧ ¬ (byt l 0 < 1 ∨ 5 < byt l 0 ∨ 3 ≤ byt l 1 ∨ 3 ≤ byt l 2 ∨ 1 < byt l 3 ∨ 2 < byt l 36)) := by
        intro hb
        rw [Bool.or_eq_false_iff] at hb
        rcases HS.out with ⟨h9, _⟩ | ⟨_, h⟩
        · rw [hb.1] at h9; cases h9
        · refine ⟨h, ?_⟩
          obtain ⟨rfl, rfl, rfl, rfl⟩ := HV.out
          have h2 := hb.2
          rw [HCC.out, decide_eq_false_iff_not, h.2.2.2.2.1] at h2
          exact h2
      have hcn0 : Hid ((f9 || C) = false → cn = ((l.getD 36 0).toNat : Int)) := fun hb => (FG.out hb).1.2.2.2.2.1
      generalize (f9 || C) = b at *
      clear HCC
      go_wp2_with fail
      go_loopw [10] (fun iv u => ∃ (i p : Nat) (b : Bool) (v : Value) (es : List Entry), iv = vi i ∧ p ≤ e ∧ es.length ≤ 2 ∧ Hid (DcB W l e p b ⟨k, fr, to, te, ix, lt, cm, false, v, []⟩ es u) ∧ Hid ((b = true ∧ decB l = none) ∨ (b = false ∧ (i : Int) ≤ cn ∧ cn ≤ 2 ∧ EntSt l e i es p ∧ cn = ((l.getD 36 0).toNat : Int) ∧ (te = getU64 l 4 ∧ ix = getU64 l 12 ∧ lt = getU64 l 20 ∧ cm = getU64 l 28 ∧ (0 ≤ getU64 l 4 ∧ 0 ≤ getU64 l 12 ∧ 0 ≤ getU64 l 20 ∧ 0 ≤ getU64 l 28)) ∧ ¬ (byt l 0 < 1 ∨ 5 < byt l 0 ∨ 3 ≤ byt l 1 ∨ 3 ≤ byt l 2 ∨ 1 < byt l 3 ∨ 2 < byt l 36)))) (fun iv _ => cn.toNat - (intOf iv).toNat)
      case atStart =>
        refine ⟨0, p9, b, .slice none 0 0, [], rfl, P9.out, by simp, HH, ?_⟩
        cases b
        · obtain ⟨⟨h1, h2, h3, h4, h5, h6, h8⟩, h7⟩ := FG.out rfl
          have := hcn0.out rfl
          refine .inr ⟨rfl, by have := byt_bd l 36; omega, by omega, ?_, this, ⟨h1, h2, h3, h4, h8⟩, h7⟩
          rw [h6]
          exact EntSt.start H38.out
        · exact .inl ⟨rfl, FB.out rfl⟩
      case round =>
        clear HH FB FG hcn0 HS
        clear b
        obtain ⟨i, p, b, v, es, rfl, hp, hel, HH, HF⟩ := hrel
        have hcd := HH.out.dr.cell
        have icd := HH.out.dr.inB
        have go : (b = false ∧ (i : Int) < cn) ∨ (b = true ∨ cn ≤ (i : Int)) := by
          cases b
          · rcases Int.lt_or_le (i : Int) cn with h | h
            · exact .inl ⟨rfl, h⟩
            · exact .inr (.inr h)
          · exact .inr (.inl rfl)
        rcases go with ⟨rfl, hi⟩ | hx
        · have di : decide ((i : Int) < cn) = true := by simpa using hi
          have HI := hidIt hi
          have hi3 : (i : Int) ≤ 2 := by
            rcases HF.out with ⟨h, _⟩ | ⟨_, a, b, _⟩
            · cases h
            · omega
          clear hi
          go_wp2_with (first
            | (go_at_call 192; refine (k192 HH.out.dr HE HL hp).mono ?_; rintro _ w1 ⟨t, p1, f1, ee, pp, rfl, a1, m1⟩; have N0 := hidIt ee; have P1 := hidIt pp; have H1 := hidIt (HH.out.rd a1 m1); clear a1 m1 ee pp hcd icd)
            | (go_at_call 193; refine (k193 H1.out.dr HE HL P1.out 24).mono ?_; rintro _ w2 ⟨x, p2, f2, ee, pp, rfl, a2, m2⟩; have X0 := hidIt ee; have P2 := hidIt pp; obtain ⟨yy, rfl, iy, hy⟩ := (H1.out.rd a2 m2).door; have HM := hidIt (hy ⟨k, fr, to, te, ix, lt, cm, false, v, []⟩ rfl); clear a2 m2 ee pp H1 hy)
            | (at_builtin; go_loud ( refine wp_app rk157 (v := v) (n := es.length) (xs := entsC es) (B := W.heap.size + 3) rfl _ _ rfl [vi t, vs x] rfl rfl (at_new (by simp [World.size_put])) rfl (by simp [Value.oneCell']) (ownsRow_alloc HM.out.ea _) (by have : W.heap.size + 2 < yy.heap.size := iy; simp [World.size_put]; omega) (by unfold maxLen; omega) (by omega) ?_; intro g' cap y1 o1 m1 oc1 ol1; obtain ⟨z, rfl, iz, hz⟩ := DcB.app (en := ⟨t, x⟩) HM.out m1 o1; have HZ := hidIt hz; clear o1 m1 oc1 ol1 hz HM)))
          go_roundw
          case rel =>
            rcases HF.out with ⟨hb, _⟩ | ⟨-, hi2, hc2, hE, hcn, hvals, hnc⟩
            · cases hb
            rcases hE.step HE N0.out X0.out with ⟨rfl, hE2⟩ | ⟨rfl, hbad⟩
            · refine ⟨i + 1, p2, false, _, es ++ [⟨t, x⟩], by go_num, P2.out, ?_, HZ, .inr ⟨rfl, ?_, hc2, hE2, hcn, hvals, hnc⟩⟩
              · have := hE2.len (by have := H38.out; omega); have := HI.out; omega
              · have := HI.out; omega
            · refine ⟨i + 1, p2, true, _, es ++ [⟨t, x⟩], by go_num, P2.out, ?_, HZ, .inl ⟨rfl, ?_⟩⟩
              · have := hE.len (by have := H38.out; omega); have := HI.out; simp; omega
              · exact ent_none (fun h => hnc (by omega)) (fun h => hnc (by omega)) HEQ.out (by have := HI.out; omega) hE hbad
          case measure => have := HI.out; simp [intOf]; omega
        · have hz2 : Hid ((b = true ∧ decB l = none) ∨ (b = false ∧ EntSt l e (l.getD 36 0).toNat es p ∧ (te = getU64 l 4 ∧ ix = getU64 l 12 ∧ lt = getU64 l 20 ∧ cm = getU64 l 28 ∧ (0 ≤ getU64 l 4 ∧ 0 ≤ getU64 l 12 ∧ 0 ≤ getU64 l 20 ∧ 0 ≤ getU64 l 28)) ∧ ¬ (byt l 0 < 1 ∨ 5 < byt l 0 ∨ 3 ≤ byt l 1 ∨ 3 ≤ byt l 2 ∨ 1 < byt l 3 ∨ 2 < byt l 36))) := by
            rcases HF.out with h | ⟨hb, hi2, hc2, hE, hcn, hvals, hnc⟩
            · exact .inl h
            · right
              have : i = (l.getD 36 0).toNat := by
                rcases hx with hx | hx
                · rw [hb] at hx; cases hx
                · omega
              subst this
              exact ⟨hb, hE, hvals, hnc⟩
          have q193 := hidIt (k193 HH.out.dr HE HL hp 128)
          rcases hT : textD l e 128 p b with ⟨x, p', f⟩
          have qx : Hid (Calls Tryz.prog 193 #[vp (W.heap.size + 1), vi 128] wr fun r w' => r = .returned (vs x) ∧ p' ≤ e ∧ w'.At (W.heap.size + 1) (Dec.cells ⟨l, p', e, f⟩) 260 ∧ ModP (fun z => z = W.heap.size + 1) wr w') := by
            refine q193.out.mono ?_
            rintro r w' ⟨x2, p2, f2, e2, h2, h3, h4, h5⟩
            rw [hT] at e2
            injection e2 with ea eb; injection eb with eb ec
            subst ea eb ec
            exact ⟨h3, h2, h4, h5⟩
          have hend : Hid ((f = false ∧ p' = e → ∃ m : Msg, decMsg l = some m ∧ m = ⟨k, fr, to, te, ix, lt, cm, decide (okv = 1), es, x⟩) ∧ (f = true ∨ p' ≠ e → decMsg l = none)) := by
            rw [hk.out] at *
            obtain ⟨rfl, rfl, rfl, rfl⟩ := HV.out
            rcases hz2.out with ⟨hb, hn⟩ | ⟨hb, hE, ⟨h1, h2, h3, h4, hg⟩, hnc⟩
            · subst hb
              have : textD l e 128 p true = ([], p, true) := by unfold textD; rw [oneD_bad, if_pos (.inl rfl)]
              rw [this] at hT
              injection hT with ea eb; injection eb with eb ec
              subst ec
              exact ⟨fun h => by simp at h, fun _ => hn⟩
            · subst hb
              obtain ⟨d1, d2⟩ := dec_end hnc hg HEQ.out H38.out hE hT
              refine ⟨fun h => ⟨_, d1 h, ?_⟩, d2⟩
              subst h1 h2 h3 h4
              rfl
          clear q193 hT hz2 HF HV
          have n1 : W.heap.size + 1 ≠ W.heap.size := by omega
          have n2 : W.heap.size + 1 ≠ W.heap.size + 2 := by omega
          have n3 : W.heap.size ≠ W.heap.size + 2 := by omega
          have two : ((b = true ∧ (i : Int) < cn) ∨ cn ≤ (i : Int)) := by
            rcases hx with h | h
            · rcases Int.lt_or_le (i : Int) cn with h2 | h2
              · exact .inl ⟨h, h2⟩
              · exact .inr h2
            · exact .inr h
          clear hx
          cases f
          · by_cases hpe : p' = e
            · subst hpe
              obtain ⟨m, hm, he⟩ := hend.out.1 ⟨rfl, rfl⟩
              have HM := hidIt hm
              have HME := hidIt he
              clear hm he hend
              have dp : ((p' : Int) != (p' : Int)) = false := by simp
              have hvf : ∃ ad cap, v = .slice ad es.length cap := by obtain ⟨a, c, h, -⟩ := HH.out.ea.form; exact ⟨a, c, h⟩
              obtain ⟨adv, capv, rfl⟩ := hvf
              rcases two with ⟨rfl, hi⟩ | hi
              · have di : decide ((i : Int) < cn) = true := by simpa using hi
                clear hi
                go_wp2_with (first
                  | (go_at_call 193; refine qx.out.mono ?_; rintro _ w2 ⟨rfl, pp, a2, m2⟩; have H2 := hidIt (HH.out.rd a2 m2); obtain ⟨yy, e9, i1, i2, i3⟩ := open3 H2.out.dr H2.out.t2 H2.out.t7 (by omega) (by omega) (by omega); have EA := hidIt H2.out.ea; have MD := hidIt H2.out.md; subst e9; clear a2 m2 HH hcd icd qx H2))
                refine Ord.region1 [] [0, 1, 2, 3, 4, 5, 6, 7, 8, 9, 10, 11, 12, 13] [14] (by kernel_rfl) (by kernel_rfl) (fun _ _ d _ _ h => by cases d <;> exact h) ?_
                simp only [Ord.pickO, Ord.nth]
                refine wpQuiet_nil ?_
                repeat (go_big_quiet_step (fail))
                refine wpQuiet_nil ?_
                go_wp2_with fail
                refine bodyPost_ret (v := .tuple #[.agg (Msg.r ⟨k, fr, to, te, ix, lt, cm, decide (okv = 1), es, x⟩ (.slice adv es.length capv)).cells, .bool true]) ?_ rfl ?_
                · simp [results, Tryz.results134, go_sem, Msg.r, MsgR.cells, i1, i2, i3]
                  rfl
                · have hmd := ((MD.out.unput (.inr (by omega))).unput (.inr (by omega))).unput (.inr (by omega))
                  refine ⟨(by repeat (first | assumption | exact ModP.refl _ _ | refine ModP.fromPut ?_ (by assumption) | apply ModP.alloc | apply ModP.drew | apply ModP.drewN | refine ModP.put ?_ (by first | (left; assumption) | (left; rfl) | (right; simp only [World.inB, World.size_put] at *; omega)) _ _)), ?_⟩
                  rw [HM.out, HME.out]
                  refine ⟨.slice adv es.length capv, rfl, ?_⟩
                  have ea := ownsRow_unput (ownsRow_unput (ownsRow_unput EA.out (fun g hg => by have := (ownsRow_block EA.out hg).2; omega)) (fun g hg => by have := (ownsRow_block EA.out hg).2; omega)) (fun g hg => by have := (ownsRow_block EA.out hg).2; omega)
                  exact ownsRow_low (ownsRow_put (ownsRow_put (ownsRow_put ea (fun g hg => by have := (ownsRow_block EA.out hg).2; omega)) (fun g hg => by have := (ownsRow_block EA.out hg).2; omega)) (fun g hg => by have := (ownsRow_block EA.out hg).2; omega)) (Nat.le_add_right _ _)
              · have di : decide ((i : Int) < cn) = false := by simp; omega
                clear hi
                go_wp2_with (first
                  | (go_at_call 193; refine qx.out.mono ?_; rintro _ w2 ⟨rfl, pp, a2, m2⟩; have H2 := hidIt (HH.out.rd a2 m2); obtain ⟨yy, e9, i1, i2, i3⟩ := open3 H2.out.dr H2.out.t2 H2.out.t7 (by omega) (by omega) (by omega); have EA := hidIt H2.out.ea; have MD := hidIt H2.out.md; subst e9; clear a2 m2 HH hcd icd qx H2))
                refine Ord.region1 [] [0, 1, 2, 3, 4, 5, 6, 7, 8, 9, 10, 11, 12, 13] [14] (by kernel_rfl) (by kernel_rfl) (fun _ _ d _ _ h => by cases d <;> exact h) ?_
                simp only [Ord.pickO, Ord.nth]
                refine wpQuiet_nil ?_
                repeat (go_big_quiet_step (fail))
                refine wpQuiet_nil ?_
                go_wp2_with fail
                refine bodyPost_ret (v := .tuple #[.agg (Msg.r ⟨k, fr, to, te, ix, lt, cm, decide (okv = 1), es, x⟩ (.slice adv es.length capv)).cells, .bool true]) ?_ rfl ?_
                · simp [results, Tryz.results134, go_sem, Msg.r, MsgR.cells, i1, i2, i3]
                  rfl
                · have hmd := ((MD.out.unput (.inr (by omega))).unput (.inr (by omega))).unput (.inr (by omega))
                  refine ⟨(by repeat (first | assumption | exact ModP.refl _ _ | refine ModP.fromPut ?_ (by assumption) | apply ModP.alloc | apply ModP.drew | apply ModP.drewN | refine ModP.put ?_ (by first | (left; assumption) | (left; rfl) | (right; simp only [World.inB, World.size_put] at *; omega)) _ _)), ?_⟩
                  rw [HM.out, HME.out]
                  refine ⟨.slice adv es.length capv, rfl, ?_⟩
                  have ea := ownsRow_unput (ownsRow_unput (ownsRow_unput EA.out (fun g hg => by have := (ownsRow_block EA.out hg).2; omega)) (fun g hg => by have := (ownsRow_block EA.out hg).2; omega)) (fun g hg => by have := (ownsRow_block EA.out hg).2; omega)
                  exact ownsRow_low (ownsRow_put (ownsRow_put (ownsRow_put ea (fun g hg => by have := (ownsRow_block EA.out hg).2; omega)) (fun g hg => by have := (ownsRow_block EA.out hg).2; omega)) (fun g hg => by have := (ownsRow_block EA.out hg).2; omega)) (Nat.le_add_right _ _)
            · have dp : ((p' : Int) != (e : Int)) = true := by simp only [bne_iff_ne, ne_eq]; omega
              have HP := hidIt hpe
              clear hpe
              rcases two with ⟨rfl, hi⟩ | hi
              · have di : decide ((i : Int) < cn) = true := by simpa using hi
                clear hi
                go_wp2_with (first
                  | (go_at_call 193; refine qx.out.mono ?_; rintro _ w2 ⟨rfl, pp, a2, m2⟩; have H2 := hidIt (HH.out.rd a2 m2); obtain ⟨yy, e9, i1, i2, i3⟩ := open3 H2.out.dr H2.out.t2 H2.out.t7 (by omega) (by omega) (by omega); have EA := hidIt H2.out.ea; have MD := hidIt H2.out.md; subst e9; clear a2 m2 HH hcd icd qx H2))
                refine Ord.region1 [] [0, 1, 2, 3, 4, 5, 6, 7, 8, 9, 10, 11, 12, 13] [14] (by kernel_rfl) (by kernel_rfl) (fun _ _ d _ _ h => by cases d <;> exact h) ?_
                simp only [Ord.pickO, Ord.nth]
                refine wpQuiet_nil ?_
                repeat (go_big_quiet_step (fail))
                refine wpQuiet_nil ?_
                go_wp2_with fail
                refine bodyPost_ret (v := .tuple #[.agg (zMsg.r (.slice none 0 0)).cells, .bool false]) ?_ rfl (DecR.none (hend.out.2 (.inr HP.out)) ?_)
                · simp [results, Tryz.results134, go_sem, zMsg, Msg.r, MsgR.cells, i1, i2, i3]
                · have := ((MD.out.unput (.inr (by omega))).unput (.inr (by omega))).unput (.inr (by omega))
                  exact (by repeat (first | assumption | exact ModP.refl _ _ | refine ModP.fromPut ?_ (by assumption) | apply ModP.alloc | apply ModP.drew | apply ModP.drewN | refine ModP.put ?_ (by first | (left; assumption) | (left; rfl) | (right; simp only [World.inB, World.size_put] at *; omega)) _ _))
              · have di : decide ((i : Int) < cn) = false := by simp; omega
                clear hi
                go_wp2_with (first
                  | (go_at_call 193; refine qx.out.mono ?_; rintro _ w2 ⟨rfl, pp, a2, m2⟩; have H2 := hidIt (HH.out.rd a2 m2); obtain ⟨yy, e9, i1, i2, i3⟩ := open3 H2.out.dr H2.out.t2 H2.out.t7 (by omega) (by omega) (by omega); have EA := hidIt H2.out.ea; have MD := hidIt H2.out.md; subst e9; clear a2 m2 HH hcd icd qx H2))
                refine Ord.region1 [] [0, 1, 2, 3, 4, 5, 6, 7, 8, 9, 10, 11, 12, 13] [14] (by kernel_rfl) (by kernel_rfl) (fun _ _ d _ _ h => by cases d <;> exact h) ?_
                simp only [Ord.pickO, Ord.nth]
                refine wpQuiet_nil ?_
                repeat (go_big_quiet_step (fail))
                refine wpQuiet_nil ?_
                go_wp2_with fail
                refine bodyPost_ret (v := .tuple #[.agg (zMsg.r (.slice none 0 0)).cells, .bool false]) ?_ rfl (DecR.none (hend.out.2 (.inr HP.out)) ?_)
                · simp [results, Tryz.results134, go_sem, zMsg, Msg.r, MsgR.cells, i1, i2, i3]
                · have := ((MD.out.unput (.inr (by omega))).unput (.inr (by omega))).unput (.inr (by omega))
                  exact (by repeat (first | assumption | exact ModP.refl _ _ | refine ModP.fromPut ?_ (by assumption) | apply ModP.alloc | apply ModP.drew | apply ModP.drewN | refine ModP.put ?_ (by first | (left; assumption) | (left; rfl) | (right; simp only [World.inB, World.size_put] at *; omega)) _ _))
          · rcases two with ⟨rfl, hi⟩ | hi
            · have di : decide ((i : Int) < cn) = true := by simpa using hi
              clear hi
              go_wp2_with (first
                | (go_at_call 193; refine qx.out.mono ?_; rintro _ w2 ⟨rfl, pp, a2, m2⟩; have H2 := hidIt (HH.out.rd a2 m2); obtain ⟨yy, e9, i1, i2, i3⟩ := open3 H2.out.dr H2.out.t2 H2.out.t7 (by omega) (by omega) (by omega); have EA := hidIt H2.out.ea; have MD := hidIt H2.out.md; subst e9; clear a2 m2 HH hcd icd qx H2))
              refine Ord.region1 [] [0, 1, 2, 3, 4, 5, 6, 7, 8, 9, 10, 11, 12, 13] [14] (by kernel_rfl) (by kernel_rfl) (fun _ _ d _ _ h => by cases d <;> exact h) ?_
              simp only [Ord.pickO, Ord.nth]
              refine wpQuiet_nil ?_
              repeat (go_big_quiet_step (fail))
              refine wpQuiet_nil ?_
              go_wp2_with fail
              refine bodyPost_ret (v := .tuple #[.agg (zMsg.r (.slice none 0 0)).cells, .bool false]) ?_ rfl (DecR.none (hend.out.2 (.inl (by first | rfl | trivial))) ?_)
              · simp [results, Tryz.results134, go_sem, zMsg, Msg.r, MsgR.cells, i1, i2, i3]
              · have := ((MD.out.unput (.inr (by omega))).unput (.inr (by omega))).unput (.inr (by omega))
                exact (by repeat (first | assumption | exact ModP.refl _ _ | refine ModP.fromPut ?_ (by assumption) | apply ModP.alloc | apply ModP.drew | apply ModP.drewN | refine ModP.put ?_ (by first | (left; assumption) | (left; rfl) | (right; simp only [World.inB, World.size_put] at *; omega)) _ _))
            · have di : decide ((i : Int) < cn) = false := by simp; omega
              clear hi
              go_wp2_with (first
                | (go_at_call 193; refine qx.out.mono ?_; rintro _ w2 ⟨rfl, pp, a2, m2⟩; have H2 := hidIt (HH.out.rd a2 m2); obtain ⟨yy, e9, i1, i2, i3⟩ := open3 H2.out.dr H2.out.t2 H2.out.t7 (by omega) (by omega) (by omega); have EA := hidIt H2.out.ea; have MD := hidIt H2.out.md; subst e9; clear a2 m2 HH hcd icd qx H2))
              refine Ord.region1 [] [0, 1, 2, 3, 4, 5, 6, 7, 8, 9, 10, 11, 12, 13] [14] (by kernel_rfl) (by kernel_rfl) (fun _ _ d _ _ h => by cases d <;> exact h) ?_
              simp only [Ord.pickO, Ord.nth]
              refine wpQuiet_nil ?_
              repeat (go_big_quiet_step (fail))
              refine wpQuiet_nil ?_
              go_wp2_with fail
              refine bodyPost_ret (v := .tuple #[.agg (zMsg.r (.slice none 0 0)).cells, .bool false]) ?_ rfl (DecR.none (hend.out.2 (.inl (by first | rfl | trivial))) ?_)
              · simp [results, Tryz.results134, go_sem, zMsg, Msg.r, MsgR.cells, i1, i2, i3]
              · have := ((MD.out.unput (.inr (by omega))).unput (.inr (by omega))).unput (.inr (by omega))
                exact (by repeat (first | assumption | exact ModP.refl _ _ | refine ModP.fromPut ?_ (by assumption) | apply ModP.alloc | apply ModP.drew | apply ModP.drewN | refine ModP.put ?_ (by first | (left; assumption) | (left; rfl) | (right; simp only [World.inB, World.size_put] at *; omega)) _ _))
end Go.Proofs.Qxb6500990aGreat
namespace Go.Proofs.Qxb6500990aGreat
open Go Go.RowKit Go.Tw
theorem c134 (W : World) (l : Bs) : Calls Tryz.prog 134 #[vs l] W (DecR W l) := by
  by_cases h : l.length < 40 ∨ 234 < l.length
  · exact c134_len W l h
  by_cases hs : sumF (bi (l.take (l.length - 2))) = byt l (l.length - 2) * 256 + byt l (l.length - 1)
  · exact c134_main W l (by omega) (by omega) hs
  · exact c134_sum W l (by omega) (by omega) hs
end Go.Proofs.Qxb6500990aGreat
