/- package sync: repair -/
import Derived.Test.Qxb6500990aGreatSy13
set_option linter.unusedVariables false
set_option linter.unusedSimpArgs false
namespace Go.Tw
open Go Go.Proofs Go.Proofs.Qxb6500990aGreat
theorem EntsAt.keep {B : Nat} {w w' : World} {v : Value} {es : List Entry} {X : Nat → Prop} (h : EntsAt B w v es) (hX : ∀ g, v.ownBlock = some g → X g) (k : ∀ x c T, X x → w.At x c T → w'.At x c T) : EntsAt B w' v es := by
  refine ⟨h.1, ?_⟩
  rcases h.2 with h2 | ⟨g, cap, cur, hv, h3, h4, h5⟩
  · exact .inl h2
  · exact .inr ⟨g, cap, cur, hv, h3, k g cur 232 (hX g (by rw [hv]; rfl)) h4, h5⟩
theorem RSx.aside {w W : World} {G0 X : Nat → Prop} {p : SyP} {A : AS} (h : RSx G0 W X p A w) (ob : Obj) : RSx G0 W (fun k => X k ∨ k = w.heap.size) p A (w.alloc ob) := by
  obtain ⟨G, bx, h1, h2, h3, h4⟩ := h
  have m : ModP (fun _ => False) w (w.alloc ob) := (ModP.refl _ _).alloc _
  refine ⟨G, bx, h1.frame m (fun _ _ f => f), h2, h3.trans (m.mono fun _ f => f.elim), ?_⟩
  rintro k (hk | hk)
  · exact ⟨Nat.lt_of_lt_of_le (h4 k hk).1 m.size, (h4 k hk).2⟩
  · subst hk
    refine ⟨by simp, fun g => ?_⟩
    have := h1.wi _ g
    omega
end Go.Tw
namespace Go.Proofs.Qxb6500990aGreat
open Go Go.RowKit Go.Tw
attribute [local go_sem] World.cell?_put_same World.cell?_put_ne World.cell?_put_ne' World.frozen?_put_same World.frozen?_put_ne World.frozen?_put_ne' World.setCell_put_same World.setCell_put_ne World.setCell_put_ne' World.inB_put World.inB_alloc World.inB_drew World.inB_drewN World.inB_new World.inB_setCell World.put_drew World.put_drewN World.q_setCell_drew World.q_setCell_drewN World.q_alloc_drew World.q_alloc_drewN World.put_put_same World.put_put_2 World.size_put World.q_cell?_alloc_old World.q_frozen?_alloc_old World.cell?_alloc_new' World.frozen?_alloc_new' World.q_setCell_alloc_old World.q_setCell_alloc_new World.q_put_alloc_old World.cell?_force_same World.frozen?_force_same World.cell?_force2_fst World.cell?_force2_snd SyncR.g0 SyncR.s0 SyncR.g1 SyncR.s1 SyncR.g2 SyncR.s2 SyncR.g3 SyncR.s3 SyncR.g4 SyncR.s4 SyncR.g5 SyncR.s5 SyncR.g6 SyncR.s6 SyncR.g7 SyncR.s7 SyncR.g8 SyncR.s8 SyncR.g9 SyncR.s9 SyncR.g10 SyncR.s10 SyncR.g11 SyncR.s11 SyncR.g12 SyncR.s12 SyncR.g13 SyncR.s13 SyncR.g14 SyncR.s14 SyncR.g15 SyncR.s15 SyncR.g16 SyncR.s16 SyncR.g17 SyncR.s17 SyncR.g18 SyncR.s18 SyncR.g19 SyncR.s19 SyncR.g20 SyncR.s20 SyncR.g21 SyncR.s21 SyncR.g22 SyncR.s22 SyncR.g23 SyncR.s23 SyncR.g24 SyncR.s24 SyncR.g25 SyncR.s25 SyncR.g26 SyncR.s26 SyncR.g27 SyncR.s27 SyncR.g28 SyncR.s28 SyncR.g29 SyncR.s29 SyncR.g30 SyncR.s30 SyncR.g31 SyncR.s31 SyncR.g32 SyncR.s32 SyncR.g33 SyncR.s33 SyncR.g34 SyncR.s34 SyncR.g35 SyncR.s35 SyncR.g36 SyncR.s36 SyncR.g37 SyncR.s37 SyncR.g38 SyncR.s38 SyncR.g39 SyncR.s39 SyncR.g40 SyncR.s40 SyncR.g41 SyncR.s41 SyncR.gi_next_0 SyncR.si_next_0 SyncR.gi_mtch_0 SyncR.si_mtch_0 SyncR.gi_box_0 SyncR.si_box_0 SyncR.gi_box_1 SyncR.si_box_1 SyncR.gi_box_2 SyncR.si_box_2 SyncR.gi_box_3 SyncR.si_box_3 SyncR.gi_box_4 SyncR.si_box_4 SyncR.gi_box_5 SyncR.si_box_5 SyncR.gi_box_6 SyncR.si_box_6 SyncR.gi_box_7 SyncR.si_box_7 SyncR.gi_box_8 SyncR.si_box_8 SyncR.gi_box_9 SyncR.si_box_9 Entry.g0 Entry.s0 Entry.g1 Entry.s1
attribute [local go_sem] ba_get upd_same upd_upd
set_option maxHeartbeats 4000000
set_option maxRecDepth 100000
section
variable {W w : World} {G X : Nat → Prop} {p : SyP} {A : AS}
theorem c278 (h : RSx G W X p A w) {v : Value} {es : List Entry} {B : Nat} (hv : EntsAt B w v es) (hX : ∀ g, v.ownBlock = some g → X g) (he2 : es.length ≤ 2) (hoke : ∀ e ∈ es, entOK e = true) {k : Nat} (hk : k ≤ es.length) {i : Int} (i0 : A.lg.now.base < i) (i1 : i ≤ A.lg.now.last + 1) (hn : A.lg.hist.length ≤ 450) :
    Calls Tryz.prog 278 #[vp p.b, vi i, v, vi k] w fun x w' => x = .returned (vi (repF A.commit (es.drop k) i A.lg).2) ∧ RSx G W X p { A with lg := (repF A.commit (es.drop k) i A.lg).1 } w' ∧ ∀ x c T, X x → w.At x c T → w'.At x c T := by
  have hrep : repF A.commit (es.drop k) i A.lg = if i ≤ A.lg.now.last ∧ i ≤ A.commit then (A.lg, i - 1) else growF (es.drop k) i (if i ≤ A.lg.now.last then (A.lg.trunc i).2 else A.lg) := rfl
  obtain ⟨R, hR⟩ : ∃ R, R = repF A.commit (es.drop k) i A.lg := ⟨_, rfl⟩
  rw [← hR]
  rw [← hR] at hrep
  have hok := RB.ok h.rs
  have hb0 := hok.b0
  have hla := hok.last1
  unfold maxT at hla
  obtain ⟨ad, cap, hv0, _⟩ := EntsAt.form hv
  subst hv0
  have HV0 := hidIt hv
  have HX := hidIt hX
  have HOK := hidIt hoke
  have H := hidIt h
  obtain ⟨bx, hb⟩ := RB.hb h.rs
  have hc := hb.cell
  have ib := hb.inB
  unfold RSy at hc
  obtain ⟨n, hnn⟩ : ∃ n, n = es.length := ⟨_, rfl⟩
  have Hn := hidIt hnn
  rw [← hnn] at hk he2 ⊢
  by_cases c1 : i ≤ A.lg.now.last
  · by_cases c2 : i ≤ A.commit
    · rw [if_pos ⟨c1, c2⟩] at hrep
      have HR := hidIt hrep
      generalize hlt : (A.lg.now.termAt A.lg.now.last).1 = lt at *
      generalize hlaa : A.lg.now.last = la at *
      have d1 : decide (i ≤ la) = true := by simpa using c1
      have d2 : decide (i ≤ A.commit) = true := by simpa using c2
      clear h hb hv hX hoke hok hnn hR hrep hlt hlaa c1 c2
      go_enter Tryz.func278, Tryz.ntmps278
      go_wp2_with fail
      go_ret
      rw [HR.out]
      exact ⟨rfl, H.out, fun _ _ _ _ a => a⟩
    · rw [if_neg (fun q => c2 q.2), if_pos c1] at hrep
      have L2 : Hid (growF (es.drop k) i (A.lg.trunc i).2 = R) := hrep.symm
      have L3 : Hid ((A.lg.trunc i).2.hist.length ≤ 460 + k) := by have := AL.trunc_len hok i; unfold Hid; omega
      have q289 := hidIt (RBx.call (RSx.bx h) (A' := { A with lg := (A.lg.trunc i).2 }) (R := fun x => x = .returned (vi (A.lg.trunc i).1)) (fun G' h => RB.log h (fun G1 h1 _ => c289 h1 (by omega) i)))
      have d2 : decide (i ≤ A.commit) = false := by simpa using c2
      generalize hlt : (A.lg.now.termAt A.lg.now.last).1 = lt at *
      generalize hlaa : A.lg.now.last = la at *
      have d1 : decide (i ≤ la) = true := by simpa using c1
      clear h hb hv hX hoke hok hnn hR hrep hlt hlaa c1 c2
      generalize A.lg.trunc i = tr at *
      obtain ⟨te, tl⟩ := tr
      simp only [] at q289 L2 L3
      go_enter Tryz.func278, Tryz.ntmps278
      go_wp2_with (first
        | (go_at_call 289; refine q289.out.mono ?_; rintro _ w1 ⟨rfl, s1, k1⟩; have S1 := hidIt s1; have K1 := hidIt k1; clear s1 k1 hc ib)
        | (go_at_call 70; refine (RBx.call S1.out (fun G' h => c70 h)).mono ?_; rintro _ w2 ⟨rfl, s2, k2⟩; have L1 : Hid (RSx G W X p { A with lg := tl } w2) := s2; have L4 : Hid (∀ x c T, X x → w.At x c T → w2.At x c T) := (fun x c T hx ha => k2 x c T hx (K1.out x c T hx ha)); clear s2 k2 S1 K1))
      go_loopw [1, 3] (fun iv kv u => ∃ (k : Nat) (j : Int) (lg : AL), k ≤ n ∧ iv = vi j ∧ kv = vi k ∧ 0 ≤ j ∧ j ≤ 72057594037927950 + k ∧ Hid (RSx G W X p { A with lg := lg } u) ∧ Hid (growF (es.drop k) j lg = R) ∧ Hid (lg.hist.length ≤ 460 + k) ∧ Hid (∀ x c T, X x → w.At x c T → u.At x c T)) (fun _ kv _ => n - (intOf kv).toNat)
      case atStart => exact ⟨k, i, tl, hk, rfl, rfl, by omega, by omega, L1, L2, L3, L4⟩
      case round =>
        clear L1 L2 L3 L4
        obtain ⟨k, j, lg, hk, rfl, rfl, j0, j1, H1, H2, H3, H4⟩ := hrel
        by_cases hkn : k < n
        · have k1 : (k : Int) < n := by omega
          obtain ⟨e, hek⟩ : ∃ e, es[k]? = some e := ⟨_, List.getElem?_eq_getElem (by have := Hn.out; omega)⟩
          have hvu := HV0.out.keep HX.out H4.out
          obtain ⟨ad', cap', hv', hform⟩ := EntsAt.form hvu
          injection hv' with hv1 hv2 hv3
          subst hv1
          obtain ⟨g, hga, ig, hBg, ce, cd⟩ := hform k e hek
          subst hga
          have hdrop : Hid (es.drop k = e :: es.drop (k + 1)) := by
            unfold Hid
            have hk' : k < es.length := by have := Hn.out; omega
            rw [List.drop_eq_getElem_cons hk']
            rw [List.getElem?_eq_getElem hk'] at hek
            injection hek with hek
            rw [hek]
          have hoke := HOK.out e (List.mem_of_getElem? hek)
          have q142 := hidIt (RSx.call H1.out (A' := { A with lg := (lg.append e).2 }) (R := fun x => x = .returned (vi (lg.append e).1)) (fun G' h => c142 h (by show lg.hist.length ≤ 480; have := H3.out; omega) hoke))
          have hlen := hidIt (AL.append_len lg e)
          have herr := hidIt (fun h => append_err (a := lg) (e := e) h)
          have hg1 : Hid (growF (e :: es.drop (k + 1)) j lg = R) := by unfold Hid; rw [← hdrop.out]; exact H2.out
          unfold growF at hg1
          obtain ⟨et, ed⟩ := e
          unfold Tw.Entry.cells at q142
          simp only [] at ce cd
          clear hek hvu hform hv3 hoke H2 hdrop H1
          by_cases c3 : (lg.append ⟨et, ed⟩).1 = 0
          · rw [if_neg (by simpa using c3)] at hg1
            rw [c3] at q142
            clear herr c3
            generalize (lg.append ⟨et, ed⟩).2 = lg2 at *
            go_wp2_with (first
              | (go_at_call 142; refine q142.out.mono ?_; rintro _ w1 ⟨rfl, s1, k1'⟩; have S1 := hidIt s1; have K1 := hidIt k1'; clear s1 k1' ce cd ig))
            go_roundw
            case rel => exact ⟨k + 1, j + 1, lg2, by omega, by go_num, by go_num, by omega, by push_cast; omega, S1, hg1, (show _ ≤ _ by have := H3.out; have := hlen.out; omega), fun x c T hx ha => K1.out x c T hx (H4.out x c T hx ha)⟩
            case measure => simp [intOf]; omega
          · rw [if_pos c3] at hg1
            have hl2 := herr.out c3
            have d3 : ((lg.append ⟨et, ed⟩).1 != 0) = true := by simpa using c3
            rw [hl2] at q142
            clear herr c3 hl2 hlen
            generalize (lg.append ⟨et, ed⟩).1 = er at *
            go_wp2_with (first
              | (go_at_call 142; refine q142.out.mono ?_; rintro _ w1 ⟨rfl, s1, k1'⟩; have S1 := hidIt s1; have K1 := hidIt k1'; clear s1 k1' ce cd ig))
            go_ret
            rw [← hg1.out]
            exact ⟨rfl, S1.out, fun x c T hx ha => K1.out x c T hx (H4.out x c T hx ha)⟩
        · obtain rfl : k = n := by omega
          have hg1 : Hid ((lg, j - 1) = R) := by
            unfold Hid
            have := H2.out
            rw [List.drop_of_length_le (by have := Hn.out; omega)] at this
            exact this
          go_wp2_with fail
          go_ret
          rw [← hg1.out]
          exact ⟨rfl, H1.out, H4.out⟩
  · rw [if_neg (fun q => c1 q.1), if_neg c1] at hrep
    have L2 : Hid (growF (es.drop k) i A.lg = R) := hrep.symm
    have L3 : Hid (A.lg.hist.length ≤ 460 + k) := by unfold Hid; omega
    have L1 : Hid (RSx G W X p { A with lg := A.lg } w) := h
    have L4 : Hid (∀ x c T, X x → w.At x c T → w.At x c T) := fun _ _ _ _ a => a
    generalize hlt : (A.lg.now.termAt A.lg.now.last).1 = lt at *
    generalize hlaa : A.lg.now.last = la at *
    have d1 : decide (i ≤ la) = false := by simpa using c1
    clear h hb hv hX hoke hok hnn hR hrep hlt hlaa c1
    go_enter Tryz.func278, Tryz.ntmps278
    go_wp2_with fail
    clear hc ib
    go_loopw [1, 3] (fun iv kv u => ∃ (k : Nat) (j : Int) (lg : AL), k ≤ n ∧ iv = vi j ∧ kv = vi k ∧ 0 ≤ j ∧ j ≤ 72057594037927950 + k ∧ Hid (RSx G W X p { A with lg := lg } u) ∧ Hid (growF (es.drop k) j lg = R) ∧ Hid (lg.hist.length ≤ 460 + k) ∧ Hid (∀ x c T, X x → w.At x c T → u.At x c T)) (fun _ kv _ => n - (intOf kv).toNat)
    case atStart => exact ⟨k, i, A.lg, hk, rfl, rfl, by omega, by omega, L1, L2, L3, L4⟩
    case round =>
      clear L1 L2 L3 L4
      obtain ⟨k, j, lg, hk, rfl, rfl, j0, j1, H1, H2, H3, H4⟩ := hrel
      by_cases hkn : k < n
      · have k1 : (k : Int) < n := by omega
        obtain ⟨e, hek⟩ : ∃ e, es[k]? = some e := ⟨_, List.getElem?_eq_getElem (by have := Hn.out; omega)⟩
        have hvu := HV0.out.keep HX.out H4.out
        obtain ⟨ad', cap', hv', hform⟩ := EntsAt.form hvu
        injection hv' with hv1 hv2 hv3
        subst hv1
        obtain ⟨g, hga, ig, hBg, ce, cd⟩ := hform k e hek
        subst hga
        have hdrop : Hid (es.drop k = e :: es.drop (k + 1)) := by
          unfold Hid
          have hk' : k < es.length := by have := Hn.out; omega
          rw [List.drop_eq_getElem_cons hk']
          rw [List.getElem?_eq_getElem hk'] at hek
          injection hek with hek
          rw [hek]
        have hoke := HOK.out e (List.mem_of_getElem? hek)
        have q142 := hidIt (RSx.call H1.out (A' := { A with lg := (lg.append e).2 }) (R := fun x => x = .returned (vi (lg.append e).1)) (fun G' h => c142 h (by show lg.hist.length ≤ 480; have := H3.out; omega) hoke))
        have hlen := hidIt (AL.append_len lg e)
        have herr := hidIt (fun h => append_err (a := lg) (e := e) h)
        have hg1 : Hid (growF (e :: es.drop (k + 1)) j lg = R) := by unfold Hid; rw [← hdrop.out]; exact H2.out
        unfold growF at hg1
        obtain ⟨et, ed⟩ := e
        unfold Tw.Entry.cells at q142
        simp only [] at ce cd
        clear hek hvu hform hv3 hoke H2 hdrop H1
        by_cases c3 : (lg.append ⟨et, ed⟩).1 = 0
        · rw [if_neg (by simpa using c3)] at hg1
          rw [c3] at q142
          clear herr c3
          generalize (lg.append ⟨et, ed⟩).2 = lg2 at *
          go_wp2_with (first
            | (go_at_call 142; refine q142.out.mono ?_; rintro _ w1 ⟨rfl, s1, k1'⟩; have S1 := hidIt s1; have K1 := hidIt k1'; clear s1 k1' ce cd ig))
          go_roundw
          case rel => exact ⟨k + 1, j + 1, lg2, by omega, by go_num, by go_num, by omega, by push_cast; omega, S1, hg1, (show _ ≤ _ by have := H3.out; have := hlen.out; omega), fun x c T hx ha => K1.out x c T hx (H4.out x c T hx ha)⟩
          case measure => simp [intOf]; omega
        · rw [if_pos c3] at hg1
          have hl2 := herr.out c3
          have d3 : ((lg.append ⟨et, ed⟩).1 != 0) = true := by simpa using c3
          rw [hl2] at q142
          clear herr c3 hl2 hlen
          generalize (lg.append ⟨et, ed⟩).1 = er at *
          go_wp2_with (first
            | (go_at_call 142; refine q142.out.mono ?_; rintro _ w1 ⟨rfl, s1, k1'⟩; have S1 := hidIt s1; have K1 := hidIt k1'; clear s1 k1' ce cd ig))
          go_ret
          rw [← hg1.out]
          exact ⟨rfl, S1.out, fun x c T hx ha => K1.out x c T hx (H4.out x c T hx ha)⟩
      · obtain rfl : k = n := by omega
        have hg1 : Hid ((lg, j - 1) = R) := by
          unfold Hid
          have := H2.out
          rw [List.drop_of_length_le (by have := Hn.out; omega)] at this
          exact this
        go_wp2_with fail
        go_ret
        rw [← hg1.out]
        exact ⟨rfl, H1.out, H4.out⟩
end
end Go.Proofs.Qxb6500990aGreat
