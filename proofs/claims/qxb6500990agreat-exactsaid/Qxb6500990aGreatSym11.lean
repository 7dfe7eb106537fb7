/- package syncm: accept, the repair -/
import Derived.Test.Qxb6500990aGreatSym10
set_option linter.unusedVariables false
set_option linter.unusedSimpArgs false
namespace Go.Proofs.Qxb6500990aGreat
open Go Go.RowKit Go.Tw
attribute [local go_sem] World.cell?_put_same World.cell?_put_ne World.cell?_put_ne' World.frozen?_put_same World.frozen?_put_ne World.frozen?_put_ne' World.setCell_put_same World.setCell_put_ne World.setCell_put_ne' World.inB_put World.inB_alloc World.inB_drew World.inB_drewN World.inB_new World.inB_setCell World.put_drew World.put_drewN World.q_setCell_drew World.q_setCell_drewN World.q_alloc_drew World.q_alloc_drewN World.put_put_same World.put_put_2 World.size_put World.q_cell?_alloc_old World.q_frozen?_alloc_old World.cell?_alloc_new' World.frozen?_alloc_new' World.q_setCell_alloc_old World.q_setCell_alloc_new World.q_put_alloc_old World.cell?_force_same World.frozen?_force_same World.cell?_force2_fst World.cell?_force2_snd SyncM.g0 SyncM.s0 SyncM.g1 SyncM.s1 SyncM.g2 SyncM.s2 SyncM.g3 SyncM.s3 SyncM.g4 SyncM.s4 SyncM.g5 SyncM.s5 SyncM.g6 SyncM.s6 SyncM.g7 SyncM.s7 SyncM.g8 SyncM.s8 SyncM.gi_next_0 SyncM.si_next_0 SyncM.gi_mtch_0 SyncM.si_mtch_0 MsgR.g0 MsgR.s0 MsgR.g1 MsgR.s1 MsgR.g2 MsgR.s2 MsgR.g3 MsgR.s3 MsgR.g4 MsgR.s4 MsgR.g5 MsgR.s5 MsgR.g6 MsgR.s6 MsgR.g7 MsgR.s7 MsgR.g8 MsgR.s8 MsgR.g9 MsgR.s9 Entry.g0 Entry.s0 Entry.g1 Entry.s1
attribute [local go_sem] ba_get upd_same upd_upd
set_option maxHeartbeats 4000000
set_option maxRecDepth 100000
section
variable {W w : World} {G : Nat → Prop} {b bl be : Nat} {A : AS}
theorem c208_yes (h : SB G W b bl be A w) (ok : A.lg.now.Ok) (hn : A.lg.hist.length ≤ 7000) {v : Value} {m : Msg} {B : Nat} (hv : EntsAt B W v m.ents) (hnv : ∀ g, v.ownBlock = some g → ¬ G g) (he2 : m.ents.length ≤ 2) (i0 : 0 ≤ m.index) (i1 : m.index ≤ maxT)
    (h1 : ¬ m.index < A.lg.now.base) (h2 : ¬ A.lg.now.last < m.index) (h3 : (A.lg.now.termAt m.index).1 = m.logTerm) :
    Calls Tryz.prog 208 #[vp b, .agg (m.r v).cells] w fun r w' => r = .returned (.tuple #[.bool (A.accept m).1.1, vi (A.accept m).1.2]) ∧ SB G W b bl be (A.accept m).2 w' := by
  have hk : Hid (A.accept m = ((true, (A.acc m).2), { A with lg := (A.acc m).1, commit := max A.commit (min m.commit (A.acc m).2) })) := by
    unfold Hid AS.accept; rw [if_neg h1, if_neg h2, if_neg (fun x => x h3)]
  have hc := h.hb.cell
  have ib := h.hb.inB
  unfold SyR at hc
  have hX := hidIt (fun ob w' (m : ModP (fun _ => False) (w.alloc ob) w') => (h.aside ob).fr m)
  obtain ⟨G1, hl1⟩ := h.lk
  have hL := hidIt (fun w' (m : ModP (fun _ => False) w w') => hl1.frame m (fun _ _ f => f))
  have Hok := hidIt ok
  have Hv := hidIt hv
  have Hnv := hidIt hnv
  obtain ⟨ad, cap, rfl, -⟩ := ownsRow_form hv
  have h2' : m.index ≤ A.lg.now.last := by omega
  unfold maxT at i1
  have Hn := hidIt hn
  clear h hl1 ok hv hnv hn
  obtain ⟨mk, mf, mt, mtm, mi, ml, mc, mo, me, md⟩ := m
  simp only [] at *
  obtain ⟨⟨LG, MM⟩, hacc⟩ : ∃ x, A.acc ⟨mk, mf, mt, mtm, mi, ml, mc, mo, me, md⟩ = x := ⟨_, rfl⟩
  rw [hacc] at hk
  have Hacc : Hid (accF A.commit me (mi + 1) (A.lg, mi) = (LG, MM)) := hacc
  clear hacc h2
  unfold Msg.r
  simp only []
  obtain ⟨⟨tt, te⟩, htt⟩ : ∃ x, A.lg.now.termAt mi = x := ⟨_, rfl⟩
  have HT := hidIt (fun w' (m : ModP (fun _ => False) w w') => c203 (hL.out w' m) Hok.out mi)
  rw [htt] at HT h3
  simp only [] at h3
  subst h3
  clear htt
  go_enter Tryz.func208, Tryz.ntmps208
  go_wp2_with (first
    | (go_at_call 130; refine (c130 (hL.out _ (by repeat (first | assumption | exact ModP.refl _ _ | refine ModP.fromPut ?_ (by assumption) | apply ModP.alloc | apply ModP.drew | apply ModP.drewN | refine ModP.put ?_ (by first | (left; assumption) | (left; rfl) | (right; simp only [World.inB, World.size_put] at *; omega)) _ _)))).mono ?_; rintro _ _ ⟨rfl, rfl⟩)
    | (go_at_call 154; refine (c154 (hL.out _ (by repeat (first | assumption | exact ModP.refl _ _ | refine ModP.fromPut ?_ (by assumption) | apply ModP.alloc | apply ModP.drew | apply ModP.drewN | refine ModP.put ?_ (by first | (left; assumption) | (left; rfl) | (right; simp only [World.inB, World.size_put] at *; omega)) _ _))) (by have := Hok.out.n6; omega) Hok.out.b0 (by have := Hok.out.lm; omega)).mono ?_; rintro _ _ ⟨rfl, m2, rfl⟩)
    | (go_at_call 203; refine (HT.out _ (by repeat (first | assumption | exact ModP.refl _ _ | refine ModP.fromPut ?_ (by assumption) | apply ModP.alloc | apply ModP.drew | apply ModP.drewN | refine ModP.put ?_ (by first | (left; assumption) | (left; rfl) | (right; simp only [World.inB, World.size_put] at *; omega)) _ _))).mono ?_; rintro _ w3 ⟨rfl, m3⟩; have X3 := hidIt (hX.out (.cells (MsgR.cells ⟨mk, mf, mt, mtm, mi, tt, mc, mo, .slice ad me.length cap, md⟩) 159 (0, 0)) w3 (ModP.trans (by repeat (first | assumption | exact ModP.refl _ _ | refine ModP.fromPut ?_ (by assumption) | apply ModP.alloc | apply ModP.drew | apply ModP.drewN | refine ModP.put ?_ (by first | (left; assumption) | (left; rfl) | (right; simp only [World.inB, World.size_put] at *; omega)) _ _)) m3.toP0)); have hb3 := m3.at (b := w.heap.size) (c := MsgR.cells ⟨mk, mf, mt, mtm, mi, tt, mc, mo, .slice ad me.length cap, md⟩) (T := 159) (by repeat (first | assumption | exact World.At_alloc_new | exact at_new (by first | rfl | (simp [World.size_put]; done) | (simp [World.size_put]; omega)) | refine World.At.alloc ?_ _ | refine World.At_drew.2 ?_ | refine (World.At_drewN _).2 ?_ | exact World.At_put_same (by first | assumption | (simp only [World.inB, World.size_put, World.alloc, World.drew, World.drewN, Array.size_push] at *; omega)) | refine (World.At_put_ne' (by first | assumption | (exact Ne.symm (by assumption)) | (simp only [World.inB, World.size_put] at *; omega))).2 ?_)) (by simp); have hc3 := hb3.cell; have ib3 := hb3.inB; have HB3 := hidIt hb3; clear m3 hb3))
  clear hc hc3 ib3
  go_loopw [11, 12] (fun mv kv u => ∃ (k : Nat) (lg : AL) (m' : Int), k ≤ me.length ∧ kv = vi k ∧ mv = vi m' ∧ Hid (accF A.commit (me.drop k) (mi + 1 + k) (lg, m') = (LG, MM)) ∧ Hid (SBx G W (fun x => x = w.heap.size) b bl be { A with lg := lg } u) ∧ Hid (u.At w.heap.size (MsgR.cells ⟨mk, mf, mt, mtm, mi, tt, mc, mo, .slice ad me.length cap, md⟩) 159) ∧ Hid (lg.now.Ok) ∧ Hid (lg.hist.length ≤ A.lg.hist.length + 7 * k)) (fun _ kv _ => me.length - (intOf kv).toNat)
  case atStart => exact ⟨0, A.lg, mi, Nat.zero_le _, rfl, rfl, by simpa using Hacc, X3, HB3, Hok, by simp [Hid]⟩
  case round =>
    clear X3 HB3
    obtain ⟨k, lg, m', hkl, rfl, rfl, H1, H2, H3, H4, H5⟩ := hrel
    have hcb := H3.out.cell
    have ibb := H3.out.inB
    have hcs := H2.out.sb.hb.cell
    have ibs := H2.out.sb.hb.inB
    unfold SyR at hcs
    by_cases hlt : k < me.length
    · obtain ⟨⟨et, ed⟩, hek⟩ : ∃ e, me[k]? = some e := ⟨me[k], List.getElem?_eq_getElem hlt⟩
      have hek' : me[k] = ⟨et, ed⟩ := by rw [List.getElem?_eq_getElem hlt] at hek; exact Option.some.inj hek
      have hdr : me.drop k = ⟨et, ed⟩ :: me.drop (k + 1) := by rw [List.drop_eq_getElem_cons hlt, hek']
      obtain ⟨ad', cap', hadd, hcells⟩ := EntsAt.form (H2.out.sb.ents Hv.out Hnv.out)
      obtain ⟨g, hg, ig, -, cg1, cg2⟩ := hcells k _ hek
      have : ad = some ⟨g, 0, none⟩ := by injection hadd with h9; rw [h9]; exact hg
      subst this
      have Hek := hidIt hek
      clear hadd hcells hek hek' hg
      have Hst := H1.out
      rw [hdr] at Hst
      unfold accF at Hst
      simp only [] at Hst
      have HstH := hidIt Hst
      clear Hst hdr H1
      obtain ⟨i, hi⟩ : ∃ i : Int, i = mi + 1 + k := ⟨_, rfl⟩
      have hlast := hidIt (by obtain ⟨G5, h5⟩ := H2.out.sb.lk; exact c154 h5 (by have := H4.out.n6; simp only []; omega) H4.out.b0 (by have := H4.out.lm; simp only []; omega))
      have k2 : (k : Int) < 2 := by omega
      by_cases hle : mi + 1 + k ≤ lg.now.last
      · obtain ⟨⟨t1, e1⟩, ht1⟩ : ∃ x, lg.now.termAt (mi + 1 + k) = x := ⟨_, rfl⟩
        have hTA := hidIt (fun w' (m : ModP (fun _ => False) wr w') => by obtain ⟨G5, h5⟩ := (H2.out.fr m).sb.lk; exact c203 h5 H4.out (mi + 1 + k))
        simp only [ht1] at hTA HstH
        clear ht1
        by_cases heq : t1 = et
        · have hst := HstH.out
          rw [if_pos ⟨hle, heq⟩] at hst
          have Hst2 := hidIt hst
          subst heq
          clear hst HstH
          go_wp2_with (first
            | (go_at_call 154; refine hlast.out.mono ?_; rintro _ _ ⟨rfl, m5, rfl⟩)
            | (go_at_call 203; refine (hTA.out _ (by repeat (first | assumption | exact ModP.refl _ _ | refine ModP.fromPut ?_ (by assumption) | apply ModP.alloc | apply ModP.drew | apply ModP.drewN | refine ModP.put ?_ (by first | (left; assumption) | (left; rfl) | (right; simp only [World.inB, World.size_put] at *; omega)) _ _))).mono ?_; rintro _ w6 ⟨rfl, m6⟩; have q6 : ModP (fun _ => False) wr w6 := ModP.trans (by repeat (first | assumption | exact ModP.refl _ _ | refine ModP.fromPut ?_ (by assumption) | apply ModP.alloc | apply ModP.drew | apply ModP.drewN | refine ModP.put ?_ (by first | (left; assumption) | (left; rfl) | (right; simp only [World.inB, World.size_put] at *; omega)) _ _)) m6.toP0; have S6 := hidIt (H2.out.fr q6); have P6 := hidIt (q6.at H3.out (by simp)); have hcb6 := P6.out.cell; have ibb6 := P6.out.inB; have hcs6 := S6.out.sb.hb.cell; have ibs6 := S6.out.sb.hb.inB; unfold SyR at hcs6; have cg6 := (q6.cell ig (by simp) (k * 2)).trans cg1; clear m6 q6 hcb ibb hcs ibs))
          go_roundw
          case rel => exact ⟨k + 1, lg, mi + 1 + k, by omega, by go_num, by go_num, by have := Hst2.out; unfold Hid; rw [show mi + 1 + ((k + 1 : Nat) : Int) = mi + 1 + k + 1 by omega]; exact this, S6, P6, H4, by have := H5.out; unfold Hid; omega⟩
          case measure => simp [intOf]; omega
        · have heq' : (t1 == et) = false := by simpa using heq
          by_cases hcm : mi + 1 + k ≤ A.commit
          · have hst := HstH.out
            rw [if_neg (fun h => heq h.2), if_pos ⟨hle, hcm⟩] at hst
            obtain ⟨rfl, rfl⟩ : lg = LG ∧ m' = MM := by simpa using hst
            clear hst HstH heq
            have nx : b ≠ w.heap.size := by have : b < w.heap.size := ib; omega
            by_cases q1 : m' < mc
            · by_cases q2 : A.commit < m'
              · have hmm : Hid (max A.commit (min mc m') = m') := by unfold Hid; omega
                go_wp2_with (first
                  | (go_at_call 154; refine hlast.out.mono ?_; rintro _ _ ⟨rfl, m5, rfl⟩)
                  | (go_at_call 203; refine (hTA.out _ (by repeat (first | assumption | exact ModP.refl _ _ | refine ModP.fromPut ?_ (by assumption) | apply ModP.alloc | apply ModP.drew | apply ModP.drewN | refine ModP.put ?_ (by first | (left; assumption) | (left; rfl) | (right; simp only [World.inB, World.size_put] at *; omega)) _ _))).mono ?_; rintro _ w6 ⟨rfl, m6⟩; have q6 : ModP (fun _ => False) wr w6 := ModP.trans (by repeat (first | assumption | exact ModP.refl _ _ | refine ModP.fromPut ?_ (by assumption) | apply ModP.alloc | apply ModP.drew | apply ModP.drewN | refine ModP.put ?_ (by first | (left; assumption) | (left; rfl) | (right; simp only [World.inB, World.size_put] at *; omega)) _ _)) m6.toP0; have S6 := hidIt (H2.out.fr q6); have P6 := hidIt (q6.at H3.out (by simp)); have hcb6 := P6.out.cell; have ibb6 := P6.out.inB; have cg6 := (q6.cell ig (by simp) (k * 2)).trans cg1; have hown := hidIt (fun c => (S6.out.sb).own c A.next A.mtch); have hbt := S6.out.sb.hb; unfold SyR at hbt hown; have HS := hidIt S6.out.sb; clear m6 q6 hcb ibb hcs ibs S6; obtain ⟨yt, rfl, iyt⟩ := hbt.door; simp only [World.put_put_same] at hown; clear hbt))
                go_ret2
                rw [hk.out]
                simp only [hmm.out]
                exact ⟨rfl, hown.out _⟩
              · have hmm : Hid (max A.commit (min mc m') = A.commit) := by unfold Hid; omega
                go_wp2_with (first
                  | (go_at_call 154; refine hlast.out.mono ?_; rintro _ _ ⟨rfl, m5, rfl⟩)
                  | (go_at_call 203; refine (hTA.out _ (by repeat (first | assumption | exact ModP.refl _ _ | refine ModP.fromPut ?_ (by assumption) | apply ModP.alloc | apply ModP.drew | apply ModP.drewN | refine ModP.put ?_ (by first | (left; assumption) | (left; rfl) | (right; simp only [World.inB, World.size_put] at *; omega)) _ _))).mono ?_; rintro _ w6 ⟨rfl, m6⟩; have q6 : ModP (fun _ => False) wr w6 := ModP.trans (by repeat (first | assumption | exact ModP.refl _ _ | refine ModP.fromPut ?_ (by assumption) | apply ModP.alloc | apply ModP.drew | apply ModP.drewN | refine ModP.put ?_ (by first | (left; assumption) | (left; rfl) | (right; simp only [World.inB, World.size_put] at *; omega)) _ _)) m6.toP0; have S6 := hidIt (H2.out.fr q6); have P6 := hidIt (q6.at H3.out (by simp)); have hcb6 := P6.out.cell; have ibb6 := P6.out.inB; have cg6 := (q6.cell ig (by simp) (k * 2)).trans cg1; have hown := hidIt (fun c => (S6.out.sb).own c A.next A.mtch); have hbt := S6.out.sb.hb; unfold SyR at hbt hown; have HS := hidIt S6.out.sb; clear m6 q6 hcb ibb hcs ibs S6; obtain ⟨yt, rfl, iyt⟩ := hbt.door; simp only [World.put_put_same] at hown; clear hbt))
                go_ret2
                rw [hk.out]
                simp only [hmm.out]
                exact ⟨rfl, HS.out⟩
            · by_cases q2 : A.commit < mc
              · have hmm : Hid (max A.commit (min mc m') = mc) := by unfold Hid; omega
                go_wp2_with (first
                  | (go_at_call 154; refine hlast.out.mono ?_; rintro _ _ ⟨rfl, m5, rfl⟩)
                  | (go_at_call 203; refine (hTA.out _ (by repeat (first | assumption | exact ModP.refl _ _ | refine ModP.fromPut ?_ (by assumption) | apply ModP.alloc | apply ModP.drew | apply ModP.drewN | refine ModP.put ?_ (by first | (left; assumption) | (left; rfl) | (right; simp only [World.inB, World.size_put] at *; omega)) _ _))).mono ?_; rintro _ w6 ⟨rfl, m6⟩; have q6 : ModP (fun _ => False) wr w6 := ModP.trans (by repeat (first | assumption | exact ModP.refl _ _ | refine ModP.fromPut ?_ (by assumption) | apply ModP.alloc | apply ModP.drew | apply ModP.drewN | refine ModP.put ?_ (by first | (left; assumption) | (left; rfl) | (right; simp only [World.inB, World.size_put] at *; omega)) _ _)) m6.toP0; have S6 := hidIt (H2.out.fr q6); have P6 := hidIt (q6.at H3.out (by simp)); have hcb6 := P6.out.cell; have ibb6 := P6.out.inB; have cg6 := (q6.cell ig (by simp) (k * 2)).trans cg1; have hown := hidIt (fun c => (S6.out.sb).own c A.next A.mtch); have hbt := S6.out.sb.hb; unfold SyR at hbt hown; have HS := hidIt S6.out.sb; clear m6 q6 hcb ibb hcs ibs S6; obtain ⟨yt, rfl, iyt⟩ := hbt.door; simp only [World.put_put_same] at hown; clear hbt))
                go_ret2
                rw [hk.out]
                simp only [hmm.out]
                exact ⟨rfl, hown.out _⟩
              · have hmm : Hid (max A.commit (min mc m') = A.commit) := by unfold Hid; omega
                go_wp2_with (first
                  | (go_at_call 154; refine hlast.out.mono ?_; rintro _ _ ⟨rfl, m5, rfl⟩)
                  | (go_at_call 203; refine (hTA.out _ (by repeat (first | assumption | exact ModP.refl _ _ | refine ModP.fromPut ?_ (by assumption) | apply ModP.alloc | apply ModP.drew | apply ModP.drewN | refine ModP.put ?_ (by first | (left; assumption) | (left; rfl) | (right; simp only [World.inB, World.size_put] at *; omega)) _ _))).mono ?_; rintro _ w6 ⟨rfl, m6⟩; have q6 : ModP (fun _ => False) wr w6 := ModP.trans (by repeat (first | assumption | exact ModP.refl _ _ | refine ModP.fromPut ?_ (by assumption) | apply ModP.alloc | apply ModP.drew | apply ModP.drewN | refine ModP.put ?_ (by first | (left; assumption) | (left; rfl) | (right; simp only [World.inB, World.size_put] at *; omega)) _ _)) m6.toP0; have S6 := hidIt (H2.out.fr q6); have P6 := hidIt (q6.at H3.out (by simp)); have hcb6 := P6.out.cell; have ibb6 := P6.out.inB; have cg6 := (q6.cell ig (by simp) (k * 2)).trans cg1; have hown := hidIt (fun c => (S6.out.sb).own c A.next A.mtch); have hbt := S6.out.sb.hb; unfold SyR at hbt hown; have HS := hidIt S6.out.sb; clear m6 q6 hcb ibb hcs ibs S6; obtain ⟨yt, rfl, iyt⟩ := hbt.door; simp only [World.put_put_same] at hown; clear hbt))
                go_ret2
                rw [hk.out]
                simp only [hmm.out]
                exact ⟨rfl, HS.out⟩
          · have hst : (if ((lg.trunc (mi + 1 + k)).2.append ⟨et, ed⟩).1 ≠ 0 then ((lg.trunc (mi + 1 + k)).2, m') else accF A.commit (me.drop (k + 1)) (mi + 1 + k + 1) (((lg.trunc (mi + 1 + k)).2.append ⟨et, ed⟩).2, mi + 1 + k)) = (LG, MM) := by
              have := HstH.out
              rwa [if_neg (fun h => heq h.2), if_neg (fun h => hcm h.2), if_pos hle] at this
            have hTr := hidIt (fun G1 w' (h1 : LMK w' G1 bl lg) => c254 h1 H4.out (by have := H5.out; have := Hn.out; omega) (mi + 1 + k))
            have Hk1 := hidIt (AL.trunc_ok H4.out (mi + 1 + k))
            have Hl1 := hidIt (AL.trunc_len H4.out (mi + 1 + k))
            generalize (lg.trunc (mi + 1 + k)).1 = e2 at *
            generalize (lg.trunc (mi + 1 + k)).2 = lg1 at *
            have hcm' : A.commit < mi + 1 + k := by omega
            clear HstH heq hcm
            have hap := hidIt (fun w' (S : SBx G W (fun x => x = w.heap.size) b bl be { A with lg := lg1 } w') => S.log (R := fun r => r = .returned (vi (lg1.append ⟨et, ed⟩).1)) (lg' := (lg1.append ⟨et, ed⟩).2) (fun G1 h1 => c156 h1 Hk1.out (by have := Hl1.out; have := H5.out; have := Hn.out; simp only []; omega) ⟨et, ed⟩))
            by_cases her : (lg1.append ⟨et, ed⟩).1 ≠ 0
            · rw [if_pos her] at hst
              obtain ⟨rfl, rfl⟩ : lg1 = LG ∧ m' = MM := by simpa using hst
              have her' : ((lg1.append ⟨et, ed⟩).1 == 0) = false := by simpa using her
              have hae := append_err her
              rw [hae] at hap
              generalize (lg1.append ⟨et, ed⟩).1 = er at *
              clear hst her hae
              go_wp2_with (first
                | (go_at_call 154; refine hlast.out.mono ?_; rintro _ _ ⟨rfl, m5, rfl⟩)
                | (go_at_call 203; refine (hTA.out _ (by repeat (first | assumption | exact ModP.refl _ _ | refine ModP.fromPut ?_ (by assumption) | apply ModP.alloc | apply ModP.drew | apply ModP.drewN | refine ModP.put ?_ (by first | (left; assumption) | (left; rfl) | (right; simp only [World.inB, World.size_put] at *; omega)) _ _))).mono ?_; rintro _ w6 ⟨rfl, m6⟩; have q6 : ModP (fun _ => False) wr w6 := ModP.trans (by repeat (first | assumption | exact ModP.refl _ _ | refine ModP.fromPut ?_ (by assumption) | apply ModP.alloc | apply ModP.drew | apply ModP.drewN | refine ModP.put ?_ (by first | (left; assumption) | (left; rfl) | (right; simp only [World.inB, World.size_put] at *; omega)) _ _)) m6.toP0; have S6 := hidIt (H2.out.fr q6); have P6 := hidIt (q6.at H3.out (by simp)); have hcb6 := P6.out.cell; have ibb6 := P6.out.inB; have hcs6 := S6.out.sb.hb.cell; have ibs6 := S6.out.sb.hb.inB; unfold SyR at hcs6; have cg6 := (q6.cell ig (by simp) (k * 2)).trans cg1; clear m6 q6 hcb ibb hcs ibs)
                | (go_at_call 254; refine (SBx.log S6.out (R := fun r => r = .returned (vi e2)) (lg' := lg1) (fun G1 h1 => hTr.out G1 _ h1)).mono ?_; rintro _ w7 ⟨rfl, S7, P7⟩; have S8 := hidIt S7; have P8 := hidIt (P7 w.heap.size _ _ rfl P6.out); have hcb8 := P8.out.cell; have ibb8 := P8.out.inB; have hcs8 := S8.out.sb.hb.cell; have ibs8 := S8.out.sb.hb.inB; unfold SyR at hcs8; obtain ⟨ad7, cap7, hadd7, hcells7⟩ := EntsAt.form (S7.sb.ents Hv.out Hnv.out); obtain ⟨g7, hg7, ig7, -, cg71, cg72⟩ := hcells7 k _ Hek.out; obtain rfl : g = g7 := (by rw [hg7] at hadd7; simp only [Value.slice.injEq, Option.some.injEq, Addr.mk.injEq] at hadd7; exact hadd7.1.1); clear S7 P7 hadd7 hcells7 hg7 S6 P6 hcb6 ibb6 hcs6 ibs6 cg6))
              refine Ord.region3 (fun _ => True) [] [0, 1, 2, 3, 4, 5, 6, 7, 8] (.one 9 false (.val 10 .fin)) true (fun _ _ => trivial) (by kernel_rfl) (by kernel_rfl) (fun _ _ d _ _ h => by cases d <;> exact h) trivial ?_
              simp only [Ord.pickO, Ord.nth]
              refine wpQuiet_nil ?_
              repeat (go_big_quiet_step (fail))
              refine wpQuiet_nil ?_
              -- steps: ['N9', 'V10']
              refine Ord.wpS_next rfl ?_
              intro K hK
              dsimp only [Ord.nth]
              go_wp2_with fail
              refine (hap.out _ (S8.out.fr (by repeat (first | assumption | exact ModP.refl _ _ | refine ModP.fromPut ?_ (by assumption) | apply ModP.alloc | apply ModP.drew | apply ModP.drewN | refine ModP.put ?_ (by first | (left; assumption) | (left; rfl) | (right; simp only [World.inB, World.size_put] at *; omega)) _ _)))).mono ?_
              rintro _ w5 ⟨rfl, S5, P5⟩
              have S6 := hidIt S5
              have P6 := hidIt (P5 w.heap.size _ _ rfl (World.At_drew.2 P8.out))
              clear S5 P5 S8 P8 hcb8 ibb8 hcs8 ibs8
              refine hK _ _ ?_
              clear hK K
              refine Ord.wpS_val rfl ?_
              dsimp only [Ord.nth]
              go_big_quiet_step (fail)
              refine wpQuiet_nil ?_
              refine Ord.wpS_fin ?_
              have hown := hidIt (fun c => (S6.out.sb).own c A.next A.mtch)
              have hbt := S6.out.sb.hb
              unfold SyR at hbt hown
              have HS := hidIt S6.out.sb
              have hcb9 := P6.out.cell
              have ibb9 := P6.out.inB
              clear S6
              obtain ⟨yt, rfl, iyt⟩ := hbt.door
              simp only [World.put_put_same] at hown
              clear hbt
              have nx : b ≠ w.heap.size := by have : b < w.heap.size := ib; omega
              by_cases q1 : m' < mc
              · by_cases q2 : A.commit < m'
                · have hmm : Hid (max A.commit (min mc m') = m') := by unfold Hid; omega
                  go_wp2_with fail
                  go_ret2
                  rw [hk.out]
                  simp only [hmm.out]
                  exact ⟨rfl, hown.out _⟩
                · have hmm : Hid (max A.commit (min mc m') = A.commit) := by unfold Hid; omega
                  go_wp2_with fail
                  go_ret2
                  rw [hk.out]
                  simp only [hmm.out]
                  exact ⟨rfl, HS.out⟩
              · by_cases q2 : A.commit < mc
                · have hmm : Hid (max A.commit (min mc m') = mc) := by unfold Hid; omega
                  go_wp2_with fail
                  go_ret2
                  rw [hk.out]
                  simp only [hmm.out]
                  exact ⟨rfl, hown.out _⟩
                · have hmm : Hid (max A.commit (min mc m') = A.commit) := by unfold Hid; omega
                  go_wp2_with fail
                  go_ret2
                  rw [hk.out]
                  simp only [hmm.out]
                  exact ⟨rfl, HS.out⟩
            · rw [if_neg her] at hst
              have her0 : (lg1.append ⟨et, ed⟩).1 = 0 := Decidable.of_not_not her
              have Hst2 := hidIt hst
              have Hok2 := hidIt (AL.append_ok Hk1.out ⟨et, ed⟩)
              have Hln2 := hidIt (AL.append_len lg1 ⟨et, ed⟩)
              rw [her0] at hap
              generalize (lg1.append ⟨et, ed⟩).2 = lg2 at *
              clear hst her her0
              go_wp2_with (first
                | (go_at_call 154; refine hlast.out.mono ?_; rintro _ _ ⟨rfl, m5, rfl⟩)
                | (go_at_call 203; refine (hTA.out _ (by repeat (first | assumption | exact ModP.refl _ _ | refine ModP.fromPut ?_ (by assumption) | apply ModP.alloc | apply ModP.drew | apply ModP.drewN | refine ModP.put ?_ (by first | (left; assumption) | (left; rfl) | (right; simp only [World.inB, World.size_put] at *; omega)) _ _))).mono ?_; rintro _ w6 ⟨rfl, m6⟩; have q6 : ModP (fun _ => False) wr w6 := ModP.trans (by repeat (first | assumption | exact ModP.refl _ _ | refine ModP.fromPut ?_ (by assumption) | apply ModP.alloc | apply ModP.drew | apply ModP.drewN | refine ModP.put ?_ (by first | (left; assumption) | (left; rfl) | (right; simp only [World.inB, World.size_put] at *; omega)) _ _)) m6.toP0; have S6 := hidIt (H2.out.fr q6); have P6 := hidIt (q6.at H3.out (by simp)); have hcb6 := P6.out.cell; have ibb6 := P6.out.inB; have hcs6 := S6.out.sb.hb.cell; have ibs6 := S6.out.sb.hb.inB; unfold SyR at hcs6; have cg6 := (q6.cell ig (by simp) (k * 2)).trans cg1; clear m6 q6 hcb ibb hcs ibs)
                | (go_at_call 254; refine (SBx.log S6.out (R := fun r => r = .returned (vi e2)) (lg' := lg1) (fun G1 h1 => hTr.out G1 _ h1)).mono ?_; rintro _ w7 ⟨rfl, S7, P7⟩; have S8 := hidIt S7; have P8 := hidIt (P7 w.heap.size _ _ rfl P6.out); have hcb8 := P8.out.cell; have ibb8 := P8.out.inB; have hcs8 := S8.out.sb.hb.cell; have ibs8 := S8.out.sb.hb.inB; unfold SyR at hcs8; obtain ⟨ad7, cap7, hadd7, hcells7⟩ := EntsAt.form (S7.sb.ents Hv.out Hnv.out); obtain ⟨g7, hg7, ig7, -, cg71, cg72⟩ := hcells7 k _ Hek.out; obtain rfl : g = g7 := (by rw [hg7] at hadd7; simp only [Value.slice.injEq, Option.some.injEq, Addr.mk.injEq] at hadd7; exact hadd7.1.1); clear S7 P7 hadd7 hcells7 hg7 S6 P6 hcb6 ibb6 hcs6 ibs6 cg6))
              refine Ord.region3 (fun _ => True) [] [0, 1, 2, 3, 4, 5, 6, 7, 8] (.one 9 false (.val 10 .fin)) true (fun _ _ => trivial) (by kernel_rfl) (by kernel_rfl) (fun _ _ d _ _ h => by cases d <;> exact h) trivial ?_
              simp only [Ord.pickO, Ord.nth]
              refine wpQuiet_nil ?_
              repeat (go_big_quiet_step (fail))
              refine wpQuiet_nil ?_
              -- steps: ['N9', 'V10']
              refine Ord.wpS_next rfl ?_
              intro K hK
              dsimp only [Ord.nth]
              go_wp2_with fail
              refine (hap.out _ (S8.out.fr (by repeat (first | assumption | exact ModP.refl _ _ | refine ModP.fromPut ?_ (by assumption) | apply ModP.alloc | apply ModP.drew | apply ModP.drewN | refine ModP.put ?_ (by first | (left; assumption) | (left; rfl) | (right; simp only [World.inB, World.size_put] at *; omega)) _ _)))).mono ?_
              rintro _ w5 ⟨rfl, S5, P5⟩
              have S6 := hidIt S5
              have P6 := hidIt (P5 w.heap.size _ _ rfl (World.At_drew.2 P8.out))
              clear S5 P5
              refine hK _ _ ?_
              clear hK K
              refine Ord.wpS_val rfl ?_
              dsimp only [Ord.nth]
              go_big_quiet_step (fail)
              refine wpQuiet_nil ?_
              refine Ord.wpS_fin ?_
              go_wp2_with fail
              go_roundw
              case rel => exact ⟨k + 1, lg2, mi + 1 + k, by omega, by go_num, by go_num, by have := Hst2.out; unfold Hid; rw [show mi + 1 + ((k + 1 : Nat) : Int) = mi + 1 + k + 1 by omega]; exact this, S6, P6, Hok2, by have := H5.out; have := Hln2.out; have := Hl1.out; unfold Hid; omega⟩
              case measure => simp [intOf]; omega
      · have hst : (if (lg.append ⟨et, ed⟩).1 ≠ 0 then (lg, m') else accF A.commit (me.drop (k + 1)) (mi + 1 + k + 1) ((lg.append ⟨et, ed⟩).2, mi + 1 + k)) = (LG, MM) := by
          have := HstH.out
          rwa [if_neg (fun h => hle h.1), if_neg (fun h => hle h.1), if_neg hle] at this
        have hap := hidIt (fun w' (m : ModP (fun _ => False) wr w') => (H2.out.fr m).log (R := fun r => r = .returned (vi (lg.append ⟨et, ed⟩).1)) (lg' := (lg.append ⟨et, ed⟩).2) (fun G1 h1 => c156 h1 H4.out (by have := H5.out; have := Hn.out; simp only []; omega) ⟨et, ed⟩))
        clear HstH
        by_cases her : (lg.append ⟨et, ed⟩).1 ≠ 0
        · rw [if_pos her] at hst
          obtain ⟨rfl, rfl⟩ : lg = LG ∧ m' = MM := by simpa using hst
          have her' : ((lg.append ⟨et, ed⟩).1 == 0) = false := by simpa using her
          have hae := append_err her
          rw [hae] at hap
          generalize (lg.append ⟨et, ed⟩).1 = er at *
          clear hst her hae
          go_wp2_with (first
            | (go_at_call 154; refine hlast.out.mono ?_; rintro _ _ ⟨rfl, m5, rfl⟩))
          refine Ord.region3 (fun _ => True) [] [0, 1, 2, 3, 4, 5, 6, 7, 8] (.one 9 false (.val 10 .fin)) true (fun _ _ => trivial) (by kernel_rfl) (by kernel_rfl) (fun _ _ d _ _ h => by cases d <;> exact h) trivial ?_
          simp only [Ord.pickO, Ord.nth]
          refine wpQuiet_nil ?_
          repeat (go_big_quiet_step (fail))
          refine wpQuiet_nil ?_
          -- steps: ['N9', 'V10']
          refine Ord.wpS_next rfl ?_
          intro K hK
          dsimp only [Ord.nth]
          go_wp2_with fail
          refine (hap.out _ (by repeat (first | assumption | exact ModP.refl _ _ | refine ModP.fromPut ?_ (by assumption) | apply ModP.alloc | apply ModP.drew | apply ModP.drewN | refine ModP.put ?_ (by first | (left; assumption) | (left; rfl) | (right; simp only [World.inB, World.size_put] at *; omega)) _ _))).mono ?_
          rintro _ w5 ⟨rfl, S5, P5⟩
          have S6 := hidIt S5
          have P6 := hidIt (P5 w.heap.size _ _ rfl H3.out)
          clear S5 P5 hcs ibs hcb ibb
          refine hK _ _ ?_
          clear hK K
          refine Ord.wpS_val rfl ?_
          dsimp only [Ord.nth]
          go_big_quiet_step (fail)
          refine wpQuiet_nil ?_
          refine Ord.wpS_fin ?_
          have hown := hidIt (fun c => (S6.out.sb).own c A.next A.mtch)
          have hbt := S6.out.sb.hb
          unfold SyR at hbt hown
          have HS := hidIt S6.out.sb
          have hcb9 := P6.out.cell
          have ibb9 := P6.out.inB
          clear S6
          obtain ⟨yt, rfl, iyt⟩ := hbt.door
          simp only [World.put_put_same] at hown
          clear hbt
          have nx : b ≠ w.heap.size := by have : b < w.heap.size := ib; omega
          by_cases q1 : m' < mc
          · by_cases q2 : A.commit < m'
            · have hmm : Hid (max A.commit (min mc m') = m') := by unfold Hid; omega
              go_wp2_with fail
              go_ret2
              rw [hk.out]
              simp only [hmm.out]
              exact ⟨rfl, hown.out _⟩
            · have hmm : Hid (max A.commit (min mc m') = A.commit) := by unfold Hid; omega
              go_wp2_with fail
              go_ret2
              rw [hk.out]
              simp only [hmm.out]
              exact ⟨rfl, HS.out⟩
          · by_cases q2 : A.commit < mc
            · have hmm : Hid (max A.commit (min mc m') = mc) := by unfold Hid; omega
              go_wp2_with fail
              go_ret2
              rw [hk.out]
              simp only [hmm.out]
              exact ⟨rfl, hown.out _⟩
            · have hmm : Hid (max A.commit (min mc m') = A.commit) := by unfold Hid; omega
              go_wp2_with fail
              go_ret2
              rw [hk.out]
              simp only [hmm.out]
              exact ⟨rfl, HS.out⟩
        · rw [if_neg her] at hst
          have her0 : (lg.append ⟨et, ed⟩).1 = 0 := Decidable.of_not_not her
          have Hst2 := hidIt hst
          have Hok2 := hidIt (AL.append_ok H4.out ⟨et, ed⟩)
          have Hln2 := hidIt (AL.append_len lg ⟨et, ed⟩)
          rw [her0] at hap
          generalize (lg.append ⟨et, ed⟩).2 = lg2 at *
          clear hst her her0
          go_wp2_with (first
            | (go_at_call 154; refine hlast.out.mono ?_; rintro _ _ ⟨rfl, m5, rfl⟩))
          refine Ord.region3 (fun _ => True) [] [0, 1, 2, 3, 4, 5, 6, 7, 8] (.one 9 false (.val 10 .fin)) true (fun _ _ => trivial) (by kernel_rfl) (by kernel_rfl) (fun _ _ d _ _ h => by cases d <;> exact h) trivial ?_
          simp only [Ord.pickO, Ord.nth]
          refine wpQuiet_nil ?_
          repeat (go_big_quiet_step (fail))
          refine wpQuiet_nil ?_
          -- steps: ['N9', 'V10']
          refine Ord.wpS_next rfl ?_
          intro K hK
          dsimp only [Ord.nth]
          go_wp2_with fail
          refine (hap.out _ (by repeat (first | assumption | exact ModP.refl _ _ | refine ModP.fromPut ?_ (by assumption) | apply ModP.alloc | apply ModP.drew | apply ModP.drewN | refine ModP.put ?_ (by first | (left; assumption) | (left; rfl) | (right; simp only [World.inB, World.size_put] at *; omega)) _ _))).mono ?_
          rintro _ w5 ⟨rfl, S5, P5⟩
          have S6 := hidIt S5
          have P6 := hidIt (P5 w.heap.size _ _ rfl H3.out)
          clear S5 P5
          refine hK _ _ ?_
          clear hK K
          refine Ord.wpS_val rfl ?_
          dsimp only [Ord.nth]
          go_big_quiet_step (fail)
          refine wpQuiet_nil ?_
          refine Ord.wpS_fin ?_
          go_wp2_with fail
          go_roundw
          case rel => exact ⟨k + 1, lg2, mi + 1 + k, by omega, by go_num, by go_num, by have := Hst2.out; unfold Hid; rw [show mi + 1 + ((k + 1 : Nat) : Int) = mi + 1 + k + 1 by omega]; exact this, S6, P6, Hok2, by have := H5.out; have := Hln2.out; unfold Hid; omega⟩
          case measure => simp [intOf]; omega
    · obtain rfl : k = me.length := by omega
      have hfin : Hid (LG = lg ∧ MM = m') := by
        have := H1.out
        rw [List.drop_length] at this
        simp only [accF, Prod.mk.injEq] at this
        exact ⟨this.1.symm, this.2.symm⟩
      obtain ⟨rfl, rfl⟩ := hfin.out
      have hown := hidIt (fun c => (H2.out.sb).own c A.next A.mtch)
      have hbt := H2.out.sb.hb
      clear hcs ibs
      unfold SyR at hbt hown
      have HS := hidIt H2.out.sb
      clear H2 H1 hfin Hacc
      obtain ⟨yt, rfl, iyt⟩ := hbt.door
      simp only [World.put_put_same] at hown
      clear hbt
      have nx : b ≠ w.heap.size := by have : b < w.heap.size := ib; omega
      by_cases q1 : MM < mc
      · by_cases q2 : A.commit < MM
        · have hmm : Hid (max A.commit (min mc MM) = MM) := by unfold Hid; omega
          go_wp2_with fail
          go_ret2
          rw [hk.out]
          simp only [hmm.out]
          exact ⟨rfl, hown.out _⟩
        · have hmm : Hid (max A.commit (min mc MM) = A.commit) := by unfold Hid; omega
          go_wp2_with fail
          go_ret2
          rw [hk.out]
          simp only [hmm.out]
          exact ⟨rfl, HS.out⟩
      · by_cases q2 : A.commit < mc
        · have hmm : Hid (max A.commit (min mc MM) = mc) := by unfold Hid; omega
          go_wp2_with fail
          go_ret2
          rw [hk.out]
          simp only [hmm.out]
          exact ⟨rfl, hown.out _⟩
        · have hmm : Hid (max A.commit (min mc MM) = A.commit) := by unfold Hid; omega
          go_wp2_with fail
          go_ret2
          rw [hk.out]
          simp only [hmm.out]
          exact ⟨rfl, HS.out⟩
theorem c208 (h : SB G W b bl be A w) (ok : A.lg.now.Ok) (hn : A.lg.hist.length ≤ 7000) {v : Value} {m : Msg} {B : Nat} (hv : EntsAt B W v m.ents) (hnv : ∀ g, v.ownBlock = some g → ¬ G g) (he2 : m.ents.length ≤ 2) (i0 : 0 ≤ m.index) (i1 : m.index ≤ maxT) :
    Calls Tryz.prog 208 #[vp b, .agg (m.r v).cells] w fun r w' => r = .returned (.tuple #[.bool (A.accept m).1.1, vi (A.accept m).1.2]) ∧ SB G W b bl be (A.accept m).2 w' := by
  by_cases h1 : m.index < A.lg.now.base
  · exact c208_no h ok hv hnv i0 i1 (.inl h1)
  by_cases h2 : A.lg.now.last < m.index
  · exact c208_no h ok hv hnv i0 i1 (.inr (.inl h2))
  by_cases h3 : (A.lg.now.termAt m.index).1 = m.logTerm
  · exact c208_yes h ok hn hv hnv he2 i0 i1 h1 h2 h3
  · exact c208_no h ok hv hnv i0 i1 (.inr (.inr h3))
end
end Go.Proofs.Qxb6500990aGreat
