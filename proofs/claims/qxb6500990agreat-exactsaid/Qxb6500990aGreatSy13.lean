/- package sync: the follower's repair in two passes, as it is meant; agree -/
import Derived.Test.Qxb6500990aGreatSy12
set_option linter.unusedVariables false
set_option linter.unusedSimpArgs false
namespace Go.Tw
open Go Go.Proofs Go.Proofs.Qxb6500990aGreat
def agF (s : Lg) : List Entry → Int → Nat
  | [], _ => 0
  | e :: es, i => if i ≤ s.last ∧ (s.termAt i).1 = e.term then agF s es (i + 1) + 1 else 0
def growF : List Entry → Int → AL → AL × Int
  | [], i, lg => (lg, i - 1)
  | e :: es, i, lg => if (lg.append e).1 ≠ 0 then (lg, i - 1) else growF es (i + 1) (lg.append e).2
def repF (commit : Int) (es : List Entry) (i : Int) (lg : AL) : AL × Int :=
  if i ≤ lg.now.last ∧ i ≤ commit then (lg, i - 1) else growF es i (if i ≤ lg.now.last then (lg.trunc i).2 else lg)
theorem agF_yes {s : Lg} {e : Entry} {es : List Entry} {i : Int} (h : i ≤ s.last ∧ (s.termAt i).1 = e.term) : agF s (e :: es) i = agF s es (i + 1) + 1 := by rw [agF, if_pos h]
theorem agF_no {s : Lg} {e : Entry} {es : List Entry} {i : Int} (h : ¬ (i ≤ s.last ∧ (s.termAt i).1 = e.term)) : agF s (e :: es) i = 0 := by rw [agF, if_neg h]
theorem agF_le (s : Lg) : ∀ (es : List Entry) (i : Int), agF s es i ≤ es.length
  | [], _ => by simp [agF]
  | e :: es, i => by unfold agF; split <;> simp; exact agF_le s es (i + 1)
theorem trunc_lastR {a : AL} {i : Int} (h1 : a.now.base < i) (h2 : i ≤ a.now.last) : (a.trunc i).2.now.last = i - 1 := by
  unfold AL.trunc
  rw [if_neg (by omega)]
  obtain ⟨p1, p2, _⟩ := AL.popN_ents a (a.now.last - i + 1).toNat
  unfold Lg.last at *
  simp only [] at *
  rw [p1, p2]; omega
theorem grow_acc (commit : Int) : ∀ (es : List Entry) (i : Int) (lg : AL), lg.now.last = i - 1 → accF commit es i (lg, i - 1) = growF es i lg
  | [], _, _, _ => rfl
  | e :: es, i, lg, h => by
    unfold accF growF
    rw [if_neg (by omega), if_neg (by omega)]
    simp only []
    rw [if_neg (show ¬ i ≤ lg.now.last by omega)]
    by_cases c : (lg.append e).1 ≠ 0
    · rw [if_pos c, if_pos c]
    · rw [if_neg c, if_neg c]
      have hl := (AL.append_last lg e (Decidable.of_not_not c)).1
      have := grow_acc commit es (i + 1) (lg.append e).2 (by omega)
      rw [show i + 1 - 1 = i by omega] at this
      exact this
theorem acc_two (commit : Int) : ∀ (es : List Entry) (i : Int) (lg : AL), lg.now.base < i → i ≤ lg.now.last + 1 →
    accF commit es i (lg, i - 1) = if agF lg.now es i < es.length then repF commit (es.drop (agF lg.now es i)) (i + agF lg.now es i) lg else (lg, i - 1 + agF lg.now es i)
  | [], i, lg, _, _ => by simp [accF, agF]
  | e :: es, i, lg, h1, h2 => by
    unfold accF
    by_cases c : i ≤ lg.now.last ∧ (lg.now.termAt i).1 = e.term
    · have ea : agF lg.now (e :: es) i = agF lg.now es (i + 1) + 1 := agF_yes c
      rw [if_pos c, ea]
      have := acc_two commit es (i + 1) lg (by omega) (by omega)
      rw [show i + 1 - 1 = i by omega] at this
      rw [this]
      generalize agF lg.now es (i + 1) = k
      simp only [List.length_cons, List.drop_succ_cons, Nat.add_lt_add_iff_right]
      rw [show i + 1 + (k : Int) = i + ((k + 1 : Nat) : Int) by omega, show i + (k : Int) = i - 1 + ((k + 1 : Nat) : Int) by omega]
    · have ea : agF lg.now (e :: es) i = 0 := agF_no c
      rw [if_neg c, ea, if_pos (show 0 < (e :: es).length by simp), List.drop_zero, show i + ((0 : Nat) : Int) = i by simp]
      unfold repF
      by_cases c2 : i ≤ lg.now.last ∧ i ≤ commit
      · rw [if_pos c2, if_pos c2]
      · rw [if_neg c2, if_neg c2]
        simp only []
        have hl : (if i ≤ lg.now.last then (lg.trunc i).2 else lg).now.last = i - 1 := by
          split
          · rename_i q; exact trunc_lastR h1 q
          · omega
        generalize (if i ≤ lg.now.last then (lg.trunc i).2 else lg) = lg1 at *
        unfold growF
        by_cases c3 : (lg1.append e).1 ≠ 0
        · rw [if_pos c3, if_pos c3]
        · rw [if_neg c3, if_neg c3]
          have hl2 := (AL.append_last lg1 e (Decidable.of_not_not c3)).1
          have := grow_acc commit es (i + 1) (lg1.append e).2 (by omega)
          rw [show i + 1 - 1 = i by omega] at this
          exact this
theorem agF_step (s : Lg) (es : List Entry) (i : Int) : ∀ k : Nat, (∀ j e, j < k → es[j]? = some e → i + j ≤ s.last ∧ (s.termAt (i + j)).1 = e.term) → k ≤ es.length → agF s es i = k + agF s (es.drop k) (i + k) := by
  intro k
  induction k generalizing es i with
  | zero => intro _ _; simp
  | succ k ih =>
    intro h hk
    match es, hk with
    | e :: es, hk =>
      have h0 := h 0 e (by omega) rfl
      simp only [Int.natCast_zero, Int.add_zero] at h0
      have ea : agF s (e :: es) i = agF s es (i + 1) + 1 := agF_yes h0
      rw [ea]
      have := ih es (i + 1) (fun j e' hj he => by
        have := h (j + 1) e' (by omega) (by simpa using he)
        rw [show i + ((j + 1 : Nat) : Int) = i + 1 + (j : Int) by omega] at this
        exact this) (by simpa using hk)
      rw [this, List.drop_succ_cons, show i + 1 + (k : Int) = i + ((k + 1 : Nat) : Int) by omega]
      omega
end Go.Tw
namespace Go.Proofs.Qxb6500990aGreat
open Go Go.RowKit Go.Tw
attribute [local go_sem] World.cell?_put_same World.cell?_put_ne World.cell?_put_ne' World.frozen?_put_same World.frozen?_put_ne World.frozen?_put_ne' World.setCell_put_same World.setCell_put_ne World.setCell_put_ne' World.inB_put World.inB_alloc World.inB_drew World.inB_drewN World.inB_new World.inB_setCell World.put_drew World.put_drewN World.q_setCell_drew World.q_setCell_drewN World.q_alloc_drew World.q_alloc_drewN World.put_put_same World.put_put_2 World.size_put World.q_cell?_alloc_old World.q_frozen?_alloc_old World.cell?_alloc_new' World.frozen?_alloc_new' World.q_setCell_alloc_old World.q_setCell_alloc_new World.q_put_alloc_old World.cell?_force_same World.frozen?_force_same World.cell?_force2_fst World.cell?_force2_snd SyncR.g0 SyncR.s0 SyncR.g1 SyncR.s1 SyncR.g2 SyncR.s2 SyncR.g3 SyncR.s3 SyncR.g4 SyncR.s4 SyncR.g5 SyncR.s5 SyncR.g6 SyncR.s6 SyncR.g7 SyncR.s7 SyncR.g8 SyncR.s8 SyncR.g9 SyncR.s9 SyncR.g10 SyncR.s10 SyncR.g11 SyncR.s11 SyncR.g12 SyncR.s12 SyncR.g13 SyncR.s13 SyncR.g14 SyncR.s14 SyncR.g15 SyncR.s15 SyncR.g16 SyncR.s16 SyncR.g17 SyncR.s17 SyncR.g18 SyncR.s18 SyncR.g19 SyncR.s19 SyncR.g20 SyncR.s20 SyncR.g21 SyncR.s21 SyncR.g22 SyncR.s22 SyncR.g23 SyncR.s23 SyncR.g24 SyncR.s24 SyncR.g25 SyncR.s25 SyncR.g26 SyncR.s26 SyncR.g27 SyncR.s27 SyncR.g28 SyncR.s28 SyncR.g29 SyncR.s29 SyncR.g30 SyncR.s30 SyncR.g31 SyncR.s31 SyncR.g32 SyncR.s32 SyncR.g33 SyncR.s33 SyncR.g34 SyncR.s34 SyncR.g35 SyncR.s35 SyncR.g36 SyncR.s36 SyncR.g37 SyncR.s37 SyncR.g38 SyncR.s38 SyncR.g39 SyncR.s39 SyncR.g40 SyncR.s40 SyncR.g41 SyncR.s41 SyncR.gi_next_0 SyncR.si_next_0 SyncR.gi_mtch_0 SyncR.si_mtch_0 SyncR.gi_box_0 SyncR.si_box_0 SyncR.gi_box_1 SyncR.si_box_1 SyncR.gi_box_2 SyncR.si_box_2 SyncR.gi_box_3 SyncR.si_box_3 SyncR.gi_box_4 SyncR.si_box_4 SyncR.gi_box_5 SyncR.si_box_5 SyncR.gi_box_6 SyncR.si_box_6 SyncR.gi_box_7 SyncR.si_box_7 SyncR.gi_box_8 SyncR.si_box_8 SyncR.gi_box_9 SyncR.si_box_9 Entry.g0 Entry.s0 Entry.g1 Entry.s1
attribute [local go_sem] ba_get upd_same upd_upd
set_option maxHeartbeats 4000000
set_option maxRecDepth 100000
section
variable {W w : World} {G : Nat → Prop} {p : SyP} {A : AS}
theorem c277 (h : RS G W p A [] w) {v : Value} {es : List Entry} {B : Nat} (hv : EntsAt B w v es) (he2 : es.length ≤ 2) {i : Int} (i0 : 0 ≤ i) (i1 : i ≤ maxT) :
    Calls Tryz.prog 277 #[vp p.b, vi i, v] w fun r w' => r = .returned (vi ((agF A.lg.now es (i + 1) : Nat) : Int)) ∧ ModP (fun _ => False) w w' := by
  obtain ⟨ad, cap, rfl, hform⟩ := EntsAt.form hv
  have HV := hidIt hform
  have H := hidIt h
  obtain ⟨bx, hb⟩ := RB.hb h
  have HBb := hidIt hb
  have hla := (RB.ok h).last1
  have hla0 := (RB.ok h).last0
  unfold maxT at i1 hla
  have hst := hidIt (fun k => agF_step A.lg.now es (i + 1) k)
  generalize hlt : (A.lg.now.termAt A.lg.now.last).1 = lt at *
  generalize hlaa : A.lg.now.last = la at *
  have Hla := hidIt hlaa
  have M0 : Hid (ModP (fun _ => False) w w) := ModP.refl _ _
  obtain ⟨n, hn⟩ : ∃ n, n = es.length := ⟨_, rfl⟩
  rw [← hn]
  have Hn := hidIt hn
  have hn2 : n ≤ 2 := by omega
  clear h hb hv hform hlt hlaa he2 hn
  go_enter Tryz.func277, Tryz.ntmps277
  go_wp2_with fail
  go_loopw [7] (fun kv u => ∃ k : Nat, k ≤ n ∧ kv = vi k ∧ Hid (∀ (j : Nat) (e : Entry), j < k → es[j]? = some e → i + 1 + j ≤ la ∧ (A.lg.now.termAt (i + 1 + j)).1 = e.term) ∧ Hid (ModP (fun _ => False) w u)) (fun kv _ => n - (intOf kv).toNat)
  case atStart => exact ⟨0, by omega, rfl, fun j e hj => by omega, M0⟩
  case round =>
    clear M0
    obtain ⟨k, hk, rfl, H1, H2⟩ := hrel
    have hcu := (H2.out.at HBb.out (fun f => f)).cell
    have ibu := (H2.out.at HBb.out (fun f => f)).inB
    unfold RSy at hcu
    by_cases hkn : k < n
    · have k1 : (k : Int) < n := by omega
      obtain ⟨e, hek⟩ : ∃ e, es[k]? = some e := ⟨_, List.getElem?_eq_getElem (by have := Hn.out; omega)⟩
      obtain ⟨g, rfl, ig, hBg, ce, cd⟩ := HV.out k e hek
      have hek' := hidIt hek
      have hdrop : Hid (es.drop k = e :: es.drop (k + 1)) := by
        unfold Hid
        have hk' : k < es.length := by have := Hn.out; omega
        rw [List.drop_eq_getElem_cons hk']
        rw [List.getElem?_eq_getElem hk'] at hek
        injection hek with hek
        rw [hek]
      have ceu : wr.cell? ⟨g, k * 2, none⟩ = some (vi e.term) := by rw [H2.out.cell ig (fun f => f)]; exact ce
      have igu : wr.inB g := H2.out.inB ig
      by_cases c1 : i + 1 + (k : Int) ≤ la
      · have d1 : decide (i + 1 + (k : Int) ≤ la) = true := by simpa using c1
        obtain ⟨G1, hl⟩ := (RB.fr H.out H2.out).lk
        have q124 := hidIt (k124 hl (i + 1 + (k : Int)))
        have hck := hidIt c1
        have htt := hidIt (Eq.refl (A.lg.now.termAt (i + 1 + (k : Int))))
        obtain ⟨tt, htt⟩ : ∃ tt, tt = A.lg.now.termAt (i + 1 + (k : Int)) := ⟨_, rfl⟩
        rw [← htt] at q124
        have HTT := hidIt htt
        obtain ⟨t1, t2⟩ := tt
        clear hl htt c1
        by_cases c2 : t1 = e.term
        · have HC2 := hidIt c2
          have d2 : (t1 != e.term) = false := by simpa using c2
          clear c2 hek
          go_wp2_with (first
            | (go_at_call 124; refine q124.out.mono ?_; rintro _ w1 ⟨rfl, m1⟩; have M1 := hidIt (H2.out.trans m1); have ce1 := (m1.cell igu (fun f => f) (k * 2)).trans ceu; have ig1 := m1.inB igu; clear m1 hcu ibu ceu igu))
          go_roundw
          case rel =>
            refine ⟨k + 1, by omega, by go_num, ?_, M1⟩
            intro j e' hj he
            by_cases hjk : j = k
            · subst hjk
              rw [hek'.out] at he
              injection he with he
              subst he
              exact ⟨hck.out, by rw [← HTT.out]; exact HC2.out⟩
            · exact H1.out j e' (by omega) he
          case measure => simp [intOf]; omega
        · have HC2 := hidIt c2
          have d2 : (t1 != e.term) = true := by simpa using c2
          clear c2 hek
          go_wp2_with (first
            | (go_at_call 124; refine q124.out.mono ?_; rintro _ w1 ⟨rfl, m1⟩; have M1 := hidIt (H2.out.trans m1); have ce1 := (m1.cell igu (fun f => f) (k * 2)).trans ceu; have ig1 := m1.inB igu; clear m1 hcu ibu ceu igu))
          go_ret
          have ha := hst.out k H1.out (by have := Hn.out; omega)
          rw [hdrop.out, agF_no (by rw [← HTT.out]; exact fun q => HC2.out q.2)] at ha
          rw [ha]
          exact ⟨rfl, M1.out⟩
      · have d1 : decide (i + 1 + (k : Int) ≤ la) = false := by simpa using c1
        have HC1 := hidIt c1
        clear c1 hek
        go_wp2_with fail
        go_ret
        have ha := hst.out k H1.out (by have := Hn.out; omega)
        rw [hdrop.out, agF_no (by rw [Hla.out]; exact fun q => by have := q.1; have := HC1.out; omega)] at ha
        rw [ha]
        exact ⟨rfl, H2.out⟩
    · obtain rfl : k = n := by omega
      have d0 : decide ((k : Int) < (k : Int)) = false := by simp
      go_wp2_with fail
      go_ret
      have ha := hst.out k H1.out (by have := Hn.out; omega)
      rw [List.drop_of_length_le (by have := Hn.out; omega)] at ha
      rw [ha]
      exact ⟨rfl, H2.out⟩
end
end Go.Proofs.Qxb6500990aGreat
