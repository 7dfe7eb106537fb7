/- package sync: accept, the good case -/
import Derived.Test.Qxb6500990aGreatSy15
import Derived.Deep.Cut
set_option linter.unusedVariables false
set_option linter.unusedSimpArgs false
namespace Go.Tw
open Go Go.Proofs Go.Proofs.Qxb6500990aGreat
theorem agF_bd (s : Lg) : ∀ (es : List Entry) (i : Int), i ≤ s.last + 1 → i + (agF s es i : Nat) ≤ s.last + 1
  | [], i, h => by simp [agF]; exact h
  | e :: es, i, h => by
    by_cases c : i ≤ s.last ∧ (s.termAt i).1 = e.term
    · rw [agF_yes c]
      have := agF_bd s es (i + 1) (by omega)
      omega
    · rw [agF_no c]; simpa using h
end Go.Tw
namespace Go.Proofs.Qxb6500990aGreat
open Go Go.RowKit Go.Tw
attribute [local go_sem] World.cell?_put_same World.cell?_put_ne World.cell?_put_ne' World.frozen?_put_same World.frozen?_put_ne World.frozen?_put_ne' World.setCell_put_same World.setCell_put_ne World.setCell_put_ne' World.inB_put World.inB_alloc World.inB_drew World.inB_drewN World.inB_new World.inB_setCell World.put_drew World.put_drewN World.q_setCell_drew World.q_setCell_drewN World.q_alloc_drew World.q_alloc_drewN World.put_put_same World.put_put_2 World.size_put World.q_cell?_alloc_old World.q_frozen?_alloc_old World.cell?_alloc_new' World.frozen?_alloc_new' World.q_setCell_alloc_old World.q_setCell_alloc_new World.q_put_alloc_old World.cell?_force_same World.frozen?_force_same World.cell?_force2_fst World.cell?_force2_snd SyncR.g0 SyncR.s0 SyncR.g1 SyncR.s1 SyncR.g2 SyncR.s2 SyncR.g3 SyncR.s3 SyncR.g4 SyncR.s4 SyncR.g5 SyncR.s5 SyncR.g6 SyncR.s6 SyncR.g7 SyncR.s7 SyncR.g8 SyncR.s8 SyncR.g9 SyncR.s9 SyncR.g10 SyncR.s10 SyncR.g11 SyncR.s11 SyncR.g12 SyncR.s12 SyncR.g13 SyncR.s13 SyncR.g14 SyncR.s14 SyncR.g15 SyncR.s15 SyncR.g16 SyncR.s16 SyncR.g17 SyncR.s17 SyncR.g18 SyncR.s18 SyncR.g19 SyncR.s19 SyncR.g20 SyncR.s20 SyncR.g21 SyncR.s21 SyncR.g22 SyncR.s22 SyncR.g23 SyncR.s23 SyncR.g24 SyncR.s24 SyncR.g25 SyncR.s25 SyncR.g26 SyncR.s26 SyncR.g27 SyncR.s27 SyncR.g28 SyncR.s28 SyncR.g29 SyncR.s29 SyncR.g30 SyncR.s30 SyncR.g31 SyncR.s31 SyncR.g32 SyncR.s32 SyncR.g33 SyncR.s33 SyncR.g34 SyncR.s34 SyncR.g35 SyncR.s35 SyncR.g36 SyncR.s36 SyncR.g37 SyncR.s37 SyncR.g38 SyncR.s38 SyncR.g39 SyncR.s39 SyncR.g40 SyncR.s40 SyncR.g41 SyncR.s41 SyncR.gi_next_0 SyncR.si_next_0 SyncR.gi_mtch_0 SyncR.si_mtch_0 SyncR.gi_box_0 SyncR.si_box_0 SyncR.gi_box_1 SyncR.si_box_1 SyncR.gi_box_2 SyncR.si_box_2 SyncR.gi_box_3 SyncR.si_box_3 SyncR.gi_box_4 SyncR.si_box_4 SyncR.gi_box_5 SyncR.si_box_5 SyncR.gi_box_6 SyncR.si_box_6 SyncR.gi_box_7 SyncR.si_box_7 SyncR.gi_box_8 SyncR.si_box_8 SyncR.gi_box_9 SyncR.si_box_9 MsgR.g0 MsgR.s0 MsgR.g1 MsgR.s1 MsgR.g2 MsgR.s2 MsgR.g3 MsgR.s3 MsgR.g4 MsgR.s4 MsgR.g5 MsgR.s5 MsgR.g6 MsgR.s6 MsgR.g7 MsgR.s7 MsgR.g8 MsgR.s8 MsgR.g9 MsgR.s9
attribute [local go_sem] ba_get upd_same upd_upd
set_option maxHeartbeats 4000000
set_option maxRecDepth 100000
section
variable {W w : World} {G X : Nat → Prop} {p : SyP} {A : AS}
theorem c247_yes (h : RSx G W X p A w) {m : Msg} {v : Value} {B : Nat} (hv : EntsAt B w v m.ents) (hX : ∀ g, v.ownBlock = some g → X g) (mo : MsgOk m) (hn : A.lg.hist.length ≤ 440) (c1 : A.lg.now.base ≤ m.index) (c2 : m.index ≤ A.lg.now.last) (c3 : (A.lg.now.termAt m.index).1 = m.logTerm) :
    Calls Tryz.prog 247 #[vp p.b, .agg (m.r v).cells] w fun x w' => x = .returned (.tuple #[.bool (A.accept m).1.1, vi (A.accept m).1.2]) ∧ RSx G W X p (A.accept m).2 w' ∧ ∀ x c T, X x → w.At x c T → w'.At x c T := by
  have HRX := hidIt (fun A' (w' : World) (q : RSx G W (fun k => X k ∨ k = w.heap.size) p A' w') => (show RSx G W X p A' w' from by obtain ⟨G, bx, h1, h2, h3, h4⟩ := q; exact ⟨G, bx, h1, h2, h3, fun k hk => h4 k (.inl hk)⟩))
  have i0 := mo.i0
  have i1 := mo.i1
  have mc0 := mo.c0
  have mc1 := mo.c1
  unfold maxT at i1 mc1
  have hok := RB.ok h.rs
  have hk : Hid (A.accept m = ((true, (A.acc m).2), { A with lg := (A.acc m).1, commit := max A.commit (min m.commit (A.acc m).2) })) := by unfold Hid AS.accept; rw [if_neg (by omega), if_neg (by omega), if_neg (by simpa using c3)]
  have hacc := acc_two A.commit m.ents (m.index + 1) A.lg (by omega) (by omega)
  rw [show m.index + 1 - 1 = m.index by omega] at hacc
  have hacc2 : A.acc m = accF A.commit m.ents (m.index + 1) (A.lg, m.index) := rfl
  rw [← hacc2] at hacc
  clear hacc2
  have hkle := agF_le A.lg.now m.ents (m.index + 1)
  have hen := mo.n
  have S0 := hidIt (h.aside (.cells (m.r v).cells 159))
  have hm0 : Hid ((w.alloc (.cells (m.r v).cells 159)).At w.heap.size (m.r v).cells 159) := World.At_alloc_new
  have K0 : Hid (∀ x c T, X x → w.At x c T → (w.alloc (.cells (m.r v).cells 159)).At x c T) := fun x c T _ ha => ha.alloc _
  obtain ⟨ad, cap, hv0, _⟩ := EntsAt.form hv
  obtain ⟨G1, hl1⟩ := RB.lk h.rs
  have hL := hidIt (fun w' (q : ModP (fun _ => False) w w') => hl1.frame0 q)
  have q124 := hidIt (fun w' (q : ModP (fun _ => False) w w') => k124 (hl1.frame0 q) m.index)
  have q277 := hidIt (fun (w' : World) G' (q : RS G' w' p A [] w') (hv : EntsAt B w' v m.ents) => c277 q hv hen mo.i0 mo.i1)
  have q278 := hidIt (fun (w' : World) X' (q : RSx G W X' p A w') (hv : EntsAt B w' v m.ents) (hX' : ∀ g, v.ownBlock = some g → X' g) (k : Nat) (hk : k ≤ m.ents.length) (j1 : A.lg.now.base < m.index + (k : Int) + 1) (j2 : m.index + (k : Int) + 1 ≤ A.lg.now.last + 1) => c278 q hv hX' hen (fun e he => entOK_iff.2 (mo.e e he)) hk j1 j2 (by omega))
  have HV := hidIt hv
  have HX := hidIt hX
  obtain ⟨bx, hb⟩ := RB.hb h.rs
  have hc := hb.cell
  have ib := hb.inB
  unfold RSy at hc
  have hbm : p.b < w.heap.size := ib
  have nbm : p.b ≠ w.heap.size := by omega
  subst hv0
  unfold Msg.r at *
  have hbd := agF_bd A.lg.now m.ents (m.index + 1) (by omega)
  generalize agF A.lg.now m.ents (m.index + 1) = k at *
  have j1 : A.lg.now.base < m.index + (k : Int) + 1 := by omega
  have j2 : m.index + (k : Int) + 1 ≤ A.lg.now.last + 1 := by omega
  rw [show m.index + 1 + (k : Int) = m.index + (k : Int) + 1 by omega] at hacc
  have HJ := hidIt (And.intro j1 j2)
  have HACC := hidIt hacc
  have hlm := hok.last1
  unfold maxT at hlm
  have hmt : Hid (∃ q : AL × Int, q = A.acc m) := ⟨_, rfl⟩
  have d1 : decide (m.index < A.lg.now.base) = false := by simp; omega
  have d2 : decide (A.lg.now.last < m.index) = false := by simp; omega
  generalize A.lg.now.termAt m.index = tt at *
  obtain ⟨t1, t2⟩ := tt
  simp only [] at c3
  have d3 : (t1 != m.logTerm) = false := by simpa using c3
  have x1 : m.index + (k : Int) ≤ 72057594037927936 := by omega
  have hk2 : k ≤ 2 := by omega
  clear h hb hl1 hv hX mo hn c1 c2 c3 hok hacc j1 j2 hbd hlm hen hmt
  generalize hlt : (A.lg.now.termAt A.lg.now.last).1 = lt at *
  generalize hlaa : A.lg.now.last = la at *
  have Hla := hidIt hlaa
  clear hlt hlaa
  generalize m.ents.length = le at *
  go_enter Tryz.func247, Tryz.ntmps247
  go_upto_if 63 with (first
    | (go_at_call 69; refine (k69 (hL.out _ (by repeat (first | assumption | exact ModP.refl _ _ | refine ModP.fromPut ?_ (by assumption) | apply ModP.alloc | apply ModP.drew | apply ModP.drewN | refine ModP.put ?_ (by first | (left; assumption) | (left; rfl) | (right; simp only [World.inB, World.size_put] at *; omega)) _ _)))).mono ?_; rintro _ w0 ⟨rfl, e⟩; obtain rfl := e.symm)
    | (go_at_call 124; refine (q124.out _ (by repeat (first | assumption | exact ModP.refl _ _ | refine ModP.fromPut ?_ (by assumption) | apply ModP.alloc | apply ModP.drew | apply ModP.drewN | refine ModP.put ?_ (by first | (left; assumption) | (left; rfl) | (right; simp only [World.inB, World.size_put] at *; omega)) _ _))).mono ?_; rintro _ w1 ⟨rfl, m1⟩; have S1 := hidIt (S0.out.fr m1); have K1 := hidIt (fun x c T hx ha => m1.at (K0.out x c T hx ha) (fun f => f)); have HM1 := hidIt (m1.at hm0.out (fun f => f)); have hcm := HM1.out.cell; have ibm := HM1.out.inB; clear m1 S0 K0 hc ib hm0)
    | (go_at_call 277; refine (q277.out _ _ (RSp.rs (Classical.choose_spec (Classical.choose_spec S1.out)).1) (HV.out.keep HX.out K1.out)).mono ?_; rintro _ w2 ⟨rfl, m2⟩; have S2 := hidIt (S1.out.fr m2); have K2 := hidIt (fun x c T hx ha => m2.at (K1.out x c T hx ha) (fun f => f)); have HM2 := hidIt (m2.at HM1.out (fun f => f)); clear hcm ibm; have hcm := HM2.out.cell; have ibm := HM2.out.inB; clear m2 S1 K1 HM1))
  obtain ⟨⟨lgf, mt⟩, hamt⟩ : ∃ q : AL × Int, q = A.acc m := ⟨_, rfl⟩
  rw [← hamt] at HACC hk
  simp only [] at hk
  clear hamt
  go_cut [11] from 13 (fun s11 wc => s11 = vi mt ∧ Hid (RSx G W (fun k => X k ∨ k = w.heap.size) p { A with lg := lgf } wc) ∧ Hid (∀ x c T, X x → w.At x c T → wc.At x c T) ∧ Hid (wc.At w.heap.size (MsgR.cells ⟨m.kind, m.frm, m.to, m.term, m.index, m.logTerm, m.commit, m.ok, .slice ad le cap, m.data⟩) 159))
  case first =>
    by_cases ckl : k < le
    · have d5 : decide ((k : Int) < le) = true := by simp; omega
      have d6 : decide (k < le) = true := by simpa using ckl
      rw [if_pos ckl] at HACC
      have Q := hidIt (q278.out _ _ S2.out (HV.out.keep HX.out K2.out) (fun g hg => .inl (HX.out g hg)) k hkle HJ.out.1 (by rw [Hla.out] at *; exact HJ.out.2))
      generalize repF A.commit (List.drop k m.ents) (m.index + (k : Int) + 1) A.lg = rp at *
      obtain ⟨r1, r2⟩ := rp
      obtain ⟨e1, e2⟩ := Prod.mk.inj HACC.out
      subst e1 e2
      clear ckl HACC
      simp only [d5, d6]
      go_wp2_with (first
        | (go_at_call 278; refine Q.out.mono ?_; rintro _ w3 ⟨rfl, s3, k3⟩; have S3 := hidIt s3; have K3 := hidIt k3; clear s3 k3))
      go_meet
      case rel => exact ⟨rfl, S3, fun x c T hx ha => K3.out x c T (.inl hx) (K2.out x c T hx ha), K3.out _ _ _ (.inr rfl) HM2.out⟩
    · have d5 : decide ((k : Int) < le) = false := by simp; omega
      have d6 : decide (k < le) = false := by simpa using ckl
      rw [if_neg ckl] at HACC
      obtain ⟨e1, e2⟩ := Prod.mk.inj HACC.out
      subst e1 e2
      clear ckl HACC
      simp only [d5, d6]
      go_wp2_with fail
      go_meet
      case rel => exact ⟨rfl, S2, K2, HM2⟩
  case rest =>
    clear S2 K2 HM2 hcm ibm
    obtain ⟨rfl, S2, K2, HM2⟩ := hcut
    have hcm := HM2.out.cell
    have ibm := HM2.out.inB
    go_upto_if 75 with fail
    go_cut [12] from 13 (fun s12 wd => s12 = vi (min m.commit mt) ∧ wd = wc)
    case first =>
      by_cases cm : mt < m.commit
      · have d7 : decide (mt < m.commit) = true := by simpa using cm
        have e7 : Hid (min m.commit mt = mt) := by unfold Hid; omega
        clear cm
        simp only [d7]
        go_wp2_with fail
        go_meet
        case rel => exact ⟨by rw [e7.out], rfl⟩
      · have d7 : decide (mt < m.commit) = false := by simpa using cm
        have e7 : Hid (min m.commit mt = m.commit) := by unfold Hid; omega
        clear cm
        simp only [d7]
        go_wp2_with fail
        go_meet
        case rel => exact ⟨by rw [e7.out], rfl⟩
    case rest =>
      obtain ⟨rfl, rfl⟩ := hcut
      generalize hmn : min m.commit mt = mn at *
      obtain ⟨y, bx5, rfl, iy, nX, hset⟩ := RBx.open S2.out
      have HS := hidIt hset
      have nb5 : w.heap.size ≠ p.b := Ne.symm nbm
      clear hset hcm ibm S2 hmn
      by_cases cc : A.commit < mn
      · have d8 : decide (A.commit < mn) = true := by simpa using cc
        have e8 : Hid (max A.commit mn = mn) := by unfold Hid; omega
        clear cc
        go_wp2_with fail
        go_ret2
        rw [hk.out, e8.out]
        refine ⟨rfl, HRX.out { A with lg := lgf, commit := mn } _ (HS.out mn A.next A.mtch _ _), ?_⟩
        intro x c T hx ha
        have h9 := K2.out x c T hx ha
        have nx : x ≠ p.b := fun e => nX (.inl (e ▸ hx))
        exact (World.At_put_ne' nx).2 ((World.At_put_ne' nx).1 h9)
      · have d8 : decide (A.commit < mn) = false := by simpa using cc
        have e8 : Hid (max A.commit mn = A.commit) := by unfold Hid; omega
        clear cc
        go_wp2_with fail
        go_ret2
        rw [hk.out, e8.out]
        exact ⟨rfl, HRX.out { A with lg := lgf } _ (HS.out A.commit A.next A.mtch _ _), K2.out⟩
theorem c247 (h : RSx G W X p A w) {m : Msg} {v : Value} {B : Nat} (hv : EntsAt B w v m.ents) (hX : ∀ g, v.ownBlock = some g → X g) (mo : MsgOk m) (hn : A.lg.hist.length ≤ 440) :
    Calls Tryz.prog 247 #[vp p.b, .agg (m.r v).cells] w fun x w' => x = .returned (.tuple #[.bool (A.accept m).1.1, vi (A.accept m).1.2]) ∧ RSx G W X p (A.accept m).2 w' ∧ ∀ x c T, X x → w.At x c T → w'.At x c T := by
  by_cases hno : m.index < A.lg.now.base ∨ A.lg.now.last < m.index ∨ (A.lg.now.termAt m.index).1 ≠ m.logTerm
  · exact c247_no h hv mo hno
  · exact c247_yes h hv hX mo hn (by omega) (by omega) (Decidable.of_not_not (fun q => hno (.inr (.inr q))))
end
end Go.Proofs.Qxb6500990aGreat
