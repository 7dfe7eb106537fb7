/- package rlog: dropFrom, TruncateFrom -/
import Derived.Test.Qxb6500990aGreatRl6
set_option linter.unusedVariables false
set_option linter.unusedSimpArgs false
namespace Go.Tw
open Go Go.Proofs Go.Proofs.Qxb6500990aGreat
theorem AL.popN_ents (a : AL) (k : Nat) : (a.popN k).now.ents.length = a.now.ents.length - k ∧ (a.popN k).now.base = a.now.base ∧ (a.popN k).hist.length = a.hist.length + k := by
  induction k with
  | zero => simp [AL.popN]
  | succ k ih =>
    rw [AL.popN_succ]
    obtain ⟨h1, h2, h3⟩ := ih
    refine ⟨?_, h2, ?_⟩
    · show (List.dropLast _).length = _; rw [List.length_dropLast, h1]; omega
    · show (_ ++ [_]).length = _; rw [List.length_append, h3]; simp; omega
end Go.Tw
namespace Go.Proofs.Qxb6500990aGreat
open Go Go.RowKit Go.Tw
attribute [local go_sem] World.cell?_put_same World.cell?_put_ne World.cell?_put_ne' World.frozen?_put_same World.frozen?_put_ne World.frozen?_put_ne' World.setCell_put_same World.setCell_put_ne World.setCell_put_ne' World.inB_put World.inB_alloc World.inB_drew World.inB_drewN World.inB_new World.inB_setCell World.put_drew World.put_drewN World.q_setCell_drew World.q_setCell_drewN World.q_alloc_drew World.q_alloc_drewN World.put_put_same World.put_put_2 World.size_put World.q_cell?_alloc_old World.q_frozen?_alloc_old World.cell?_alloc_new' World.frozen?_alloc_new' World.q_setCell_alloc_old World.q_setCell_alloc_new World.q_put_alloc_old World.cell?_force_same World.frozen?_force_same World.cell?_force2_fst World.cell?_force2_snd LogR.g0 LogR.s0 LogR.g1 LogR.s1 LogR.g2 LogR.s2 LogR.g3 LogR.s3 LogR.g4 LogR.s4 LogR.g5 LogR.s5 LogR.g6 LogR.s6 LogR.g7 LogR.s7 LogR.g8 LogR.s8 LogR.g9 LogR.s9 LogR.g10 LogR.s10 LogR.g11 LogR.s11 LogR.g12 LogR.s12 LogR.g13 LogR.s13 LogR.g14 LogR.s14 LogR.g15 LogR.s15 LogR.g16 LogR.s16 LogR.g17 LogR.s17 LogR.g18 LogR.s18 LogR.gi_terms_0 LogR.si_terms_0 LogR.gi_data_0 LogR.si_data_0
attribute [local go_sem] ba_get upd_same upd_upd
set_option maxHeartbeats 4000000
set_option maxRecDepth 100000
section
variable {W : World} {F : Nat → Prop} {bl bd : Nat} {A : AL} {N r : Nat}
theorem c280 (h : RLK W F bl bd A N r) (hh : A.hist.length ≤ 480) {i : Int} (hi : A.now.base < i) :
    Calls Tryz.prog 280 #[vp bl, vi i] W fun x w' => x = .returned (vi 0) ∧ RLK w' (grow F W) bl bd (A.popN (A.now.last - i + 1).toNat) N r ∧ ModP F W w' := by
  have hok := h.ok
  have b0 := hok.b0
  have n6 := hok.n6
  have lm : A.now.last ≤ maxT := hok.lm
  unfold maxT at lm
  have hlast : A.now.last = A.now.base + A.now.ents.length := rfl
  obtain ⟨n, hn⟩ : ∃ n, n = (A.now.last - i + 1).toNat := ⟨_, rfl⟩
  rw [← hn]
  have H0 : Hid (RLK W (grow F W) bl bd (A.popN 0) N r) := h.mono (fun _ => .inl)
  have fl := h.fl
  have hpe := hidIt (fun k => AL.popN_ents A k)
  have M0 : Hid (ModP F W W) := ModP.refl _ _
  clear h
  go_enter Tryz.func280, Tryz.ntmps280
  go_wp2_with fail
  go_loopw [5] (fun v u => ∃ k : Nat, k ≤ n ∧ Hid (RLK u (grow F W) bl bd (A.popN k) N r) ∧ Hid (ModP F W u)) (fun _ u => (intOf ((u.cell? ⟨bl, 6, none⟩).getD (vi 0)) - i + 1).toNat)
  case atStart => exact ⟨0, by omega, H0, M0⟩
  case round =>
    clear H0 M0
    obtain ⟨k, hk, H1, H2⟩ := hrel
    have hpo := H1.out.ok
    obtain ⟨p1, p2, p3⟩ := hpe.out k
    obtain ⟨Fd, bt, L, D, h⟩ := id H1.out
    have HP := hidIt h
    have hc := h.hl.cell
    have ib := h.hl.inB
    have hst := h.st
    have ll : L.last = A.now.base + (A.now.ents.length - k : Nat) := by rw [h.lr.l]; unfold Lg.last; rw [p1, p2]
    have hls : (A.popN k).now.last = L.last := h.lr.l.symm
    have hlen := h.tie.len
    rw [p3] at hlen
    have hlt : bl < W.heap.size ∨ W.heap.size ≤ bl := by omega
    obtain ⟨st, lt, lv, lb, lbt, lsn, ll', lts, lds⟩ := L
    simp only [] at hst ll hls
    subst hst
    by_cases hkn : k < n
    · have h0 : (A.popN k).now.ents ≠ [] := by intro e; rw [e] at p1; simp at p1; omega
      obtain ⟨hu, hT⟩ := h.tie.pop h0
      have HT := hidIt hT
      have HL := hidIt (h.lr.pop h0)
      rw [hls] at HT HL hu
      obtain ⟨c, hcc⟩ : ∃ c, c = slN ll' := ⟨_, rfl⟩
      have c6 : c < 6 := by rw [hcc]; exact slN_lt _
      rw [← hcc] at HT hu
      have q118 := hidIt (fun w => (show Calls Tryz.prog 118 #[vi ll'] w (fun r w' => r = .returned (vi c) ∧ w' = w) from by rw [hcc]; exact c118 w ll' (by omega) (by omega)))
      have q121 := hidIt (k121 h.sk (by omega) c c6 hu)
      have g1 : i ≤ ll' := by omega
      have hsucc := hidIt (AL.popN_succ A k)
      have g2 : -1 ≤ ll' := by omega
      have g3 : ll' ≤ 72057594037927936 := by omega
      have hcm := hidIt (hc 6)
      clear h hT hcc hlen hpo ll hls
      go_wp2_with (first
        | (go_at_call 118; refine (q118.out _).mono ?_; rintro _ _ ⟨rfl, rfl⟩)
        | (go_at_call 121; refine q121.out.mono ?_; rintro _ w1 ⟨rfl, sk1, m1⟩; have S1 := hidIt sk1; have M1 := hidIt m1; have ha := m1.at HP.out.hl (fun a => a.elim HP.out.nl HP.out.ne); clear sk1 m1 hc ib; obtain ⟨y, rfl, iy⟩ := ha.door; clear ha))
      have m2 : ModP (fun k => k = bl) (y.put bl (LogR.cells ⟨vp bt, lt, lv, lb, lbt, lsn, ll', lts, lds⟩) 149) (y.put bl (LogR.cells ⟨vp bt, lt, lv, lb, lbt, lsn, ll' - 1, lts, lds⟩) 149) := ((ModP.refl (fun k => k = bl) y).put (.inl rfl) _ _).fromPut rfl
      refine ⟨⟨k + 1, by omega, ?_, ?_⟩, ?_⟩
      · unfold Hid
        rw [hsucc.out]
        refine (HP.out.made2 (L' := ⟨vp bt, lt, lv, lb, lbt, lsn, ll' - 1, lts, lds⟩) (World.At_put_same iy) rfl HL.out (S1.out.frame m2 ?_ (fun a => HP.out.ne a.symm)) ?_ HT.out).mono ?_
        · rintro k (a | a) b
          · subst b; exact HP.out.nl a
          · have : bl < _ := HP.out.hl.inB
            subst b; omega
        · rintro k (a | a)
          · exact .inl a
          · exact .inr a.1
        · exact fun k a => grow_grow H2.out.size a
      · refine (H2.out.step M1.out ?_).step m2 (fun k e => .inl (e ▸ fl))
        rintro k (a | a)
        · exact HP.out.fd k a
        · exact a ▸ HP.out.ft
      · rw [hcm.out, (World.At_put_same iy).cell]
        show (ll' - 1 - i + 1).toNat < (ll' - i + 1).toNat
        omega
    · obtain rfl : k = n := by omega
      have g1 : ll' < i := by omega
      have g3 : ll' ≤ 72057594037927936 := by omega
      clear h hlen hpo ll hls
      go_wp2_with fail
      go_ret
      exact ⟨rfl, H1.out, H2.out⟩
theorem c289 (h : RLK W F bl bd A N r) (hh : A.hist.length ≤ 480) (i : Int) :
    Calls Tryz.prog 289 #[vp bl, vi i] W fun x w' => x = .returned (vi (A.trunc i).1) ∧ RLK w' (grow F W) bl bd (A.trunc i).2 N r ∧ ModP F W w' := by
  have H := hidIt h
  have q280 := hidIt (fun hi => c280 h hh (i := i) hi)
  obtain ⟨Fd, bt, L, D, h⟩ := h
  have hc := h.hl.cell
  have ib := h.hl.inB
  have lb := h.lr.b
  clear h
  by_cases hi : i ≤ A.now.base
  · have hk : Hid (A.trunc i = (7, A)) := by unfold Hid AL.trunc; rw [if_pos hi]
    have hi' : i ≤ L.base := by omega
    clear hi lb
    go_enter Tryz.func289, Tryz.ntmps289
    go_wp2_with fail
    go_ret
    rw [hk.out]
    exact ⟨rfl, H.out.mono (fun _ => .inl), ModP.refl _ _⟩
  · have hk : Hid (A.trunc i = (0, A.popN (A.now.last - i + 1).toNat)) := by unfold Hid AL.trunc; rw [if_neg hi]
    have hi' : L.base < i := by omega
    have q := hidIt (q280.out (by omega))
    clear hi lb q280
    go_enter Tryz.func289, Tryz.ntmps289
    go_wp2_with (first
      | (go_at_call 280; refine q.out.mono ?_; rintro _ w1 ⟨rfl, h1, m1⟩; have H1 := hidIt h1; have M1 := hidIt m1; clear h1 m1))
    go_ret
    rw [hk.out]
    exact ⟨rfl, H1.out, M1.out⟩
end
end Go.Proofs.Qxb6500990aGreat
