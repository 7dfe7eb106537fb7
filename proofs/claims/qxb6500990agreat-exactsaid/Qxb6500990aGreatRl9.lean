/- package rlog: Compact, Install -/
import Derived.Test.Qxb6500990aGreatRl8
set_option linter.unusedVariables false
set_option linter.unusedSimpArgs false
namespace Go.Tw
open Go Go.Proofs Go.Proofs.Qxb6500990aGreat
section
variable {A : AL} {D : Dk} {N r : Nat}
theorem Tie.inst (h : Tie A D N r) (hh : A.hist.length ≤ 490) (h0 : A.now.ents = []) {idx t : Int} {sn : Bs} (h1 : A.now.base < idx) (h2 : idx ≤ maxT) (t0 : 0 ≤ t) (t1 : t ≤ maxT) (hs : sn.length ≤ 128) :
    Tie (A.to { A.now with base := idx, baseTerm := t, snap := sn }) (snapDD D idx t sn) N r := by
  have hM : N + A.hist.length ≤ 2251799813685248 := by have := h.nb; omega
  have b0 := h.g.ok.b0
  have hl : A.now.last = A.now.base := by unfold Lg.last; rw [h0]; simp
  have e := snapDD_stOf D h.g.bl (idx := idx) (t := t) (data := sn) (by omega) h2 t0 t1 hs (stH_lt h.g hM) (vp 0)
  have ok : Lg.Ok { A.now with base := idx, baseTerm := t, snap := sn } := by
    have q := h.g.ok
    refine ⟨q.t0, q.t1, q.v0, q.v1, by show 0 ≤ idx; omega, t0, t1, hs, q.n6, by show idx + (A.now.ents.length : Int) ≤ maxT; rw [h0]; simpa using h2, q.en⟩
  have eu : stUsed (snapDD D idx t sn).now = stUsed D.now := by
    have : (stOf (vp 0) (snapDD D idx t sn).now).used = stUsed D.now := by rw [e]; rfl
    exact this
  have m := h.mid.snap hM (by omega) h2 t0 t1 hs (s' := { A.now with base := idx, baseTerm := t, snap := sn }) (by
    intro hd hsl st hi ht
    have q := h.g.rc.snap (es := A.now.ents) (sn := sn) hi ht (by rw [h0]; intro i e he; simp at he) (Int.le_of_lt h1) (by rw [h0, hl]; simp; omega) hsl st
    exact q) ok
  have hlen : (A.to { A.now with base := idx, baseTerm := t, snap := sn }).hist.length = A.hist.length + 1 := AL.to_len' _
  refine ⟨by rw [hlen, ← Nat.add_assoc]; exact m.c, by rw [hlen, ← Nat.add_assoc]; exact m.g, ?_, m.tip, ?_, ?_, h.nb⟩
  · intro c hc hu
    exfalso
    have hu' : stUsed D.now c = true := by rw [← eu]; exact hu
    have h3 := h.cl c hc hu'
    have h4 := (h.g.rc.dn c hc hu').2.2
    rw [hl] at h4
    omega
  · have := h.len
    have := snapDD_wr D idx t sn hs
    omega
  · intro e; rw [e] at hlen; simp at hlen
theorem LR.inst {L : LogR} {s : Lg} (h : LR L s) (h0 : s.ents = []) {idx t : Int} {sn : Bs} : LR { L with base := idx, baseTerm := t, snap := sn, last := idx } { s with base := idx, baseTerm := t, snap := sn } := by
  refine ⟨h.t, h.v, rfl, rfl, rfl, ?_, ?_⟩
  · show idx = idx + (s.ents.length : Int); rw [h0]; simp
  · intro i x hx
    have hx' : s.ents[i]? = some x := hx
    rw [h0] at hx'; simp at hx'
end
end Go.Tw
namespace Go.Proofs.Qxb6500990aGreat
open Go Go.RowKit Go.Tw
attribute [local go_sem] World.cell?_put_same World.cell?_put_ne World.cell?_put_ne' World.frozen?_put_same World.frozen?_put_ne World.frozen?_put_ne' World.setCell_put_same World.setCell_put_ne World.setCell_put_ne' World.inB_put World.inB_alloc World.inB_drew World.inB_drewN World.inB_new World.inB_setCell World.put_drew World.put_drewN World.q_setCell_drew World.q_setCell_drewN World.q_alloc_drew World.q_alloc_drewN World.put_put_same World.put_put_2 World.size_put World.q_cell?_alloc_old World.q_frozen?_alloc_old World.cell?_alloc_new' World.frozen?_alloc_new' World.q_setCell_alloc_old World.q_setCell_alloc_new World.q_put_alloc_old World.cell?_force_same World.frozen?_force_same World.cell?_force2_fst World.cell?_force2_snd LogR.g0 LogR.s0 LogR.g1 LogR.s1 LogR.g2 LogR.s2 LogR.g3 LogR.s3 LogR.g4 LogR.s4 LogR.g5 LogR.s5 LogR.g6 LogR.s6 LogR.g7 LogR.s7 LogR.g8 LogR.s8 LogR.g9 LogR.s9 LogR.g10 LogR.s10 LogR.g11 LogR.s11 LogR.g12 LogR.s12 LogR.g13 LogR.s13 LogR.g14 LogR.s14 LogR.g15 LogR.s15 LogR.g16 LogR.s16 LogR.g17 LogR.s17 LogR.g18 LogR.s18 LogR.gi_terms_0 LogR.si_terms_0 LogR.gi_data_0 LogR.si_data_0
attribute [local go_sem] ba_get upd_same upd_upd
set_option maxHeartbeats 4000000
set_option maxRecDepth 100000
section
variable {W : World} {F : Nat → Prop} {bl bd : Nat} {A : AL} {N r : Nat}
theorem c263 (h : RLK W F bl bd A N r) (hh : A.hist.length ≤ 480) (u : Int) (sn : Bs) :
    Calls Tryz.prog 263 #[vp bl, vi u, vs sn] W fun x w' => x = .returned (vi (A.compact u sn).1) ∧ RLK w' (grow F W) bl bd (A.compact u sn).2 N r ∧ ModP F W w' := by
  have H := hidIt h
  have q279 := hidIt (fun t h1 h2 t0 t1 hs => c279 h hh (idx := u) (t := t) (sn := sn) h1 h2 t0 t1 hs)
  obtain ⟨Fd, bt, L, D, h⟩ := h
  have hok := h.tie.g.ok
  have b0 := hok.b0
  have lm : A.now.last ≤ maxT := hok.lm
  unfold maxT at lm
  have hc := h.hl.cell
  have ib := h.hl.inB
  have lb := h.lr.b
  have ll := h.lr.l
  have hle : A.now.base ≤ A.now.last := by unfold Lg.last; omega
  by_cases z1 : 128 < sn.length
  · have hk : Hid (A.compact u sn = (5, A)) := by unfold Hid AL.compact; rw [if_pos z1]
    have g1 : decide (128 < (sn.length : Int)) = true := by simp; omega
    clear h z1 q279
    go_enter Tryz.func263, Tryz.ntmps263
    go_wp2_with fail
    go_ret
    rw [hk.out]
    exact ⟨rfl, H.out.mono (fun _ => .inl), ModP.refl _ _⟩
  have g1 : decide (128 < (sn.length : Int)) = false := by simp; omega
  by_cases z2 : u ≤ A.now.base
  · have hk : Hid (A.compact u sn = (7, A)) := by unfold Hid AL.compact; rw [if_neg z1, if_pos z2]
    have g2 : u ≤ L.base := by omega
    clear h z1 z2 q279 lb ll
    go_enter Tryz.func263, Tryz.ntmps263
    go_wp2_with fail
    go_ret
    rw [hk.out]
    exact ⟨rfl, H.out.mono (fun _ => .inl), ModP.refl _ _⟩
  have g2 : L.base < u := by omega
  by_cases z3 : A.now.last < u
  · have hk : Hid (A.compact u sn = (2, A)) := by unfold Hid AL.compact; rw [if_neg z1, if_neg z2, if_pos z3]
    have g3 : L.last < u := by omega
    clear h z1 z2 z3 q279 lb ll
    go_enter Tryz.func263, Tryz.ntmps263
    go_wp2_with fail
    go_ret
    rw [hk.out]
    exact ⟨rfl, H.out.mono (fun _ => .inl), ModP.refl _ _⟩
  have g3 : u ≤ L.last := by omega
  have ha := h.lr.at_ (i := u) (by omega) (by omega)
  have hta : A.now.termAt u = (L.terms (slN u), 0) := by unfold Lg.termAt; rw [if_neg (by omega), ha]
  have hk : Hid (A.compact u sn = (0, A.rebase u (L.terms (slN u)) sn)) := by unfold Hid AL.compact; rw [if_neg z1, if_neg z2, if_neg z3, hta]
  have htb := Lg.termAt_ok hok u
  rw [hta] at htb
  have q := hidIt (q279.out (L.terms (slN u)) (by omega) (by omega) htb.1 htb.2 (by omega))
  have q118 := hidIt (fun w => c118 w u (by omega) (by omega))
  have c6 := slN_lt u
  have c6' : (slN u : Int) < 6 := by omega
  clear h z1 z2 z3 q279 lb ll ha hta htb
  generalize slN u = c at *
  go_enter Tryz.func263, Tryz.ntmps263
  go_wp2_with (first
    | (go_at_call 118; refine (q118.out _).mono ?_; rintro _ _ ⟨rfl, rfl⟩)
    | (go_at_call 279; refine q.out.mono ?_; rintro _ w1 ⟨rfl, h1, m1⟩; have H1 := hidIt h1; have M1 := hidIt m1; clear h1 m1))
  go_ret
  rw [hk.out]
  exact ⟨rfl, H1.out, M1.out⟩
theorem c248 (h : RLK W F bl bd A N r) (hh : A.hist.length ≤ 480) {idx t : Int} {sn : Bs} (h1 : A.now.base < idx) (h2 : idx ≤ maxT) (t0 : 0 ≤ t) (t1 : t ≤ maxT) (hs : sn.length ≤ 128) :
    Calls Tryz.prog 248 #[vp bl, vi idx, vi t, vs sn] W fun x w' => x = .returned (vi (A.install idx t sn).1) ∧ RLK w' (grow F W) bl bd (A.install idx t sn).2 N r ∧ ModP F W w' := by
  have H := hidIt h
  have hok := h.ok
  have b0 := hok.b0
  have n6 := hok.n6
  have lm : A.now.last ≤ maxT := hok.lm
  have hin : A.install idx t sn = if A.now.termAt idx = (t, 0) then (0, A.rebase idx t sn) else (0, (A.popN A.now.ents.length).to { (A.popN A.now.ents.length).now with base := idx, baseTerm := t, snap := sn }) := by
    unfold AL.install; rw [if_neg (by omega), if_neg (by omega), if_neg (by omega)]
  obtain ⟨Fd, bt, L, D, hp⟩ := id h
  have hc := hp.hl.cell
  have ib := hp.hl.inB
  have lb := hp.lr.b
  have q124 := hidIt (fun w (m : ModP (fun _ => False) W w) => c124 (m.at hp.hl (fun f => f)) hp.lr hok idx)
  have h2' : idx ≤ 72057594037927936 := h2
  have t1' : t ≤ 72057594037927936 := t1
  have q1 : decide (idx < 0) = false := by simp; omega
  have q2 : decide (72057594037927936 < idx) = false := by simp; omega
  have q3 : decide (t < 0) = false := by simp; omega
  have q4 : decide (72057594037927936 < t) = false := by simp; omega
  have q5 : decide (128 < (sn.length : Int)) = false := by simp; omega
  have g2 : L.base < idx := by omega
  have x1 : L.base ≤ 72057594037927936 := by omega
  have x0 : 0 ≤ L.base := by omega
  by_cases hz : A.now.termAt idx = (t, 0)
  · have hk := hidIt hin
    rw [if_pos hz] at hk
    have hle : idx ≤ A.now.last := by
      unfold Lg.termAt Lg.at_ at hz
      rw [if_neg (by omega), if_neg (by omega)] at hz
      by_cases hl : A.now.last < idx
      · rw [if_pos hl] at hz; simp at hz
      · omega
    have q279 := hidIt (fun w (m : ModP (fun _ => False) W w) => c279 (h.frame0 m) hh (idx := idx) (t := t) (sn := sn) h1 hle t0 t1 hs)
    rw [hz] at q124
    clear h hz hin hp h2 t1 h2' t1' t0 lm n6 b0 lb hs h1 hle
    go_enter Tryz.func248, Tryz.ntmps248
    go_wp2_with (first
      | (go_at_call 124; refine Calls.mono (q124.out _ (ModP.refl _ _)) ?_; rintro _ w1 ⟨rfl, m1⟩; have M1 := hidIt m1; clear m1)
      | (go_at_call 279; refine Calls.mono (q279.out _ M1.out) ?_; rintro _ w2 ⟨rfl, h3, m2⟩; have H2 := hidIt h3; have M2 := hidIt m2; clear h3 m2))
    go_ret
    rw [hk.out]
    exact ⟨rfl, H2.out.mono (fun k a => grow_mono M1.out.size a), (M1.out.mono (fun _ f => f.elim)).trans M2.out⟩
  · have hk := hidIt hin
    rw [if_neg hz] at hk
    have q280 := hidIt (fun w (m : ModP (fun _ => False) W w) => c280 (h.frame0 m) hh (i := A.now.base + 1) (by omega))
    have hlast : A.now.last = A.now.base + A.now.ents.length := rfl
    rw [show (A.now.last - (A.now.base + 1) + 1).toNat = A.now.ents.length by omega, ← lb] at q280
    have hpe := AL.popN_ents A A.now.ents.length
    have hpn : (A.popN A.now.ents.length).now.ents = [] := List.eq_nil_of_length_eq_zero (by rw [hpe.1]; omega)
    have hpb : A.now.base = (A.popN A.now.ents.length).now.base := hpe.2.1.symm
    have hph := hpe.2.2
    have HB : Hid ((A.popN A.now.ents.length).now.ents = [] ∧ (A.popN A.now.ents.length).now.base < idx ∧ (A.popN A.now.ents.length).hist.length ≤ 490) := ⟨hpn, by rw [← hpb]; exact h1, by omega⟩
    generalize A.popN A.now.ents.length = A1 at *
    have hz' : Hid (A.now.termAt idx ≠ (t, 0)) := hz
    have HR : Hid (idx ≤ maxT ∧ 0 ≤ t ∧ t ≤ maxT ∧ sn.length ≤ 128) := ⟨h2, t0, t1, hs⟩
    generalize A.now.termAt idx = q at *
    obtain ⟨q1', q2'⟩ := q
    have hbl : bl < W.heap.size := ib
    clear h hz hin hp h2 t1 h2' t1' t0 lm n6 b0 lb hs h1 hlast hpe hpn hpb hph hok
    by_cases e : q2' = 0
    · have e1 : (q1' == t) = false := by simp; intro f; exact hz'.out (by rw [e, f])
      subst e
      clear hz'
      go_enter Tryz.func248, Tryz.ntmps248
      go_wp2_with (first
        | (go_at_call 124; refine Calls.mono (q124.out _ (ModP.refl _ _)) ?_; rintro _ w1 ⟨rfl, m1⟩; have M1 := hidIt m1; have hd := hc; clear hc; have hc := (fun o => (m1.cell ib (fun f => f) o).trans (hd o)); have ib := m1.inB ib; clear m1 hd)
        | (go_at_call 280; refine Calls.mono (q280.out _ M1.out) ?_; rintro _ w2 ⟨rfl, h3, m2⟩; have M2 := hidIt m2; obtain ⟨Fd2, bt2, L2, D2, hp2⟩ := h3; have HP := hidIt hp2; have q281 := hidIt (k281 hp2.sk (by have h8 := hp2.tie.len; have h9 := HB.out.2.2; omega) (idx := idx) (t := t) (data := sn) (by have h8 := hp2.tie.g.ok.b0; have h9 := HB.out.2.1; omega) HR.out.1 HR.out.2.1 HR.out.2.2.1 HR.out.2.2.2 (stH_lt hp2.tie.g (by have h8 := hp2.tie.nb; have h9 := HB.out.2.2; omega))); have HT := hidIt (hp2.tie.inst HB.out.2.2 HB.out.1 HB.out.2.1 HR.out.1 HR.out.2.1 HR.out.2.2.1 HR.out.2.2.2); have HL := hidIt (hp2.lr.inst HB.out.1 (idx := idx) (t := t) (sn := sn)); clear hc ib m2; have hc := hp2.hl.cell; have ib := hp2.hl.inB; have hst := hp2.st; obtain ⟨st, lt, lv, lb', lbt, lsn, ll', lts, lds⟩ := L2; simp only [] at hst; subst hst; clear hp2)
        | (go_at_call 281; refine q281.out.mono ?_; rintro _ w3 ⟨rfl, sk1, m3⟩; have S1 := hidIt sk1; have M3 := hidIt m3; have ha := m3.at HP.out.hl (fun a => a.elim HP.out.nl HP.out.ne); clear sk1 m3 hc ib q281; obtain ⟨y, rfl, iy⟩ := ha.door; clear ha))
      go_ret
      rw [hk.out]
      have m4 : ModP (fun k => k = bl) (y.put bl (LogR.cells ⟨vp bt2, lt, lv, lb', lbt, lsn, ll', lts, lds⟩) 149) (y.put bl (LogR.cells ⟨vp bt2, lt, lv, idx, t, sn, idx, lts, lds⟩) 149) := ((ModP.refl (fun k => k = bl) y).put (.inl rfl) _ _).fromPut rfl
      have hb2 : bl < _ := HP.out.hl.inB
      refine ⟨rfl, (HP.out.made2 (L' := ⟨vp bt2, lt, lv, idx, t, sn, idx, lts, lds⟩) (World.At_put_same iy) rfl HL.out (S1.out.frame m4 ?_ (fun a => HP.out.ne a.symm)) ?_ HT.out).mono ?_, ?_⟩
      · rintro k (a | a) b
        · subst b; exact HP.out.nl a
        · subst b; omega
      · rintro k (a | a)
        · exact .inl a
        · exact .inr a.1
      · intro k a
        exact grow_mono M1.out.size (grow_grow M2.out.size a)
      · refine (((M1.out.mono (G := F) (fun _ f => f.elim)).trans M2.out).step M3.out ?_).step m4 ?_
        · rintro k (a | a)
          · exact grow_mono M1.out.size (HP.out.fd k a)
          · exact grow_mono M1.out.size (a ▸ HP.out.ft)
        · rintro k a
          exact .inl (a ▸ H.out.fl)
    · have e1 : (q2' == 0) = false := by simp [e]
      clear hz' e
      go_enter Tryz.func248, Tryz.ntmps248
      go_wp2_with (first
        | (go_at_call 124; refine Calls.mono (q124.out _ (ModP.refl _ _)) ?_; rintro _ w1 ⟨rfl, m1⟩; have M1 := hidIt m1; have hd := hc; clear hc; have hc := (fun o => (m1.cell ib (fun f => f) o).trans (hd o)); have ib := m1.inB ib; clear m1 hd)
        | (go_at_call 280; refine Calls.mono (q280.out _ M1.out) ?_; rintro _ w2 ⟨rfl, h3, m2⟩; have M2 := hidIt m2; obtain ⟨Fd2, bt2, L2, D2, hp2⟩ := h3; have HP := hidIt hp2; have q281 := hidIt (k281 hp2.sk (by have h8 := hp2.tie.len; have h9 := HB.out.2.2; omega) (idx := idx) (t := t) (data := sn) (by have h8 := hp2.tie.g.ok.b0; have h9 := HB.out.2.1; omega) HR.out.1 HR.out.2.1 HR.out.2.2.1 HR.out.2.2.2 (stH_lt hp2.tie.g (by have h8 := hp2.tie.nb; have h9 := HB.out.2.2; omega))); have HT := hidIt (hp2.tie.inst HB.out.2.2 HB.out.1 HB.out.2.1 HR.out.1 HR.out.2.1 HR.out.2.2.1 HR.out.2.2.2); have HL := hidIt (hp2.lr.inst HB.out.1 (idx := idx) (t := t) (sn := sn)); clear hc ib m2; have hc := hp2.hl.cell; have ib := hp2.hl.inB; have hst := hp2.st; obtain ⟨st, lt, lv, lb', lbt, lsn, ll', lts, lds⟩ := L2; simp only [] at hst; subst hst; clear hp2)
        | (go_at_call 281; refine q281.out.mono ?_; rintro _ w3 ⟨rfl, sk1, m3⟩; have S1 := hidIt sk1; have M3 := hidIt m3; have ha := m3.at HP.out.hl (fun a => a.elim HP.out.nl HP.out.ne); clear sk1 m3 hc ib q281; obtain ⟨y, rfl, iy⟩ := ha.door; clear ha))
      go_ret
      rw [hk.out]
      have m4 : ModP (fun k => k = bl) (y.put bl (LogR.cells ⟨vp bt2, lt, lv, lb', lbt, lsn, ll', lts, lds⟩) 149) (y.put bl (LogR.cells ⟨vp bt2, lt, lv, idx, t, sn, idx, lts, lds⟩) 149) := ((ModP.refl (fun k => k = bl) y).put (.inl rfl) _ _).fromPut rfl
      have hb2 : bl < _ := HP.out.hl.inB
      refine ⟨rfl, (HP.out.made2 (L' := ⟨vp bt2, lt, lv, idx, t, sn, idx, lts, lds⟩) (World.At_put_same iy) rfl HL.out (S1.out.frame m4 ?_ (fun a => HP.out.ne a.symm)) ?_ HT.out).mono ?_, ?_⟩
      · rintro k (a | a) b
        · subst b; exact HP.out.nl a
        · subst b; omega
      · rintro k (a | a)
        · exact .inl a
        · exact .inr a.1
      · intro k a
        exact grow_mono M1.out.size (grow_grow M2.out.size a)
      · refine (((M1.out.mono (G := F) (fun _ f => f.elim)).trans M2.out).step M3.out ?_).step m4 ?_
        · rintro k (a | a)
          · exact grow_mono M1.out.size (HP.out.fd k a)
          · exact grow_mono M1.out.size (a ▸ HP.out.ft)
        · rintro k a
          exact .inl (a ▸ H.out.fl)
end
end Go.Proofs.Qxb6500990aGreat
