/- package rlog: rebase -/
import Derived.Test.Qxb6500990aGreatRl7
set_option linter.unusedVariables false
set_option linter.unusedSimpArgs false
namespace Go.Tw
open Go Go.Proofs Go.Proofs.Qxb6500990aGreat
/-- the sweep of a rebase has come to index i -/
structure Sw (A : AL) (D : Dk) (M : Nat) (i : Int) : Prop where
  m : Mid A D M
  cl : ∀ c, c < 6 → stUsed D.now c = true → i ≤ (stRec D.now c).idx
  us : ∀ j, i ≤ j → j ≤ A.now.base → stUsed D.now (slN j) = true
section
variable {A : AL} {D : Dk} {M N r : Nat} {i : Int}
theorem Sw.step (h : Sw A D M i) (hb : A.now.last < i + 6) (hi : i ≤ A.now.base) : stUsed D.now (slN i) = true ∧ Sw A (D.write (8 + slN i) (delX D.now (slN i))) M (i + 1) := by
  have c6 := slN_lt i
  obtain ⟨u1, u2⟩ := del_used D h.m.g.bl c6
  refine ⟨h.us i (Int.le_refl _) hi, h.m.del c6 ?_, ?_, ?_⟩
  · intro j e he q
    have hj : j < A.now.ents.length := (List.getElem?_eq_some_iff.1 he).1
    unfold Lg.last at hb
    have := slN_eq q (by omega) (by omega)
    omega
  · intro c hc hu
    rw [u1] at hu
    rw [u2]
    by_cases e : c = slN i
    · rw [e, upd_same] at hu; cases hu
    · rw [upd_ne _ _ e] at hu ⊢
      have h1 := h.cl c hc hu
      have h2 := (h.m.g.rc.dn c hc hu).1
      have : (stRec D.now c).idx ≠ i := fun q => e (by rw [← q]; exact h2.symm)
      omega
  · intro j h1 h2
    rw [u1]
    have hne : slN j ≠ slN i := fun q => by
      unfold Lg.last at hb
      have := slN_eq q (by omega) (by omega)
      omega
    rw [upd_ne _ _ hne]
    exact h.us j (by omega) h2
theorem Sw.clean (h : Sw A D M i) (hi : A.now.base < i) : CleanS (stOf (vp 0) D.now) A.now := fun c hc hu => by
  have := h.cl c hc hu
  show A.now.base < (stRec D.now c).idx
  omega
theorem snapDD_wr (D : Dk) (idx t : Int) (data : Bs) (h : data.length ≤ 128) : (snapDD D idx t data).wr.length ≤ D.wr.length + 6 := by
  have := nCh_le h
  unfold snapDD
  simp only [Dk.write, List.length_append, List.length_cons, List.length_nil, snapD_wr]
  omega
theorem Sw.start (h : Tie A D N r) (hh : A.hist.length ≤ 480) {idx t : Int} {sn : Bs} (h1 : A.now.base < idx) (h2 : idx ≤ A.now.last) (t0 : 0 ≤ t) (t1 : t ≤ maxT) (hs : sn.length ≤ 128) :
    Sw (A.rebase idx t sn) (snapDD D idx t sn) (N + A.hist.length + 1) (A.now.base + 1) := by
  have hM : N + A.hist.length ≤ 2251799813685248 := by have := h.nb; omega
  have b0 := h.g.ok.b0
  have lm : A.now.last ≤ maxT := h.g.ok.lm
  have e := snapDD_stOf D h.g.bl (idx := idx) (t := t) (data := sn) (by omega) (by omega) t0 t1 hs (stH_lt h.g hM) (vp 0)
  have ok := AL.rebase_ok h.g.ok (Int.le_of_lt h1) h2 t0 t1 hs
  have eu : stUsed (snapDD D idx t sn).now = stUsed D.now := by
    have : (stOf (vp 0) (snapDD D idx t sn).now).used = stUsed D.now := by rw [e]; rfl
    exact this
  have er : stRec (snapDD D idx t sn).now = stRec D.now := by
    have : (stOf (vp 0) (snapDD D idx t sn).now).recs = stRec D.now := by rw [e]; rfl
    exact this
  refine ⟨?_, ?_, ?_⟩
  · refine h.mid.snap hM (by omega) (by omega) t0 t1 hs (s' := { A.now with base := idx, baseTerm := t, snap := sn, ents := A.now.ents.drop (idx - A.now.base).toNat }) ?_ ok
    intro hd hsl st hi ht
    refine h.g.rc.snap hi ht ?_ (Int.le_of_lt h1) ?_ hsl st
    · intro i e he
      rw [List.getElem?_drop] at he
      exact he
    · rw [List.length_drop]; unfold Lg.last at h2 ⊢; omega
  · intro c hc hu
    rw [eu] at hu
    rw [er]
    have := h.cl c hc hu
    show _ ≤ (stRec D.now c).idx
    have h3 : A.now.base < (stRec D.now c).idx := this
    omega
  · intro j h3 h4
    rw [eu]
    have h5 : j ≤ idx := h4
    have hj : (j - A.now.base - 1).toNat < A.now.ents.length := by unfold Lg.last at h2; omega
    have := (h.g.rc.up _ _ (List.getElem?_eq_getElem hj)).1
    rw [show A.now.base + 1 + ((j - A.now.base - 1).toNat : Int) = j by omega] at this
    exact this
theorem Sw.tie {A' : AL} {D' : Dk} (h : Tie A D N r) (hs : Sw A' D' (N + A.hist.length + 1) i) (hi : A'.now.base < i) (hl : A'.hist.length = A.hist.length + 1) (hw : D'.wr.length ≤ D.wr.length + 18) : Tie A' D' N r := by
  refine ⟨by rw [hl, ← Nat.add_assoc]; exact hs.m.c, by rw [hl, ← Nat.add_assoc]; exact hs.m.g, hs.clean hi, hs.m.tip, ?_, ?_, h.nb⟩
  · have := h.len; omega
  · intro e; rw [e] at hl; simp at hl
theorem LR.rebase {L : LogR} {s : Lg} (h : LR L s) {idx t : Int} {sn : Bs} (h1 : s.base < idx) (h2 : idx ≤ s.last) : LR { L with base := idx, baseTerm := t, snap := sn } { s with base := idx, baseTerm := t, snap := sn, ents := s.ents.drop (idx - s.base).toNat } := by
  refine ⟨h.t, h.v, rfl, rfl, rfl, ?_, ?_⟩
  · show L.last = _
    rw [h.l]; unfold Lg.last at h2 ⊢; simp only [List.length_drop]; omega
  · intro i x hx
    have hx' : (s.ents.drop (idx - s.base).toNat)[i]? = some x := hx
    rw [List.getElem?_drop] at hx'
    have := h.e _ _ hx'
    rw [show s.base + 1 + (((idx - s.base).toNat + i : Nat) : Int) = idx + 1 + i by omega] at this
    exact this
end
end Go.Tw
namespace Go.Proofs.Qxb6500990aGreat
open Go Go.RowKit Go.Tw
attribute [local go_sem] World.cell?_put_same World.cell?_put_ne World.cell?_put_ne' World.frozen?_put_same World.frozen?_put_ne World.frozen?_put_ne' World.setCell_put_same World.setCell_put_ne World.setCell_put_ne' World.inB_put World.inB_alloc World.inB_drew World.inB_drewN World.inB_new World.inB_setCell World.put_drew World.put_drewN World.q_setCell_drew World.q_setCell_drewN World.q_alloc_drew World.q_alloc_drewN World.put_put_same World.put_put_2 World.size_put World.q_cell?_alloc_old World.q_frozen?_alloc_old World.cell?_alloc_new' World.frozen?_alloc_new' World.q_setCell_alloc_old World.q_setCell_alloc_new World.q_put_alloc_old World.cell?_force_same World.frozen?_force_same World.cell?_force2_fst World.cell?_force2_snd LogR.g0 LogR.s0 LogR.g1 LogR.s1 LogR.g2 LogR.s2 LogR.g3 LogR.s3 LogR.g4 LogR.s4 LogR.g5 LogR.s5 LogR.g6 LogR.s6 LogR.g7 LogR.s7 LogR.g8 LogR.s8 LogR.g9 LogR.s9 LogR.g10 LogR.s10 LogR.g11 LogR.s11 LogR.g12 LogR.s12 LogR.g13 LogR.s13 LogR.g14 LogR.s14 LogR.g15 LogR.s15 LogR.g16 LogR.s16 LogR.g17 LogR.s17 LogR.g18 LogR.s18 LogR.gi_terms_0 LogR.si_terms_0 LogR.gi_data_0 LogR.si_data_0
attribute [local go_sem] ba_get upd_same upd_upd
set_option maxHeartbeats 4000000
set_option maxRecDepth 100000
section
variable {W : World} {F : Nat → Prop} {bl bd : Nat} {A : AL} {N r : Nat}
theorem c279 (h : RLK W F bl bd A N r) (hh : A.hist.length ≤ 480) {idx t : Int} {sn : Bs} (h1 : A.now.base < idx) (h2 : idx ≤ A.now.last) (t0 : 0 ≤ t) (t1 : t ≤ maxT) (hs : sn.length ≤ 128) :
    Calls Tryz.prog 279 #[vp bl, vi idx, vi t, vs sn] W fun x w' => x = .returned (vi 0) ∧ RLK w' (grow F W) bl bd (A.rebase idx t sn) N r ∧ ModP F W w' := by
  obtain ⟨Fd, bt, L, D, h⟩ := h
  have HP := hidIt h
  have ok := h.tie.g.ok
  have b0 := ok.b0
  have n6 := ok.n6
  have lm : A.now.last ≤ maxT := ok.lm
  have hlast : A.now.last = A.now.base + A.now.ents.length := rfl
  have hM : N + A.hist.length ≤ 2251799813685248 := by have := h.tie.nb; omega
  have hlen := h.tie.len
  have q281 := hidIt (k281 h.sk (by omega) (idx := idx) (t := t) (data := sn) (by omega) (by omega) t0 t1 hs (stH_lt h.tie.g hM))
  have SW := hidIt (Sw.start h.tie hh h1 h2 t0 t1 hs)
  have HL := hidIt (h.lr.rebase (t := t) (sn := sn) h1 h2)
  have W6 := hidIt (snapDD_wr D idx t sn hs)
  have hc := h.hl.cell
  have ib := h.hl.inB
  have hst := h.st
  have lb := h.lr.b
  have hbt : bt < W.heap.size := h.sk.t.inB
  have nlt := h.ne
  unfold maxT at lm
  have hA' : Hid ((A.rebase idx t sn).now.base = idx ∧ (A.rebase idx t sn).now.last = A.now.last ∧ (A.rebase idx t sn).hist.length = A.hist.length + 1) := by
    refine ⟨rfl, ?_, AL.to_len' _⟩
    show idx + ((A.now.ents.drop (idx - A.now.base).toNat).length : Int) = _
    rw [List.length_drop]; omega
  have hnow : Hid (LR { L with base := idx, baseTerm := t, snap := sn } (A.rebase idx t sn).now) := HL.out
  obtain ⟨n, hn⟩ : ∃ n : Nat, idx = A.now.base + n := ⟨(idx - A.now.base).toNat, by omega⟩
  generalize A.rebase idx t sn = A' at *
  obtain ⟨st, lt, lv, lb', lbt, lsn, ll', lts, lds⟩ := L
  simp only [] at hst lb
  subst hst
  have hn1 : idx ≤ lb' + n := by omega
  have hn2 : lb' + n ≤ idx := by omega
  rw [← lb] at SW
  have x1 : lb' ≤ 72057594037927936 := by omega
  have x2 : 0 ≤ lb' := by omega
  have n7 : n ≤ 6 := by omega
  have h12 : Hid (idx ≤ A.now.last ∧ A.now.last ≤ lb' + 6) := ⟨h2, by omega⟩
  have HH := hidIt (And.intro hh hlen)
  have hi1 : idx ≤ 72057594037927936 := by omega
  clear h HL hs t0 t1 hM hlen ok n6 lm hlast h1 h2 hh b0 lb hn
  go_enter Tryz.func279, Tryz.ntmps279
  go_wp2_with (first
    | (go_at_call 281; refine q281.out.mono ?_; rintro _ w1 ⟨rfl, sk1, m1⟩; have S1 := hidIt sk1; have M1 := hidIt m1; have ha := m1.at HP.out.hl (fun a => a.elim HP.out.nl HP.out.ne); clear sk1 m1 hc ib q281; obtain ⟨y, rfl, iy⟩ := ha.door; clear ha))
  have hlt : bl < W.heap.size := HP.out.hl.inB
  have m2 : ModP (fun k => k = bl) (y.put bl (LogR.cells ⟨vp bt, lt, lv, lb', lbt, lsn, ll', lts, lds⟩) 149) (y.put bl (LogR.cells ⟨vp bt, lt, lv, idx, t, sn, ll', lts, lds⟩) 149) := ((ModP.refl (fun k => k = bl) y).put (.inl rfl) _ _).fromPut rfl
  have S2 : Hid (∃ Gd, SK (y.put bl (LogR.cells ⟨vp bt, lt, lv, idx, t, sn, ll', lts, lds⟩) 149) Gd bt bd (snapDD D idx t sn) ∧ (∀ k, Gd k → Fd k ∨ W.heap.size ≤ k)) := by
    refine ⟨_, S1.out.frame m2 ?_ (fun a => nlt a.symm), ?_⟩
    · rintro k (a | a) b
      · subst b; exact HP.out.nl a
      · subst b; omega
    · rintro k (a | a)
      · exact .inl a
      · exact .inr a.1
  have M2 : Hid (ModP F W (y.put bl (LogR.cells ⟨vp bt, lt, lv, idx, t, sn, ll', lts, lds⟩) 149)) := (M1.out.mono (G := F) (fun k a => a.elim (HP.out.fd k) (fun e => e ▸ HP.out.ft))).step m2 (fun k e => .inl (e ▸ HP.out.fl))
  have A2 : Hid ((y.put bl (LogR.cells ⟨vp bt, lt, lv, idx, t, sn, ll', lts, lds⟩) 149).At bl (LogR.cells ⟨vp bt, lt, lv, idx, t, sn, ll', lts, lds⟩) 149) := World.At_put_same iy
  clear m2 S1 M1
  go_loopw [11] (fun v u => ∃ k : Nat, k ≤ n ∧ v = vi (lb' + 1 + k) ∧ Hid (∃ Gd D', SK u Gd bt bd D' ∧ (∀ k, Gd k → Fd k ∨ W.heap.size ≤ k) ∧ Sw A' D' (N + A.hist.length + 1) (lb' + 1 + k) ∧ D'.wr.length ≤ D.wr.length + 6 + 2 * k) ∧ Hid (ModP F W u) ∧ Hid (u.At bl (LogR.cells ⟨vp bt, lt, lv, idx, t, sn, ll', lts, lds⟩) 149)) (fun v _ => (idx + 1 - intOf v).toNat)
  case atStart =>
    obtain ⟨Gd, s2, g2⟩ := S2.out
    exact ⟨0, by omega, by simp, ⟨Gd, _, s2, g2, by simpa using SW.out, by have := W6.out; omega⟩, M2, A2⟩
  case round =>
    clear S2 M2 A2 SW W6
    obtain ⟨k, hk, rfl, H1, H2, H3⟩ := hrel
    obtain ⟨Gd, D', s1, g1, sw, wl⟩ := H1.out
    obtain ⟨hh, hlen⟩ := HH.out
    obtain ⟨a1, a2, a3⟩ := hA'.out
    by_cases hkn : k < n
    · have le : lb' + 1 + (k : Int) ≤ idx := by omega
      obtain ⟨hu, sw2⟩ := sw.step (by rw [a2]; have := h12.out.2; omega) (by rw [a1]; omega)
      obtain ⟨c, hcc⟩ : ∃ c, c = slN (lb' + 1 + (k : Int)) := ⟨_, rfl⟩
      have c6 : c < 6 := by rw [hcc]; exact slN_lt _
      rw [← hcc] at sw2 hu
      have q118 := hidIt (fun w => (show Calls Tryz.prog 118 #[vi (lb' + 1 + (k : Int))] w (fun r w' => r = .returned (vi c) ∧ w' = w) from by rw [hcc]; exact c118 w _ (by omega) (by omega)))
      have q121 := hidIt (k121 s1 (by omega) c c6 hu)
      have SW2 := hidIt sw2
      have G1 := hidIt g1
      have hc := H3.out.cell
      have ib := H3.out.inB
      have WL : Hid (D'.wr.length ≤ D.wr.length + 6 + 2 * k) := wl
      clear sw2 hcc hlen hh a1 a2 a3 sw s1 g1 wl H1 hu
      go_wp2_with (first
        | (go_at_call 118; refine (q118.out _).mono ?_; rintro _ _ ⟨rfl, rfl⟩)
        | (go_at_call 121; refine q121.out.mono ?_; rintro _ w1 ⟨rfl, sk1, m1⟩; have S1 := hidIt sk1; have M1 := hidIt m1; clear sk1 m1))
      go_roundw
      case rel =>
        have hnl : ¬ Gd bl := fun a => (G1.out _ a).elim HP.out.nl (fun b => by omega)
        refine ⟨k + 1, by omega, by go_num, ⟨_, _, S1.out, ?_, ?_, ?_⟩, ?_, M1.out.at H3.out (fun a => a.elim hnl nlt)⟩
        · rintro j (a | a)
          · exact G1.out j a
          · exact .inr (Nat.le_trans H2.out.size a.1)
        · have := SW2.out
          rw [show lb' + 1 + ((k + 1 : Nat) : Int) = lb' + 1 + (k : Int) + 1 by omega]
          exact this
        · have := WL.out
          simp only [Dk.write, List.length_append, List.length_cons, List.length_nil]; omega
        · refine H2.out.step M1.out ?_
          rintro j (a | a)
          · exact (G1.out j a).elim (fun b => .inl (HP.out.fd j b)) .inr
          · exact .inl (a ▸ HP.out.ft)
      case measure => simp [intOf]; omega
    · obtain rfl : k = n := by omega
      have le : idx < lb' + 1 + (k : Int) := by omega
      have T2 := hidIt (Sw.tie HP.out.tie sw (by rw [a1]; omega) a3 (by omega))
      have S1 := hidIt s1
      have G1 := hidIt g1
      clear sw s1 g1 wl H1 hlen hh a1 a2 a3
      go_wp2_with fail
      go_ret
      exact ⟨rfl, HP.out.made2 (L' := ⟨vp bt, lt, lv, idx, t, sn, ll', lts, lds⟩) H3.out rfl hnow.out S1.out G1.out T2.out, H2.out⟩
end
end Go.Proofs.Qxb6500990aGreat
