/- package rlog: SetTerm, Append, dropFrom, TruncateFrom -/
import Derived.Test.Qxb6500990aGreatRl4
set_option linter.unusedVariables false
set_option linter.unusedSimpArgs false
namespace Go.Tw
open Go Go.Proofs Go.Proofs.Qxb6500990aGreat
/-- the real log at bl over the store at bt over the disk at bd -/
structure RLp (w : World) (F Fd : Nat → Prop) (bl bt bd : Nat) (L : LogR) (D : Dk) (A : AL) (N r : Nat) : Prop where
  hl : w.At bl L.cells 149
  st : L.st = vp bt
  lr : LR L A.now
  sk : SK w Fd bt bd D
  tie : Tie A D N r
  fd : ∀ k, Fd k → F k
  fl : F bl
  ft : F bt
  nl : ¬ Fd bl
def RLK (w : World) (F : Nat → Prop) (bl bd : Nat) (A : AL) (N r : Nat) : Prop := ∃ Fd bt L D, RLp w F Fd bl bt bd L D A N r
section
variable {w w' : World} {F G Fd : Nat → Prop} {bl bt bd : Nat} {L : LogR} {D : Dk} {A : AL} {N r : Nat}
theorem RLp.mono (h : RLp w F Fd bl bt bd L D A N r) (hG : ∀ k, F k → G k) : RLp w G Fd bl bt bd L D A N r :=
  ⟨h.hl, h.st, h.lr, h.sk, h.tie, fun k hk => hG k (h.fd k hk), hG _ h.fl, hG _ h.ft, h.nl⟩
theorem RLK.mono (h : RLK w F bl bd A N r) (hG : ∀ k, F k → G k) : RLK w G bl bd A N r := by
  obtain ⟨Fd, bt, L, D, h⟩ := h
  exact ⟨Fd, bt, L, D, h.mono hG⟩
theorem RLp.frame (h : RLp w F Fd bl bt bd L D A N r) (m : ModP G w w') (hG : Apart F G) : RLp w' F Fd bl bt bd L D A N r :=
  ⟨m.at h.hl (fun x => hG _ h.fl x), h.st, h.lr, h.sk.frame m (fun k a b => hG k (h.fd k a) b) (fun x => hG _ h.ft x), h.tie, h.fd, h.fl, h.ft, h.nl⟩
theorem RLK.frame (h : RLK w F bl bd A N r) (m : ModP G w w') (hG : Apart F G) : RLK w' F bl bd A N r := by
  obtain ⟨Fd, bt, L, D, h⟩ := h
  exact ⟨Fd, bt, L, D, h.frame m hG⟩
theorem RLK.frame0 (h : RLK w F bl bd A N r) (m : ModP (fun _ => False) w w') : RLK w' F bl bd A N r := h.frame m (fun _ _ f => f)
theorem RLK.ok (h : RLK w F bl bd A N r) : A.now.Ok := by
  obtain ⟨Fd, bt, L, D, h⟩ := h
  exact h.tie.g.ok
theorem RLK.fl (h : RLK w F bl bd A N r) : F bl := by
  obtain ⟨Fd, bt, L, D, h⟩ := h
  exact h.fl
theorem RLp.ne (h : RLp w F Fd bl bt bd L D A N r) : bl ≠ bt := At.neT h.hl h.sk.t (by decide)
/-- the log's cells are written, the store has made a step -/
theorem RLp.made {W : World} {L' : LogR} {D' : Dk} {A' : AL} (h : RLp W F Fd bl bt bd L D A N r) (hl : w'.At bl L'.cells 149) (st : L'.st = vp bt) (lr : LR L' A'.now) (sk : SK w' (trimF Fd W w') bt bd D') (tie : Tie A' D' N r) :
    RLK w' (grow F W) bl bd A' N r := by
  refine ⟨trimF Fd W w', bt, L', D', hl, st, lr, sk, tie, ?_, .inl h.fl, .inl h.ft, ?_⟩
  · rintro k (a | a)
    · exact .inl (h.fd k a)
    · exact .inr a.1
  · rintro (a | a)
    · exact h.nl a
    · have : bl < W.heap.size := h.hl.inB
      omega
end
theorem LR.setTerm {L : LogR} {s : Lg} (h : LR L s) (t v : Int) : LR { L with term := t, vote := v } { s with term := t, vote := v } := ⟨rfl, rfl, h.b, h.bt, h.sn, h.l, h.e⟩
theorem LR.push {L : LogR} {s : Lg} (h : LR L s) (h6 : s.ents.length < 6) (e : Entry) : LR { L with terms := upd L.terms (slN (s.last + 1)) e.term, data := upd L.data (slN (s.last + 1)) e.data, last := s.last + 1 } { s with ents := s.ents ++ [e] } := by
  refine ⟨h.t, h.v, h.b, h.bt, h.sn, by show s.last + 1 = _; unfold Lg.last; simp; omega, ?_⟩
  intro i x hx
  have hx' : (s.ents ++ [e])[i]? = some x := hx
  show upd L.terms _ _ (slN (s.base + 1 + i)) = _ ∧ upd L.data _ _ (slN (s.base + 1 + i)) = _
  by_cases hi : i < s.ents.length
  · rw [List.getElem?_append_left hi] at hx'
    have hne : slN (s.base + 1 + i) ≠ slN (s.last + 1) := fun q => by
      have := slN_eq q (by unfold Lg.last; omega) (by unfold Lg.last; omega)
      unfold Lg.last at this; omega
    rw [upd_ne _ _ hne, upd_ne _ _ hne]
    exact h.e i x hx'
  · have hi2 : i = s.ents.length := by
      have := (List.getElem?_eq_some_iff.1 hx').1
      simp at this; omega
    subst hi2
    rw [List.getElem?_append_right (Nat.le_refl _)] at hx'
    simp at hx'
    subst hx'
    rw [show s.base + 1 + (s.ents.length : Int) = s.last + 1 by unfold Lg.last; omega, upd_same, upd_same]
    exact ⟨rfl, rfl⟩
theorem LR.pop {L : LogR} {s : Lg} (h : LR L s) (h0 : s.ents ≠ []) : LR { L with last := s.last - 1 } { s with ents := s.ents.dropLast } := by
  have hn : 0 < s.ents.length := List.length_pos_iff.2 h0
  refine ⟨h.t, h.v, h.b, h.bt, h.sn, by show s.last - 1 = _; unfold Lg.last; simp; omega, ?_⟩
  intro i x hx
  have hx' : s.ents.dropLast[i]? = some x := hx
  have hi : i < s.ents.length - 1 := by have := (List.getElem?_eq_some_iff.1 hx').1; simpa using this
  exact h.e i x (by rw [List.getElem?_dropLast] at hx'; rw [if_pos hi] at hx'; exact hx')
end Go.Tw
namespace Go.Proofs.Qxb6500990aGreat
open Go Go.RowKit Go.Tw
attribute [local go_sem] World.cell?_put_same World.cell?_put_ne World.cell?_put_ne' World.frozen?_put_same World.frozen?_put_ne World.frozen?_put_ne' World.setCell_put_same World.setCell_put_ne World.setCell_put_ne' World.inB_put World.inB_alloc World.inB_drew World.inB_drewN World.inB_new World.inB_setCell World.put_drew World.put_drewN World.q_setCell_drew World.q_setCell_drewN World.q_alloc_drew World.q_alloc_drewN World.put_put_same World.put_put_2 World.size_put World.q_cell?_alloc_old World.q_frozen?_alloc_old World.cell?_alloc_new' World.frozen?_alloc_new' World.q_setCell_alloc_old World.q_setCell_alloc_new World.q_put_alloc_old World.cell?_force_same World.frozen?_force_same World.cell?_force2_fst World.cell?_force2_snd LogR.g0 LogR.s0 LogR.g1 LogR.s1 LogR.g2 LogR.s2 LogR.g3 LogR.s3 LogR.g4 LogR.s4 LogR.g5 LogR.s5 LogR.g6 LogR.s6 LogR.g7 LogR.s7 LogR.g8 LogR.s8 LogR.g9 LogR.s9 LogR.g10 LogR.s10 LogR.g11 LogR.s11 LogR.g12 LogR.s12 LogR.g13 LogR.s13 LogR.g14 LogR.s14 LogR.g15 LogR.s15 LogR.g16 LogR.s16 LogR.g17 LogR.s17 LogR.g18 LogR.s18 LogR.gi_terms_0 LogR.si_terms_0 LogR.gi_data_0 LogR.si_data_0 Entry.g0 Entry.s0 Entry.g1 Entry.s1 Rec.g0 Rec.s0 Rec.g1 Rec.s1 Rec.g2 Rec.s2
attribute [local go_sem] ba_get upd_same upd_upd
set_option maxHeartbeats 4000000
set_option maxRecDepth 100000
section
variable {W : World} {F : Nat → Prop} {bl bd : Nat} {A : AL} {N r : Nat}
theorem c240 (h : RLK W F bl bd A N r) (hh : A.hist.length ≤ 480) {t v : Int} (t0 : 0 ≤ t) (t1 : t ≤ maxT) (v0 : -1 ≤ v) (v1 : v < 3) :
    Calls Tryz.prog 240 #[vp bl, vi t, vi v] W fun x w' => x = .returned (vi (A.setTerm t v).1) ∧ RLK w' (grow F W) bl bd (A.setTerm t v).2 N r ∧ ModP F W w' := by
  have hk : A.setTerm t v = (0, A.to { A.now with term := t, vote := v }) := by unfold AL.setTerm; rw [if_pos ⟨t0, t1, v0, v1⟩]
  rw [hk]
  obtain ⟨Fd, bt, L, D, h⟩ := h
  have hM : N + A.hist.length ≤ 2251799813685248 := by have := h.tie.nb; omega
  have hlen := h.tie.len
  have q274 := hidIt (k274 h.sk (by omega) t0 t1 v0 v1 (stM_lt h.tie.g hM))
  have HT := hidIt (h.tie.setTerm t0 t1 v0 v1 hh)
  have HP := hidIt h
  have hc := h.hl.cell
  have ib := h.hl.inB
  have hst := h.st
  have t1' : t ≤ 72057594037927936 := t1
  have q1 : decide (t < 0) = false := by simp; omega
  have q2 : decide (72057594037927936 < t) = false := by simp; omega
  have q3 : decide (v < -1) = false := by simp; omega
  have q4 : decide (3 ≤ v) = false := by simp; omega
  obtain ⟨st, lt, lv, lb, lbt, lsn, ll, lts, lds⟩ := L
  simp only [] at hst
  subst hst
  clear h hk hM hlen t0 t1 v0 v1 t1'
  go_enter Tryz.func240, Tryz.ntmps240
  go_wp2_with (first
    | (go_at_call 274; refine q274.out.mono ?_; rintro _ w1 ⟨rfl, sk1, m1⟩; have S1 := hidIt sk1; have M1 := hidIt m1; have ha := m1.at HP.out.hl (fun a => a.elim HP.out.nl HP.out.ne); clear sk1 m1 hc ib; obtain ⟨y, rfl, iy⟩ := ha.door; clear ha))
  go_ret
  have hlt : bl < W.heap.size := HP.out.hl.inB
  have m2 : ModP (fun k => k = bl) (y.put bl (LogR.cells ⟨vp bt, lt, lv, lb, lbt, lsn, ll, lts, lds⟩) 149) (y.put bl (LogR.cells ⟨vp bt, t, v, lb, lbt, lsn, ll, lts, lds⟩) 149) := ((ModP.refl (fun k => k = bl) y).put (.inl rfl) _ _).fromPut rfl
  refine ⟨rfl, HP.out.made (L' := ⟨vp bt, t, v, lb, lbt, lsn, ll, lts, lds⟩) (World.At_put_same iy) rfl (HP.out.lr.setTerm t v) ?_ HT.out, ?_⟩
  · have s2 := S1.out.frame m2 (fun k a b => by subst b; rcases a with a | a; exact HP.out.nl a; omega) (fun a => HP.out.ne a.symm)
    have e : trimF Fd W (y.put bl (LogR.cells ⟨vp bt, lt, lv, lb, lbt, lsn, ll, lts, lds⟩) 149) = trimF Fd W (y.put bl (LogR.cells ⟨vp bt, t, v, lb, lbt, lsn, ll, lts, lds⟩) 149) := by unfold trimF; simp only [World.size_put]
    rw [← e]; exact s2
  · exact (M1.out.mono (G := F) (fun k a => a.elim (HP.out.fd k) (fun e => e ▸ HP.out.ft))).step m2 (fun k e => .inl (e ▸ HP.out.fl))
end
end Go.Proofs.Qxb6500990aGreat
