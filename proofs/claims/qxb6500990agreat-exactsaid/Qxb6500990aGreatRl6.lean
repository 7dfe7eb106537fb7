/- package rlog: Append -/
import Derived.Test.Qxb6500990aGreatRl5
set_option linter.unusedVariables false
set_option linter.unusedSimpArgs false
namespace Go.Tw
open Go Go.Proofs Go.Proofs.Qxb6500990aGreat
theorem RLp.made2 {W w' : World} {F Fd Gd : Nat → Prop} {bl bt bd : Nat} {L L' : LogR} {D D' : Dk} {A A' : AL} {N r : Nat} (h : RLp W F Fd bl bt bd L D A N r) (hl : w'.At bl L'.cells 149) (st : L'.st = vp bt) (lr : LR L' A'.now) (sk : SK w' Gd bt bd D') (hG : ∀ k, Gd k → Fd k ∨ W.heap.size ≤ k) (tie : Tie A' D' N r) :
    RLK w' (grow F W) bl bd A' N r := by
  refine ⟨Gd, bt, L', D', hl, st, lr, sk, tie, ?_, .inl h.fl, .inl h.ft, ?_⟩
  · intro k a
    rcases hG k a with a | a
    · exact .inl (h.fd k a)
    · exact .inr a
  · intro a
    rcases hG _ a with a | a
    · exact h.nl a
    · have : bl < W.heap.size := h.hl.inB
      omega
end Go.Tw
namespace Go.Proofs.Qxb6500990aGreat
open Go Go.RowKit Go.Tw
attribute [local go_sem] World.cell?_put_same World.cell?_put_ne World.cell?_put_ne' World.frozen?_put_same World.frozen?_put_ne World.frozen?_put_ne' World.setCell_put_same World.setCell_put_ne World.setCell_put_ne' World.inB_put World.inB_alloc World.inB_drew World.inB_drewN World.inB_new World.inB_setCell World.put_drew World.put_drewN World.q_setCell_drew World.q_setCell_drewN World.q_alloc_drew World.q_alloc_drewN World.put_put_same World.put_put_2 World.size_put World.q_cell?_alloc_old World.q_frozen?_alloc_old World.cell?_alloc_new' World.frozen?_alloc_new' World.q_setCell_alloc_old World.q_setCell_alloc_new World.q_put_alloc_old World.cell?_force_same World.frozen?_force_same World.cell?_force2_fst World.cell?_force2_snd LogR.g0 LogR.s0 LogR.g1 LogR.s1 LogR.g2 LogR.s2 LogR.g3 LogR.s3 LogR.g4 LogR.s4 LogR.g5 LogR.s5 LogR.g6 LogR.s6 LogR.g7 LogR.s7 LogR.g8 LogR.s8 LogR.g9 LogR.s9 LogR.g10 LogR.s10 LogR.g11 LogR.s11 LogR.g12 LogR.s12 LogR.g13 LogR.s13 LogR.g14 LogR.s14 LogR.g15 LogR.s15 LogR.g16 LogR.s16 LogR.g17 LogR.s17 LogR.g18 LogR.s18 LogR.gi_terms_0 LogR.si_terms_0 LogR.gi_data_0 LogR.si_data_0 Entry.g0 Entry.s0 Entry.g1 Entry.s1 Rec.g0 Rec.s0 Rec.g1 Rec.s1 Rec.g2 Rec.s2
attribute [local go_sem] ba_get upd_same upd_upd
set_option maxHeartbeats 4000000
set_option maxRecDepth 100000
section
variable {W : World} {F : Nat → Prop} {bl bd : Nat} {A : AL} {N r : Nat}
theorem c213 (h : RLK W F bl bd A N r) (hF : Within F W) (hh : A.hist.length ≤ 480) {e : Entry} (he : entOK e = true) :
    Calls Tryz.prog 213 #[vp bl, .agg e.cells] W fun x w' => x = .returned (vi (A.append e).1) ∧ RLK w' (grow F W) bl bd (A.append e).2 N r ∧ ModP F W w' := by
  have ce := entOK_iff.1 he
  obtain ⟨Fd, bt, L, D, h⟩ := h
  have HP := hidIt h
  have hc := h.hl.cell
  have ib := h.hl.inB
  have hst := h.st
  have ll := h.lr.l
  have lb := h.lr.b
  have ok := h.tie.g.ok
  have b0 := ok.b0
  have lm : A.now.last ≤ maxT := ok.lm
  unfold maxT at lm
  have e1 : e.term ≤ 72057594037927936 := ce.2.1
  have hlast : A.now.last = A.now.base + A.now.ents.length := rfl
  by_cases hf : 6 ≤ A.now.ents.length ∨ maxT ≤ A.now.last
  · have hk : A.append e = (6, A) := by unfold AL.append; rw [if_pos he, if_pos hf]
    rw [hk]
    obtain ⟨et, ed⟩ := e
    simp only [] at *
    unfold maxT at hf
    have q1 : decide (et < 0) = false := by simp; omega
    have q2 : decide (72057594037927936 < et) = false := by simp; omega
    have q3 : decide (24 < (ed.length : Int)) = false := by simp; omega
    have HP' : Hid (RLK W F bl bd A N r) := ⟨Fd, bt, L, D, HP.out⟩
    have x1 : L.last ≤ 72057594037927936 := by omega
    have x2 : 0 ≤ L.base := by omega
    have x3 : L.base ≤ L.last := by omega
    have hf' : 6 ≤ L.last - L.base ∨ 72057594037927936 ≤ L.last := by rw [ll, lb, hlast]; omega
    clear h hk hf ce e1 he ll lb hlast b0 lm hst
    unfold Entry.cells
    by_cases q4 : 6 ≤ L.last - L.base
    · have q5 : decide (6 ≤ L.last - L.base) = true := by simpa using q4
      clear q4 hf'
      go_enter Tryz.func213, Tryz.ntmps213
      go_wp2_with fail
      refine Ord.region1 [] [0, 1, 2, 3, 4, 5, 6, 7, 8, 9, 10, 11, 12, 13, 14, 15] [16] (by kernel_rfl) (by kernel_rfl) (fun _ _ d _ _ h => by cases d <;> exact h) ?_
      simp only [Ord.pickO, Ord.nth]
      refine wpQuiet_nil ?_
      repeat (go_big_quiet_step (fail))
      refine wpQuiet_nil ?_
      go_wp2_with fail
      go_ret
      exact ⟨rfl, (HP'.out.frame0 (by repeat (first | assumption | exact ModP.refl _ _ | refine ModP.fromPut ?_ (by assumption) | apply ModP.alloc | apply ModP.drew | apply ModP.drewN | refine ModP.put ?_ (by first | (left; assumption) | (left; rfl) | (right; simp only [World.inB, World.size_put] at *; omega)) _ _))).mono (fun k => .inl), (by repeat (first | assumption | exact ModP.refl _ _ | refine ModP.fromPut ?_ (by assumption) | apply ModP.alloc | apply ModP.drew | apply ModP.drewN | refine ModP.put ?_ (by first | (left; assumption) | (left; rfl) | (right; simp only [World.inB, World.size_put] at *; omega)) _ _))⟩
    · have q5 : decide (6 ≤ L.last - L.base) = false := by simpa using q4
      have q6 : decide (72057594037927936 ≤ L.last) = true := by simp; omega
      clear q4 hf'
      go_enter Tryz.func213, Tryz.ntmps213
      go_wp2_with fail
      refine Ord.region1 [] [0, 1, 2, 3, 4, 5, 6, 7, 8, 9, 10, 11, 12, 13, 14, 15] [16] (by kernel_rfl) (by kernel_rfl) (fun _ _ d _ _ h => by cases d <;> exact h) ?_
      simp only [Ord.pickO, Ord.nth]
      refine wpQuiet_nil ?_
      repeat (go_big_quiet_step (fail))
      refine wpQuiet_nil ?_
      go_wp2_with fail
      go_ret
      exact ⟨rfl, (HP'.out.frame0 (by repeat (first | assumption | exact ModP.refl _ _ | refine ModP.fromPut ?_ (by assumption) | apply ModP.alloc | apply ModP.drew | apply ModP.drewN | refine ModP.put ?_ (by first | (left; assumption) | (left; rfl) | (right; simp only [World.inB, World.size_put] at *; omega)) _ _))).mono (fun k => .inl), (by repeat (first | assumption | exact ModP.refl _ _ | refine ModP.fromPut ?_ (by assumption) | apply ModP.alloc | apply ModP.drew | apply ModP.drewN | refine ModP.put ?_ (by first | (left; assumption) | (left; rfl) | (right; simp only [World.inB, World.size_put] at *; omega)) _ _))⟩
  · have h6 : A.now.ents.length < 6 := by omega
    have h7 : A.now.last < maxT := by omega
    have hk : A.append e = (0, A.to { A.now with ents := A.now.ents ++ [e] }) := by unfold AL.append; rw [if_pos he, if_neg hf]
    rw [hk]
    obtain ⟨hfree, hT⟩ := h.tie.push he h6 h7
    have HT := hidIt hT
    have HL := hidIt (h.lr.push h6 e)
    have hlen := h.tie.len
    unfold maxT at h7
    obtain ⟨c, hcc⟩ : ∃ c, c = slN (A.now.last + 1) := ⟨_, rfl⟩
    have c6 : c < 6 := by rw [hcc]; exact slN_lt _
    have c6' : (c : Int) < 6 := by omega
    rw [← hcc] at hfree hT HT HL
    have q118 := hidIt (fun w => (show Calls Tryz.prog 118 #[vi (L.last + 1)] w (fun r w' => r = .returned (vi c) ∧ w' = w) from by rw [hcc, ← ll]; exact c118 w (L.last + 1) (by omega) (by omega)))
    have q257 := hidIt (fun w (m : ModP (fun _ => False) W w) => k257 (h.sk.frame m (fun _ _ f => f) (fun f => f)) (by omega) c c6 hfree ⟨L.last + 1, e.term, e.data⟩ (by simp only []; omega) (by unfold maxT; simp only []; omega) ce.1 ce.2.1 ce.2.2)
    rw [← ll] at HT HL
    have hlt : bl < W.heap.size := ib
    have HF := hidIt hF
    obtain ⟨et, ed⟩ := e
    obtain ⟨st, lt, lv, lb', lbt, lsn, ll', lts, lds⟩ := L
    simp only [] at *
    subst hst
    have q1 : decide (et < 0) = false := by simp; omega
    have q2 : decide (72057594037927936 < et) = false := by simp; omega
    have q3 : decide (24 < (ed.length : Int)) = false := by simp; omega
    have q4 : decide (6 ≤ ll' - lb') = false := by simp; omega
    have q5 : decide (72057594037927936 ≤ ll') = false := by simp; omega
    have x1 : ll' ≤ 72057594037927936 := by omega
    have x2 : 0 ≤ lb' := by omega
    have x3 : lb' ≤ ll' := by omega
    clear h hk hf ce e1 he ll lb hlast b0 lm hT hfree hlen h7 hcc hF
    unfold Entry.cells
    unfold Rec.cells at q257
    simp only [] at q257
    go_enter Tryz.func213, Tryz.ntmps213
    go_wp2_with fail
    refine Ord.region1 [] [0, 1, 2, 3, 4, 5, 6, 7, 8, 9, 10, 11, 12, 13, 14, 15] [16] (by kernel_rfl) (by kernel_rfl) (fun _ _ d _ _ h => by cases d <;> exact h) ?_
    simp only [Ord.pickO, Ord.nth]
    refine wpQuiet_nil ?_
    repeat (go_big_quiet_step (fail))
    refine wpQuiet_nil ?_
    go_wp2_with (first
      | (go_at_call 118; refine (q118.out _).mono ?_; rintro _ _ ⟨rfl, rfl⟩))
    refine Ord.region1 [] [0, 1, 2, 3, 4, 5, 6, 7, 8, 9, 10] [11, 12] (by kernel_rfl) (by kernel_rfl) (fun _ _ d _ _ h => by cases d <;> exact h) ?_
    simp only [Ord.pickO, Ord.nth]
    refine wpQuiet_nil ?_
    repeat (go_big_quiet_step (fail))
    refine wpQuiet_nil ?_
    have nb : bl ≠ W.heap.size := by omega
    have nb' : W.heap.size ≠ bl := by omega
    go_wp2_with (first
      | (go_at_call 257; refine Calls.mono (q257.out _ ?mm) ?_; (case mm => exact (by repeat (first | assumption | exact ModP.refl _ _ | refine ModP.fromPut ?_ (by assumption) | apply ModP.alloc | apply ModP.drew | apply ModP.drewN | refine ModP.put ?_ (by first | (left; assumption) | (left; rfl) | (right; simp only [World.inB, World.size_put] at *; omega)) _ _))); rintro _ w1 ⟨rfl, sk1, m1⟩; have S1 := hidIt sk1; have M1 : Hid (ModP (fun k => Fd k ∨ k = bt) W w1) := ModP.trans ((by repeat (first | assumption | exact ModP.refl _ _ | refine ModP.fromPut ?_ (by assumption) | apply ModP.alloc | apply ModP.drew | apply ModP.drewN | refine ModP.put ?_ (by first | (left; assumption) | (left; rfl) | (right; simp only [World.inB, World.size_put] at *; omega)) _ _))) m1; have ha := m1.at (b := bl) (c := LogR.cells ⟨vp bt, lt, lv, lb', lbt, lsn, ll', lts, lds⟩) (T := 149) (World.At_drew.2 (World.At_drew.2 (World.At.alloc HP.out.hl _))) (fun a => a.elim HP.out.nl HP.out.ne); have hb := m1.at (b := W.heap.size) (c := #[Value.int IntKind.i64 et, Value.string { data := List.toArray ed }]) (T := 232) (World.At_drew.2 (World.At_drew.2 World.At_alloc_new)) (fun a => a.elim (fun a => absurd (HP.out.sk.wi _ a) (Nat.lt_irrefl _)) (fun a => absurd (HP.out.sk.t.inB) (by rw [← a]; exact Nat.lt_irrefl _))); clear sk1 m1 hc ib; obtain ⟨y, rfl, iy, ie⟩ := open2 ha hb nb; clear ha hb))
    refine Ord.region3 (fun _ => True) [] [0, 1, 2, 3, 4, 5, 6, 7] (.one 8 false .fin) true (fun _ _ => trivial) (by kernel_rfl) (by kernel_rfl) (fun _ _ d _ _ h => by cases d <;> exact h) trivial ?_
    simp only [Ord.pickO, Ord.nth]
    refine wpQuiet_nil ?_
    repeat (first | go_big_quiet_step (fail) | (go_big_quiet_want; go_big_quiet_op; refine Exists.intro _ ⟨by first | (go_at_call 118; exact q118.out _), ?_⟩; go_big_quiet_on))
    refine wpQuiet_nil ?_
    -- steps: ['N8']
    refine Ord.wpS_next rfl ?_
    intro K hK
    dsimp only [Ord.nth]
    go_wp2_with fail
    refine Ord.wpS_fin ?_
    go_wp2_with fail
    refine Ord.region3 (fun _ => True) [] [0, 1, 2, 3, 4, 5, 6, 7] (.one 8 false .fin) true (fun _ _ => trivial) (by kernel_rfl) (by kernel_rfl) (fun _ _ d _ _ h => by cases d <;> exact h) trivial ?_
    simp only [Ord.pickO, Ord.nth]
    refine wpQuiet_nil ?_
    repeat (first | go_big_quiet_step (fail) | (go_big_quiet_want; go_big_quiet_op; refine Exists.intro _ ⟨by first | (go_at_call 118; exact q118.out _), ?_⟩; go_big_quiet_on))
    refine wpQuiet_nil ?_
    -- steps: ['N8']
    refine Ord.wpS_next rfl ?_
    intro K hK
    dsimp only [Ord.nth]
    go_wp2_with fail
    refine Ord.wpS_fin ?_
    go_wp2_with fail
    go_ret
    have m2 : ModP (fun k => k = bl ∨ k = W.heap.size) ((y.put bl (LogR.cells ⟨vp bt, lt, lv, lb', lbt, lsn, ll', lts, lds⟩) 149).put W.heap.size #[Value.int IntKind.i64 et, Value.string { data := List.toArray ed }] 232) (((y.put bl (LogR.cells ⟨vp bt, lt, lv, lb', lbt, lsn, ll' + 1, upd lts c et, upd lds c ed⟩) 149).put W.heap.size #[Value.int IntKind.i64 et, Value.string { data := List.toArray ed }] 232).drew.drew) :=
      (((((ModP.refl (fun k => k = bl ∨ k = W.heap.size) y).put (.inl (.inl rfl)) _ _).put (.inl (.inr rfl)) _ _).drew.drew).fromPut (.inl rfl)).fromPut (.inr rfl)
    have hbt : bt < W.heap.size := HP.out.sk.t.inB
    refine ⟨rfl, HP.out.made2 (L' := ⟨vp bt, lt, lv, lb', lbt, lsn, ll' + 1, upd lts c et, upd lds c ed⟩) (World.At_drew.2 (World.At_drew.2 ((World.At_put_ne' nb).2 (World.At_put_same iy)))) rfl HL.out (S1.out.frame m2 ?_ ?_) ?_ HT.out, ?_⟩
    · rintro k a b
      rcases a with a | a
      · have := HP.out.sk.wi k a
        rcases b with b | b
        · subst b; exact HP.out.nl a
        · omega
      · have a1 : (W.heap.push (.cells #[Value.int IntKind.i64 et, Value.string { data := List.toArray ed }] 232)).size ≤ k := a.1
        rw [Array.size_push] at a1
        omega
    · rintro (a | a)
      · exact HP.out.ne a.symm
      · omega
    · rintro k (a | a)
      · exact .inl a
      · right
        have a1 : (W.heap.push (.cells #[Value.int IntKind.i64 et, Value.string { data := List.toArray ed }] 232)).size ≤ k := a.1
        rw [Array.size_push] at a1
        omega
    · refine (M1.out.mono (G := F) (fun k a => a.elim (HP.out.fd k) (fun e => e ▸ HP.out.ft))).step m2 ?_
      rintro k (a | a)
      · exact .inl (a ▸ HP.out.fl)
      · exact .inr (by omega)
end
end Go.Proofs.Qxb6500990aGreat
