/- package sync: persist, refresh, grow, Propose, Compact -/
import Derived.Test.Qxb6500990aGreatSy2
set_option linter.unusedVariables false
set_option linter.unusedSimpArgs false
namespace Go.Tw
open Go Go.Proofs Go.Proofs.Qxb6500990aGreat
section
variable {w W : World} {G0 : Nat → Prop} {p : SyP} {A : AS} {la lt : Int} {ms : List Msg}
theorem RB.open (h : RB G0 W p A la lt ms w) : ∃ (y : World) (bx : Nat → MsgR), w = y.put p.b (SyncR.cells ⟨vp p.bl, vp p.be, A.commit, A.next, A.mtch, la, lt, bx, ms.length⟩) 162 ∧ y.inB p.b ∧
    ∀ c nx mt la' lt', RB G0 W p { A with commit := c, next := nx, mtch := mt } la' lt' ms (y.put p.b (SyncR.cells ⟨vp p.bl, vp p.be, c, nx, mt, la', lt', bx, ms.length⟩) 162) := by
  obtain ⟨G, bx, B, h1, h2, h3, h4, h5, h6, h7⟩ := h
  obtain ⟨y, e, iy⟩ := h1.hb.door
  subst e
  refine ⟨y, bx, rfl, iy, ?_⟩
  intro c nx mt la' lt'
  have k1 := h1.own c nx mt la' lt' bx ms.length
  rw [World.put_put_same] at k1
  have m : ModP (fun x => x = p.b) (y.put p.b (RSy p A la lt bx ms.length).cells 162) (y.put p.b (SyncR.cells ⟨vp p.bl, vp p.be, c, nx, mt, la', lt', bx, ms.length⟩) 162) := ((ModP.refl (fun x => x = p.b) y).put (.inl rfl) _ _).fromPut rfl
  refine ⟨G, bx, B, k1, h2.frame m ?_, h3, h4.step m (fun k e => e ▸ h3 _ h1.fb), h5, h6, by rw [World.size_put] at h7 ⊢; exact h7⟩
  intro k a _ e
  subst e
  have := h5 _ h1.fb
  omega
/-- a step of the log; what was laid beside it meanwhile stays -/
theorem RB.log2 {w0 : World} (h : RB G0 W p A la lt [] w0) (m : ModP (fun _ => False) w0 w) {f : Nat} {args : Array Value} {R : Ending → Prop} {lg' : AL}
    (hc : ∀ G1, RLK w G1 p.bl p.bd A.lg p.N p.r → Within G1 w → Calls Tryz.prog f args w fun x w' => R x ∧ RLK w' (grow G1 w) p.bl p.bd lg' p.N p.r ∧ ModP G1 w w') :
    Calls Tryz.prog f args w fun x w' => R x ∧ RB G0 W p { A with lg := lg' } la lt [] w' ∧ w.heap.size ≤ w'.heap.size ∧ ∀ b c T, w0.heap.size ≤ b → w.At b c T → w'.At b c T := by
  obtain ⟨G, bx, B, h1, h2, h3, h4, h5, h6, h7⟩ := h
  have wi := h1.wi
  have h1' := h1.frame m (fun _ _ f => f)
  have h4' := h4.trans (m.mono (G := G0) fun _ f => f.elim)
  refine (h1'.log hc).mono ?_
  rintro r w' ⟨hr, G', k1, k2, k3⟩
  have hm := h4'.step k3 h3
  refine ⟨hr, ⟨G', bx, w'.heap.size, k1, BoxAt.nil _ _ _, fun k hk => (k2 k hk).elim (h3 k) (fun a => .inr (Nat.le_trans h4'.size a)), hm, k1.wi, hm.size, Nat.le_refl _⟩, k3.size, ?_⟩
  intro b c T hb ha
  exact k3.at ha (fun g => by have := wi _ g; omega)
end
theorem AS.persist_last2 (A : AS) : A.persist.lg.now.last = A.lg.now.last ∧ ∀ i, A.persist.lg.now.termAt i = A.lg.now.termAt i := by
  unfold AS.persist
  split
  · exact ⟨rfl, fun _ => rfl⟩
  · unfold AL.setTerm
    split
    · exact ⟨rfl, fun _ => rfl⟩
    · exact ⟨rfl, fun _ => rfl⟩
theorem Lg.termAt_push (s : Lg) (e : Entry) : Lg.last { s with ents := s.ents ++ [e] } = s.last + 1 ∧ (Lg.termAt { s with ents := s.ents ++ [e] } (s.last + 1)).1 = e.term := by
  have h1 : Lg.last { s with ents := s.ents ++ [e] } = s.last + 1 := by unfold Lg.last; simp; omega
  refine ⟨h1, ?_⟩
  unfold Lg.termAt Lg.at_
  rw [if_neg (by show ¬ s.last + 1 = s.base; unfold Lg.last; omega), if_neg (by show ¬ s.last + 1 ≤ s.base; unfold Lg.last; omega), if_neg (by rw [h1]; omega)]
  show (List.getD (s.ents ++ [e]) (s.last + 1 - s.base - 1).toNat zEnt).term = _
  rw [show (s.last + 1 - s.base - 1).toNat = s.ents.length by unfold Lg.last; omega]
  simp [List.getD_eq_getElem?_getD]
theorem AL.append_last (a : AL) (e : Entry) (h : (a.append e).1 = 0) : (a.append e).2.now.last = a.now.last + 1 ∧ ((a.append e).2.now.termAt (a.now.last + 1)).1 = e.term := by
  unfold AL.append at *
  split at h
  · split at h
    · simp at h
    · rename_i c d
      rw [if_pos c, if_neg d]
      exact Lg.termAt_push a.now e
  · simp at h
theorem Lg.rebase_last {s : Lg} {u t : Int} {sn : Bs} (h1 : s.base < u) (h2 : u ≤ s.last) : Lg.last { s with base := u, baseTerm := t, snap := sn, ents := s.ents.drop (u - s.base).toNat } = s.last := by
  unfold Lg.last at *
  simp only [List.length_drop]; omega
theorem Lg.rebase_at {s : Lg} {u t : Int} {sn : Bs} (h1 : s.base < u) (h2 : u ≤ s.last) (ht : (s.termAt u).1 = t) {i : Int} (hi : u ≤ i) (hi2 : i ≤ s.last) : (Lg.termAt { s with base := u, baseTerm := t, snap := sn, ents := s.ents.drop (u - s.base).toNat } i).1 = (s.termAt i).1 := by
  have hl := Lg.rebase_last (t := t) (sn := sn) h1 h2
  by_cases e : i = u
  · subst e
    unfold Lg.termAt at ht ⊢
    rw [if_pos rfl, ← ht]
  · have a1 : Lg.at_ { s with base := u, baseTerm := t, snap := sn, ents := s.ents.drop (u - s.base).toNat } i = (Lg.ent { s with base := u, baseTerm := t, snap := sn, ents := s.ents.drop (u - s.base).toNat } (i - u - 1).toNat, 0) := by
      unfold Lg.at_
      rw [if_neg (show ¬ i ≤ u by omega), if_neg (by rw [hl]; omega)]
    have a2 : s.at_ i = (s.ent (i - s.base - 1).toNat, 0) := by
      unfold Lg.at_
      rw [if_neg (by omega), if_neg (by omega)]
    unfold Lg.termAt
    rw [if_neg (show ¬ i = u from e), if_neg (show ¬ i = s.base by omega), a1, a2]
    show (List.getD (s.ents.drop (u - s.base).toNat) (i - u - 1).toNat zEnt).term = (List.getD s.ents (i - s.base - 1).toNat zEnt).term
    simp only [List.getD_eq_getElem?_getD, List.getElem?_drop]
    rw [show (u - s.base).toNat + (i - u - 1).toNat = (i - s.base - 1).toNat by omega]
theorem AL.compact_last (a : AL) (u : Int) (sn : Bs) : (a.compact u sn).2.now.last = a.now.last ∧ ((a.compact u sn).2.now.termAt a.now.last).1 = (a.now.termAt a.now.last).1 := by
  unfold AL.compact
  split
  · exact ⟨rfl, rfl⟩
  · split
    · exact ⟨rfl, rfl⟩
    · split
      · exact ⟨rfl, rfl⟩
      · rename_i h1 h2 h3
        exact ⟨Lg.rebase_last (by omega) (by omega), Lg.rebase_at (by omega) (by omega) rfl (by omega) (Int.le_refl _)⟩
end Go.Tw
namespace Go.Proofs.Qxb6500990aGreat
open Go Go.RowKit Go.Tw
attribute [local go_sem] World.cell?_put_same World.cell?_put_ne World.cell?_put_ne' World.frozen?_put_same World.frozen?_put_ne World.frozen?_put_ne' World.setCell_put_same World.setCell_put_ne World.setCell_put_ne' World.inB_put World.inB_alloc World.inB_drew World.inB_drewN World.inB_new World.inB_setCell World.put_drew World.put_drewN World.q_setCell_drew World.q_setCell_drewN World.q_alloc_drew World.q_alloc_drewN World.put_put_same World.put_put_2 World.size_put World.q_cell?_alloc_old World.q_frozen?_alloc_old World.cell?_alloc_new' World.frozen?_alloc_new' World.q_setCell_alloc_old World.q_setCell_alloc_new World.q_put_alloc_old World.cell?_force_same World.frozen?_force_same World.cell?_force2_fst World.cell?_force2_snd SyncR.g0 SyncR.s0 SyncR.g1 SyncR.s1 SyncR.g2 SyncR.s2 SyncR.g3 SyncR.s3 SyncR.g4 SyncR.s4 SyncR.g5 SyncR.s5 SyncR.g6 SyncR.s6 SyncR.g7 SyncR.s7 SyncR.g8 SyncR.s8 SyncR.g9 SyncR.s9 SyncR.g10 SyncR.s10 SyncR.g11 SyncR.s11 SyncR.g12 SyncR.s12 SyncR.g13 SyncR.s13 SyncR.g14 SyncR.s14 SyncR.g15 SyncR.s15 SyncR.g16 SyncR.s16 SyncR.g17 SyncR.s17 SyncR.g18 SyncR.s18 SyncR.g19 SyncR.s19 SyncR.g20 SyncR.s20 SyncR.g21 SyncR.s21 SyncR.g22 SyncR.s22 SyncR.g23 SyncR.s23 SyncR.g24 SyncR.s24 SyncR.g25 SyncR.s25 SyncR.g26 SyncR.s26 SyncR.g27 SyncR.s27 SyncR.g28 SyncR.s28 SyncR.g29 SyncR.s29 SyncR.g30 SyncR.s30 SyncR.g31 SyncR.s31 SyncR.g32 SyncR.s32 SyncR.g33 SyncR.s33 SyncR.g34 SyncR.s34 SyncR.g35 SyncR.s35 SyncR.g36 SyncR.s36 SyncR.g37 SyncR.s37 SyncR.g38 SyncR.s38 SyncR.g39 SyncR.s39 SyncR.g40 SyncR.s40 SyncR.g41 SyncR.s41 SyncR.gi_next_0 SyncR.si_next_0 SyncR.gi_mtch_0 SyncR.si_mtch_0 SyncR.gi_box_0 SyncR.si_box_0 SyncR.gi_box_1 SyncR.si_box_1 SyncR.gi_box_2 SyncR.si_box_2 SyncR.gi_box_3 SyncR.si_box_3 SyncR.gi_box_4 SyncR.si_box_4 SyncR.gi_box_5 SyncR.si_box_5 SyncR.gi_box_6 SyncR.si_box_6 SyncR.gi_box_7 SyncR.si_box_7 SyncR.gi_box_8 SyncR.si_box_8 SyncR.gi_box_9 SyncR.si_box_9 Entry.g0 Entry.s0 Entry.g1 Entry.s1
attribute [local go_sem] ba_get upd_same upd_upd
set_option maxHeartbeats 4000000
set_option maxRecDepth 100000
section
variable {W w : World} {G : Nat → Prop} {p : SyP} {A : AS} {la lt : Int} {ms : List Msg}
/-- grow: an entry that fits -/
theorem c142 (h : RS G W p A [] w) (hn : A.lg.hist.length ≤ 480) {e : Entry} (he : entOK e = true) : Calls Tryz.prog 142 #[vp p.b, .agg e.cells] w fun x w' => x = .returned (vi (A.lg.append e).1) ∧ RS G W p { A with lg := (A.lg.append e).2 } [] w' := by
  have hla := h.ok.last1
  have hla0 := h.ok.last0
  unfold maxT at hla
  unfold RS at *
  have hS := hidIt (fun w' (m : ModP (fun _ => False) w w') => RB.log2 h m (R := fun x => x = .returned (vi (A.lg.append e).1)) (lg' := (A.lg.append e).2) (fun G1 h1 hw => c213 h1 hw hn he))
  have hap := hidIt (AL.append_last A.lg e)
  have her : Hid ((A.lg.append e).1 ≠ 0 → (A.lg.append e).2 = A.lg) := fun h => append_err h
  obtain ⟨bx, hb⟩ := h.hb
  have hc := hb.cell
  have ib := hb.inB
  unfold RSy at hc
  obtain ⟨et, ed⟩ := e
  unfold Tw.Entry.cells
  have Hh := hidIt h
  clear h hb
  by_cases h3 : (A.lg.append ⟨et, ed⟩).1 = 0
  · obtain ⟨l1, l2⟩ := hap.out h3
    have HL := hidIt (And.intro l1 l2)
    rw [h3] at hS ⊢
    clear l1 l2 hap her h3
    generalize (A.lg.append ⟨et, ed⟩).2 = lg' at *
    generalize hl1 : (A.lg.now.termAt A.lg.now.last).1 = lt at *
    generalize A.lg.now.last = la at *
    clear hl1
    have nb : p.b ≠ w.heap.size := by have : p.b < w.heap.size := ib; omega
    have nb' : w.heap.size ≠ p.b := Ne.symm nb
    go_enter Tryz.func142, Tryz.ntmps142
    go_wp2_with fail
    refine Ord.region1 [] [0, 1, 2, 3, 4] [5, 6] (by kernel_rfl) (by kernel_rfl) (fun _ _ d _ _ h => by cases d <;> exact h) ?_
    simp only [Ord.pickO, Ord.nth]
    refine wpQuiet_nil ?_
    repeat (go_big_quiet_step (fail))
    refine wpQuiet_nil ?_
    go_wp2_with (first
      | (go_at_call 213; refine Calls.mono (hS.out _ ?mm) ?_; (case mm => exact (by repeat (first | assumption | exact ModP.refl _ _ | refine ModP.fromPut ?_ (by assumption) | apply ModP.alloc | apply ModP.drew | apply ModP.drewN | refine ModP.put ?_ (by first | (left; assumption) | (left; rfl) | (right; simp only [World.inB, World.size_put] at *; omega)) _ _))); rintro _ w2 ⟨rfl, m, z2, k2⟩; have H2 := hidIt m; have ab := k2 w.heap.size (Entry.cells ⟨et, ed⟩) 232 (Nat.le_refl _) (by repeat (first | exact World.At_alloc_new | refine World.At_drew.2 ?_)); clear m hc ib k2 z2; obtain ⟨y, bx2, rfl, iy, hset⟩ := H2.out.open; have HS := hidIt hset; clear hset; have ab2 := (World.At_put_ne' nb').1 ab; have hc2 := ab2.cell; have ib2 := ab2.inB))
    go_ret
    obtain ⟨l1, l2⟩ := HL.out
    rw [l1, l2]
    exact ⟨rfl, HS.out A.commit A.next A.mtch (la + 1) et⟩
  · have hA : Hid ((A.lg.append ⟨et, ed⟩).2 = A.lg) := her.out h3
    have h3' : ((A.lg.append ⟨et, ed⟩).1 == 0) = false := by simpa using h3
    have HA : Hid ((A.lg.append ⟨et, ed⟩).2 = A.lg) := hA.out
    rw [HA.out] at hS ⊢
    generalize (A.lg.append ⟨et, ed⟩).1 = er at *
    generalize hl1 : (A.lg.now.termAt A.lg.now.last).1 = lt at *
    generalize A.lg.now.last = la at *
    clear hl1 h3 hap her hA HA
    go_enter Tryz.func142, Tryz.ntmps142
    go_wp2_with fail
    refine Ord.region1 [] [0, 1, 2, 3, 4] [5, 6] (by kernel_rfl) (by kernel_rfl) (fun _ _ d _ _ h => by cases d <;> exact h) ?_
    simp only [Ord.pickO, Ord.nth]
    refine wpQuiet_nil ?_
    repeat (go_big_quiet_step (fail))
    refine wpQuiet_nil ?_
    go_wp2_with (first
      | (go_at_call 213; refine Calls.mono (hS.out _ ?mm) ?_; (case mm => exact (by repeat (first | assumption | exact ModP.refl _ _ | refine ModP.fromPut ?_ (by assumption) | apply ModP.alloc | apply ModP.drew | apply ModP.drewN | refine ModP.put ?_ (by first | (left; assumption) | (left; rfl) | (right; simp only [World.inB, World.size_put] at *; omega)) _ _))); rintro _ w2 ⟨rfl, m, z2, k2⟩; have H2 := hidIt m; have ab := k2 w.heap.size (Entry.cells ⟨et, ed⟩) 232 (Nat.le_refl _) (by repeat (first | exact World.At_alloc_new | refine World.At_drew.2 ?_)); clear m hc ib k2 z2; skip))
    go_ret
    exact ⟨rfl, H2.out⟩
theorem c186 (h : RS G W p A [] w) (oe : A.el.Ok) (hn : A.lg.hist.length ≤ 480) : Calls Tryz.prog 186 #[vp p.b] w fun x w' => x = .returned (.tuple #[]) ∧ RS G W p A.persist [] w' := by
  obtain ⟨l1, l2⟩ := AS.persist_last2 A
  unfold RS at *
  rw [l1, l2]
  clear l1 l2
  generalize A.lg.now.last = la at *
  generalize (A.lg.now.termAt la).1 = lt at *
  obtain ⟨bx, hb⟩ := h.hb
  obtain ⟨G1, h1⟩ := h.lk
  have hE := hidIt h.he
  have hL := hidIt h1
  have Hoe := hidIt oe
  have hS := hidIt (RB.log h (R := fun x => x = .returned (vi (A.lg.setTerm A.el.term A.el.vote).1)) (lg' := (A.lg.setTerm A.el.term A.el.vote).2) (fun G1 h1 hw => c240 h1 hn oe.t0 oe.t1 oe.v0 oe.v1))
  have Hh := hidIt h
  have hc := hb.cell
  have ib := hb.inB
  unfold RSy at hc
  clear h hb h1 oe
  by_cases h1 : A.el.term = A.lg.now.term
  · by_cases h2 : A.el.vote = A.lg.now.vote
    · have hk : Hid (A.persist = A) := by unfold Hid AS.persist; rw [if_pos ⟨h1, h2⟩]
      go_enter Tryz.func186, Tryz.ntmps186
      go_wp2_with (first
        | (go_at_call 78; refine (c78 hE.out).mono ?_; rintro _ w0 ⟨rfl, e⟩; obtain rfl := e.symm)
        | (go_at_call 79; refine (c79 hE.out Hoe.out).mono ?_; rintro _ w0 ⟨rfl, e⟩; obtain rfl := e.symm)
        | (go_at_call 66; refine (k66 hL.out).mono ?_; rintro _ w0 ⟨rfl, e⟩; obtain rfl := e.symm)
        | (go_at_call 67; refine (k67 hL.out).mono ?_; rintro _ w0 ⟨rfl, e⟩; obtain rfl := e.symm)
        | (go_at_call 240; refine hS.out.mono ?_; rintro _ w2 ⟨rfl, m⟩))
      go_end0
      rw [hk.out]
      exact ⟨rfl, Hh.out⟩
    · have hk : Hid (A.persist = { A with lg := (A.lg.setTerm A.el.term A.el.vote).2 }) := by unfold Hid AS.persist; rw [if_neg (fun h => h2 h.2)]
      have h2' : (A.el.vote != A.lg.now.vote) = true := by simpa using h2
      rw [h1] at hS hk
      clear h2
      go_enter Tryz.func186, Tryz.ntmps186
      go_wp2_with (first
        | (go_at_call 78; refine (c78 hE.out).mono ?_; rintro _ w0 ⟨rfl, e⟩; obtain rfl := e.symm)
        | (go_at_call 79; refine (c79 hE.out Hoe.out).mono ?_; rintro _ w0 ⟨rfl, e⟩; obtain rfl := e.symm)
        | (go_at_call 66; refine (k66 hL.out).mono ?_; rintro _ w0 ⟨rfl, e⟩; obtain rfl := e.symm)
        | (go_at_call 67; refine (k67 hL.out).mono ?_; rintro _ w0 ⟨rfl, e⟩; obtain rfl := e.symm)
        | (go_at_call 240; refine hS.out.mono ?_; rintro _ w2 ⟨rfl, m⟩))
      go_end0
      rw [hk.out]
      exact ⟨rfl, m⟩
  · have hk : Hid (A.persist = { A with lg := (A.lg.setTerm A.el.term A.el.vote).2 }) := by unfold Hid AS.persist; rw [if_neg (fun h => h1 h.1)]
    have h1' : (A.el.term != A.lg.now.term) = true := by simpa using h1
    clear h1
    go_enter Tryz.func186, Tryz.ntmps186
    go_wp2_with (first
      | (go_at_call 78; refine (c78 hE.out).mono ?_; rintro _ w0 ⟨rfl, e⟩; obtain rfl := e.symm)
      | (go_at_call 79; refine (c79 hE.out Hoe.out).mono ?_; rintro _ w0 ⟨rfl, e⟩; obtain rfl := e.symm)
      | (go_at_call 66; refine (k66 hL.out).mono ?_; rintro _ w0 ⟨rfl, e⟩; obtain rfl := e.symm)
      | (go_at_call 67; refine (k67 hL.out).mono ?_; rintro _ w0 ⟨rfl, e⟩; obtain rfl := e.symm)
      | (go_at_call 240; refine hS.out.mono ?_; rintro _ w2 ⟨rfl, m⟩))
    go_end0
    rw [hk.out]
    exact ⟨rfl, m⟩
end
end Go.Proofs.Qxb6500990aGreat
