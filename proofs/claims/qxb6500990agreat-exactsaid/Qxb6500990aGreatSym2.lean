/- package syncm: the observers, persist, Propose, Compact, Mark -/
import Derived.Test.Qxb6500990aGreatSym
set_option linter.unusedVariables false
set_option linter.unusedSimpArgs false
namespace Go.Tw
open Go Go.Proofs Go.Proofs.Qxb6500990aGreat
def AS.view (A : AS) : SyncV := ⟨A.el.id, A.el.term, A.el.vote, A.el.role, A.el.leader, A.el.clock, A.el.got, A.commit, A.lg.now.base, A.lg.now.baseTerm, A.lg.now.last, A.lg.now.snap, A.next, A.mtch⟩
def AS.persist (A : AS) : AS := if A.el.term = A.lg.now.term ∧ A.el.vote = A.lg.now.vote then A else { A with lg := (A.lg.setTerm A.el.term A.el.vote).2 }
def AS.propose (A : AS) (d : Bs) : (Int × Int) × AS :=
  if A.el.role ≠ 2 then ((0, 8), A) else if 24 < d.length then ((0, 5), A) else if (A.lg.append ⟨A.el.term, d⟩).1 ≠ 0 then ((0, 6), A)
  else (((A.lg.append ⟨A.el.term, d⟩).2.now.last, 0), { A with lg := (A.lg.append ⟨A.el.term, d⟩).2 })
def AS.compact (A : AS) (u : Int) (sn : Bs) : Int × AS := if A.commit < u then (1, A) else ((A.lg.compact u sn).1, { A with lg := (A.lg.compact u sn).2 })
def AS.mark (A : AS) : AS := { A with lg := A.lg.now.al }
theorem append_err {a : AL} {e : Entry} (h : (a.append e).1 ≠ 0) : (a.append e).2 = a := by
  unfold AL.append at *
  split
  · split
    · rfl
    · rename_i h1 h2; rw [if_pos h1, if_neg h2] at h; exact absurd rfl h
  · rfl
def gotF (f : Nat → Bool) (i : Nat) : Nat → Bool := fun j => if j < i then f j else false
theorem gotF_step (f : Nat → Bool) (i : Nat) : upd (gotF f i) i (f i) = gotF f (i + 1) := by
  funext j
  unfold upd gotF
  by_cases h : j = i
  · subst h; rw [if_pos rfl, if_pos (by omega)]
  · rw [if_neg h]
    by_cases h2 : j < i
    · rw [if_pos h2, if_pos (by omega)]
    · rw [if_neg h2, if_neg (by omega)]
end Go.Tw
namespace Go.Proofs.Qxb6500990aGreat
open Go Go.RowKit Go.Tw
attribute [local go_sem] World.cell?_put_same World.cell?_put_ne World.cell?_put_ne' World.frozen?_put_same World.frozen?_put_ne World.frozen?_put_ne' World.setCell_put_same World.setCell_put_ne World.setCell_put_ne' World.inB_put World.inB_alloc World.inB_drew World.inB_drewN World.inB_new World.inB_setCell World.put_drew World.put_drewN World.q_setCell_drew World.q_setCell_drewN World.q_alloc_drew World.q_alloc_drewN World.put_put_same World.put_put_2 World.size_put World.q_cell?_alloc_old World.q_frozen?_alloc_old World.cell?_alloc_new' World.frozen?_alloc_new' World.q_setCell_alloc_old World.q_setCell_alloc_new World.q_put_alloc_old SyncM.g0 SyncM.s0 SyncM.g1 SyncM.s1 SyncM.g2 SyncM.s2 SyncM.g3 SyncM.s3 SyncM.g4 SyncM.s4 SyncM.g5 SyncM.s5 SyncM.g6 SyncM.s6 SyncM.g7 SyncM.s7 SyncM.g8 SyncM.s8 SyncM.gi_next_0 SyncM.si_next_0 SyncM.gi_mtch_0 SyncM.si_mtch_0 SyncV.g0 SyncV.s0 SyncV.g1 SyncV.s1 SyncV.g2 SyncV.s2 SyncV.g3 SyncV.s3 SyncV.g4 SyncV.s4 SyncV.g5 SyncV.s5 SyncV.g6 SyncV.s6 SyncV.g7 SyncV.s7 SyncV.g8 SyncV.s8 SyncV.g9 SyncV.s9 SyncV.g10 SyncV.s10 SyncV.g11 SyncV.s11 SyncV.g12 SyncV.s12 SyncV.g13 SyncV.s13 SyncV.g14 SyncV.s14 SyncV.g15 SyncV.s15 SyncV.g16 SyncV.s16 SyncV.g17 SyncV.s17 SyncV.g18 SyncV.s18 SyncV.g19 SyncV.s19 SyncV.gi_got_0 SyncV.si_got_0 SyncV.gi_next_0 SyncV.si_next_0 SyncV.gi_mtch_0 SyncV.si_mtch_0 Entry.g0 Entry.s0 Entry.g1 Entry.s1
attribute [local go_sem] ba_get upd_same upd_upd
set_option maxHeartbeats 2000000
set_option maxRecDepth 100000
section
variable {W w : World} {G : Nat → Prop} {b bl be : Nat} {A : AS}
theorem c97 (h : SMp W G b bl be A) (ok : A.lg.now.Ok) : Calls Tryz.prog 97 #[vp b] W fun r w' => ∃ b', r = .returned (vp b') ∧ W.heap.size ≤ b' ∧ w'.At b' A.view.cells 64 ∧ ModP (fun _ => False) W w' := by
  have he := h.he
  have hb := h.hb
  obtain ⟨G1, h1, -⟩ := h.hl
  have hL := hidIt (fun w' (m : ModP (fun _ => False) W w') => h1.frame m (fun _ _ f => f))
  have HE := hidIt he
  have hc := hb.cell
  have ib := hb.inB
  unfold SyR at hc
  have Hok := hidIt ok
  clear h h1 he hb ok
  go_enter Tryz.func97, Tryz.ntmps97
  go_wp2_with (first
    | (go_at_call 114; refine (c114 (World.At.alloc HE.out _)).mono ?_; rintro _ _ ⟨rfl, rfl⟩)
    | (go_at_call 147; refine (c147 (World.At.alloc HE.out _)).mono ?_; rintro _ _ ⟨rfl, rfl⟩)
    | (go_at_call 148; refine (c148 (World.At.alloc HE.out _)).mono ?_; rintro _ _ ⟨rfl, rfl⟩)
    | (go_at_call 149; refine (c149 (World.At.alloc HE.out _)).mono ?_; rintro _ _ ⟨rfl, rfl⟩)
    | (go_at_call 150; refine (c150 (World.At.alloc HE.out _)).mono ?_; rintro _ _ ⟨rfl, rfl⟩)
    | (go_at_call 151; refine (c151 (World.At.alloc HE.out _)).mono ?_; rintro _ _ ⟨rfl, rfl⟩))
  go_loopw [4] (fun i u => ∃ j : Nat, j ≤ 3 ∧ i = vi j ∧ Dr (W.alloc (.cells (SyncV.cells ⟨A.el.id, A.el.term, A.el.vote, A.el.role, A.el.leader, A.el.clock, gotF A.el.got j, 0, 0, 0, 0, [], fun _ => 0, fun _ => 0⟩) 64 (0, 0))) u) (fun i _ => 3 - (intOf i).toNat)
  case atStart => exact ⟨0, by omega, rfl, Dr.refl _⟩
  case round =>
    obtain ⟨j, hj, rfl, m, rfl⟩ := hrel
    by_cases hj3 : j < 3
    · have hs := hidIt (gotF_step A.el.got j)
      go_wp2_with fail
      refine Ord.region1 [] [0, 1, 2, 3, 4, 5, 6, 7, 8, 9, 10] [11] (by kernel_rfl) (by kernel_rfl) (fun _ _ d _ _ h => by cases d <;> exact h) ?_
      simp only [Ord.pickO, Ord.nth]
      refine wpQuiet_nil ?_
      repeat (first | go_big_quiet_step (fail) | (go_big_quiet_want; go_big_quiet_op; refine Exists.intro _ ⟨by first | (go_at_call 152; exact c152 (World.At_drew.2 ((World.At_drewN _).2 (World.At.alloc HE.out _))) j hj3), ?_⟩; go_big_quiet_on))
      refine wpQuiet_nil ?_
      go_wp2_with fail
      go_roundw
      case rel => exact ⟨j + 1, by omega, by go_num, by rw [← hs.out]; exact (Dr.refl _).drewN _⟩
      case measure => simp [intOf]; omega
    · obtain rfl : j = 3 := by omega
      go_wp2_with (first
        | (go_at_call 130; refine (c130 (hL.out _ (by repeat (first | assumption | exact ModP.refl _ _ | refine ModP.fromPut ?_ (by assumption) | apply ModP.alloc | apply ModP.drew | apply ModP.drewN | refine ModP.put ?_ (by first | (left; assumption) | (left; rfl) | (right; simp only [World.inB, World.size_put] at *; omega)) _ _)))).mono ?_; rintro _ _ ⟨rfl, rfl⟩)
        | (go_at_call 153; refine (c153 (hL.out _ (by repeat (first | assumption | exact ModP.refl _ _ | refine ModP.fromPut ?_ (by assumption) | apply ModP.alloc | apply ModP.drew | apply ModP.drewN | refine ModP.put ?_ (by first | (left; assumption) | (left; rfl) | (right; simp only [World.inB, World.size_put] at *; omega)) _ _)))).mono ?_; rintro _ _ ⟨rfl, rfl⟩)
        | (go_at_call 154; refine (c154 (hL.out _ (by repeat (first | assumption | exact ModP.refl _ _ | refine ModP.fromPut ?_ (by assumption) | apply ModP.alloc | apply ModP.drew | apply ModP.drewN | refine ModP.put ?_ (by first | (left; assumption) | (left; rfl) | (right; simp only [World.inB, World.size_put] at *; omega)) _ _))) (by have := Hok.out.n6; omega) Hok.out.b0 (by have := Hok.out.lm; omega)).mono ?_; rintro _ _ ⟨rfl, m2, rfl⟩)
        | (go_at_call 155; refine (c155 (hL.out _ (by repeat (first | assumption | exact ModP.refl _ _ | refine ModP.fromPut ?_ (by assumption) | apply ModP.alloc | apply ModP.drew | apply ModP.drewN | refine ModP.put ?_ (by first | (left; assumption) | (left; rfl) | (right; simp only [World.inB, World.size_put] at *; omega)) _ _)))).mono ?_; rintro _ _ ⟨rfl, rfl⟩))
      refine Ord.region1 [1] [0, 2, 3, 4, 5, 6, 7, 8, 9, 10, 11] [12, 13, 14, 15] (by kernel_rfl) (by kernel_rfl) (fun _ _ d _ _ h => by cases d <;> exact h) ?_
      simp only [Ord.pickO, Ord.nth]
      repeat (go_big_quiet_step (fail))
      refine wpQuiet_nil ?_
      repeat (go_big_quiet_step (fail))
      refine wpQuiet_nil ?_
      go_wp2_with fail
      go_ret
      refine ⟨W.heap.size, rfl, Nat.le_refl _, ?_, (by repeat (first | assumption | exact ModP.refl _ _ | refine ModP.fromPut ?_ (by assumption) | apply ModP.alloc | apply ModP.drew | apply ModP.drewN | refine ModP.put ?_ (by first | (left; assumption) | (left; rfl) | (right; simp only [World.inB, World.size_put] at *; omega)) _ _))⟩
      exact (World.At_drewN _).2 (World.At_alloc_new)
theorem c159 (h : SMp W G b bl be A) (ok : A.lg.now.Ok) (i : Int) : Calls Tryz.prog 159 #[vp b, vi i] W fun r w' => r = .returned (.tuple #[.agg (A.lg.now.at_ i).1.cells, vi (A.lg.now.at_ i).2]) ∧ ModP (fun _ => False) W w' := by
  have hb := h.hb
  obtain ⟨G1, h1, -⟩ := h.hl
  have hL := hidIt (fun w' (m : ModP (fun _ => False) W w') => c224 (h1.frame m (fun _ _ f => f)) ok i)
  have hc := hb.cell
  have ib := hb.inB
  unfold SyR at hc
  clear h h1 hb ok
  generalize A.lg.now.at_ i = e at *
  obtain ⟨⟨et, ed⟩, ee⟩ := e
  unfold Tw.Entry.cells at hL
  go_enter Tryz.func159, Tryz.ntmps159
  go_wp2_with (go_at_call 224; refine (hL.out _ (by repeat (first | assumption | exact ModP.refl _ _ | refine ModP.fromPut ?_ (by assumption) | apply ModP.alloc | apply ModP.drew | apply ModP.drewN | refine ModP.put ?_ (by first | (left; assumption) | (left; rfl) | (right; simp only [World.inB, World.size_put] at *; omega)) _ _))).mono ?_; rintro _ w2 ⟨rfl, m⟩; have hr2 := m.at (b := W.heap.size) (c := Entry.cells ⟨0, []⟩) (T := 232) (by repeat (first | assumption | exact World.At_alloc_new | exact at_new (by first | rfl | (simp [World.size_put]; done) | (simp [World.size_put]; omega)) | refine World.At.alloc ?_ _ | refine World.At_drew.2 ?_ | refine (World.At_drewN _).2 ?_ | exact World.At_put_same (by first | assumption | (simp only [World.inB, World.size_put, World.alloc, World.drew, World.drewN, Array.size_push] at *; omega)) | refine (World.At_put_ne' (by first | assumption | (exact Ne.symm (by assumption)) | (simp only [World.inB, World.size_put] at *; omega))).2 ?_)) (by simp); have M2 : ModP (fun _ => False) W w2 := ModP.trans (by repeat (first | assumption | exact ModP.refl _ _ | refine ModP.fromPut ?_ (by assumption) | apply ModP.alloc | apply ModP.drew | apply ModP.drewN | refine ModP.put ?_ (by first | (left; assumption) | (left; rfl) | (right; simp only [World.inB, World.size_put] at *; omega)) _ _)) m.toP0; clear m; obtain ⟨y, rfl, ir⟩ := hr2.door; have M3 := M2.ofPut0 (Nat.le_refl _); clear M2 hr2)
  refine bodyPost_ret (v := .tuple #[.agg (Entry.cells ⟨et, ed⟩), vi ee]) (by simp [results, Tryz.results159, go_sem, Entry.cells, ir]) rfl ?_
  exact ⟨rfl, (by repeat (first | assumption | exact ModP.refl _ _ | refine ModP.fromPut ?_ (by assumption) | apply ModP.alloc | apply ModP.drew | apply ModP.drewN | refine ModP.put ?_ (by first | (left; assumption) | (left; rfl) | (right; simp only [World.inB, World.size_put] at *; omega)) _ _))⟩
theorem c227 (h : SMp W G b bl be A) (ok : A.lg.now.Ok) (i : Int) : Calls Tryz.prog 227 #[vp b, vi i] W fun r w' => r = .returned (.tuple #[vi (A.lg.now.termAt i).1, vi (A.lg.now.termAt i).2]) ∧ ModP (fun _ => False) W w' := by
  have hb := h.hb
  obtain ⟨G1, h1, -⟩ := h.hl
  have hL := hidIt (c203 h1 ok i)
  have hc := hb.cell
  have ib := hb.inB
  unfold SyR at hc
  clear h h1 hb ok
  go_enter Tryz.func227, Tryz.ntmps227
  go_wp2_with (go_at_call 203; refine hL.out.mono ?_; rintro _ w2 ⟨rfl, m⟩)
  go_ret2
  exact ⟨rfl, m.toP0⟩
theorem c50 (h : SMp W G b bl be A) : Calls Tryz.prog 50 #[vp b] W fun r w' => r = .returned (vi A.lg.hist.length) ∧ w' = W := by
  have hb := h.hb
  obtain ⟨G1, h1, -⟩ := h.hl
  have hL := hidIt (c72 h1)
  have hc := hb.cell
  have ib := hb.inB
  unfold SyR at hc
  clear h h1 hb
  go_enter Tryz.func50, Tryz.ntmps50
  go_wp2_with (go_at_call 72; refine hL.out.mono ?_; rintro _ _ ⟨rfl, rfl⟩)
  go_ret
  exact ⟨rfl, rfl⟩
theorem c41 (h : SMp W G b bl be A) : Calls Tryz.prog 41 #[vp b] W fun r w' => r = .returned (.tuple #[]) ∧ SB G W b bl be A.mark w' := by
  have hb := h.hb
  have hL := hidIt (SB.log (SB.start h) (R := fun r => r = .returned (.tuple #[])) (lg' := A.lg.now.al) (fun G1 h1 => c86 h1))
  have hc := hb.cell
  have ib := hb.inB
  unfold SyR at hc
  clear h hb
  go_enter Tryz.func41, Tryz.ntmps41
  go_wp2_with (go_at_call 86; refine hL.out.mono ?_; rintro _ w2 ⟨rfl, m⟩)
  go_end0
  exact ⟨rfl, m⟩
theorem c201 (h : SB G W b bl be A w) (hn : A.lg.hist.length ≤ 9000) : Calls Tryz.prog 201 #[vp b] w fun r w' => r = .returned (.tuple #[]) ∧ SB G W b bl be A.persist w' := by
  have hb := h.hb
  obtain ⟨G1, h1⟩ := h.lk
  have hE := hidIt h.he
  have hL := hidIt h1
  have hS := hidIt (SB.log h (R := fun r => r = .returned (vi (A.lg.setTerm A.el.term A.el.vote).1)) (lg' := (A.lg.setTerm A.el.term A.el.vote).2) (fun G1 h1 => c252 h1 hn _ _))
  have Hh := hidIt h
  have hc := hb.cell
  have ib := hb.inB
  unfold SyR at hc
  clear h hb h1
  by_cases h1 : A.el.term = A.lg.now.term
  · by_cases h2 : A.el.vote = A.lg.now.vote
    · have hk : Hid (A.persist = A) := by unfold Hid AS.persist; rw [if_pos ⟨h1, h2⟩]
      go_enter Tryz.func201, Tryz.ntmps201
      go_wp2_with (first
        | (go_at_call 147; refine (c147 hE.out).mono ?_; rintro _ _ ⟨rfl, rfl⟩)
        | (go_at_call 148; refine (c148 hE.out).mono ?_; rintro _ _ ⟨rfl, rfl⟩)
        | (go_at_call 127; refine (c127 hL.out).mono ?_; rintro _ _ ⟨rfl, rfl⟩)
        | (go_at_call 128; refine (c128 hL.out).mono ?_; rintro _ _ ⟨rfl, rfl⟩))
      go_end0
      rw [hk.out]
      exact ⟨rfl, Hh.out⟩
    · have hk : Hid (A.persist = { A with lg := (A.lg.setTerm A.el.term A.el.vote).2 }) := by unfold Hid AS.persist; rw [if_neg (fun h => h2 h.2)]
      have h2' : (A.el.vote == A.lg.now.vote) = false := by simpa using h2
      rw [h1] at hS hk
      go_enter Tryz.func201, Tryz.ntmps201
      go_wp2_with (first
        | (go_at_call 147; refine (c147 hE.out).mono ?_; rintro _ _ ⟨rfl, rfl⟩)
        | (go_at_call 148; refine (c148 hE.out).mono ?_; rintro _ _ ⟨rfl, rfl⟩)
        | (go_at_call 127; refine (c127 hL.out).mono ?_; rintro _ _ ⟨rfl, rfl⟩)
        | (go_at_call 128; refine (c128 hL.out).mono ?_; rintro _ _ ⟨rfl, rfl⟩)
        | (go_at_call 252; refine hS.out.mono ?_; rintro _ w2 ⟨rfl, m⟩))
      go_end0
      rw [hk.out]
      exact ⟨rfl, m⟩
  · have hk : Hid (A.persist = { A with lg := (A.lg.setTerm A.el.term A.el.vote).2 }) := by unfold Hid AS.persist; rw [if_neg (fun h => h1 h.1)]
    have h1' : (A.el.term == A.lg.now.term) = false := by simpa using h1
    go_enter Tryz.func201, Tryz.ntmps201
    go_wp2_with (first
      | (go_at_call 147; refine (c147 hE.out).mono ?_; rintro _ _ ⟨rfl, rfl⟩)
      | (go_at_call 148; refine (c148 hE.out).mono ?_; rintro _ _ ⟨rfl, rfl⟩)
      | (go_at_call 127; refine (c127 hL.out).mono ?_; rintro _ _ ⟨rfl, rfl⟩)
      | (go_at_call 128; refine (c128 hL.out).mono ?_; rintro _ _ ⟨rfl, rfl⟩)
      | (go_at_call 252; refine hS.out.mono ?_; rintro _ w2 ⟨rfl, m⟩))
    go_end0
    rw [hk.out]
    exact ⟨rfl, m⟩
end
end Go.Proofs.Qxb6500990aGreat
