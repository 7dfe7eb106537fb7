/- package syncm: Propose, Compact, send -/
import Derived.Test.Qxb6500990aGreatSym2
import Derived.Test.Qxb6500990aGreatLgOk
import Derived.Test.Qxb6500990aGreatOrder3
set_option linter.unusedVariables false
set_option linter.unusedSimpArgs false
namespace Go.Tw
open Go Go.Proofs Go.Proofs.Qxb6500990aGreat
/-- the entries that a leader sends from index i on -/
def Lg.cnt (s : Lg) (i : Int) : Nat := (min 2 (s.last - i + 1)).toNat
def Lg.batchN (s : Lg) (i : Int) (k : Nat) : List Entry := (List.range k).map fun j : Nat => (s.at_ (i + (j : Int))).1
def Lg.batch (s : Lg) (i : Int) : List Entry := s.batchN i (s.cnt i)
theorem Lg.batchN_succ (s : Lg) (i : Int) (k : Nat) : s.batchN i (k + 1) = s.batchN i k ++ [(s.at_ (i + (k : Int))).1] := by simp [Lg.batchN, List.range_succ]
theorem Lg.batchN_len (s : Lg) (i : Int) (k : Nat) : (s.batchN i k).length = k := by simp [Lg.batchN]
def AS.send (A : AS) (p : Nat) : Msg :=
  if A.next p ≤ A.lg.now.base then ⟨5, A.el.id, p, A.el.term, A.lg.now.base, A.lg.now.baseTerm, 0, false, [], A.lg.now.snap⟩
  else ⟨3, A.el.id, p, A.el.term, A.next p - 1, (A.lg.now.termAt (A.next p - 1)).1, A.commit, false, A.lg.now.batch (A.next p), []⟩
end Go.Tw
namespace Go.Proofs.Qxb6500990aGreat
open Go Go.RowKit Go.Tw
attribute [local go_sem] World.cell?_put_same World.cell?_put_ne World.cell?_put_ne' World.frozen?_put_same World.frozen?_put_ne World.frozen?_put_ne' World.setCell_put_same World.setCell_put_ne World.setCell_put_ne' World.inB_put World.inB_alloc World.inB_drew World.inB_drewN World.inB_new World.inB_setCell World.put_drew World.put_drewN World.q_setCell_drew World.q_setCell_drewN World.q_alloc_drew World.q_alloc_drewN World.put_put_same World.put_put_2 World.size_put World.q_cell?_alloc_old World.q_frozen?_alloc_old World.cell?_alloc_new' World.frozen?_alloc_new' World.q_setCell_alloc_old World.q_setCell_alloc_new World.q_put_alloc_old World.cell?_force_same World.frozen?_force_same World.cell?_force2_fst World.cell?_force2_snd SyncM.g0 SyncM.s0 SyncM.g1 SyncM.s1 SyncM.g2 SyncM.s2 SyncM.g3 SyncM.s3 SyncM.g4 SyncM.s4 SyncM.g5 SyncM.s5 SyncM.g6 SyncM.s6 SyncM.g7 SyncM.s7 SyncM.g8 SyncM.s8 SyncM.gi_next_0 SyncM.si_next_0 SyncM.gi_mtch_0 SyncM.si_mtch_0 MsgR.g0 MsgR.s0 MsgR.g1 MsgR.s1 MsgR.g2 MsgR.s2 MsgR.g3 MsgR.s3 MsgR.g4 MsgR.s4 MsgR.g5 MsgR.s5 MsgR.g6 MsgR.s6 MsgR.g7 MsgR.s7 MsgR.g8 MsgR.s8 MsgR.g9 MsgR.s9 Entry.g0 Entry.s0 Entry.g1 Entry.s1
attribute [local go_sem] ba_get upd_same upd_upd
set_option maxHeartbeats 2000000
set_option maxRecDepth 100000
section
variable {W w : World} {G : Nat → Prop} {b bl be : Nat} {A : AS}
theorem c158 (h : SB G W b bl be A w) (ok : A.lg.now.Ok) (hn : A.lg.hist.length ≤ 9000) (u : Int) (sn : Bs) : Calls Tryz.prog 158 #[vp b, vi u, vs sn] w fun r w' => r = .returned (vi (A.compact u sn).1) ∧ SB G W b bl be (A.compact u sn).2 w' := by
  have hb := h.hb
  have hS := hidIt (SB.log h (R := fun r => r = .returned (vi (A.lg.compact u sn).1)) (lg' := (A.lg.compact u sn).2) (fun G1 h1 => c223 h1 ok hn _ _))
  have Hh := hidIt h
  have hc := hb.cell
  have ib := hb.inB
  unfold SyR at hc
  clear h hb ok
  by_cases h1 : A.commit < u
  · have hk : Hid (A.compact u sn = (1, A)) := by unfold Hid AS.compact; rw [if_pos h1]
    go_enter Tryz.func158, Tryz.ntmps158
    go_wp2_with fail
    go_ret
    rw [hk.out]
    exact ⟨rfl, Hh.out⟩
  · have hk : Hid (A.compact u sn = ((A.lg.compact u sn).1, { A with lg := (A.lg.compact u sn).2 })) := by unfold Hid AS.compact; rw [if_neg h1]
    go_enter Tryz.func158, Tryz.ntmps158
    go_wp2_with (go_at_call 223; refine hS.out.mono ?_; rintro _ w2 ⟨rfl, m⟩)
    go_ret
    rw [hk.out]
    exact ⟨rfl, m⟩
theorem c98 (h : SB G W b bl be A w) (ok : A.lg.now.Ok) (hn : A.lg.hist.length ≤ 9000) (d : Bs) : Calls Tryz.prog 98 #[vp b, vs d] w fun r w' => r = .returned (.tuple #[vi (A.propose d).1.1, vi (A.propose d).1.2]) ∧ SB G W b bl be (A.propose d).2 w' := by
  have hb := h.hb
  have hE := hidIt h.he
  have hS := hidIt (SB.log h (R := fun r => r = .returned (vi (A.lg.append ⟨A.el.term, d⟩).1)) (lg' := (A.lg.append ⟨A.el.term, d⟩).2) (fun G1 h1 => c156 h1 ok hn _))
  have Hh := hidIt h
  have hc := hb.cell
  have ib := hb.inB
  unfold SyR at hc
  have okA := hidIt (AL.append_ok ok ⟨A.el.term, d⟩)
  clear h hb ok
  by_cases h1 : A.el.role ≠ 2
  · have hk : Hid (A.propose d = ((0, 8), A)) := by unfold Hid AS.propose; rw [if_pos h1]
    have h1' : (A.el.role == 2) = false := by simpa using h1
    go_enter Tryz.func98, Tryz.ntmps98
    go_wp2_with (first
      | (go_at_call 149; refine (c149 hE.out).mono ?_; rintro _ _ ⟨rfl, rfl⟩))
    go_ret2
    rw [hk.out]
    exact ⟨rfl, Hh.out⟩
  by_cases h2 : 24 < d.length
  · have hk : Hid (A.propose d = ((0, 5), A)) := by unfold Hid AS.propose; rw [if_neg h1, if_pos h2]
    have h1' : A.el.role = 2 := Decidable.of_not_not h1
    have h2' : (24 : Int) < d.length := by omega
    clear h1
    go_enter Tryz.func98, Tryz.ntmps98
    go_wp2_with (first
      | (go_at_call 149; refine (c149 hE.out).mono ?_; rintro _ _ ⟨rfl, rfl⟩))
    go_ret2
    rw [hk.out]
    exact ⟨rfl, Hh.out⟩
  have h2' : (d.length : Int) ≤ 24 := by omega
  have h1' : A.el.role = 2 := Decidable.of_not_not h1
  by_cases h3 : (A.lg.append ⟨A.el.term, d⟩).1 ≠ 0
  · have hk : Hid (A.propose d = ((0, 6), A)) := by unfold Hid AS.propose; rw [if_neg h1, if_neg h2, if_pos h3]
    have hA : { A with lg := (A.lg.append ⟨A.el.term, d⟩).2 } = A := by rw [append_err h3]
    have h3' : ((A.lg.append ⟨A.el.term, d⟩).1 == 0) = false := by simpa using h3
    rw [hA] at hS
    generalize (A.lg.append ⟨A.el.term, d⟩).1 = er at *
    clear h1 h2 h3 hA
    go_enter Tryz.func98, Tryz.ntmps98
    go_wp2_with (first
      | (go_at_call 149; refine (c149 hE.out).mono ?_; rintro _ _ ⟨rfl, rfl⟩)
      | (go_at_call 147; refine (c147 hE.out).mono ?_; rintro _ _ ⟨rfl, rfl⟩)
      | (go_at_call 156; refine hS.out.mono ?_; rintro _ w2 ⟨rfl, m⟩; have M := hidIt m; clear m))
    go_ret2
    rw [hk.out]
    exact ⟨rfl, M.out⟩
  · have hk : Hid (A.propose d = (((A.lg.append ⟨A.el.term, d⟩).2.now.last, 0), { A with lg := (A.lg.append ⟨A.el.term, d⟩).2 })) := by unfold Hid AS.propose; rw [if_neg h1, if_neg h2, if_neg h3]
    have h3' : (A.lg.append ⟨A.el.term, d⟩).1 = 0 := Decidable.of_not_not h3
    rw [h3'] at hS
    generalize A.lg.append ⟨A.el.term, d⟩ = er at *
    clear h1 h2 h3 h3'
    go_enter Tryz.func98, Tryz.ntmps98
    go_wp2_with (first
      | (go_at_call 149; refine (c149 hE.out).mono ?_; rintro _ _ ⟨rfl, rfl⟩)
      | (go_at_call 147; refine (c147 hE.out).mono ?_; rintro _ _ ⟨rfl, rfl⟩)
      | (go_at_call 156; refine hS.out.mono ?_; rintro _ w2 ⟨rfl, m⟩; have M := hidIt m; have hc2 := m.hb.cell; have ib2 := m.hb.inB; unfold SyR at hc2; have hL := m.lk; have HL := hidIt hL; clear m hL)
      | (go_at_call 154; obtain ⟨G1, h5⟩ := HL.out; refine (c154 h5 (by have := okA.out.n6; omega) okA.out.b0 (by have := okA.out.lm; omega)).mono ?_; rintro _ _ ⟨rfl, m2, rfl⟩))
    go_ret2
    rw [hk.out]
    exact ⟨rfl, M.out.fr (by repeat (first | assumption | exact ModP.refl _ _ | refine ModP.fromPut ?_ (by assumption) | apply ModP.alloc | apply ModP.drew | apply ModP.drewN | refine ModP.put ?_ (by first | (left; assumption) | (left; rfl) | (right; simp only [World.inB, World.size_put] at *; omega)) _ _))⟩
end
end Go.Proofs.Qxb6500990aGreat
