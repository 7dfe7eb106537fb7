/- package syncm: sendAll; lists of messages grow -/
import Derived.Test.Qxb6500990aGreatSym4
set_option linter.unusedVariables false
set_option linter.unusedSimpArgs false
namespace Go.Tw
open Go Go.Proofs Go.Proofs.Qxb6500990aGreat Go.RowKit
theorem rk219 : RowK 219 159 10 104 := ⟨by kernel_rfl, ⟨(Tryz.prog.info? 159).getD default, .agg (zMR.cells), by kernel_rfl, by kernel_rfl, by kernel_rfl, by kernel_rfl, by kernel_rfl⟩, by decide⟩
theorem ownsRow_ne {B e s n B' e' s' n' : Nat} {w : World} {v v' : Value} {xs xs' : List Value} (h : w.ownsRow B e s v n xs) (h' : w.ownsRow B' e' s' v' n' xs') (hne : e ≠ e') {g : Nat} (hg : v.ownBlock = some g) : v'.ownBlock ≠ some g := by
  intro hg'
  rcases id h.2 with ⟨hv, _⟩ | ⟨g1, cap, cur, hv, h3, h4, h5⟩
  · rw [hv] at hg; simp [Value.ownBlock] at hg
  · rw [hv] at hg
    have e1 : g1 = g := by simpa [Value.ownBlock] using hg
    subst e1
    exact ownsRow_neT h' (b := g1) (c := cur) (T := e) h4 hne hg' rfl
theorem msgsC_snoc (ps : List (Msg × Value)) (m : Msg) (v : Value) : msgsC (ps ++ [(m, v)]) = msgsC ps ++ (m.r v).cells.toList := by simp [msgsC]
theorem wp_appM {ops : Array Oper} {rest : List Oper} {o : Oper} {a : Act} {Q : Exit → Act → World → Prop} {w : World} (hg : o.guard = none) (s x : Operand)
    (ho : o.op = .call { callee := .builtin .append, args := #[s, x], argTypes := #[219, 219] }) {B : Nat} {v ev : Value} {ms : List Msg} {m : Msg} {g : Nat}
    (hs : a.eval s = v) (hx : a.eval x = .slice (some ⟨g, 0, none⟩) 1 1) (hnews : w.At g (m.r ev).cells 159) (hm : MsgsAt B w v ms) (he : EntsAt B w ev m.ents) (hB : B ≤ w.heap.size) (hlen : ms.length ≤ 1000)
    (hk : ∀ v' w', MsgsAt B w' v' (ms ++ [m]) → ModP (fun k => B ≤ k) w w' → wpList Tryz.prog ops Q rest (a.put o.dst v') w') : wpList Tryz.prog ops Q (o :: rest) a w := by
  obtain ⟨ps, h1, h2, h3⟩ := hm
  have hpl : ps.length = ms.length := by rw [← h1]; simp
  obtain ⟨ad, cap, rfl, -⟩ := ownsRow_form he
  refine wp_app rk219 hg s x ho (m.r (.slice ad m.ents.length cap)).cells.toList hs hx (by simpa using hnews) rfl (by simp [Msg.r, MsgR.cells, Value.oneCell']) h2 hB (by unfold maxLen; omega) (by omega) ?_
  intro g' cap' w' o1 m1 oc1 ol1
  have mp : ModP (fun k => v.ownBlock = some k) w w' := m1.toP (fun x hx => Option.mem_toList.1 hx)
  refine hk _ _ ⟨ps ++ [(m, .slice ad m.ents.length cap)], by simp [h1], ?_, ?_⟩ (mp.mono (fun k hk => (ownsRow_block h2 hk).2))
  · rw [msgsC_snoc, List.length_append]; exact o1
  · intro p hp
    rcases List.mem_append.1 hp with hp | hp
    · exact ownsRow_frame (h3 p hp) mp (fun g hg hv => ownsRow_ne h2 (h3 p hp) (by decide) hv hg)
    · have : p = (m, .slice ad m.ents.length cap) := by simpa using hp
      subst this
      exact ownsRow_frame he mp (fun g hg hv => ownsRow_ne h2 he (by decide) hv hg)
def AS.sendN (A : AS) (j : Nat) : List Msg := ((List.range j).filter fun p : Nat => decide ((p : Int) ≠ A.el.id)).map A.send
def AS.sendAll (A : AS) : List Msg := A.sendN 3
theorem AS.sendN_succ (A : AS) (j : Nat) : A.sendN (j + 1) = if (j : Int) = A.el.id then A.sendN j else A.sendN j ++ [A.send j] := by
  unfold AS.sendN
  rw [List.range_succ, List.filter_append, List.map_append]
  by_cases h : (j : Int) = A.el.id
  · rw [if_pos h]; simp [h]
  · rw [if_neg h]; simp [h]
theorem AS.sendN_len (A : AS) : ∀ j, (A.sendN j).length ≤ j
  | 0 => by simp [AS.sendN]
  | j + 1 => by have := AS.sendN_len A j; rw [AS.sendN_succ]; split <;> simp <;> omega
end Go.Tw
namespace Go.Proofs.Qxb6500990aGreat
open Go Go.RowKit Go.Tw
attribute [local go_sem] World.cell?_put_same World.cell?_put_ne World.cell?_put_ne' World.frozen?_put_same World.frozen?_put_ne World.frozen?_put_ne' World.setCell_put_same World.setCell_put_ne World.setCell_put_ne' World.inB_put World.inB_alloc World.inB_drew World.inB_drewN World.inB_new World.inB_setCell World.put_drew World.put_drewN World.q_setCell_drew World.q_setCell_drewN World.q_alloc_drew World.q_alloc_drewN World.put_put_same World.put_put_2 World.size_put World.q_cell?_alloc_old World.q_frozen?_alloc_old World.cell?_alloc_new' World.frozen?_alloc_new' World.q_setCell_alloc_old World.q_setCell_alloc_new World.q_put_alloc_old World.cell?_force_same World.frozen?_force_same World.cell?_force2_fst World.cell?_force2_snd SyncM.g0 SyncM.s0 SyncM.g1 SyncM.s1 SyncM.g2 SyncM.s2 SyncM.g3 SyncM.s3 SyncM.g4 SyncM.s4 SyncM.g5 SyncM.s5 SyncM.g6 SyncM.s6 SyncM.g7 SyncM.s7 SyncM.g8 SyncM.s8 SyncM.gi_next_0 SyncM.si_next_0 SyncM.gi_mtch_0 SyncM.si_mtch_0 MsgR.g0 MsgR.s0 MsgR.g1 MsgR.s1 MsgR.g2 MsgR.s2 MsgR.g3 MsgR.s3 MsgR.g4 MsgR.s4 MsgR.g5 MsgR.s5 MsgR.g6 MsgR.s6 MsgR.g7 MsgR.s7 MsgR.g8 MsgR.s8 MsgR.g9 MsgR.s9 Entry.g0 Entry.s0 Entry.g1 Entry.s1
attribute [local go_sem] ba_get upd_same upd_upd
set_option maxHeartbeats 4000000
set_option maxRecDepth 100000
section
variable {W w : World} {G : Nat → Prop} {b bl be : Nat} {A : AS}
theorem c202 (h : SMp W G b bl be A) (ok : A.lg.now.Ok) (hn0 : ∀ p, A.next p ≤ maxT + 1) :
    Calls Tryz.prog 202 #[vp b] W fun r w' => ∃ v, r = .returned v ∧ MsgsAt W.heap.size w' v A.sendAll ∧ ModP (fun _ => False) W w' := by
  have HE := hidIt h.he
  have hb := h.hb
  have hS := hidIt (fun w' (m : ModP (fun _ => False) W w') j (j3 : j < 3) => c212 (h.frame m (fun _ _ f => f)) ok j j3 (hn0 j))
  have hc := hb.cell
  have ib := hb.inB
  unfold SyR at hc
  clear h ok hn0 hb
  go_enter Tryz.func202, Tryz.ntmps202
  go_wp2_with (first
    | (go_at_call 114; refine (c114 HE.out).mono ?_; rintro _ w' ⟨rfl, e⟩; obtain rfl := e.symm))
  go_loopw [3, 5] (fun v i u => ∃ j : Nat, j ≤ 3 ∧ i = vi j ∧ Hid (MsgsAt W.heap.size u v (A.sendN j)) ∧ Hid (ModP (fun _ => False) W u)) (fun _ i _ => 3 - (intOf i).toNat)
  case atStart => exact ⟨0, by omega, rfl, MsgsAt.nil _ _, ModP.refl _ _⟩
  case round =>
    obtain ⟨j, hj, rfl, H1, H2⟩ := hrel
    clear hc
    by_cases hj3 : j < 3
    · have hsu := A.sendN_succ j
      by_cases hid : (j : Int) = A.el.id
      · rw [if_pos hid] at hsu
        have Hsu := hidIt hsu
        clear hsu
        go_wp2_with fail
        go_roundw
        case rel => exact ⟨j + 1, by omega, by go_num, by rw [Hsu.out]; exact H1, H2⟩
        case measure => simp [intOf]; omega
      · rw [if_neg hid] at hsu
        have hid' : ((j : Int) == A.el.id) = false := by simpa using hid
        have Hsu := hidIt hsu
        have Hl := hidIt (A.sendN_len j)
        have Hc := hidIt (hS.out _ H2.out j hj3)
        clear hsu hid
        obtain ⟨⟨mk, mf, mt, mtm, mi, ml, mc, mo, me, md⟩, hm⟩ : ∃ x, A.send j = x := ⟨_, rfl⟩
        rw [hm] at Hsu Hc
        clear hm
        unfold Msg.r MsgR.cells at Hc
        simp only [] at Hc
        go_wp2_with (first
          | (go_at_call 212
             refine Hc.out.mono ?_
             rintro _ w1 ⟨ev, rfl, he, m1⟩
             obtain ⟨ad, cap, rfl, -⟩ := ownsRow_form he
             have H1' := hidIt (H1.out.frame m1 (fun _ _ f => f))
             have H2' := hidIt (H2.out.trans m1)
             have H3' := hidIt (ownsRow_low he H2.out.size)
             clear m1 he H1 H2)
          | (at_builtin
             go_loud (
               refine wp_appM (B := W.heap.size) (ms := A.sendN j) (m := ⟨mk, mf, mt, mtm, mi, ml, mc, mo, me, md⟩) (ev := .slice ad me.length cap) rfl _ _ rfl rfl rfl (by repeat (first | assumption | exact World.At_alloc_new | exact at_new (by first | rfl | (simp [World.size_put]; done) | (simp [World.size_put]; omega)) | refine World.At.alloc ?_ _ | refine World.At_drew.2 ?_ | refine (World.At_drewN _).2 ?_ | exact World.At_put_same (by first | assumption | (simp only [World.inB, World.size_put, World.alloc, World.drew, World.drewN, Array.size_push] at *; omega)) | refine (World.At_put_ne' (by first | assumption | (exact Ne.symm (by assumption)) | (simp only [World.inB, World.size_put] at *; omega))).2 ?_)) (H1'.out.frame (F := fun _ => False) (by repeat (first | assumption | exact ModP.refl _ _ | refine ModP.fromPut ?_ (by assumption) | apply ModP.alloc | apply ModP.drew | apply ModP.drewN | refine ModP.put ?_ (by first | (left; assumption) | (left; rfl) | (right; simp only [World.inB, World.size_put] at *; omega)) _ _)) (fun _ _ f => f)) (ownsRow_alloc (ownsRow_alloc H3'.out _) _) (by have := H2'.out.size; simp; omega) (by have := Hl.out; omega) ?_
               intro v2 w2 h5 h6
               have H5 := hidIt h5
               have H6 : Hid (ModP (fun _ => False) W w2) := ModP.step (G := fun k => W.heap.size ≤ k) (ModP.trans H2'.out (by repeat (first | assumption | exact ModP.refl _ _ | refine ModP.fromPut ?_ (by assumption) | apply ModP.alloc | apply ModP.drew | apply ModP.drewN | refine ModP.put ?_ (by first | (left; assumption) | (left; rfl) | (right; simp only [World.inB, World.size_put] at *; omega)) _ _))) h6 (fun k hk => .inr hk)
               clear h5 h6)))
        go_roundw
        case rel => exact ⟨j + 1, by omega, by go_num, by rw [Hsu.out]; exact H5, H6⟩
        case measure => simp [intOf]; omega
    · obtain rfl : j = 3 := by omega
      go_wp2_with fail
      go_ret
      exact ⟨_, rfl, H1.out, H2.out⟩
end
end Go.Proofs.Qxb6500990aGreat
