/- package sync: reply, send -/
import Derived.Test.Qxb6500990aGreatSy6
import Derived.Test.Qxb6500990aGreatStructs4
set_option linter.unusedVariables false
set_option linter.unusedSimpArgs false
namespace Go.Tw
open Go Go.Proofs Go.Proofs.Qxb6500990aGreat
def eB (s : Lg) (i : Int) (k j : Nat) : Entry := if j < k then (s.at_ (i + (j : Int))).1 else zEnt
theorem eB_0 (s : Lg) (i : Int) : eB s i 0 = fun _ => zEnt := by funext j; simp [eB]
theorem eB_set (s : Lg) (i : Int) (k : Nat) : upd (eB s i k) k (s.at_ (i + (k : Int))).1 = eB s i (k + 1) := by
  funext j; unfold upd eB
  by_cases e : j = k
  · subst e; simp
  · simp only [e, if_false]
    by_cases c : j < k
    · rw [if_pos c, if_pos (by omega)]
    · rw [if_neg c, if_neg (by omega)]
end Go.Tw
namespace Go.Proofs.Qxb6500990aGreat
open Go Go.RowKit Go.Tw
theorem inf232 : ∃ i, Tryz.prog.info? 232 = some i ∧ i.zero = some (.agg (Entry.cells ⟨0, []⟩)) ∧ i.size = 2 ∧ i.bytes = 24 :=
  ⟨(Tryz.prog.info? 232).getD default, by kernel_rfl, by kernel_rfl, by kernel_rfl, by kernel_rfl⟩
theorem mk157_1 (w : World) : (Instr.makeSlice 157 (.int .i64 1) (.int .i64 1)).run Tryz.prog w = .ok (.slice (some ⟨w.heap.size, 0, none⟩) 1 1) (w.alloc (.cells (Ent1.cells ⟨fun _ => zEnt⟩) 232)) := by
  obtain ⟨i, hi, hz, hsz, hby⟩ := inf232
  rw [run_make w 157 232 i (.agg (Entry.cells ⟨0, []⟩)) Tryz.underlying157 hi hz .i64 .i64 1 1 (by omega) (by omega) (by rw [hby]; decide) (by decide), hsz, show madeCells (Value.agg (Entry.cells ⟨0, []⟩)).cells ((1 : Int).toNat * 2) = Ent1.cells ⟨fun _ => zEnt⟩ from by kernel_rfl]
  rfl
theorem mk157_2 (w : World) : (Instr.makeSlice 157 (.int .i64 2) (.int .i64 2)).run Tryz.prog w = .ok (.slice (some ⟨w.heap.size, 0, none⟩) 2 2) (w.alloc (.cells (Ent2.cells ⟨fun _ => zEnt⟩) 232)) := by
  obtain ⟨i, hi, hz, hsz, hby⟩ := inf232
  rw [run_make w 157 232 i (.agg (Entry.cells ⟨0, []⟩)) Tryz.underlying157 hi hz .i64 .i64 2 2 (by omega) (by omega) (by rw [hby]; decide) (by decide), hsz, show madeCells (Value.agg (Entry.cells ⟨0, []⟩)).cells ((2 : Int).toNat * 2) = Ent2.cells ⟨fun _ => zEnt⟩ from by kernel_rfl]
  rfl
attribute [local go_sem] World.cell?_put_same World.cell?_put_ne World.cell?_put_ne' World.frozen?_put_same World.frozen?_put_ne World.frozen?_put_ne' World.setCell_put_same World.setCell_put_ne World.setCell_put_ne' World.inB_put World.inB_alloc World.inB_drew World.inB_drewN World.inB_new World.inB_setCell World.put_drew World.put_drewN World.q_setCell_drew World.q_setCell_drewN World.q_alloc_drew World.q_alloc_drewN World.put_put_same World.put_put_2 World.size_put World.q_cell?_alloc_old World.q_frozen?_alloc_old World.cell?_alloc_new' World.frozen?_alloc_new' World.q_setCell_alloc_old World.q_setCell_alloc_new World.q_put_alloc_old World.cell?_force_same World.frozen?_force_same World.cell?_force2_fst World.cell?_force2_snd SyncR.g0 SyncR.s0 SyncR.g1 SyncR.s1 SyncR.g2 SyncR.s2 SyncR.g3 SyncR.s3 SyncR.g4 SyncR.s4 SyncR.g5 SyncR.s5 SyncR.g6 SyncR.s6 SyncR.g7 SyncR.s7 SyncR.g8 SyncR.s8 SyncR.g9 SyncR.s9 SyncR.g10 SyncR.s10 SyncR.g11 SyncR.s11 SyncR.g12 SyncR.s12 SyncR.g13 SyncR.s13 SyncR.g14 SyncR.s14 SyncR.g15 SyncR.s15 SyncR.g16 SyncR.s16 SyncR.g17 SyncR.s17 SyncR.g18 SyncR.s18 SyncR.g19 SyncR.s19 SyncR.g20 SyncR.s20 SyncR.g21 SyncR.s21 SyncR.g22 SyncR.s22 SyncR.g23 SyncR.s23 SyncR.g24 SyncR.s24 SyncR.g25 SyncR.s25 SyncR.g26 SyncR.s26 SyncR.g27 SyncR.s27 SyncR.g28 SyncR.s28 SyncR.g29 SyncR.s29 SyncR.g30 SyncR.s30 SyncR.g31 SyncR.s31 SyncR.g32 SyncR.s32 SyncR.g33 SyncR.s33 SyncR.g34 SyncR.s34 SyncR.g35 SyncR.s35 SyncR.g36 SyncR.s36 SyncR.g37 SyncR.s37 SyncR.g38 SyncR.s38 SyncR.g39 SyncR.s39 SyncR.g40 SyncR.s40 SyncR.g41 SyncR.s41 SyncR.gi_next_0 SyncR.si_next_0 SyncR.gi_mtch_0 SyncR.si_mtch_0 SyncR.gi_box_0 SyncR.si_box_0 SyncR.gi_box_1 SyncR.si_box_1 SyncR.gi_box_2 SyncR.si_box_2 SyncR.gi_box_3 SyncR.si_box_3 SyncR.gi_box_4 SyncR.si_box_4 SyncR.gi_box_5 SyncR.si_box_5 SyncR.gi_box_6 SyncR.si_box_6 SyncR.gi_box_7 SyncR.si_box_7 SyncR.gi_box_8 SyncR.si_box_8 SyncR.gi_box_9 SyncR.si_box_9 MsgR.g0 MsgR.s0 MsgR.g1 MsgR.s1 MsgR.g2 MsgR.s2 MsgR.g3 MsgR.s3 MsgR.g4 MsgR.s4 MsgR.g5 MsgR.s5 MsgR.g6 MsgR.s6 MsgR.g7 MsgR.s7 MsgR.g8 MsgR.s8 MsgR.g9 MsgR.s9 Entry.g0 Entry.s0 Entry.g1 Entry.s1
attribute [local go_sem] ba_get upd_same upd_upd mk157_1 mk157_2 Ent1.ga0 Ent1.sa0 Ent1.ga1 Ent1.sa1 Ent2.ga0 Ent2.sa0 Ent2.ga1 Ent2.sa1
set_option maxHeartbeats 4000000
set_option maxRecDepth 100000
section
variable {W w : World} {G : Nat → Prop} {p : SyP} {A : AS} {la lt : Int} {ms : List Msg}
theorem c244 (h : RB G W p A la lt ms w) (h3 : ms.length < 3) (k q : Int) (o : Bool) (i : Int) : Calls Tryz.prog 244 #[vp p.b, vi k, vi q, .bool o, vi i] w fun r w' => r = .returned (.tuple #[]) ∧ RB G W p A la lt (ms ++ [A.reply k q o i]) w' := by
  have hE := hidIt h.he
  have q188 := hidIt (c188 h (ModP.refl _ _) (x := A.reply k q o i) (v := .slice none 0 0) (ownsRow_nil _ _ _ _) h3)
  obtain ⟨bx, hb⟩ := h.hb
  have hc := hb.cell
  have ib := hb.inB
  unfold RSy at hc
  unfold Msg.r AS.reply at q188
  simp only [MsgR.cells] at q188
  unfold AS.reply
  clear h hb
  go_enter Tryz.func244, Tryz.ntmps244
  go_wp2_with (first
    | (go_at_call 77; refine (c77 hE.out).mono ?_; rintro _ w0 ⟨rfl, e⟩; obtain rfl := e.symm)
    | (go_at_call 78; refine (c78 hE.out).mono ?_; rintro _ w0 ⟨rfl, e⟩; obtain rfl := e.symm)
    | (go_at_call 188; refine q188.out.mono ?_; rintro _ w1 ⟨rfl, m1⟩; have R1 := hidIt m1; clear m1))
  go_end0
  exact ⟨rfl, R1.out⟩
theorem c241_snap (h : RS G W p A ms w) (q : Nat) (q3 : q < 3) (h3 : ms.length < 3) (hsn : A.next q ≤ A.lg.now.base) :
    Calls Tryz.prog 241 #[vp p.b, vi q] w fun r w' => r = .returned (.tuple #[]) ∧ RS G W p A (ms ++ [A.send q]) w' := by
  have hk : A.send q = ⟨5, A.el.id, q, A.el.term, A.lg.now.base, A.lg.now.baseTerm, 0, false, [], A.lg.now.snap⟩ := by unfold AS.send; rw [if_pos hsn]
  rw [hk]
  have hE := hidIt h.he
  obtain ⟨G1, h1⟩ := h.lk
  have hL := hidIt (fun w' (m : ModP (fun _ => False) w w') => h1.frame0 m)
  have q188 := hidIt (fun w' (m : ModP (fun _ => False) w w') => c188 h m (x := ⟨5, A.el.id, q, A.el.term, A.lg.now.base, A.lg.now.baseTerm, 0, false, [], A.lg.now.snap⟩) (v := .slice none 0 0) (ownsRow_nil _ _ _ _) h3)
  obtain ⟨bx, hb⟩ := RB.hb h
  have hc := hb.cell
  have ib := hb.inB
  unfold RSy at hc
  unfold Msg.r at q188
  simp only [MsgR.cells] at q188
  have q3' : (q : Int) < 3 := by omega
  clear h hb h1 hk
  go_enter Tryz.func241, Tryz.ntmps241
  go_wp2_with (first
    | (go_at_call 77; refine (c77 hE.out).mono ?_; rintro _ w0 ⟨rfl, e⟩; obtain rfl := e.symm)
    | (go_at_call 78; refine (c78 hE.out).mono ?_; rintro _ w0 ⟨rfl, e⟩; obtain rfl := e.symm)
    | (go_at_call 69; refine (k69 (hL.out _ (ModP.refl _ _))).mono ?_; rintro _ w0 ⟨rfl, e⟩; obtain rfl := e.symm)
    | (go_at_call 84; refine (k84 (hL.out _ (by repeat (first | assumption | exact ModP.refl _ _ | refine ModP.fromPut ?_ (by assumption) | apply ModP.alloc | apply ModP.drew | apply ModP.drewN | refine ModP.put ?_ (by first | (left; assumption) | (left; rfl) | (right; simp only [World.inB, World.size_put] at *; omega)) _ _)))).mono ?_; rintro _ w0 ⟨rfl, e⟩; obtain rfl := e.symm)
    | (go_at_call 85; refine (k85 (hL.out _ (by repeat (first | assumption | exact ModP.refl _ _ | refine ModP.fromPut ?_ (by assumption) | apply ModP.alloc | apply ModP.drew | apply ModP.drewN | refine ModP.put ?_ (by first | (left; assumption) | (left; rfl) | (right; simp only [World.inB, World.size_put] at *; omega)) _ _)))).mono ?_; rintro _ w0 ⟨rfl, e⟩; obtain rfl := e.symm)
    | (go_at_call 188; refine (q188.out _ (by repeat (first | assumption | exact ModP.refl _ _ | refine ModP.fromPut ?_ (by assumption) | apply ModP.alloc | apply ModP.drew | apply ModP.drewN | refine ModP.put ?_ (by first | (left; assumption) | (left; rfl) | (right; simp only [World.inB, World.size_put] at *; omega)) _ _))).mono ?_; rintro _ w1 ⟨rfl, m1⟩; have R1 := hidIt m1; clear m1))
  refine bodyPost_ret (v := .tuple #[]) (by simp [results, Tryz.results241]) rfl ?_
  exact ⟨rfl, R1.out⟩
end
end Go.Proofs.Qxb6500990aGreat
