/- package nodelaw: a real node and a model node beside each other -/
import Derived.Test.Qxb6500990aGreatNo19
set_option linter.unusedVariables false
set_option linter.unusedSimpArgs false
namespace Go.Tw
open Go Go.Proofs Go.Proofs.Qxb6500990aGreat Go.RowKit
/-- where a model node lies -/
structure MoP where
  b : Nat
  bs : Nat
  bl : Nat
  be : Nat
  bk : Nat
structure Two (W : World) (q : NoP) (p : MoP) (n m : AN) : Prop where
  r : ∃ G R, RNp W G q n R
  mo : ∃ G, NMp W G p.b p.bs p.bl p.be p.bk m
  nk : n.Ok
  ok : m.Ok
theorem Two.fr {W w : World} {q : NoP} {p : MoP} {n m : AN} (h : Two W q p n m) (e : ModP (fun _ => False) W w) : Two w q p n m := by
  obtain ⟨⟨G, R, h1⟩, ⟨G', h2⟩, h3, h4⟩ := h
  exact ⟨⟨G, R, h1.frame e (fun _ _ f => f)⟩, ⟨G', h2.frame e (fun _ _ f => f)⟩, h3, h4⟩
end Go.Tw
namespace Go.Proofs.Qxb6500990aGreat
open Go Go.RowKit Go.Tw
attribute [local go_sem] World.cell?_put_same World.cell?_put_ne World.cell?_put_ne' World.frozen?_put_same World.frozen?_put_ne World.frozen?_put_ne' World.setCell_put_same World.setCell_put_ne World.setCell_put_ne' World.inB_put World.inB_alloc World.inB_drew World.inB_drewN World.inB_new World.inB_setCell World.put_drew World.put_drewN World.q_setCell_drew World.q_setCell_drewN World.q_alloc_drew World.q_alloc_drewN World.put_put_same World.put_put_2 World.size_put World.q_cell?_alloc_old World.q_frozen?_alloc_old World.cell?_alloc_new' World.frozen?_alloc_new' World.q_setCell_alloc_old World.q_setCell_alloc_new World.q_put_alloc_old World.cell?_force_same World.frozen?_force_same World.cell?_force2_fst World.cell?_force2_snd Entry.g0 Entry.s0 Entry.g1 Entry.s1 Ans.g0 Ans.s0 Ans.g1 Ans.s1
attribute [local go_sem] ba_get ba_eq ba_beq upd_same upd_upd
set_option maxHeartbeats 4000000
set_option maxRecDepth 100000
section
variable {W w : World} {q : NoP} {p : MoP} {n m : AN}
theorem c103 (h : Two W q p n m) (i : Int) : Calls Tryz.prog 103 #[vp q.b, vp p.b, vi i] W fun r w' => ∃ b, r = .returned (.bool b) ∧ (b = true ↔ n.sy.lg.now.termAt i = m.sy.lg.now.termAt i) ∧ ModP (fun _ => False) W w' := by
  have h1 := hidIt (by obtain ⟨G, R, hr⟩ := h.r; exact c165 hr i)
  have h2 := hidIt (fun w' (e : ModP (fun _ => False) W w') => by obtain ⟨G, hm⟩ := (h.fr e).mo; exact c166 hm h.ok.sy.lg i)
  clear h
  generalize n.sy.lg.now.termAt i = x at *
  generalize m.sy.lg.now.termAt i = y at *
  obtain ⟨x1, x2⟩ := x
  obtain ⟨y1, y2⟩ := y
  simp only [Prod.mk.injEq] at *
  go_enter Tryz.func103, Tryz.ntmps103
  go_wp2_with (first
    | (go_at_call 165; refine h1.out.mono ?_; rintro _ w1 ⟨rfl, m1⟩; have M1 := hidIt m1; clear m1)
    | (go_at_call 166; refine (h2.out _ M1.out).mono ?_; rintro _ w2 ⟨rfl, m2⟩; have M2 := hidIt (M1.out.trans m2); clear m2))
  all_goals (go_ret; exact ⟨_, rfl, by simp_all, M2.out⟩)
theorem c104 (h : Two W q p n m) (key : Bs) : Calls Tryz.prog 104 #[vp q.b, vp p.b, vs key] W fun r w' => ∃ b, r = .returned (.bool b) ∧ (b = true ↔ n.kv.valOf key = m.kv.valOf key) ∧ ModP (fun _ => False) W w' := by
  have h1 := hidIt (by obtain ⟨G, R, hr⟩ := h.r; exact c167 hr key)
  have h2 := hidIt (fun w' (e : ModP (fun _ => False) W w') => by obtain ⟨G, hm⟩ := (h.fr e).mo; exact c168 hm h.ok.kv key)
  clear h
  generalize n.kv.valOf key = x at *
  generalize m.kv.valOf key = y at *
  obtain ⟨x1, x2⟩ := x
  obtain ⟨y1, y2⟩ := y
  simp only [Prod.mk.injEq] at *
  go_enter Tryz.func104, Tryz.ntmps104
  go_wp2_with (first
    | (go_at_call 167; refine h1.out.mono ?_; rintro _ w1 ⟨rfl, m1⟩; have M1 := hidIt m1; clear m1)
    | (go_at_call 168; refine (h2.out _ M1.out).mono ?_; rintro _ w2 ⟨rfl, e⟩; obtain rfl := e.symm))
  all_goals (go_ret; exact ⟨_, rfl, by simp_all, M1.out⟩)
theorem c106 (h : Two W q p n m) : Calls Tryz.prog 106 #[vp q.b, vp p.b] W fun r w' => ∃ b, r = .returned (.bool b) ∧ (b = true ↔ n.kv.ps.length = m.kv.ps.length) ∧ ModP (fun _ => False) W w' := by
  have h1 := hidIt (by obtain ⟨G, R, hr⟩ := h.r; exact c169 hr)
  have h2 := hidIt (by obtain ⟨G, hm⟩ := h.mo; exact c112 hm)
  clear h
  generalize n.kv.ps.length = x at *
  generalize m.kv.ps.length = y at *
  go_enter Tryz.func106, Tryz.ntmps106
  go_wp2_with (first
    | (go_at_call 169; refine h1.out.mono ?_; rintro _ w1 ⟨rfl, e⟩; obtain rfl := e.symm)
    | (go_at_call 112; refine h2.out.mono ?_; rintro _ w2 ⟨rfl, e⟩; obtain rfl := e.symm))
  all_goals (go_ret; exact ⟨_, rfl, by simp; omega, ModP.refl _ _⟩)
theorem c107 (h : Two W q p n m) (i : Int) : Calls Tryz.prog 107 #[vp q.b, vp p.b, vi i] W fun r w' => ∃ b, r = .returned (.bool b) ∧ (b = true ↔ n.kv.keyAt i = m.kv.keyAt i) ∧ ModP (fun _ => False) W w' := by
  have h1 := hidIt (by obtain ⟨G, R, hr⟩ := h.r; exact c170 hr i)
  have h2 := hidIt (fun w' (e : ModP (fun _ => False) W w') => by obtain ⟨G, hm⟩ := (h.fr e).mo; exact c113 hm h.ok.kv i)
  clear h
  generalize n.kv.keyAt i = x at *
  generalize m.kv.keyAt i = y at *
  go_enter Tryz.func107, Tryz.ntmps107
  go_wp2_with (first
    | (go_at_call 170; refine h1.out.mono ?_; rintro _ w1 ⟨rfl, m1⟩; have M1 := hidIt m1; clear m1)
    | (go_at_call 113; refine (h2.out _ M1.out).mono ?_; rintro _ w2 ⟨rfl, e⟩; obtain rfl := e.symm))
  all_goals (go_ret; exact ⟨_, rfl, by simp_all, M1.out⟩)
theorem c92 (W : World) (x y : Ans) : Calls Tryz.prog 92 #[.agg x.cells, .agg y.cells] W fun r w' => ∃ b, r = .returned (.bool b) ∧ (b = true ↔ x = y) ∧ ModP (fun _ => False) W w' := by
  obtain ⟨x1, x2⟩ := x
  obtain ⟨y1, y2⟩ := y
  simp only [Tw.Ans.cells, Ans.mk.injEq] at *
  go_enter Tryz.func92, Tryz.ntmps92
  go_wp2
  all_goals (go_ret; exact ⟨_, rfl, by simp_all, (by repeat (first | assumption | exact ModP.refl _ _ | refine ModP.fromPut ?_ (by assumption) | apply ModP.alloc | apply ModP.drew | apply ModP.drewN | refine ModP.put ?_ (by first | (left; assumption) | (left; rfl) | (right; simp only [World.inB, World.size_put] at *; omega)) _ _))⟩)
theorem c102 (h : Two W q p n m) (i : Int) : Calls Tryz.prog 102 #[vp q.b, vp p.b, vi i] W fun r w' => ∃ b, r = .returned (.bool b) ∧ (b = true ↔ n.sy.lg.now.at_ i = m.sy.lg.now.at_ i) ∧ ModP (fun _ => False) W w' := by
  have h1 := hidIt (by obtain ⟨G, R, hr⟩ := h.r; exact c163 hr i)
  have h2 := hidIt (fun w' (e : ModP (fun _ => False) W w') => by obtain ⟨G, hm⟩ := (h.fr e).mo; exact c164 hm h.ok.sy.lg i)
  clear h
  generalize n.sy.lg.now.at_ i = x at *
  generalize m.sy.lg.now.at_ i = y at *
  obtain ⟨⟨x1, x2⟩, x3⟩ := x
  obtain ⟨⟨y1, y2⟩, y3⟩ := y
  simp only [Prod.mk.injEq, Entry.mk.injEq, Tw.Entry.cells] at *
  go_enter Tryz.func102, Tryz.ntmps102
  go_wp2_with (first
    | (go_at_call 163; refine h1.out.mono ?_; rintro _ w1 ⟨rfl, m1⟩; have M1 := hidIt m1; clear m1)
    | (go_at_call 164; refine (h2.out _ (M1.out.alloc _)).mono ?_; rintro _ w2 ⟨rfl, m2⟩; have M2 := hidIt ((M1.out.alloc _).trans m2); have hz := m2.at (b := w1.heap.size) World.At_alloc_new (fun f => f); have hcz := hz.cell; have iz := hz.inB; clear m2 hz))
  all_goals (go_ret; exact ⟨_, rfl, by simp_all <;> omega, M2.out.alloc _⟩)
theorem c108 (h : Two W q p n m) (i : Int) : Calls Tryz.prog 108 #[vp q.b, vp p.b, vi i] W fun r w' => ∃ b, r = .returned (.bool b) ∧ (b = true ↔ n.kv.sess i = m.kv.sess i) ∧ ModP (fun _ => False) W w' := by
  have h1 := hidIt (by obtain ⟨G, R, hr⟩ := h.r; exact c171 hr i)
  have h2 := hidIt (fun w' (e : ModP (fun _ => False) W w') => by obtain ⟨G, hm⟩ := (h.fr e).mo; exact c172 hm i)
  clear h
  generalize n.kv.sess i = x at *
  generalize m.kv.sess i = y at *
  obtain ⟨x3, ⟨x1, x2⟩⟩ := x
  obtain ⟨y3, ⟨y1, y2⟩⟩ := y
  simp only [Prod.mk.injEq, Ans.mk.injEq, Tw.Ans.cells] at *
  go_enter Tryz.func108, Tryz.ntmps108
  go_wp2_with (first
    | (go_at_call 171; refine h1.out.mono ?_; rintro _ w1 ⟨rfl, m1⟩; have M1 := hidIt m1; clear m1)
    | (go_at_call 172; refine (h2.out _ (M1.out.alloc _)).mono ?_; rintro _ w2 ⟨rfl, m2⟩; have M2 := hidIt ((M1.out.alloc _).trans m2); have hz := m2.at (b := w1.heap.size) World.At_alloc_new (fun f => f); have hcz := hz.cell; have iz := hz.inB; clear m2 hz))
  all_goals (go_ret; exact ⟨_, rfl, by simp_all <;> omega, M2.out.alloc _⟩)
end
end Go.Proofs.Qxb6500990aGreat
