/- package kv: run -/
import Derived.Test.Qxb6500990aGreatKv15
import Derived.Test.Qxb6500990aGreatKt4
set_option linter.unusedVariables false
set_option linter.unusedSimpArgs false
namespace Go.Tw
open Go Go.Proofs Go.Proofs.Qxb6500990aGreat
theorem Tab.key_inj {f : Nat → Cell} {ps : List (Bs × Bs)} (h : Tab f ps) {n m : Nat} (n8 : n < 8) (m8 : m < 8) (hn : (f n).state = 1) (hm : (f m).state = 1) (e : keyS (f n) = keyS (f m)) : n = m := by
  have key : ∀ a b, a < b → b < 8 → (f a).state = 1 → (f b).state = 1 → keyS (f a) ≠ keyS (f b) := by
    intro a b hab hb ha hb1
    have h1 := h.keysne.sublist (idxs_sub (f := f) (show b + 1 ≤ 8 by omega))
    rw [idxs_live hb1, List.pairwise_append] at h1
    exact h1.2.2 a (mem_idxs.2 ⟨hab, ha⟩) b (by simp)
  rcases Nat.lt_trichotomy n m with h1 | h1 | h1
  · exact absurd e (key n m h1 m8 hn hm)
  · exact h1
  · exact absurd e.symm (key m n h1 n8 hm hn)
theorem Tab.here {f : Nat → Cell} {ps : List (Bs × Bs)} (h : Tab f ps) (key : Bs) : (∀ p ∈ ps, p.1 ≠ key) ∨ ∃ n, n < 8 ∧ (f n).state = 1 ∧ keyS (f n) = key := by
  by_cases hk : ∃ p ∈ ps, p.1 = key
  · obtain ⟨p, hp, rfl⟩ := hk
    obtain ⟨i, h1, h2, h3, -⟩ := h.at hp
    exact .inr ⟨i, h1, h2, h3⟩
  · exact .inl fun p hp e => hk ⟨p, hp, e⟩
end Go.Tw
namespace Go.Proofs.Qxb6500990aGreat
open Go Go.RowKit Go.Tw
attribute [local go_sem] World.cell?_put_same World.cell?_put_ne World.cell?_put_ne' World.frozen?_put_same World.frozen?_put_ne World.frozen?_put_ne' World.setCell_put_same World.setCell_put_ne World.setCell_put_ne' World.inB_put World.inB_alloc World.inB_drew World.inB_drewN World.inB_new World.inB_setCell World.put_drew World.put_drewN World.q_setCell_drew World.q_setCell_drewN World.q_alloc_drew World.q_alloc_drewN World.put_put_same World.put_put_2 World.size_put World.q_cell?_alloc_old World.q_frozen?_alloc_old World.cell?_alloc_new' World.frozen?_alloc_new' World.q_setCell_alloc_old World.q_setCell_alloc_new World.q_put_alloc_old World.cell?_force_same World.frozen?_force_same World.cell?_force2_fst World.cell?_force2_snd KvX.g0 KvX.g1 KvX.g2 KvX.g3 KvX.g4 KvX.g5 KvX.g6 KvX.g7 KvX.g8 KvX.g9 KvX.g10 KvX.g11 KvX.g12 KvX.g13 KvX.g14 KvX.g15 KvX.g16 KvX.g17 KvX.g18 KvX.g19 KvX.g20 KvX.g21 KvX.g22 KvX.g23 KvX.g24 KvX.g25 KvX.g26 KvX.g27 KvX.g28 KvX.g29 KvX.g30 KvX.g31 KvX.g32 KvX.g33 KvX.g34 KvX.g35 KvX.g36 KvX.g37 KvX.g38 KvX.g39 KvX.g40 KvX.g41 KvX.g42 KvX.g43 KvX.g44 KvX.g45 KvX.g46 KvX.g47 KvX.g48 KvX.g49 KvX.g50 KvX.g51 KvX.g52 KvX.g53 KvX.g54 KvX.g55 KvX.g56 KvX.g57 KvX.g58 KvX.g59 KvX.g60 KvX.g61 KvX.g62 KvX.g63 KvX.g64 KvX.g65 KvX.g66 KvX.g67 KvX.g68 KvX.g69 KvX.g70 KvX.g71 KvX.g72 KvX.g73 KvX.g74 KvX.g75 KvX.g76 KvX.g77 KvX.g78 KvX.g79 KvX.g80 KvX.g81 KvX.g82 KvX.g83 KvX.gi_cells__0 KvX.gi_cells__1 KvX.gi_cells__2 KvX.gi_cells__3 KvX.gi_cells__4 KvX.gi_cells__5 KvX.gi_cells__6 KvX.gi_cells__7 KvX.gi_ss_0 KvX.gi_ss_1 KvX.gi_ss_2 KvX.gi_ss_3 KvX.gi_ss_4 KvX.gi_ss_5 KvX.gia_cells__1 KvX.gia_cells__2 KvX.gia_cells__3 KvX.gia_cells__4 KvX.gia_cells__5 KvX.gia_cells__6 KvX.gia_cells__7 KvX.gia_ss_1 KvX.gia_ss_2 KvX.gia_ss_3 KvX.gia_ss_4 KvX.gia_ss_5 KvX.pa_cells_ KvX.pa_ss KvX.s64 KvX.s65 Cell.g0 Cell.s0 Cell.g1 Cell.s1 Cell.g2 Cell.s2 Cell.g3 Cell.s3 Cell.g4 Cell.s4 Cell.g5 Cell.s5 Cell.g6 Cell.s6 Cell.g7 Cell.s7 Cell.gi_key_0 Cell.si_key_0 Cell.gi_val_0 Cell.si_val_0 Cmd.g0 Cmd.s0 Cmd.g1 Cmd.s1 Cmd.g2 Cmd.s2 Cmd.g3 Cmd.s3 Cmd.g4 Cmd.s4 Cmd.g5 Cmd.s5 Ans.g0 Ans.s0 Ans.g1 Ans.s1
attribute [local go_sem] ba_get ba_eq ba_beq KvX.pz KvX.pt
set_option maxHeartbeats 4000000
set_option maxRecDepth 100000
section
variable {W : World} {b : Nat} {K : KvX} {A : AK}
theorem c271_no (h : W.At b K.cells 175) {ps : List (Bs × Bs)} (T : Tab K.cells_ ps) {key : Bs} (hl : key.length ≤ 1000) (ha : ∀ p ∈ ps, p.1 ≠ key) : Calls Tryz.prog 271 #[vp b, vs key] W fun r w' => r = .returned (vi (-1)) ∧ ModP (fun _ => False) W w' := by
  refine (c271 h T key hl).mono ?_
  rintro _ w' ⟨i, rfl, m, h1 | ⟨n, n8, rfl, h2, h3⟩⟩
  · exact ⟨by rw [h1.1], m⟩
  · exact absurd h3 (ha _ (T.mem n8 h2))
theorem c271_yes (h : W.At b K.cells 175) {ps : List (Bs × Bs)} (T : Tab K.cells_ ps) {key : Bs} (hl : key.length ≤ 1000) {n : Nat} (n8 : n < 8) (hs : (K.cells_ n).state = 1) (hk : keyS (K.cells_ n) = key) : Calls Tryz.prog 271 #[vp b, vs key] W fun r w' => r = .returned (vi (n : Int)) ∧ ModP (fun _ => False) W w' := by
  refine (c271 h T key hl).mono ?_
  rintro _ w' ⟨i, rfl, m, h1 | ⟨n', n8', rfl, h2, h3⟩⟩
  · exact absurd hk (h1.2 _ (T.mem n8 hs))
  · rw [T.key_inj n8 n8' hs h2 (hk.trans h3.symm)]
    exact ⟨rfl, m⟩
theorem c264_put_no (h : W.At b K.cells 175) (R : KvRel K A) (c : Cmd) (k2 : c.key.length ≤ 2) (ho : c.op = 1) (hf : A.find c.key = none) (hl : 4 ≤ A.ps.length) : Calls Tryz.prog 264 #[vp b, .agg c.cells] W fun r w' => r = .returned (.agg (Ans.cells ⟨6, []⟩)) ∧ w'.At b K.cells 175 ∧ ModP (fun x => x = b) W w' := by
  obtain ⟨op, cl, seq, key, val, old⟩ := c
  simp only [] at *
  have hb : b < W.heap.size := h.inB
  have n1 : b ≠ W.heap.size := by omega
  have n2 : b ≠ W.heap.size + 1 := by omega
  have n3 : W.heap.size ≠ W.heap.size + 1 := by omega
  have H := hidIt h
  have Hb := hidIt hb
  subst ho
  have q1 := hidIt (fun (u : World) (hu : u.At b K.cells 175) => c271_no hu R.t.tab (key := key) (by omega) (AK.find_none hf))
  have q2 := hidIt (fun (u : World) (hu : u.At b K.cells 175) => c284_full hu (by have := R.t.lv; omega) ⟨1, cl, seq, key, val, old⟩)
  simp only [Cmd.cells, Ans.cells] at q2
  clear h R
  go_enter Tryz.func264, Tryz.ntmps264
  go_wp2_with fail
  refine Ord.region1 [] [0, 1, 2, 3, 4] [5, 6] (by kernel_rfl) (by kernel_rfl) (fun _ _ d _ _ h => by cases d <;> exact h) ?_
  simp only [Ord.pickO, Ord.nth]
  refine wpQuiet_nil ?_
  repeat (go_big_quiet_step (fail))
  refine wpQuiet_nil ?_
  go_wp2_with (first
    | (go_at_call 271; refine (q1.out _ (World.At_drew.2 (World.At.alloc (World.At.alloc H.out _) _))).mono ?_; rintro _ w1 ⟨rfl, m1⟩; obtain ⟨y, rfl, i1, i2, i3, my⟩ := m1.undrew.two H.out; have MY := hidIt my; clear m1 my H)
    | (go_at_call 284; refine (q2.out _ (by repeat (first | assumption | (with_reducible refine World.At_drew.2 ?_) | (with_reducible refine (World.At_drewN _).2 ?_) | (with_reducible exact World.At_put_same (by first | assumption | (simp only [World.inB, World.size_put, World.alloc, World.drew, World.drewN, Array.size_push] at *; omega))) | (with_reducible refine (World.At_put_ne' (by first | assumption | (exact Ne.symm (by assumption)) | (simp only [World.inB, World.size_put] at *; omega))).2 ?_) | (with_reducible exact World.At_alloc_new) | (with_reducible exact at_new (by first | rfl | (simp [World.size_put]; done) | (simp [World.size_put]; omega))) | (with_reducible refine World.At.alloc ?_ _)))).mono ?_; rintro _ w1 ⟨rfl, m1⟩; obtain ⟨y2, rfl, j1, j2, j3, my2⟩ := m1.put3 (F := fun x => x = b) i1 i2 i3 n1 n2 n3 (MY.out.mono (fun _ f => f.elim)) (.inl rfl) (.inr (Nat.le_refl _)) (.inr (Nat.le_succ _)); have MY2 := hidIt my2; clear m1 my2))
  refine bodyPost_ret (v := .agg (Ans.cells ⟨6, []⟩)) ?_ rfl ?_
  · simp [results, Tryz.results264, go_sem, j1, j2, j3, n1, n2, n3]
    rfl
  · have := MY2.out
    exact ⟨rfl, (by repeat (first | assumption | (with_reducible refine World.At_drew.2 ?_) | (with_reducible refine (World.At_drewN _).2 ?_) | (with_reducible exact World.At_put_same (by first | assumption | (simp only [World.inB, World.size_put, World.alloc, World.drew, World.drewN, Array.size_push] at *; omega))) | (with_reducible refine (World.At_put_ne' (by first | assumption | (exact Ne.symm (by assumption)) | (simp only [World.inB, World.size_put] at *; omega))).2 ?_) | (with_reducible exact World.At_alloc_new) | (with_reducible exact at_new (by first | rfl | (simp [World.size_put]; done) | (simp [World.size_put]; omega))) | (with_reducible refine World.At.alloc ?_ _))), (by repeat (first | assumption | exact ModP.refl _ _ | refine ModP.fromPut ?_ (by assumption) | apply ModP.alloc | apply ModP.drew | apply ModP.drewN | refine ModP.put ?_ (by first | (left; assumption) | (left; rfl) | (right; simp only [World.inB, World.size_put] at *; omega)) _ _))⟩
theorem c264_put_set (h : W.At b K.cells 175) (R : KvRel K A) (c : Cmd) (k2 : c.key.length ≤ 2) (v3 : c.val.length ≤ 3) (ho : c.op = 1) {n : Nat} (n8 : n < 8) (hs : (K.cells_ n).state = 1) (hk : keyS (K.cells_ n) = c.key) : Calls Tryz.prog 264 #[vp b, .agg c.cells] W fun r w' => r = .returned (.agg (Ans.cells ⟨0, []⟩)) ∧ w'.At b (KvX.cells { K with cells_ := upd K.cells_ n (mkCellS c.key c.val) }) 175 ∧ ModP (fun x => x = b) W w' := by
  obtain ⟨op, cl, seq, key, val, old⟩ := c
  simp only [] at *
  have hb : b < W.heap.size := h.inB
  have n1 : b ≠ W.heap.size := by omega
  have n2 : b ≠ W.heap.size + 1 := by omega
  have n3 : W.heap.size ≠ W.heap.size + 1 := by omega
  have H := hidIt h
  have Hb := hidIt hb
  subst ho
  have q1 := hidIt (fun (u : World) (hu : u.At b K.cells 175) => c271_yes hu R.t.tab (key := key) (by omega) n8 hs hk)
  have q2 := hidIt (fun (u : World) (hu : u.At b K.cells 175) => c284_set hu n n8 ⟨1, cl, seq, key, val, old⟩ k2 v3)
  simp only [Cmd.cells, Ans.cells] at q2
  clear h R hs hk
  go_enter Tryz.func264, Tryz.ntmps264
  go_wp2_with fail
  refine Ord.region1 [] [0, 1, 2, 3, 4] [5, 6] (by kernel_rfl) (by kernel_rfl) (fun _ _ d _ _ h => by cases d <;> exact h) ?_
  simp only [Ord.pickO, Ord.nth]
  refine wpQuiet_nil ?_
  repeat (go_big_quiet_step (fail))
  refine wpQuiet_nil ?_
  go_wp2_with (first
    | (go_at_call 271; refine (q1.out _ (World.At_drew.2 (World.At.alloc (World.At.alloc H.out _) _))).mono ?_; rintro _ w1 ⟨rfl, m1⟩; obtain ⟨y, rfl, i1, i2, i3, my⟩ := m1.undrew.two H.out; have MY := hidIt my; clear m1 my H)
    | (go_at_call 284; refine (q2.out _ (by repeat (first | assumption | (with_reducible refine World.At_drew.2 ?_) | (with_reducible refine (World.At_drewN _).2 ?_) | (with_reducible exact World.At_put_same (by first | assumption | (simp only [World.inB, World.size_put, World.alloc, World.drew, World.drewN, Array.size_push] at *; omega))) | (with_reducible refine (World.At_put_ne' (by first | assumption | (exact Ne.symm (by assumption)) | (simp only [World.inB, World.size_put] at *; omega))).2 ?_) | (with_reducible exact World.At_alloc_new) | (with_reducible exact at_new (by first | rfl | (simp [World.size_put]; done) | (simp [World.size_put]; omega))) | (with_reducible refine World.At.alloc ?_ _)))).mono ?_; rintro _ w1 ⟨rfl, a1, m1⟩; obtain ⟨y2, rfl, j1, j2, j3, my2⟩ := m1.chg3 (F := fun x => x = b) a1 i2 i3 n1 n2 n3 (MY.out.mono (fun _ f => f.elim)) (.inl rfl) (.inr (Nat.le_refl _)) (.inr (Nat.le_succ _)); have MY2 := hidIt my2; clear m1 my2 a1))
  refine bodyPost_ret (v := .agg (Ans.cells ⟨0, []⟩)) ?_ rfl ?_
  · simp [results, Tryz.results264, go_sem, j1, j2, j3, n1, n2, n3]
    rfl
  · have := MY2.out
    exact ⟨rfl, (by repeat (first | assumption | (with_reducible refine World.At_drew.2 ?_) | (with_reducible refine (World.At_drewN _).2 ?_) | (with_reducible exact World.At_put_same (by first | assumption | (simp only [World.inB, World.size_put, World.alloc, World.drew, World.drewN, Array.size_push] at *; omega))) | (with_reducible refine (World.At_put_ne' (by first | assumption | (exact Ne.symm (by assumption)) | (simp only [World.inB, World.size_put] at *; omega))).2 ?_) | (with_reducible exact World.At_alloc_new) | (with_reducible exact at_new (by first | rfl | (simp [World.size_put]; done) | (simp [World.size_put]; omega))) | (with_reducible refine World.At.alloc ?_ _))), (by repeat (first | assumption | exact ModP.refl _ _ | refine ModP.fromPut ?_ (by assumption) | apply ModP.alloc | apply ModP.drew | apply ModP.drewN | refine ModP.put ?_ (by first | (left; assumption) | (left; rfl) | (right; simp only [World.inB, World.size_put] at *; omega)) _ _))⟩
theorem c264_put_add (h : W.At b K.cells 175) (R : KvRel K A) (c : Cmd) (k1 : 1 ≤ c.key.length) (k2 : c.key.length ≤ 2) (v3 : c.val.length ≤ 3) (ho : c.op = 1) (hf : A.find c.key = none) (hl : A.ps.length < 4) : Calls Tryz.prog 264 #[vp b, .agg c.cells] W fun r w' => r = .returned (.agg (Ans.cells ⟨0, []⟩)) ∧ (∃ K', w'.At b K'.cells 175 ∧ KvRel K' (A.ins c.key c.val)) ∧ ModP (fun x => x = b) W w' := by
  obtain ⟨op, cl, seq, key, val, old⟩ := c
  simp only [] at *
  have hb : b < W.heap.size := h.inB
  have n1 : b ≠ W.heap.size := by omega
  have n2 : b ≠ W.heap.size + 1 := by omega
  have n3 : W.heap.size ≠ W.heap.size + 1 := by omega
  have H := hidIt h
  have Hb := hidIt hb
  subst ho
  have q1 := hidIt (fun (u : World) (hu : u.At b K.cells 175) => c271_no hu R.t.tab (key := key) (by omega) (AK.find_none hf))
  have q2 := hidIt (fun (u : World) (hu : u.At b K.cells 175) => c284_add hu R hl ⟨1, cl, seq, key, val, old⟩ hf k1 k2 v3)
  simp only [Cmd.cells, Ans.cells] at q2
  clear h R
  go_enter Tryz.func264, Tryz.ntmps264
  go_wp2_with fail
  refine Ord.region1 [] [0, 1, 2, 3, 4] [5, 6] (by kernel_rfl) (by kernel_rfl) (fun _ _ d _ _ h => by cases d <;> exact h) ?_
  simp only [Ord.pickO, Ord.nth]
  refine wpQuiet_nil ?_
  repeat (go_big_quiet_step (fail))
  refine wpQuiet_nil ?_
  go_wp2_with (first
    | (go_at_call 271; refine (q1.out _ (World.At_drew.2 (World.At.alloc (World.At.alloc H.out _) _))).mono ?_; rintro _ w1 ⟨rfl, m1⟩; obtain ⟨y, rfl, i1, i2, i3, my⟩ := m1.undrew.two H.out; have MY := hidIt my; clear m1 my H)
    | (go_at_call 284; refine (q2.out _ (by repeat (first | assumption | (with_reducible refine World.At_drew.2 ?_) | (with_reducible refine (World.At_drewN _).2 ?_) | (with_reducible exact World.At_put_same (by first | assumption | (simp only [World.inB, World.size_put, World.alloc, World.drew, World.drewN, Array.size_push] at *; omega))) | (with_reducible refine (World.At_put_ne' (by first | assumption | (exact Ne.symm (by assumption)) | (simp only [World.inB, World.size_put] at *; omega))).2 ?_) | (with_reducible exact World.At_alloc_new) | (with_reducible exact at_new (by first | rfl | (simp [World.size_put]; done) | (simp [World.size_put]; omega))) | (with_reducible refine World.At.alloc ?_ _)))).mono ?_; rintro _ w1 ⟨rfl, ⟨K', a1, r1⟩, m1⟩; have R1 := hidIt r1; obtain ⟨y2, rfl, j1, j2, j3, my2⟩ := m1.chg3 (F := fun x => x = b) a1 i2 i3 n1 n2 n3 (MY.out.mono (fun _ f => f.elim)) (.inl rfl) (.inr (Nat.le_refl _)) (.inr (Nat.le_succ _)); have MY2 := hidIt my2; clear m1 my2 a1 r1))
  refine bodyPost_ret (v := .agg (Ans.cells ⟨0, []⟩)) ?_ rfl ?_
  · simp [results, Tryz.results264, go_sem, j1, j2, j3, n1, n2, n3]
    rfl
  · have := MY2.out
    exact ⟨rfl, ⟨K', (by repeat (first | assumption | (with_reducible refine World.At_drew.2 ?_) | (with_reducible refine (World.At_drewN _).2 ?_) | (with_reducible exact World.At_put_same (by first | assumption | (simp only [World.inB, World.size_put, World.alloc, World.drew, World.drewN, Array.size_push] at *; omega))) | (with_reducible refine (World.At_put_ne' (by first | assumption | (exact Ne.symm (by assumption)) | (simp only [World.inB, World.size_put] at *; omega))).2 ?_) | (with_reducible exact World.At_alloc_new) | (with_reducible exact at_new (by first | rfl | (simp [World.size_put]; done) | (simp [World.size_put]; omega))) | (with_reducible refine World.At.alloc ?_ _))), R1.out⟩, (by repeat (first | assumption | exact ModP.refl _ _ | refine ModP.fromPut ?_ (by assumption) | apply ModP.alloc | apply ModP.drew | apply ModP.drewN | refine ModP.put ?_ (by first | (left; assumption) | (left; rfl) | (right; simp only [World.inB, World.size_put] at *; omega)) _ _))⟩
theorem c264_none (h : W.At b K.cells 175) (R : KvRel K A) (c : Cmd) (k2 : c.key.length ≤ 2) (ho : c.op ≠ 1) (hf : A.find c.key = none) : Calls Tryz.prog 264 #[vp b, .agg c.cells] W fun r w' => r = .returned (.agg (Ans.cells ⟨2, []⟩)) ∧ w'.At b K.cells 175 ∧ ModP (fun x => x = b) W w' := by
  obtain ⟨op, cl, seq, key, val, old⟩ := c
  simp only [] at *
  have hb : b < W.heap.size := h.inB
  have n1 : b ≠ W.heap.size := by omega
  have n2 : b ≠ W.heap.size + 1 := by omega
  have n3 : W.heap.size ≠ W.heap.size + 1 := by omega
  have H := hidIt h
  have Hb := hidIt hb
  have d1 : (op == 1) = false := by simpa using ho
  have q1 := hidIt (fun (u : World) (hu : u.At b K.cells 175) => c271_no hu R.t.tab (key := key) (by omega) (AK.find_none hf))
  clear h R ho
  go_enter Tryz.func264, Tryz.ntmps264
  go_wp2_with fail
  refine Ord.region1 [] [0, 1, 2, 3, 4] [5, 6] (by kernel_rfl) (by kernel_rfl) (fun _ _ d _ _ h => by cases d <;> exact h) ?_
  simp only [Ord.pickO, Ord.nth]
  refine wpQuiet_nil ?_
  repeat (go_big_quiet_step (fail))
  refine wpQuiet_nil ?_
  go_wp2_with (first
    | (go_at_call 271; refine (q1.out _ (World.At_drew.2 (World.At.alloc (World.At.alloc H.out _) _))).mono ?_; rintro _ w1 ⟨rfl, m1⟩; obtain ⟨y, rfl, i1, i2, i3, my⟩ := m1.undrew.two H.out; have MY := hidIt my; clear m1 my H))
  refine bodyPost_ret (v := .agg (Ans.cells ⟨2, []⟩)) ?_ rfl ?_
  · simp [results, Tryz.results264, go_sem, i1, i2, i3, n1, n2, n3]
    rfl
  · have := MY.out.mono (G := fun x => x = b) (fun _ f => f.elim)
    exact ⟨rfl, (by repeat (first | assumption | (with_reducible refine World.At_drew.2 ?_) | (with_reducible refine (World.At_drewN _).2 ?_) | (with_reducible exact World.At_put_same (by first | assumption | (simp only [World.inB, World.size_put, World.alloc, World.drew, World.drewN, Array.size_push] at *; omega))) | (with_reducible refine (World.At_put_ne' (by first | assumption | (exact Ne.symm (by assumption)) | (simp only [World.inB, World.size_put] at *; omega))).2 ?_) | (with_reducible exact World.At_alloc_new) | (with_reducible exact at_new (by first | rfl | (simp [World.size_put]; done) | (simp [World.size_put]; omega))) | (with_reducible refine World.At.alloc ?_ _))), (by repeat (first | assumption | exact ModP.refl _ _ | refine ModP.fromPut ?_ (by assumption) | apply ModP.alloc | apply ModP.drew | apply ModP.drewN | refine ModP.put ?_ (by first | (left; assumption) | (left; rfl) | (right; simp only [World.inB, World.size_put] at *; omega)) _ _))⟩
theorem c264_get (h : W.At b K.cells 175) (R : KvRel K A) (c : Cmd) (k2 : c.key.length ≤ 2) (ho : c.op ≠ 1) (ho2 : c.op = 2) {n : Nat} (n8 : n < 8) (hs : (K.cells_ n).state = 1) (hk : keyS (K.cells_ n) = c.key) : Calls Tryz.prog 264 #[vp b, .agg c.cells] W fun r w' => r = .returned (.agg (Ans.cells ⟨0, valS (K.cells_ n)⟩)) ∧ w'.At b K.cells 175 ∧ ModP (fun x => x = b) W w' := by
  obtain ⟨op, cl, seq, key, val, old⟩ := c
  simp only [] at *
  have hb : b < W.heap.size := h.inB
  have n1 : b ≠ W.heap.size := by omega
  have n2 : b ≠ W.heap.size + 1 := by omega
  have n3 : W.heap.size ≠ W.heap.size + 1 := by omega
  have H := hidIt h
  have Hb := hidIt hb
  have d1 : (op == 1) = false := by simpa using ho
  have q1 := hidIt (fun (u : World) (hu : u.At b K.cells 175) => c271_yes hu R.t.tab (key := key) (by omega) n8 hs hk)
  have kl := R.t.tab.kl n n8 hs
  have q3 := hidIt (fun (u : World) => c261 u (K.cells_ n) (by omega) (by omega))
  simp only [Cell.cells] at q3
  have n9 : (n : Int) < 8 := by omega
  subst ho2
  generalize valS (K.cells_ n) = vv at *
  clear h R ho hs hk kl
  go_enter Tryz.func264, Tryz.ntmps264
  go_wp2_with fail
  refine Ord.region1 [] [0, 1, 2, 3, 4] [5, 6] (by kernel_rfl) (by kernel_rfl) (fun _ _ d _ _ h => by cases d <;> exact h) ?_
  simp only [Ord.pickO, Ord.nth]
  refine wpQuiet_nil ?_
  repeat (go_big_quiet_step (fail))
  refine wpQuiet_nil ?_
  go_wp2_with (first
    | (go_at_call 271; refine (q1.out _ (World.At_drew.2 (World.At.alloc (World.At.alloc H.out _) _))).mono ?_; rintro _ w1 ⟨rfl, m1⟩; obtain ⟨y, rfl, i1, i2, i3, my⟩ := m1.undrew.two H.out; have MY := hidIt my; clear m1 my H)
    | (go_at_call 261; refine (q3.out _).mono ?_; rintro _ w1 ⟨rfl, m1⟩; obtain ⟨y2, rfl, j1, j2, j3, my2⟩ := m1.put3 (F := fun x => x = b) i1 i2 i3 n1 n2 n3 (MY.out.mono (fun _ f => f.elim)) (.inl rfl) (.inr (Nat.le_refl _)) (.inr (Nat.le_succ _)); have MY2 := hidIt my2; clear m1 my2))
  refine bodyPost_ret (v := .agg (Ans.cells ⟨0, vv⟩)) ?_ rfl ?_
  · simp [results, Tryz.results264, go_sem, j1, j2, j3, n1, n2, n3]
    rfl
  · have := MY2.out
    exact ⟨rfl, (by repeat (first | assumption | (with_reducible refine World.At_drew.2 ?_) | (with_reducible refine (World.At_drewN _).2 ?_) | (with_reducible exact World.At_put_same (by first | assumption | (simp only [World.inB, World.size_put, World.alloc, World.drew, World.drewN, Array.size_push] at *; omega))) | (with_reducible refine (World.At_put_ne' (by first | assumption | (exact Ne.symm (by assumption)) | (simp only [World.inB, World.size_put] at *; omega))).2 ?_) | (with_reducible exact World.At_alloc_new) | (with_reducible exact at_new (by first | rfl | (simp [World.size_put]; done) | (simp [World.size_put]; omega))) | (with_reducible refine World.At.alloc ?_ _))), (by repeat (first | assumption | exact ModP.refl _ _ | refine ModP.fromPut ?_ (by assumption) | apply ModP.alloc | apply ModP.drew | apply ModP.drewN | refine ModP.put ?_ (by first | (left; assumption) | (left; rfl) | (right; simp only [World.inB, World.size_put] at *; omega)) _ _))⟩
theorem c264_del (h : W.At b K.cells 175) (R : KvRel K A) (c : Cmd) (k2 : c.key.length ≤ 2) (ho : c.op ≠ 1) (ho3 : c.op = 3) {n : Nat} (n8 : n < 8) (hs : (K.cells_ n).state = 1) (hk : keyS (K.cells_ n) = c.key) : Calls Tryz.prog 264 #[vp b, .agg c.cells] W fun r w' => r = .returned (.agg (Ans.cells ⟨0, valS (K.cells_ n)⟩)) ∧ w'.At b (KvX.cells { K with cells_ := upd K.cells_ n tCell, live := K.live - 1, tombs := K.tombs + 1 }) 175 ∧ ModP (fun x => x = b) W w' := by
  obtain ⟨op, cl, seq, key, val, old⟩ := c
  simp only [] at *
  have hb : b < W.heap.size := h.inB
  have n1 : b ≠ W.heap.size := by omega
  have n2 : b ≠ W.heap.size + 1 := by omega
  have n3 : W.heap.size ≠ W.heap.size + 1 := by omega
  have H := hidIt h
  have Hb := hidIt hb
  have d1 : (op == 1) = false := by simpa using ho
  have q1 := hidIt (fun (u : World) (hu : u.At b K.cells 175) => c271_yes hu R.t.tab (key := key) (by omega) n8 hs hk)
  have kl := R.t.tab.kl n n8 hs
  have q3 := hidIt (fun (u : World) => c261 u (K.cells_ n) (by omega) (by omega))
  simp only [Cell.cells] at q3
  have n9 : (n : Int) < 8 := by omega
  subst ho3
  have lv := R.t.lv
  have n4 := R.t.n4
  have bd := R.t.bd
  have tb := R.t.tb
  have q4 := hidIt (fun (u : World) (hu : u.At b K.cells 175) => c285 hu n n8 (by omega) (by omega) (by omega) (by omega))
  generalize valS (K.cells_ n) = vv at *
  clear h R ho hs hk kl lv n4 bd tb
  go_enter Tryz.func264, Tryz.ntmps264
  go_wp2_with fail
  refine Ord.region1 [] [0, 1, 2, 3, 4] [5, 6] (by kernel_rfl) (by kernel_rfl) (fun _ _ d _ _ h => by cases d <;> exact h) ?_
  simp only [Ord.pickO, Ord.nth]
  refine wpQuiet_nil ?_
  repeat (go_big_quiet_step (fail))
  refine wpQuiet_nil ?_
  go_wp2_with (first
    | (go_at_call 271; refine (q1.out _ (World.At_drew.2 (World.At.alloc (World.At.alloc H.out _) _))).mono ?_; rintro _ w1 ⟨rfl, m1⟩; obtain ⟨y, rfl, i1, i2, i3, my⟩ := m1.undrew.two H.out; have MY := hidIt my; clear m1 my H)
    | (go_at_call 261; refine (q3.out _).mono ?_; rintro _ w1 ⟨rfl, m1⟩; obtain ⟨y2, rfl, j1, j2, j3, my2⟩ := m1.put3 (F := fun x => x = b) i1 i2 i3 n1 n2 n3 (MY.out.mono (fun _ f => f.elim)) (.inl rfl) (.inr (Nat.le_refl _)) (.inr (Nat.le_succ _)); have MY2 := hidIt my2; clear m1 my2)
    | (go_at_call 285; refine (q4.out _ (by repeat (first | assumption | (with_reducible refine World.At_drew.2 ?_) | (with_reducible refine (World.At_drewN _).2 ?_) | (with_reducible exact World.At_put_same (by first | assumption | (simp only [World.inB, World.size_put, World.alloc, World.drew, World.drewN, Array.size_push] at *; omega))) | (with_reducible refine (World.At_put_ne' (by first | assumption | (exact Ne.symm (by assumption)) | (simp only [World.inB, World.size_put] at *; omega))).2 ?_) | (with_reducible exact World.At_alloc_new) | (with_reducible exact at_new (by first | rfl | (simp [World.size_put]; done) | (simp [World.size_put]; omega))) | (with_reducible refine World.At.alloc ?_ _)))).mono ?_; rintro _ w1 ⟨rfl, a1, m1⟩; obtain ⟨y3, rfl, l1, l2, l3, my3⟩ := m1.chg3 (F := fun x => x = b) a1 j2 j3 n1 n2 n3 MY2.out (.inl rfl) (.inr (Nat.le_refl _)) (.inr (Nat.le_succ _)); have MY3 := hidIt my3; clear m1 my3 a1))
  refine bodyPost_ret (v := .agg (Ans.cells ⟨0, vv⟩)) ?_ rfl ?_
  · simp [results, Tryz.results264, go_sem, l1, l2, l3, n1, n2, n3]
    rfl
  · have := MY3.out
    exact ⟨rfl, (by repeat (first | assumption | (with_reducible refine World.At_drew.2 ?_) | (with_reducible refine (World.At_drewN _).2 ?_) | (with_reducible exact World.At_put_same (by first | assumption | (simp only [World.inB, World.size_put, World.alloc, World.drew, World.drewN, Array.size_push] at *; omega))) | (with_reducible refine (World.At_put_ne' (by first | assumption | (exact Ne.symm (by assumption)) | (simp only [World.inB, World.size_put] at *; omega))).2 ?_) | (with_reducible exact World.At_alloc_new) | (with_reducible exact at_new (by first | rfl | (simp [World.size_put]; done) | (simp [World.size_put]; omega))) | (with_reducible refine World.At.alloc ?_ _))), (by repeat (first | assumption | exact ModP.refl _ _ | refine ModP.fromPut ?_ (by assumption) | apply ModP.alloc | apply ModP.drew | apply ModP.drewN | refine ModP.put ?_ (by first | (left; assumption) | (left; rfl) | (right; simp only [World.inB, World.size_put] at *; omega)) _ _))⟩
theorem c264_miss (h : W.At b K.cells 175) (R : KvRel K A) (c : Cmd) (k2 : c.key.length ≤ 2) (ho : c.op ≠ 1) (ho2 : c.op ≠ 2) (ho3 : c.op ≠ 3) {n : Nat} (n8 : n < 8) (hs : (K.cells_ n).state = 1) (hk : keyS (K.cells_ n) = c.key) (hv : valS (K.cells_ n) ≠ c.old) : Calls Tryz.prog 264 #[vp b, .agg c.cells] W fun r w' => r = .returned (.agg (Ans.cells ⟨11, valS (K.cells_ n)⟩)) ∧ w'.At b K.cells 175 ∧ ModP (fun x => x = b) W w' := by
  obtain ⟨op, cl, seq, key, val, old⟩ := c
  simp only [] at *
  have hb : b < W.heap.size := h.inB
  have n1 : b ≠ W.heap.size := by omega
  have n2 : b ≠ W.heap.size + 1 := by omega
  have n3 : W.heap.size ≠ W.heap.size + 1 := by omega
  have H := hidIt h
  have Hb := hidIt hb
  have d1 : (op == 1) = false := by simpa using ho
  have q1 := hidIt (fun (u : World) (hu : u.At b K.cells 175) => c271_yes hu R.t.tab (key := key) (by omega) n8 hs hk)
  have kl := R.t.tab.kl n n8 hs
  have q3 := hidIt (fun (u : World) => c261 u (K.cells_ n) (by omega) (by omega))
  simp only [Cell.cells] at q3
  have n9 : (n : Int) < 8 := by omega
  have d2 : (op == 2) = false := by simpa using ho2
  have d3 : (op == 3) = false := by simpa using ho3
  have d4 : (valS (K.cells_ n) == old) = false := by simpa using hv
  generalize valS (K.cells_ n) = vv at *
  clear h R ho hs hk kl ho2 ho3
  go_enter Tryz.func264, Tryz.ntmps264
  go_wp2_with fail
  refine Ord.region1 [] [0, 1, 2, 3, 4] [5, 6] (by kernel_rfl) (by kernel_rfl) (fun _ _ d _ _ h => by cases d <;> exact h) ?_
  simp only [Ord.pickO, Ord.nth]
  refine wpQuiet_nil ?_
  repeat (go_big_quiet_step (fail))
  refine wpQuiet_nil ?_
  go_wp2_with (first
    | (go_at_call 271; refine (q1.out _ (World.At_drew.2 (World.At.alloc (World.At.alloc H.out _) _))).mono ?_; rintro _ w1 ⟨rfl, m1⟩; obtain ⟨y, rfl, i1, i2, i3, my⟩ := m1.undrew.two H.out; have MY := hidIt my; clear m1 my H)
    | (go_at_call 261; refine (q3.out _).mono ?_; rintro _ w1 ⟨rfl, m1⟩; obtain ⟨y2, rfl, j1, j2, j3, my2⟩ := m1.put3 (F := fun x => x = b) i1 i2 i3 n1 n2 n3 (MY.out.mono (fun _ f => f.elim)) (.inl rfl) (.inr (Nat.le_refl _)) (.inr (Nat.le_succ _)); have MY2 := hidIt my2; clear m1 my2))
  refine bodyPost_ret (v := .agg (Ans.cells ⟨11, vv⟩)) ?_ rfl ?_
  · simp [results, Tryz.results264, go_sem, j1, j2, j3, n1, n2, n3]
    rfl
  · have := MY2.out
    exact ⟨rfl, (by repeat (first | assumption | (with_reducible refine World.At_drew.2 ?_) | (with_reducible refine (World.At_drewN _).2 ?_) | (with_reducible exact World.At_put_same (by first | assumption | (simp only [World.inB, World.size_put, World.alloc, World.drew, World.drewN, Array.size_push] at *; omega))) | (with_reducible refine (World.At_put_ne' (by first | assumption | (exact Ne.symm (by assumption)) | (simp only [World.inB, World.size_put] at *; omega))).2 ?_) | (with_reducible exact World.At_alloc_new) | (with_reducible exact at_new (by first | rfl | (simp [World.size_put]; done) | (simp [World.size_put]; omega))) | (with_reducible refine World.At.alloc ?_ _))), (by repeat (first | assumption | exact ModP.refl _ _ | refine ModP.fromPut ?_ (by assumption) | apply ModP.alloc | apply ModP.drew | apply ModP.drewN | refine ModP.put ?_ (by first | (left; assumption) | (left; rfl) | (right; simp only [World.inB, World.size_put] at *; omega)) _ _))⟩
theorem c264_cas (h : W.At b K.cells 175) (R : KvRel K A) (c : Cmd) (k2 : c.key.length ≤ 2) (v3 : c.val.length ≤ 3) (ho : c.op ≠ 1) (ho2 : c.op ≠ 2) (ho3 : c.op ≠ 3) {n : Nat} (n8 : n < 8) (hs : (K.cells_ n).state = 1) (hk : keyS (K.cells_ n) = c.key) (hv : valS (K.cells_ n) = c.old) : Calls Tryz.prog 264 #[vp b, .agg c.cells] W fun r w' => r = .returned (.agg (Ans.cells ⟨0, []⟩)) ∧ w'.At b (KvX.cells { K with cells_ := upd K.cells_ n (mkCellS c.key c.val) }) 175 ∧ ModP (fun x => x = b) W w' := by
  obtain ⟨op, cl, seq, key, val, old⟩ := c
  simp only [] at *
  have hb : b < W.heap.size := h.inB
  have n1 : b ≠ W.heap.size := by omega
  have n2 : b ≠ W.heap.size + 1 := by omega
  have n3 : W.heap.size ≠ W.heap.size + 1 := by omega
  have H := hidIt h
  have Hb := hidIt hb
  have d1 : (op == 1) = false := by simpa using ho
  have q1 := hidIt (fun (u : World) (hu : u.At b K.cells 175) => c271_yes hu R.t.tab (key := key) (by omega) n8 hs hk)
  have kl := R.t.tab.kl n n8 hs
  have q3 := hidIt (fun (u : World) => c261 u (K.cells_ n) (by omega) (by omega))
  simp only [Cell.cells] at q3
  have n9 : (n : Int) < 8 := by omega
  have d2 : (op == 2) = false := by simpa using ho2
  have d3 : (op == 3) = false := by simpa using ho3
  rw [hv] at q3
  have q2 := hidIt (fun u => c237 u key val k2 v3)
  simp only [Cell.cells] at q2
  clear h R ho hs hk kl ho2 ho3 hv
  go_enter Tryz.func264, Tryz.ntmps264
  go_wp2_with fail
  refine Ord.region1 [] [0, 1, 2, 3, 4] [5, 6] (by kernel_rfl) (by kernel_rfl) (fun _ _ d _ _ h => by cases d <;> exact h) ?_
  simp only [Ord.pickO, Ord.nth]
  refine wpQuiet_nil ?_
  repeat (go_big_quiet_step (fail))
  refine wpQuiet_nil ?_
  go_wp2_with (first
    | (go_at_call 271; refine (q1.out _ (World.At_drew.2 (World.At.alloc (World.At.alloc H.out _) _))).mono ?_; rintro _ w1 ⟨rfl, m1⟩; obtain ⟨y, rfl, i1, i2, i3, my⟩ := m1.undrew.two H.out; have MY := hidIt my; clear m1 my H)
    | (go_at_call 261; refine (q3.out _).mono ?_; rintro _ w1 ⟨rfl, m1⟩; obtain ⟨y2, rfl, j1, j2, j3, my2⟩ := m1.put3 (F := fun x => x = b) i1 i2 i3 n1 n2 n3 (MY.out.mono (fun _ f => f.elim)) (.inl rfl) (.inr (Nat.le_refl _)) (.inr (Nat.le_succ _)); have MY2 := hidIt my2; clear m1 my2))
  refine Ord.region1 [0, 1, 7, 8, 9] [2, 3, 4, 5] [6, 10, 11] (by kernel_rfl) (by kernel_rfl) (fun _ _ d _ _ h => by cases d <;> exact h) ?_
  simp only [Ord.pickO, Ord.nth]
  repeat (go_big_quiet_step (fail))
  refine wpQuiet_nil ?_
  repeat (go_big_quiet_step (fail))
  refine wpQuiet_nil ?_
  go_wp2_with (first
    | (go_at_call 237; refine (q2.out _).mono ?_; rintro _ w1 ⟨rfl, m1⟩; obtain ⟨y3, rfl, l1, l2, l3, my3⟩ := m1.put3 (F := fun x => x = b) (y := y2.drew) j1 j2 j3 n1 n2 n3 MY2.out.drew (.inl rfl) (.inr (Nat.le_refl _)) (.inr (Nat.le_succ _)); have MY3 := hidIt my3; clear m1 my3))
  refine bodyPost_ret (v := .agg (Ans.cells ⟨0, []⟩)) ?_ rfl ?_
  · simp [results, Tryz.results264, go_sem, l1, l2, l3, n1, n2, n3]
    rfl
  · have := MY3.out
    exact ⟨rfl, (by repeat (first | assumption | (with_reducible refine World.At_drew.2 ?_) | (with_reducible refine (World.At_drewN _).2 ?_) | (with_reducible exact World.At_put_same (by first | assumption | (simp only [World.inB, World.size_put, World.alloc, World.drew, World.drewN, Array.size_push] at *; omega))) | (with_reducible refine (World.At_put_ne' (by first | assumption | (exact Ne.symm (by assumption)) | (simp only [World.inB, World.size_put] at *; omega))).2 ?_) | (with_reducible exact World.At_alloc_new) | (with_reducible exact at_new (by first | rfl | (simp [World.size_put]; done) | (simp [World.size_put]; omega))) | (with_reducible refine World.At.alloc ?_ _))), (by repeat (first | assumption | exact ModP.refl _ _ | refine ModP.fromPut ?_ (by assumption) | apply ModP.alloc | apply ModP.drew | apply ModP.drewN | refine ModP.put ?_ (by first | (left; assumption) | (left; rfl) | (right; simp only [World.inB, World.size_put] at *; omega)) _ _))⟩
theorem c264 (h : W.At b K.cells 175) (R : KvRel K A) (c : Cmd) (hc : cmdOK c = true) : Calls Tryz.prog 264 #[vp b, .agg c.cells] W fun r w' => r = .returned (.agg (A.run c).1.cells) ∧ (∃ K', w'.At b K'.cells 175 ∧ KvRel K' (A.run c).2) ∧ ModP (fun x => x = b) W w' := by
  unfold cmdOK at hc
  rw [decide_eq_true_eq] at hc
  obtain ⟨⟨o1, o2, _⟩, ⟨k1, k2, v3, _⟩, _⟩ := hc
  rcases R.t.tab.here c.key with hno | ⟨n, n8, hs, hk⟩
  · have hf := AK.find_absent hno
    by_cases e1 : c.op = 1
    · unfold AK.run
      rw [if_pos e1]
      unfold AK.put
      rw [hf]
      simp only []
      by_cases e4 : 4 ≤ A.ps.length
      · rw [if_pos e4]
        refine (c264_put_no h R c k2 e1 hf e4).mono ?_
        rintro _ w' ⟨rfl, a1, m1⟩
        exact ⟨rfl, ⟨K, a1, R⟩, m1⟩
      · rw [if_neg e4]
        exact c264_put_add h R c k1 k2 v3 e1 hf (by omega)
    · unfold AK.run
      rw [if_neg e1, hf]
      refine (c264_none h R c k2 e1 hf).mono ?_
      rintro _ w' ⟨rfl, a1, m1⟩
      exact ⟨rfl, ⟨K, a1, R⟩, m1⟩
  · obtain ⟨j, hf, hj, hp, hv⟩ := R.found n8 hs hk
    by_cases e1 : c.op = 1
    · unfold AK.run
      rw [if_pos e1]
      unfold AK.put
      rw [hf]
      simp only []
      refine (c264_put_set h R c k2 v3 e1 n8 hs hk).mono ?_
      rintro _ w' ⟨rfl, a1, m1⟩
      exact ⟨rfl, ⟨_, a1, R.set n8 hs hk k1 k2 v3 hf⟩, m1⟩
    unfold AK.run
    rw [if_neg e1, hf]
    simp only []
    by_cases e2 : c.op = 2
    · rw [if_pos e2, hv]
      refine (c264_get h R c k2 e1 e2 n8 hs hk).mono ?_
      rintro _ w' ⟨rfl, a1, m1⟩
      exact ⟨rfl, ⟨K, a1, R⟩, m1⟩
    rw [if_neg e2]
    by_cases e3 : c.op = 3
    · rw [if_pos e3, hv]
      refine (c264_del h R c k2 e1 e3 n8 hs hk).mono ?_
      rintro _ w' ⟨rfl, a1, m1⟩
      exact ⟨rfl, ⟨_, a1, R.drop n8 hs (by rw [hk]; exact hf) (R.ok.erase j) rfl⟩, m1⟩
    rw [if_neg e3]
    by_cases e4 : A.val j = c.old
    · rw [if_neg (fun h => h e4)]
      refine (c264_cas h R c k2 v3 e1 e2 e3 n8 hs hk (hv ▸ e4)).mono ?_
      rintro _ w' ⟨rfl, a1, m1⟩
      exact ⟨rfl, ⟨_, a1, R.set n8 hs hk k1 k2 v3 hf⟩, m1⟩
    · rw [if_pos e4, hv]
      refine (c264_miss h R c k2 e1 e2 e3 n8 hs hk (hv ▸ e4)).mono ?_
      rintro _ w' ⟨rfl, a1, m1⟩
      exact ⟨rfl, ⟨K, a1, R⟩, m1⟩
end
end Go.Proofs.Qxb6500990aGreat
