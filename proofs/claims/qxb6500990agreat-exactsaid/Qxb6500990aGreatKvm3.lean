/- package kvm: run -/
import Derived.Test.Qxb6500990aGreatKvm2
set_option linter.unusedVariables false
set_option linter.unusedSimpArgs false
namespace Go.Tw
open Go Go.Proofs Go.Proofs.Qxb6500990aGreat
def AK.run (k : AK) (c : Cmd) : Ans × AK :=
  if c.op = 1 then (⟨(k.put c.key c.val).1, []⟩, (k.put c.key c.val).2)
  else match k.find c.key with
  | none => (⟨2, []⟩, k)
  | some i => if c.op = 2 then (⟨0, k.val i⟩, k)
    else if c.op = 3 then (⟨0, k.val i⟩, { k with ps := k.ps.eraseIdx i })
    else if k.val i ≠ c.old then (⟨11, k.val i⟩, k) else (⟨0, []⟩, { k with ps := k.ps.set i (c.key, c.val) })
/-- the cells i .. j-1 take what stood one above -/
def dnF {α : Type} (f : Nat → α) (i j : Nat) : Nat → α := fun m => if i ≤ m ∧ m < j then f (m + 1) else f m
theorem dnF_start {α : Type} (f : Nat → α) (i : Nat) : dnF f i i = f := by funext m; unfold dnF; rw [if_neg (by omega)]
theorem dnF_step {α : Type} (f : Nat → α) (i j : Nat) (h : i ≤ j) : upd (dnF f i j) j (f (j + 1)) = dnF f i (j + 1) := by
  funext m
  unfold upd dnF
  by_cases h1 : m = j
  · subst h1; rw [if_pos rfl, if_pos (by omega)]
  · rw [if_neg h1]
    by_cases h2 : i ≤ m ∧ m < j
    · rw [if_pos h2, if_pos (by omega)]
    · rw [if_neg h2, if_neg (by omega)]
theorem AK.erase_r (k : AK) (i : Nat) (hi : i < k.ps.length) : AK.r { k with ps := k.ps.eraseIdx i } = ⟨(k.ps.length : Int) - 1, upd (dnF k.key i (k.ps.length - 1)) (k.ps.length - 1) [], upd (dnF k.val i (k.ps.length - 1)) (k.ps.length - 1) [], k.seq, k.ans⟩ := by
  unfold AK.r
  have hlen : (k.ps.eraseIdx i).length = k.ps.length - 1 := List.length_eraseIdx_of_lt hi
  have hg : ∀ m, (k.ps.eraseIdx i).getD m ([], []) = if m = k.ps.length - 1 then ([], []) else if i ≤ m ∧ m < k.ps.length - 1 then k.ps.getD (m + 1) ([], []) else k.ps.getD m ([], []) := by
    intro m
    simp only [List.getD_eq_getElem?_getD, List.getElem?_eraseIdx]
    by_cases h1 : m = k.ps.length - 1
    · rw [if_pos h1]
      split
      · omega
      · rw [List.getElem?_eq_none (by omega)]; rfl
    · rw [if_neg h1]
      by_cases h2 : m < i
      · rw [if_pos h2, if_neg (by omega)]
      · rw [if_neg h2]
        by_cases h3 : m < k.ps.length - 1
        · rw [if_pos (by omega)]
        · rw [if_neg (by omega), List.getElem?_eq_none (by omega), List.getElem?_eq_none (by omega)]
  simp only [KvM.mk.injEq, and_true]
  refine ⟨?_, ?_, ?_⟩
  · rw [hlen]; omega
  · funext m
    simp only [AK.key]
    rw [hg]
    unfold upd dnF
    by_cases h1 : m = k.ps.length - 1
    · simp [h1]
    · simp only [h1, if_false]; split <;> rfl
  · funext m
    simp only [AK.val]
    rw [hg]
    unfold upd dnF
    by_cases h1 : m = k.ps.length - 1
    · simp [h1]
    · simp only [h1, if_false]; split <;> rfl
end Go.Tw
namespace Go.Proofs.Qxb6500990aGreat
open Go Go.RowKit Go.Tw
attribute [local go_sem] World.cell?_put_same World.cell?_put_ne World.cell?_put_ne' World.frozen?_put_same World.frozen?_put_ne World.frozen?_put_ne' World.setCell_put_same World.setCell_put_ne World.setCell_put_ne' World.inB_put World.inB_alloc World.inB_drew World.inB_drewN World.inB_new World.inB_setCell World.put_drew World.put_drewN World.q_setCell_drew World.q_setCell_drewN World.q_alloc_drew World.q_alloc_drewN World.put_put_same World.put_put_2 World.size_put World.q_cell?_alloc_old World.q_frozen?_alloc_old World.cell?_alloc_new' World.frozen?_alloc_new' World.q_setCell_alloc_old World.q_setCell_alloc_new World.q_put_alloc_old KvM.g0 KvM.s0 KvM.g1 KvM.s1 KvM.g2 KvM.s2 KvM.g3 KvM.s3 KvM.g4 KvM.s4 KvM.g5 KvM.s5 KvM.g6 KvM.s6 KvM.g7 KvM.s7 KvM.g8 KvM.s8 KvM.g9 KvM.s9 KvM.g10 KvM.s10 KvM.g11 KvM.s11 KvM.g12 KvM.s12 KvM.g13 KvM.s13 KvM.g14 KvM.s14 KvM.g15 KvM.s15 KvM.g16 KvM.s16 KvM.g17 KvM.s17 KvM.gi_keys_0 KvM.si_keys_0 KvM.gi_vals_0 KvM.si_vals_0 KvM.gi_seq_0 KvM.si_seq_0 KvM.gi_ans_0 KvM.si_ans_0 KvM.gi_ans_1 KvM.si_ans_1 Ans.g0 Ans.s0 Ans.g1 Ans.s1 Cmd.g0 Cmd.s0 Cmd.g1 Cmd.s1 Cmd.g2 Cmd.s2 Cmd.g3 Cmd.s3 Cmd.g4 Cmd.s4 Cmd.g5 Cmd.s5
attribute [local go_sem] ba_get ba_eq ba_beq KvM.gia_ans_1
set_option maxHeartbeats 1000000
set_option maxRecDepth 100000
theorem c225 {W : World} {b : Nat} {k : AK} (h : W.At b k.r.cells 186) (hl : k.ps.length ≤ 4) (c : Cmd) (o0 : 1 ≤ c.op) (o1 : c.op ≤ 4) : Calls Tryz.prog 225 #[vp b, .agg c.cells] W fun r w' => r = .returned (.agg (k.run c).1.cells) ∧ w'.At b (k.run c).2.r.cells 186 ∧ ModP (fun x => x = b) W w' := by
  obtain ⟨w, rfl, hb⟩ := h.door
  clear h
  obtain ⟨op, client, seq, key, val, old⟩ := c
  simp only [] at *
  have hcall := fun o1 o2 => c269 (W := ((w.put b k.r.cells 186).alloc o1).alloc o2) (((World.At_put_same hb).alloc _).alloc _) hl key
  have Hcall := hidIt hcall
  clear hcall
  by_cases h1 : op = 1
  · subst h1
    have hk : Hid (k.run ⟨1, client, seq, key, val, old⟩ = (⟨(k.put key val).1, []⟩, (k.put key val).2)) := by unfold Hid AK.run; simp
    have hput := fun o1 o2 => c270 (W := ((w.put b k.r.cells 186).alloc o1).alloc o2) (((World.At_put_same hb).alloc _).alloc _) hl key val
    have Hput := hidIt hput
    clear hput
    go_enter Tryz.func225, Tryz.ntmps225
    go_wp2_with (first
      | (go_at_call 269; refine (Hcall.out _ _).mono ?_; rintro _ _ ⟨rfl, rfl⟩)
      | (go_at_call 270; refine (Hput.out _ _).mono ?_; rintro _ _ ⟨rfl, m, rfl⟩))
    refine bodyPost_ret (v := .agg (Ans.cells ⟨(k.put key val).1, []⟩)) (by simp [results, Tryz.results225, go_sem, Ans.cells]) rfl ?_
    rw [hk.out]
    exact ⟨rfl, (by repeat (first | assumption | exact World.At_alloc_new | exact at_new (by first | rfl | (simp [World.size_put]; done) | (simp [World.size_put]; omega)) | refine World.At.alloc ?_ _ | refine World.At_drew.2 ?_ | refine (World.At_drewN _).2 ?_ | exact World.At_put_same (by first | assumption | (simp only [World.inB, World.size_put, World.alloc, World.drew, World.drewN, Array.size_push] at *; omega)) | refine (World.At_put_ne' (by first | assumption | (exact Ne.symm (by assumption)) | (simp only [World.inB, World.size_put] at *; omega))).2 ?_)), (by refine ModP.fromPut ?_ ?_; rotate_left; rfl; repeat (first | exact ModP.refl _ _ | apply ModP.alloc | apply ModP.drew | apply ModP.drewN | (refine ModP.put ?_ (Or.inl ?_) _ _; rotate_left; rfl)))⟩
  cases hf : k.find key with
  | none =>
    have hk : Hid (k.run ⟨op, client, seq, key, val, old⟩ = (⟨2, []⟩, k)) := by unfold Hid AK.run; simp only []; rw [if_neg h1, hf]
    rw [hf] at Hcall
    unfold oi at Hcall
    clear hf
    go_enter Tryz.func225, Tryz.ntmps225
    go_wp2_with (first
      | (go_at_call 269; refine (Hcall.out _ _).mono ?_; rintro _ _ ⟨rfl, rfl⟩))
    refine bodyPost_ret (v := .agg (Ans.cells ⟨2, []⟩)) (by simp [results, Tryz.results225, go_sem, Ans.cells]) rfl ?_
    rw [hk.out]
    exact ⟨rfl, (by repeat (first | assumption | exact World.At_alloc_new | exact at_new (by first | rfl | (simp [World.size_put]; done) | (simp [World.size_put]; omega)) | refine World.At.alloc ?_ _ | refine World.At_drew.2 ?_ | refine (World.At_drewN _).2 ?_ | exact World.At_put_same (by first | assumption | (simp only [World.inB, World.size_put, World.alloc, World.drew, World.drewN, Array.size_push] at *; omega)) | refine (World.At_put_ne' (by first | assumption | (exact Ne.symm (by assumption)) | (simp only [World.inB, World.size_put] at *; omega))).2 ?_)), (by refine ModP.fromPut ?_ ?_; rotate_left; rfl; repeat (first | exact ModP.refl _ _ | apply ModP.alloc | apply ModP.drew | apply ModP.drewN | (refine ModP.put ?_ (Or.inl ?_) _ _; rotate_left; rfl)))⟩
  | some i =>
    have hk0 : k.run ⟨op, client, seq, key, val, old⟩ = if op = 2 then (⟨0, k.val i⟩, k)
      else if op = 3 then (⟨0, k.val i⟩, { k with ps := k.ps.eraseIdx i })
      else if k.val i ≠ old then (⟨11, k.val i⟩, k) else (⟨0, []⟩, { k with ps := k.ps.set i (key, val) }) := by unfold AK.run; simp only []; rw [if_neg h1, hf]
    have hi := find_lt hf
    have i4 : i < 4 := by omega
    have hset := hidIt (AK.set_r k key val i hf)
    have hera := hidIt (AK.erase_r k i hi)
    rw [hf] at Hcall
    unfold oi at Hcall
    clear hf
    by_cases h2 : op = 2
    · subst h2
      have hk : Hid (k.run ⟨2, client, seq, key, val, old⟩ = (⟨0, k.val i⟩, k)) := by unfold Hid; rw [hk0]; simp
      clear hk0
      unfold AK.r at Hcall ⊢
      go_enter Tryz.func225, Tryz.ntmps225
      go_wp2_with (first
        | (go_at_call 269; refine (Hcall.out _ _).mono ?_; rintro _ _ ⟨rfl, rfl⟩))
      refine bodyPost_ret (v := .agg (Ans.cells ⟨0, k.val i⟩)) (by simp [results, Tryz.results225, go_sem, Ans.cells]) rfl ?_
      rw [hk.out]
      exact ⟨rfl, (by repeat (first | assumption | exact World.At_alloc_new | exact at_new (by first | rfl | (simp [World.size_put]; done) | (simp [World.size_put]; omega)) | refine World.At.alloc ?_ _ | refine World.At_drew.2 ?_ | refine (World.At_drewN _).2 ?_ | exact World.At_put_same (by first | assumption | (simp only [World.inB, World.size_put, World.alloc, World.drew, World.drewN, Array.size_push] at *; omega)) | refine (World.At_put_ne' (by first | assumption | (exact Ne.symm (by assumption)) | (simp only [World.inB, World.size_put] at *; omega))).2 ?_)), (by refine ModP.fromPut ?_ ?_; rotate_left; rfl; repeat (first | exact ModP.refl _ _ | apply ModP.alloc | apply ModP.drew | apply ModP.drewN | (refine ModP.put ?_ (Or.inl ?_) _ _; rotate_left; rfl)))⟩
    by_cases h3 : op = 3
    · subst h3
      have hk : Hid (k.run ⟨3, client, seq, key, val, old⟩ = (⟨0, k.val i⟩, { k with ps := k.ps.eraseIdx i })) := by unfold Hid; rw [hk0]; simp
      clear hk0
      unfold AK.r at Hcall ⊢
      go_enter Tryz.func225, Tryz.ntmps225
      go_wp2_with (first
        | (go_at_call 269; refine (Hcall.out _ _).mono ?_; rintro _ _ ⟨rfl, rfl⟩))
      generalize hn : k.ps.length = n at *
      obtain ⟨n, rfl⟩ : ∃ m, n = m + 1 := ⟨n - 1, by omega⟩
      have n4 : n < 4 := by omega
      have i1 : i ≤ n := by omega
      clear hn hl hi h1 h2
      go_loopw [7] (fun i' u => ∃ (j : Nat), i ≤ j ∧ j ≤ n ∧ i' = vi j ∧ Dr (((w.put b (KvM.cells ⟨((n + 1 : Nat) : Int), dnF k.key i j, dnF k.val i j, k.seq, k.ans⟩) 186).alloc (.cells (Cmd.cells ⟨3, client, seq, key, val, old⟩) 123 (0, 0))).alloc (.cells (Ans.cells ⟨0, []⟩) 75 (0, 0))) u) (fun i' _ => n - (intOf i').toNat)
      case atStart => exact ⟨i, Nat.le_refl _, i1, rfl, by rw [dnF_start, dnF_start]; exact Dr.refl _⟩
      case round =>
        obtain ⟨j, hj, hj2, rfl, m, rfl⟩ := hrel
        by_cases hjn : j < n
        · have j4 : j < 4 := by omega
          have j4' : j + 1 < 4 := by omega
          have hs1 : dnF k.key i j (j + 1) = k.key (j + 1) := by unfold dnF; rw [if_neg (by omega)]
          have hs2 : dnF k.val i j (j + 1) = k.val (j + 1) := by unfold dnF; rw [if_neg (by omega)]
          have H1 := hidIt (dnF_step k.key i j hj)
          have H2 := hidIt (dnF_step k.val i j hj)
          go_wp2_with fail
          refine Ord.region1 [2, 3, 22, 23] [0, 1, 4, 5, 6, 7, 8, 9, 10, 11, 12, 13, 14, 15, 16, 17, 18, 19, 20] [21, 24, 25] (by kernel_rfl) (by kernel_rfl) (fun _ _ d _ _ h => by cases d <;> exact h) ?_
          simp only [Ord.pickO, Ord.nth]
          repeat (go_big_quiet_step (fail))
          refine wpQuiet_nil ?_
          repeat (go_big_quiet_step (fail))
          refine wpQuiet_nil ?_
          go_wp2_with fail
          go_roundw
          case rel => exact ⟨j + 1, by omega, by omega, by go_num, by rw [H1.out, H2.out]; exact (Dr.refl _).drewN _⟩
          case measure => simp [intOf]; omega
        · obtain rfl : j = n := by omega
          clear hjn hj2
          go_wp2_with fail
          refine Ord.region1 [5, 14, 15] [0, 1, 2, 3, 4, 6, 7, 8, 9, 10, 11, 12] [13, 16, 17] (by kernel_rfl) (by kernel_rfl) (fun _ _ d _ _ h => by cases d <;> exact h) ?_
          simp only [Ord.pickO, Ord.nth]
          repeat (go_big_quiet_step (fail))
          refine wpQuiet_nil ?_
          repeat (go_big_quiet_step (fail))
          refine wpQuiet_nil ?_
          go_wp2_with fail
          refine bodyPost_ret (v := .agg (Ans.cells ⟨0, k.val i⟩)) (by simp [results, Tryz.results225, go_sem, Ans.cells]) rfl ?_
          rw [hk.out]
          refine ⟨rfl, ?_, ?_⟩
          · have he := hera.out
            unfold AK.r at he
            simp only [] at he ⊢
            rw [he]
            simp only [Nat.add_sub_cancel]
            rw [show (((j + 1 : Nat) : Int) - 1) = (j : Int) by omega]
            exact (by repeat (first | assumption | exact World.At_alloc_new | exact at_new (by first | rfl | (simp [World.size_put]; done) | (simp [World.size_put]; omega)) | refine World.At.alloc ?_ _ | refine World.At_drew.2 ?_ | refine (World.At_drewN _).2 ?_ | exact World.At_put_same (by first | assumption | (simp only [World.inB, World.size_put, World.alloc, World.drew, World.drewN, Array.size_push] at *; omega)) | refine (World.At_put_ne' (by first | assumption | (exact Ne.symm (by assumption)) | (simp only [World.inB, World.size_put] at *; omega))).2 ?_))
          · exact (by refine ModP.fromPut ?_ ?_; rotate_left; rfl; repeat (first | exact ModP.refl _ _ | apply ModP.alloc | apply ModP.drew | apply ModP.drewN | (refine ModP.put ?_ (Or.inl ?_) _ _; rotate_left; rfl)))
    obtain rfl : op = 4 := by omega
    by_cases h5 : k.val i = old
    · have hk : Hid (k.run ⟨4, client, seq, key, val, old⟩ = (⟨0, []⟩, { k with ps := k.ps.set i (key, val) })) := by unfold Hid; rw [hk0]; simp [h5]
      clear hk0
      unfold AK.r at Hcall ⊢
      go_enter Tryz.func225, Tryz.ntmps225
      go_wp2_with (first
        | (go_at_call 269; refine (Hcall.out _ _).mono ?_; rintro _ _ ⟨rfl, rfl⟩))
      refine Ord.region1 [] [0, 1, 2, 3, 4, 5, 6] [7] (by kernel_rfl) (by kernel_rfl) (fun _ _ d _ _ h => by cases d <;> exact h) ?_
      simp only [Ord.pickO, Ord.nth]
      refine wpQuiet_nil ?_
      repeat (go_big_quiet_step (fail))
      refine wpQuiet_nil ?_
      go_wp2_with fail
      refine bodyPost_ret (v := .agg (Ans.cells ⟨0, []⟩)) (by simp [results, Tryz.results225, go_sem, Ans.cells]) rfl ?_
      rw [hk.out]
      have he := hset.out
      unfold AK.r at he
      refine ⟨rfl, ?_, ?_⟩
      · simp only [] at he ⊢
        rw [he]
        exact (by repeat (first | assumption | exact World.At_alloc_new | exact at_new (by first | rfl | (simp [World.size_put]; done) | (simp [World.size_put]; omega)) | refine World.At.alloc ?_ _ | refine World.At_drew.2 ?_ | refine (World.At_drewN _).2 ?_ | exact World.At_put_same (by first | assumption | (simp only [World.inB, World.size_put, World.alloc, World.drew, World.drewN, Array.size_push] at *; omega)) | refine (World.At_put_ne' (by first | assumption | (exact Ne.symm (by assumption)) | (simp only [World.inB, World.size_put] at *; omega))).2 ?_))
      · exact (by refine ModP.fromPut ?_ ?_; rotate_left; rfl; repeat (first | exact ModP.refl _ _ | apply ModP.alloc | apply ModP.drew | apply ModP.drewN | (refine ModP.put ?_ (Or.inl ?_) _ _; rotate_left; rfl)))
    · have hk : Hid (k.run ⟨4, client, seq, key, val, old⟩ = (⟨11, k.val i⟩, k)) := by unfold Hid; rw [hk0]; simp [h5]
      have hne : (k.val i == old) = false := by simpa using h5
      clear hk0
      unfold AK.r at Hcall ⊢
      go_enter Tryz.func225, Tryz.ntmps225
      go_wp2_with (first
        | (go_at_call 269; refine (Hcall.out _ _).mono ?_; rintro _ _ ⟨rfl, rfl⟩))
      refine bodyPost_ret (v := .agg (Ans.cells ⟨11, k.val i⟩)) (by simp [results, Tryz.results225, go_sem, Ans.cells]) rfl ?_
      rw [hk.out]
      exact ⟨rfl, (by repeat (first | assumption | exact World.At_alloc_new | exact at_new (by first | rfl | (simp [World.size_put]; done) | (simp [World.size_put]; omega)) | refine World.At.alloc ?_ _ | refine World.At_drew.2 ?_ | refine (World.At_drewN _).2 ?_ | exact World.At_put_same (by first | assumption | (simp only [World.inB, World.size_put, World.alloc, World.drew, World.drewN, Array.size_push] at *; omega)) | refine (World.At_put_ne' (by first | assumption | (exact Ne.symm (by assumption)) | (simp only [World.inB, World.size_put] at *; omega))).2 ?_)), (by refine ModP.fromPut ?_ ?_; rotate_left; rfl; repeat (first | exact ModP.refl _ _ | apply ModP.alloc | apply ModP.drew | apply ModP.drewN | (refine ModP.put ?_ (Or.inl ?_) _ _; rotate_left; rfl)))⟩
end Go.Proofs.Qxb6500990aGreat
