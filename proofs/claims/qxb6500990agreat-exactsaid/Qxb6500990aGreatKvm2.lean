/- package kvm: put -/
import Derived.Test.Qxb6500990aGreatKvm
set_option linter.unusedVariables false
set_option linter.unusedSimpArgs false
namespace Go.Tw
open Go Go.Proofs Go.Proofs.Qxb6500990aGreat
/-- where a key is laid: behind the last of the first n that is not above it -/
def insP (f : Nat → Bs) (key : Bs) : Nat → Nat
  | 0 => 0
  | n + 1 => if Op.bytesLess key (f n) = true then insP f key n else n + 1
theorem insP_le (f : Nat → Bs) (key : Bs) : ∀ n, insP f key n ≤ n
  | 0 => Nat.le_refl _
  | n + 1 => by unfold insP; have := insP_le f key n; split <;> omega
/-- the cells j+1 .. n take what stood one below -/
def shF {α : Type} (f : Nat → α) (n j : Nat) : Nat → α := fun m => if j < m ∧ m ≤ n then f (m - 1) else f m
theorem shF_start {α : Type} (f : Nat → α) (n : Nat) : shF f n n = f := by funext m; unfold shF; rw [if_neg (by omega)]
theorem shF_step {α : Type} (f : Nat → α) (n j : Nat) (h : j + 1 ≤ n) : upd (shF f n (j + 1)) (j + 1) (shF f n (j + 1) j) = shF f n j := by
  funext m
  unfold upd shF
  rw [if_neg (by omega : ¬ (j + 1 < j ∧ j ≤ n))]
  by_cases h1 : m = j + 1
  · subst h1; rw [if_pos rfl, if_pos (by omega)]; rfl
  · rw [if_neg h1]
    by_cases h2 : j < m ∧ m ≤ n
    · rw [if_pos h2, if_pos (by omega)]
    · rw [if_neg h2, if_neg (by omega)]
def AK.ins (k : AK) (key val : Bs) : AK := { k with ps := k.ps.take (insP k.key key k.ps.length) ++ (key, val) :: k.ps.drop (insP k.key key k.ps.length) }
def AK.put (k : AK) (key val : Bs) : Int × AK := match k.find key with
  | some i => (0, { k with ps := k.ps.set i (key, val) })
  | none => if 4 ≤ k.ps.length then (6, k) else (0, k.ins key val)
theorem getD_ins {α : Type} (l : List α) (d x : α) (j m : Nat) (hj : j ≤ l.length) : (l.take j ++ x :: l.drop j).getD m d = if m = j then x else if j < m ∧ m ≤ l.length then l.getD (m - 1) d else l.getD m d := by
  simp only [List.getD_eq_getElem?_getD, List.getElem?_append, List.length_take, Nat.min_eq_left hj]
  by_cases h1 : m < j
  · rw [if_pos h1, if_neg (by omega), if_neg (by omega), List.getElem?_take_of_lt h1]
  · rw [if_neg h1]
    by_cases h2 : m = j
    · subst h2; simp
    · rw [if_neg h2]
      obtain ⟨t, ht⟩ : ∃ t, m - j = t + 1 := ⟨m - j - 1, by omega⟩
      rw [ht, List.getElem?_cons_succ, List.getElem?_drop, show j + t = m - 1 by omega]
      by_cases h3 : j < m ∧ m ≤ l.length
      · rw [if_pos h3]
      · rw [if_neg h3, List.getElem?_eq_none (by omega), List.getElem?_eq_none (by omega)]
theorem AK.ins_r (k : AK) (key val : Bs) : (k.ins key val).r = ⟨k.ps.length + 1, upd (shF k.key k.ps.length (insP k.key key k.ps.length)) (insP k.key key k.ps.length) key, upd (shF k.val k.ps.length (insP k.key key k.ps.length)) (insP k.key key k.ps.length) val, k.seq, k.ans⟩ := by
  have hj := insP_le k.key key k.ps.length
  unfold AK.ins
  generalize insP k.key key k.ps.length = j at *
  unfold AK.r
  simp only [KvM.mk.injEq, and_true, true_and]
  refine ⟨?_, ?_, ?_⟩
  · simp; omega
  · funext m
    simp only [AK.key, AK.val]
    rw [getD_ins _ _ _ _ _ hj]
    unfold upd shF
    by_cases h1 : m = j
    · simp [h1]
    · simp only [h1, if_false]; split <;> rfl
  · funext m
    simp only [AK.key, AK.val]
    rw [getD_ins _ _ _ _ _ hj]
    unfold upd shF
    by_cases h1 : m = j
    · simp [h1]
    · simp only [h1, if_false]; split <;> rfl
theorem AK.set_r (k : AK) (key val : Bs) (i : Nat) (hf : k.find key = some i) : AK.r { k with ps := k.ps.set i (key, val) } = ⟨k.ps.length, k.key, upd k.val i val, k.seq, k.ans⟩ := by
  have hi := find_lt hf
  have hk : k.key i = key := by
    unfold AK.find at hf
    rw [List.findIdx?_eq_some_iff_getElem] at hf
    simpa [AK.key, hi] using hf.2.1
  unfold AK.r
  simp only [KvM.mk.injEq, and_true, List.length_set, true_and]
  refine ⟨?_, ?_⟩
  · funext m
    by_cases h : m = i
    · subst h; rw [hk]; simp [AK.key, hi]
    · simp [AK.key, List.getElem?_set_ne (Ne.symm h)]
  · funext m
    by_cases h : m = i
    · subst h; simp [AK.val, hi, upd]
    · simp [AK.val, List.getElem?_set_ne (Ne.symm h), upd, h]
end Go.Tw
namespace Go.Proofs.Qxb6500990aGreat
open Go Go.RowKit Go.Tw
attribute [local go_sem] World.cell?_put_same World.cell?_put_ne World.cell?_put_ne' World.frozen?_put_same World.frozen?_put_ne World.frozen?_put_ne' World.setCell_put_same World.setCell_put_ne World.setCell_put_ne' World.inB_put World.inB_alloc World.inB_drew World.inB_drewN World.inB_new World.inB_setCell World.put_drew World.put_drewN World.q_setCell_drew World.q_setCell_drewN World.q_alloc_drew World.q_alloc_drewN World.put_put_same World.put_put_2 World.size_put World.q_cell?_alloc_old World.q_frozen?_alloc_old World.cell?_alloc_new' World.frozen?_alloc_new' World.q_setCell_alloc_old World.q_setCell_alloc_new World.q_put_alloc_old KvM.g0 KvM.s0 KvM.g1 KvM.s1 KvM.g2 KvM.s2 KvM.g3 KvM.s3 KvM.g4 KvM.s4 KvM.g5 KvM.s5 KvM.g6 KvM.s6 KvM.g7 KvM.s7 KvM.g8 KvM.s8 KvM.g9 KvM.s9 KvM.g10 KvM.s10 KvM.g11 KvM.s11 KvM.g12 KvM.s12 KvM.g13 KvM.s13 KvM.g14 KvM.s14 KvM.g15 KvM.s15 KvM.g16 KvM.s16 KvM.g17 KvM.s17 KvM.gi_keys_0 KvM.si_keys_0 KvM.gi_vals_0 KvM.si_vals_0 KvM.gi_seq_0 KvM.si_seq_0 KvM.gi_ans_0 KvM.si_ans_0 KvM.gi_ans_1 KvM.si_ans_1 Ans.g0 Ans.s0 Ans.g1 Ans.s1
attribute [local go_sem] ba_get ba_eq ba_beq KvM.gia_ans_1
set_option maxHeartbeats 1000000
set_option maxRecDepth 100000
theorem c270 {W : World} {b : Nat} {k : AK} (h : W.At b k.r.cells 186) (hl : k.ps.length ≤ 4) (key val : Bs) : Calls Tryz.prog 270 #[vp b, vs key, vs val] W fun r w' => r = .returned (vi (k.put key val).1) ∧ Dr (W.put b (k.put key val).2.r.cells 186) w' := by
  have hcall := hidIt (c269 h hl key)
  obtain ⟨w, rfl, hb⟩ := h.door
  clear h
  simp only [World.put_put_same]
  cases hf : k.find key with
  | some i =>
    have hk : Hid (k.put key val = (0, { k with ps := k.ps.set i (key, val) })) := by unfold Hid AK.put; rw [hf]
    have hr := hidIt (AK.set_r k key val i hf)
    have i4 : i < 4 := by have := find_lt hf; omega
    rw [hf] at hcall
    unfold oi at hcall
    clear hf
    unfold AK.r at hcall ⊢
    go_enter Tryz.func270, Tryz.ntmps270
    go_wp2_with (go_at_call 269; refine hcall.out.mono ?_; rintro _ _ ⟨rfl, rfl⟩)
    go_ret
    rw [hk.out]
    refine ⟨rfl, ?_⟩
    have := hr.out
    unfold AK.r at this
    simp only [] at this ⊢
    rw [this]
    exact Dr.refl _
  | none =>
    rw [hf] at hcall
    unfold oi at hcall
    by_cases h4 : 4 ≤ k.ps.length
    · have hk : Hid (k.put key val = (6, k)) := by unfold Hid AK.put; rw [hf]; simp only []; rw [if_pos h4]
      have h4' : (4 : Int) ≤ k.ps.length := by omega
      clear hf
      unfold AK.r at hcall ⊢
      go_enter Tryz.func270, Tryz.ntmps270
      go_wp2_with (go_at_call 269; refine hcall.out.mono ?_; rintro _ _ ⟨rfl, rfl⟩)
      go_ret
      rw [hk.out]
      exact ⟨rfl, Dr.refl _⟩
    · have hk : Hid (k.put key val = (0, k.ins key val)) := by unfold Hid AK.put; rw [hf]; simp only []; rw [if_neg h4]
      have hr := hidIt (AK.ins_r k key val)
      clear hf
      unfold AK.r at hcall ⊢
      generalize hn : k.ps.length = n at *
      have n4 : (n : Int) < 4 := by omega
      clear h4 hl hn
      have Hs := fun (α : Type) (f : Nat → α) j h => hidIt (shF_step f n j h)
      go_enter Tryz.func270, Tryz.ntmps270
      go_wp2_with (go_at_call 269; refine hcall.out.mono ?_; rintro _ _ ⟨rfl, rfl⟩)
      go_loopw [8] (fun i u => ∃ (j : Nat), j ≤ n ∧ i = vi j ∧ Hid (insP k.key key n = insP k.key key j) ∧ Dr (w.put b (KvM.cells ⟨n, shF k.key n j, shF k.val n j, k.seq, k.ans⟩) 186) u) (fun i _ => (intOf i).toNat)
      case atStart => exact ⟨n, Nat.le_refl _, rfl, rfl, by rw [shF_start, shF_start]; exact Dr.refl _⟩
      case round =>
        obtain ⟨j, hj, rfl, hp, m, rfl⟩ := hrel
        cases j with
        | zero =>
          have Hp : Hid (insP k.key key n = 0) := hp
          go_wp2_with fail
          refine Ord.region1 [2, 3, 5, 10, 11] [0, 1, 4, 6, 7, 8] [9, 12, 13] (by kernel_rfl) (by kernel_rfl) (fun _ _ d _ _ h => by cases d <;> exact h) ?_
          simp only [Ord.pickO, Ord.nth]
          repeat (go_big_quiet_step (fail))
          refine wpQuiet_nil ?_
          repeat (go_big_quiet_step (fail))
          refine wpQuiet_nil ?_
          go_wp2_with fail
          go_ret
          rw [hk.out]
          have he := hr.out
          unfold AK.r at he
          refine ⟨rfl, ?_⟩
          simp only [] at he ⊢
          rw [he, Hp.out]
          exact ((Dr.refl _).drewN _).drew
        | succ j =>
          have j4 : j < 4 := by omega
          have j4' : j + 1 < 4 := by omega
          have hsj : shF k.key n (j + 1) j = k.key j := by unfold shF; rw [if_neg (by omega)]
          cases hlt : Op.bytesLess key (k.key j)
          · have Hp : Hid (insP k.key key n = j + 1) := by unfold Hid; rw [hp.out, insP, hlt]; simp
            go_wp2_with fail
            refine Ord.region1 [2, 3, 5, 10, 11] [0, 1, 4, 6, 7, 8] [9, 12, 13] (by kernel_rfl) (by kernel_rfl) (fun _ _ d _ _ h => by cases d <;> exact h) ?_
            simp only [Ord.pickO, Ord.nth]
            repeat (go_big_quiet_step (fail))
            refine wpQuiet_nil ?_
            repeat (go_big_quiet_step (fail))
            refine wpQuiet_nil ?_
            go_wp2_with fail
            go_ret
            rw [hk.out]
            have he := hr.out
            unfold AK.r at he
            refine ⟨rfl, ?_⟩
            simp only [] at he ⊢
            rw [he, Hp.out]
            exact ((Dr.refl _).drewN _).drew
          · have Hp : Hid (insP k.key key n = insP k.key key j) := by unfold Hid; rw [hp.out, insP, hlt]; simp
            have H1 := (Hs _ k.key j hj).out
            have H2 := (Hs _ k.val j hj).out
            rw [hsj] at H1
            have H1' := hidIt H1
            have H2' := hidIt H2
            clear H1 H2 Hs
            go_wp2_with fail
            refine Ord.region1 [2, 3, 22, 23] [0, 1, 4, 5, 6, 7, 8, 9, 10, 11, 12, 13, 14, 15, 16, 17, 18, 19, 20] [21, 24, 25] (by kernel_rfl) (by kernel_rfl) (fun _ _ d _ _ h => by cases d <;> exact h) ?_
            simp only [Ord.pickO, Ord.nth]
            repeat (go_big_quiet_step (fail))
            refine wpQuiet_nil ?_
            repeat (go_big_quiet_step (fail))
            refine wpQuiet_nil ?_
            go_wp2_with fail
            go_roundw
            case rel => exact ⟨j, by omega, by go_num, Hp, by rw [H1'.out, H2'.out]; exact (Dr.refl _).drewN _⟩
            case measure => simp [intOf]
end Go.Proofs.Qxb6500990aGreat
