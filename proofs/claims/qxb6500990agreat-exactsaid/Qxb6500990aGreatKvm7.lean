/- package kvm: Restore -/
import Derived.Test.Qxb6500990aGreatKvm6
set_option linter.unusedVariables false
set_option linter.unusedSimpArgs false
namespace Go.Tw
open Go Go.Proofs Go.Proofs.Qxb6500990aGreat
def restT2 (s : Bs) (ps : List (Bs × Bs)) : Option (List (Int × Ans) × Int) → Option AK
  | none => none
  | some (ss, q) => if q = s.length then some (ofSess ps ss) else none
def restT (s : Bs) : Option (List (Bs × Bs) × Int) → Option AK
  | none => none
  | some (ps, p) => restT2 s ps (rSess s p 3)
theorem restoreO_eq (s : Bs) : restoreO s = if s.length < 1 ∨ 4 < byt s 0 then none else restT s (rPairs s (byt s 0).toNat) := by
  unfold restoreO
  split
  · rfl
  · unfold restT restT2; rfl
theorem rPairs_succ {s : Bs} {i : Nat} {ps : List (Bs × Bs)} {p : Int} (h : rPairs s i = some (ps, p)) : rPairs s (i + 1) = if (takeS s (takeS s p 1 2).2 0 3).2 < 0 ∨ (0 < i ∧ Op.bytesLess (keyF ps (i - 1)) (takeS s p 1 2).1 = false) then none
      else some (ps ++ [((takeS s p 1 2).1, (takeS s (takeS s p 1 2).2 0 3).1)], (takeS s (takeS s p 1 2).2 0 3).2) := by
  show (match rPairs s i with | none => none | some (ps, p) => _) = _
  rw [h]; rfl
theorem rSess_succ {s : Bs} {p0 : Int} {i : Nat} {ss : List (Int × Ans)} {p : Int} (h : rSess s p0 i = some (ss, p)) : rSess s p0 (i + 1) = if getU64 s p < 0 ∨ (s.length : Int) ≤ p + 8 ∨ 16 ≤ byt s (p + 8).toNat ∨ (takeS s (p + 9) 0 3).2 < 0 then none
      else some (ss ++ [(getU64 s p, ⟨byt s (p + 8).toNat, (takeS s (p + 9) 0 3).1⟩)], (takeS s (p + 9) 0 3).2) := by
  show (match rSess s p0 i with | none => none | some (ps, p) => _) = _
  rw [h]
end Go.Tw
namespace Go.Proofs.Qxb6500990aGreat
open Go Go.RowKit Go.Tw
attribute [local go_sem] World.cell?_put_same World.cell?_put_ne World.cell?_put_ne' World.frozen?_put_same World.frozen?_put_ne World.frozen?_put_ne' World.setCell_put_same World.setCell_put_ne World.setCell_put_ne' World.inB_put World.inB_alloc World.inB_drew World.inB_drewN World.inB_new World.inB_setCell World.put_drew World.put_drewN World.q_setCell_drew World.q_setCell_drewN World.q_alloc_drew World.q_alloc_drewN World.put_put_same World.put_put_2 World.size_put World.q_cell?_alloc_old World.q_frozen?_alloc_old World.cell?_alloc_new' World.frozen?_alloc_new' World.q_setCell_alloc_old World.q_setCell_alloc_new World.q_put_alloc_old World.cell?_force_same World.frozen?_force_same World.cell?_force2_fst World.cell?_force2_snd KvM.g0 KvM.s0 KvM.g1 KvM.s1 KvM.g2 KvM.s2 KvM.g3 KvM.s3 KvM.g4 KvM.s4 KvM.g5 KvM.s5 KvM.g6 KvM.s6 KvM.g7 KvM.s7 KvM.g8 KvM.s8 KvM.g9 KvM.s9 KvM.g10 KvM.s10 KvM.g11 KvM.s11 KvM.g12 KvM.s12 KvM.g13 KvM.s13 KvM.g14 KvM.s14 KvM.g15 KvM.s15 KvM.g16 KvM.s16 KvM.g17 KvM.s17 KvM.gi_keys_0 KvM.si_keys_0 KvM.gi_vals_0 KvM.si_vals_0 KvM.gi_seq_0 KvM.si_seq_0 KvM.gi_ans_0 KvM.si_ans_0 KvM.gi_ans_1 KvM.si_ans_1 Ans.g0 Ans.s0 Ans.g1 Ans.s1
attribute [local go_sem] KvM.gia_ans_1_ KvM.sia_ans_1
attribute [local go_sem] ba_get upd_same upd_upd w64_byte
set_option maxHeartbeats 4000000
set_option maxRecDepth 100000
theorem c131_bad {W : World} {b : Nat} {k : AK} (h : W.At b k.r.cells 186) (s : Bs) (hs : s.length ≤ 1000) (hres : Hid (restoreO s = none)) : Calls Tryz.prog 131 #[vp b, vs s] W fun r w' => r = .returned (vi (k.restore s).1) ∧ w'.At b (k.restore s).2.r.cells 186 ∧ ModP (fun x => x = b) W w' := by
  obtain ⟨w, rfl, hb⟩ := h.door
  clear h
  by_cases h1 : s.length < 1
  · have hk : Hid (k.restore s = (15, k)) := by unfold Hid AK.restore restoreO; rw [if_pos (.inl h1)]
    have h1' : (s.length : Int) < 1 := by omega
    go_enter Tryz.func131, Tryz.ntmps131
    go_wp2_with fail
    go_ret
    rw [hk.out]
    exact ⟨rfl, (by repeat (first | assumption | exact World.At_alloc_new | exact at_new (by first | rfl | (simp [World.size_put]; done) | (simp [World.size_put]; omega)) | refine World.At.alloc ?_ _ | refine World.At_drew.2 ?_ | refine (World.At_drewN _).2 ?_ | exact World.At_put_same (by first | assumption | (simp only [World.inB, World.size_put, World.alloc, World.drew, World.drewN, Array.size_push] at *; omega)) | refine (World.At_put_ne' (by first | assumption | (exact Ne.symm (by assumption)) | (simp only [World.inB, World.size_put] at *; omega))).2 ?_)), (by refine ModP.fromPut ?_ ?_; rotate_left; rfl; repeat (first | exact ModP.refl _ _ | apply ModP.alloc | apply ModP.drew | apply ModP.drewN | (refine ModP.put ?_ (Or.inl ?_) _ _; rotate_left; rfl)))⟩
  have hl : 0 < s.length := by omega
  have hl' : (0 : Int) < s.length := by omega
  have hl1 : (1 : Int) ≤ s.length := by omega
  have hby : byt s 0 = (s[0].toNat : Int) := by unfold byt; simp [hl]
  by_cases h2 : (4 : Int) < (s[0].toNat : Int)
  · have hk : Hid (k.restore s = (15, k)) := by unfold Hid AK.restore restoreO; rw [if_pos (.inr (by rw [hby]; exact h2))]
    clear hby h1
    go_enter Tryz.func131, Tryz.ntmps131
    go_wp2_with fail
    go_ret
    rw [hk.out]
    exact ⟨rfl, (by repeat (first | assumption | exact World.At_alloc_new | exact at_new (by first | rfl | (simp [World.size_put]; done) | (simp [World.size_put]; omega)) | refine World.At.alloc ?_ _ | refine World.At_drew.2 ?_ | refine (World.At_drewN _).2 ?_ | exact World.At_put_same (by first | assumption | (simp only [World.inB, World.size_put, World.alloc, World.drew, World.drewN, Array.size_push] at *; omega)) | refine (World.At_put_ne' (by first | assumption | (exact Ne.symm (by assumption)) | (simp only [World.inB, World.size_put] at *; omega))).2 ?_)), (by refine ModP.fromPut ?_ ?_; rotate_left; rfl; repeat (first | exact ModP.refl _ _ | apply ModP.alloc | apply ModP.drew | apply ModP.drewN | (refine ModP.put ?_ (Or.inl ?_) _ _; rotate_left; rfl)))⟩
  have h2' : (s[0].toNat : Int) ≤ 4 := by omega
  have hk0 : restoreO s = restT s (rPairs s s[0].toNat) := by
    rw [restoreO_eq, if_neg (by rw [hby]; omega), hby]; rfl
  have hkn : Hid (restoreO s = none → k.restore s = (15, k)) := by intro e; unfold AK.restore; rw [e]
  have hks : Hid (∀ k', restoreO s = some k' → k.restore s = (0, k')) := by intro k' e; unfold AK.restore; rw [e]
  have Hk0 := hidIt hk0
  have H1 := hidIt (show 1 ≤ s.length by omega)
  clear hk0 hby h1 h2
  have n4 : s[0].toNat ≤ 4 := by omega
  go_enter Tryz.func131, Tryz.ntmps131
  go_wp2_with fail
  go_loopw [6, 7] (fun pv iv u => ∃ (i : Nat) (ps : List (Bs × Bs)) (p : Int), i ≤ s[0].toNat ∧ iv = vi i ∧ pv = vi p ∧ Hid (rPairs s i = some (ps, p)) ∧ Dr ((w.put b k.r.cells 186).alloc (.cells (KvM.cells ⟨s[0].toNat, keyF ps, valF ps, fun _ => 0, fun _ => ⟨0, []⟩⟩) 186 (0, 0))) u) (fun _ iv _ => s[0].toNat - (intOf iv).toNat)
  case atStart => exact ⟨0, [], 1, Nat.zero_le _, rfl, rfl, rfl, Dr.refl _⟩
  case round =>
    obtain ⟨i, ps, p, hi, rfl, rfl, hr, m, rfl⟩ := hrel
    obtain ⟨lps, p0, p1⟩ := rPairs_len H1.out i ps p hr.out
    by_cases hin : i < s[0].toNat
    · have i4 : i < 4 := by omega
      have hsu := rPairs_succ hr.out
      have hb1 := takeS_bd s p 1 2 p0
      obtain ⟨⟨kx, p2⟩, ht1⟩ : ∃ x, takeS s p 1 2 = x := ⟨_, rfl⟩
      rw [ht1] at hsu hb1
      simp only [] at hsu hb1
      obtain ⟨b10, b11⟩ := hb1
      have hb2 := takeS_bd s p2 0 3 b10
      obtain ⟨⟨vx, p3⟩, ht2⟩ : ∃ x, takeS s p2 0 3 = x := ⟨_, rfl⟩
      rw [ht2] at hsu hb2
      simp only [] at hsu hb2
      obtain ⟨b20, b21⟩ := hb2
      have Ht1 := hidIt ht1
      have Ht2 := hidIt ht2
      clear ht1 ht2
      have Lps := hidIt lps
      have Hn := hidIt (fun (e : rPairs s (i + 1) = none) => (show rPairs s s[0].toNat = none from rPairs_none _ (i + 1) (by omega) e))
      by_cases hneg : p3 < 0
      · have hz := Hn.out (by rw [hsu, if_pos (.inl hneg)])
        have hfin : Hid (k.restore s = (15, k)) := hkn.out (Hk0.out.trans (congrArg (restT s) hz))
        clear hz
        clear hsu lps
        go_wp2_with (first
          | (go_at_call 183; refine (c183 _ s hs _ _ _ (by omega) (by omega) (by omega) (by omega)).mono ?_; rintro _ _ ⟨rfl, rfl⟩; first | rw [Ht1.out] | rw [Ht2.out]))
        refine Ord.region1 [] [0, 1, 2, 3, 4, 5, 6, 7, 8, 9, 10, 11, 12, 13, 14, 15, 16] [17] (by kernel_rfl) (by kernel_rfl) (fun _ _ d _ _ h => by cases d <;> exact h) ?_
        simp only [Ord.pickO, Ord.nth]
        refine wpQuiet_nil ?_
        repeat (go_big_quiet_step (fail))
        refine wpQuiet_nil ?_
        go_wp2_with fail
        go_ret
        rw [hfin.out]
        exact ⟨rfl, (by repeat (first | assumption | exact World.At_alloc_new | exact at_new (by first | rfl | (simp [World.size_put]; done) | (simp [World.size_put]; omega)) | refine World.At.alloc ?_ _ | refine World.At_drew.2 ?_ | refine (World.At_drewN _).2 ?_ | exact World.At_put_same (by first | assumption | (simp only [World.inB, World.size_put, World.alloc, World.drew, World.drewN, Array.size_push] at *; omega)) | refine (World.At_put_ne' (by first | assumption | (exact Ne.symm (by assumption)) | (simp only [World.inB, World.size_put] at *; omega))).2 ?_)), (by refine ModP.fromPut ?_ ?_; rotate_left; rfl; repeat (first | exact ModP.refl _ _ | apply ModP.alloc | apply ModP.drew | apply ModP.drewN | (refine ModP.put ?_ (Or.inl ?_) _ _; rotate_left; rfl)))⟩
      have hneg' : 0 ≤ p3 := by omega
      have hdn : decide (p3 < 0) = false := by simp; omega
      by_cases hasc : 0 < i ∧ Op.bytesLess (keyF ps (i - 1)) kx = false
      · have hz := Hn.out (by rw [hsu, if_pos (.inr hasc)])
        have hfin : Hid (k.restore s = (15, k)) := hkn.out (Hk0.out.trans (congrArg (restT s) hz))
        obtain ⟨i', rfl⟩ : ∃ i', i = i' + 1 := ⟨i - 1, by omega⟩
        have hlt : Op.bytesLess (keyF ps i') kx = false := hasc.2
        have hku : upd (keyF ps) (i' + 1) kx i' = keyF ps i' := by unfold upd; rw [if_neg (by omega)]
        have i4' : i' < 4 := by omega
        clear hsu lps hz hasc
        go_wp2_with (first
          | (go_at_call 183; refine (c183 _ s hs _ _ _ (by omega) (by omega) (by omega) (by omega)).mono ?_; rintro _ _ ⟨rfl, rfl⟩; first | rw [Ht1.out] | rw [Ht2.out]))
        refine Ord.region1 [] [0, 1, 2, 3, 4, 5, 6, 7, 8, 9, 10, 11, 12, 13, 14, 15, 16] [17] (by kernel_rfl) (by kernel_rfl) (fun _ _ d _ _ h => by cases d <;> exact h) ?_
        simp only [Ord.pickO, Ord.nth]
        refine wpQuiet_nil ?_
        repeat (go_big_quiet_step (fail))
        refine wpQuiet_nil ?_
        go_wp2_with fail
        go_ret
        rw [hfin.out]
        exact ⟨rfl, (by repeat (first | assumption | exact World.At_alloc_new | exact at_new (by first | rfl | (simp [World.size_put]; done) | (simp [World.size_put]; omega)) | refine World.At.alloc ?_ _ | refine World.At_drew.2 ?_ | refine (World.At_drewN _).2 ?_ | exact World.At_put_same (by first | assumption | (simp only [World.inB, World.size_put, World.alloc, World.drew, World.drewN, Array.size_push] at *; omega)) | refine (World.At_put_ne' (by first | assumption | (exact Ne.symm (by assumption)) | (simp only [World.inB, World.size_put] at *; omega))).2 ?_)), (by refine ModP.fromPut ?_ ?_; rotate_left; rfl; repeat (first | exact ModP.refl _ _ | apply ModP.alloc | apply ModP.drew | apply ModP.drewN | (refine ModP.put ?_ (Or.inl ?_) _ _; rotate_left; rfl)))⟩
      · have hnx : Hid (rPairs s (i + 1) = some (ps ++ [(kx, vx)], p3)) := by unfold Hid; rw [hsu, if_neg (fun h => h.elim hneg hasc)]
        have E1 := hidIt (keyF_snoc ps kx vx)
        have E2 := hidIt (valF_snoc ps kx vx)
        rw [lps] at E1 E2
        clear hsu lps
        cases i with
        | zero =>
          go_wp2_with (first
            | (go_at_call 183; refine (c183 _ s hs _ _ _ (by omega) (by omega) (by omega) (by omega)).mono ?_; rintro _ _ ⟨rfl, rfl⟩; first | rw [Ht1.out] | rw [Ht2.out]))
          refine Ord.region1 [] [0, 1, 2, 3, 4, 5, 6, 7, 8, 9, 10, 11, 12, 13, 14, 15, 16] [17] (by kernel_rfl) (by kernel_rfl) (fun _ _ d _ _ h => by cases d <;> exact h) ?_
          simp only [Ord.pickO, Ord.nth]
          refine wpQuiet_nil ?_
          repeat (go_big_quiet_step (fail))
          refine wpQuiet_nil ?_
          go_wp2_with fail
          go_roundw
          case rel => exact ⟨1, ps ++ [(kx, vx)], p3, by omega, rfl, rfl, hnx, by rw [E1.out, E2.out]; exact (Dr.refl _).drewN _⟩
          case measure => simp [intOf]; omega
        | succ i' =>
          have hlt : Op.bytesLess (keyF ps i') kx = true := by
            cases hh : Op.bytesLess (keyF ps i') kx
            · exact absurd ⟨by omega, hh⟩ hasc
            · rfl
          have hku : upd (keyF ps) (i' + 1) kx i' = keyF ps i' := by unfold upd; rw [if_neg (by omega)]
          have i4' : i' < 4 := by omega
          clear hasc
          go_wp2_with (first
            | (go_at_call 183; refine (c183 _ s hs _ _ _ (by omega) (by omega) (by omega) (by omega)).mono ?_; rintro _ _ ⟨rfl, rfl⟩; first | rw [Ht1.out] | rw [Ht2.out]))
          refine Ord.region1 [] [0, 1, 2, 3, 4, 5, 6, 7, 8, 9, 10, 11, 12, 13, 14, 15, 16] [17] (by kernel_rfl) (by kernel_rfl) (fun _ _ d _ _ h => by cases d <;> exact h) ?_
          simp only [Ord.pickO, Ord.nth]
          refine wpQuiet_nil ?_
          repeat (go_big_quiet_step (fail))
          refine wpQuiet_nil ?_
          go_wp2_with fail
          go_roundw
          case rel => exact ⟨i' + 1 + 1, ps ++ [(kx, vx)], p3, by omega, by go_num, rfl, hnx, by rw [E1.out, E2.out]; exact (Dr.refl _).drewN _⟩
          case measure => simp [intOf]; omega
    · obtain rfl : i = s[0].toNat := by omega
      have Hk1 : Hid (restoreO s = restT2 s ps (rSess s p 3)) := Hk0.out.trans (congrArg (restT s) hr.out)
      have LP := hidIt lps
      clear Hk0 hin hi lps hr
      go_wp2_with fail
      go_loopw [6, 8] (fun pv iv u => ∃ (c : Nat) (ss : List (Int × Ans)) (q : Int), c ≤ 3 ∧ iv = vi c ∧ pv = vi q ∧ Hid (rSess s p c = some (ss, q)) ∧ Dr ((w.put b k.r.cells 186).alloc (.cells (KvM.cells ⟨s[0].toNat, keyF ps, valF ps, seqF ss, ansF ss⟩) 186 (0, 0))) u) (fun _ iv _ => 3 - (intOf iv).toNat)
      case atStart => exact ⟨0, [], p, by omega, rfl, rfl, rfl, (Dr.refl _).drewN _⟩
      case round =>
        obtain ⟨c, ss, q, hc, rfl, rfl, hr, m', rfl⟩ := hrel
        obtain ⟨lss, q0, q1⟩ := rSess_len p0 p1 c ss q hr.out
        by_cases hc3 : c < 3
        · have hsu := rSess_succ hr.out
          have Hn := hidIt (fun (e : rSess s p (c + 1) = none) => (Hk1.out.trans (congrArg (restT2 s ps) (rSess_none 3 (c + 1) (by omega) e))))
          have Hg : ∃ g, getU64 s q = g := ⟨_, rfl⟩
          obtain ⟨g, hg⟩ := Hg
          rw [hg] at hsu
          have HG := hidIt hg
          clear hg
          by_cases hneg : g < 0
          · have hfin : Hid (k.restore s = (15, k)) := hkn.out (Hn.out (by rw [hsu, if_pos (.inl hneg)]))
            clear hsu lss
            go_wp2_with (first
              | (go_at_call 184; refine (c184 _ s hs _ (by omega) (by omega)).mono ?_; rintro _ _ ⟨rfl, rfl⟩; rw [HG.out]))
            go_ret
            rw [hfin.out]
            exact ⟨rfl, (by repeat (first | assumption | exact World.At_alloc_new | exact at_new (by first | rfl | (simp [World.size_put]; done) | (simp [World.size_put]; omega)) | refine World.At.alloc ?_ _ | refine World.At_drew.2 ?_ | refine (World.At_drewN _).2 ?_ | exact World.At_put_same (by first | assumption | (simp only [World.inB, World.size_put, World.alloc, World.drew, World.drewN, Array.size_push] at *; omega)) | refine (World.At_put_ne' (by first | assumption | (exact Ne.symm (by assumption)) | (simp only [World.inB, World.size_put] at *; omega))).2 ?_)), (by refine ModP.fromPut ?_ ?_; rotate_left; rfl; repeat (first | exact ModP.refl _ _ | apply ModP.alloc | apply ModP.drew | apply ModP.drewN | (refine ModP.put ?_ (Or.inl ?_) _ _; rotate_left; rfl)))⟩
          have hq0 : 0 ≤ q := by
            have := HG.out
            unfold getU64 at this
            split at this <;> omega
          obtain ⟨n, rfl⟩ := Int.eq_ofNat_of_zero_le hq0
          obtain ⟨n8, e8⟩ : ∃ n8 : Nat, (n : Int) + 8 = n8 := ⟨n + 8, by omega⟩
          by_cases hl8 : (s.length : Int) ≤ (n : Int) + 8
          · have hfin : Hid (k.restore s = (15, k)) := hkn.out (Hn.out (by rw [hsu, if_pos (.inr (.inl hl8))]))
            clear hsu lss
            go_wp2_with (first
              | (go_at_call 184; refine (c184 _ s hs _ (by omega) (by omega)).mono ?_; rintro _ _ ⟨rfl, rfl⟩; rw [HG.out]))
            go_ret
            rw [hfin.out]
            exact ⟨rfl, (by repeat (first | assumption | exact World.At_alloc_new | exact at_new (by first | rfl | (simp [World.size_put]; done) | (simp [World.size_put]; omega)) | refine World.At.alloc ?_ _ | refine World.At_drew.2 ?_ | refine (World.At_drewN _).2 ?_ | exact World.At_put_same (by first | assumption | (simp only [World.inB, World.size_put, World.alloc, World.drew, World.drewN, Array.size_push] at *; omega)) | refine (World.At_put_ne' (by first | assumption | (exact Ne.symm (by assumption)) | (simp only [World.inB, World.size_put] at *; omega))).2 ?_)), (by refine ModP.fromPut ?_ ?_; rotate_left; rfl; repeat (first | exact ModP.refl _ _ | apply ModP.alloc | apply ModP.drew | apply ModP.drewN | (refine ModP.put ?_ (Or.inl ?_) _ _; rotate_left; rfl)))⟩
          have l8 : n8 < s.length := by omega
          have l8' : (n8 : Int) < s.length := by omega
          have hby : byt s ((n : Int) + 8).toNat = (s[n8].toNat : Int) := by rw [e8]; unfold byt; simp [l8]
          have bl := byte_lt s[n8]
          rw [hby] at hsu
          by_cases h16 : (16 : Int) ≤ (s[n8].toNat : Int)
          · have hfin : Hid (k.restore s = (15, k)) := hkn.out (Hn.out (by rw [hsu, if_pos (.inr (.inr (.inl h16)))]))
            clear hsu lss hby
            go_wp2_with (first
              | (go_at_call 184; refine (c184 _ s hs _ (by omega) (by omega)).mono ?_; rintro _ _ ⟨rfl, rfl⟩; rw [HG.out]))
            go_ret
            rw [hfin.out]
            exact ⟨rfl, (by repeat (first | assumption | exact World.At_alloc_new | exact at_new (by first | rfl | (simp [World.size_put]; done) | (simp [World.size_put]; omega)) | refine World.At.alloc ?_ _ | refine World.At_drew.2 ?_ | refine (World.At_drewN _).2 ?_ | exact World.At_put_same (by first | assumption | (simp only [World.inB, World.size_put, World.alloc, World.drew, World.drewN, Array.size_push] at *; omega)) | refine (World.At_put_ne' (by first | assumption | (exact Ne.symm (by assumption)) | (simp only [World.inB, World.size_put] at *; omega))).2 ?_)), (by refine ModP.fromPut ?_ ?_; rotate_left; rfl; repeat (first | exact ModP.refl _ _ | apply ModP.alloc | apply ModP.drew | apply ModP.drewN | (refine ModP.put ?_ (Or.inl ?_) _ _; rotate_left; rfl)))⟩
          have h16' : (s[n8].toNat : Int) < 16 := by omega
          have hb3 := takeS_bd s ((n : Int) + 9) 0 3 (by omega)
          obtain ⟨⟨vx, p3⟩, ht⟩ : ∃ x, takeS s ((n : Int) + 9) 0 3 = x := ⟨_, rfl⟩
          rw [ht] at hsu hb3
          simp only [] at hsu hb3
          obtain ⟨b30, b31⟩ := hb3
          have HT := hidIt ht
          clear ht
          by_cases hp3 : p3 < 0
          · have hfin : Hid (k.restore s = (15, k)) := hkn.out (Hn.out (by rw [hsu, if_pos (.inr (.inr (.inr hp3)))]))
            clear hsu lss hby
            go_wp2_with (first
              | (go_at_call 184; refine (c184 _ s hs _ (by omega) (by omega)).mono ?_; rintro _ _ ⟨rfl, rfl⟩; rw [HG.out])
              | (go_at_call 183; refine (c183 _ s hs _ _ _ (by omega) (by omega) (by omega) (by omega)).mono ?_; rintro _ _ ⟨rfl, rfl⟩; rw [HT.out]))
            go_ret
            rw [hfin.out]
            exact ⟨rfl, (by repeat (first | assumption | exact World.At_alloc_new | exact at_new (by first | rfl | (simp [World.size_put]; done) | (simp [World.size_put]; omega)) | refine World.At.alloc ?_ _ | refine World.At_drew.2 ?_ | refine (World.At_drewN _).2 ?_ | exact World.At_put_same (by first | assumption | (simp only [World.inB, World.size_put, World.alloc, World.drew, World.drewN, Array.size_push] at *; omega)) | refine (World.At_put_ne' (by first | assumption | (exact Ne.symm (by assumption)) | (simp only [World.inB, World.size_put] at *; omega))).2 ?_)), (by refine ModP.fromPut ?_ ?_; rotate_left; rfl; repeat (first | exact ModP.refl _ _ | apply ModP.alloc | apply ModP.drew | apply ModP.drewN | (refine ModP.put ?_ (Or.inl ?_) _ _; rotate_left; rfl)))⟩
          · have hnx : Hid (rSess s p (c + 1) = some (ss ++ [(g, ⟨s[n8].toNat, vx⟩)], p3)) := by
              unfold Hid; rw [hsu, if_neg (fun h => h.elim hneg (fun h => h.elim hl8 (fun h => h.elim h16 hp3)))]
            have E1 := hidIt (seqF_snoc ss g ⟨s[n8].toNat, vx⟩)
            have E2 := hidIt (ansF_snoc ss g ⟨s[n8].toNat, vx⟩)
            rw [lss] at E1 E2
            clear hsu lss hby
            go_wp2_with (first
              | (go_at_call 184; refine (c184 _ s hs _ (by omega) (by omega)).mono ?_; rintro _ _ ⟨rfl, rfl⟩; rw [HG.out])
              | (go_at_call 183; refine (c183 _ s hs _ _ _ (by omega) (by omega) (by omega) (by omega)).mono ?_; rintro _ _ ⟨rfl, rfl⟩; rw [HT.out]))
            go_roundw
            case rel => exact ⟨c + 1, ss ++ [(g, ⟨s[n8].toNat, vx⟩)], p3, by omega, by go_num, rfl, hnx, by rw [E1.out, E2.out]; exact (Dr.refl _).drewN _⟩
            case measure => simp [intOf]; omega
        · obtain rfl : c = 3 := by omega
          have Hk2 : Hid (restoreO s = if q = s.length then some (ofSess ps ss) else none) := Hk1.out.trans (congrArg (restT2 s ps) hr.out)
          clear hc3 hc Hk1 hr
          by_cases hq : q = s.length
          · exact absurd (Hk2.out.symm.trans hres.out) (by rw [if_pos hq]; simp)
          · have hfin : Hid (k.restore s = (15, k)) := hkn.out (by rw [Hk2.out, if_neg hq])
            have hq' : (q == (s.length : Int)) = false := by simpa using hq
            clear Hk2
            go_wp2_with fail
            go_ret
            rw [hfin.out]
            exact ⟨rfl, (by repeat (first | assumption | exact World.At_alloc_new | exact at_new (by first | rfl | (simp [World.size_put]; done) | (simp [World.size_put]; omega)) | refine World.At.alloc ?_ _ | refine World.At_drew.2 ?_ | refine (World.At_drewN _).2 ?_ | exact World.At_put_same (by first | assumption | (simp only [World.inB, World.size_put, World.alloc, World.drew, World.drewN, Array.size_push] at *; omega)) | refine (World.At_put_ne' (by first | assumption | (exact Ne.symm (by assumption)) | (simp only [World.inB, World.size_put] at *; omega))).2 ?_)), (by refine ModP.fromPut ?_ ?_; rotate_left; rfl; repeat (first | exact ModP.refl _ _ | apply ModP.alloc | apply ModP.drew | apply ModP.drewN | (refine ModP.put ?_ (Or.inl ?_) _ _; rotate_left; rfl)))⟩
end Go.Proofs.Qxb6500990aGreat
