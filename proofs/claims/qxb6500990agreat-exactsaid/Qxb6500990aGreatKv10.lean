/- package kv: sorted -/
import Derived.Test.Qxb6500990aGreatKv9
import Derived.Test.Qxb6500990aGreatKt3
set_option linter.unusedVariables false
set_option linter.unusedSimpArgs false
namespace Go.Proofs.Qxb6500990aGreat
open Go Go.RowKit Go.Tw
attribute [local go_sem] World.cell?_put_same World.cell?_put_ne World.cell?_put_ne' World.frozen?_put_same World.frozen?_put_ne World.frozen?_put_ne' World.setCell_put_same World.setCell_put_ne World.setCell_put_ne' World.inB_put World.inB_alloc World.inB_drew World.inB_drewN World.inB_new World.inB_setCell World.put_drew World.put_drewN World.q_setCell_drew World.q_setCell_drewN World.q_alloc_drew World.q_alloc_drewN World.put_put_same World.put_put_2 World.size_put World.q_cell?_alloc_old World.q_frozen?_alloc_old World.cell?_alloc_new' World.frozen?_alloc_new' World.q_setCell_alloc_old World.q_setCell_alloc_new World.q_put_alloc_old World.cell?_force_same World.frozen?_force_same World.cell?_force2_fst World.cell?_force2_snd KvX.g0 KvX.g1 KvX.g2 KvX.g3 KvX.g4 KvX.g5 KvX.g6 KvX.g7 KvX.g8 KvX.g9 KvX.g10 KvX.g11 KvX.g12 KvX.g13 KvX.g14 KvX.g15 KvX.g16 KvX.g17 KvX.g18 KvX.g19 KvX.g20 KvX.g21 KvX.g22 KvX.g23 KvX.g24 KvX.g25 KvX.g26 KvX.g27 KvX.g28 KvX.g29 KvX.g30 KvX.g31 KvX.g32 KvX.g33 KvX.g34 KvX.g35 KvX.g36 KvX.g37 KvX.g38 KvX.g39 KvX.g40 KvX.g41 KvX.g42 KvX.g43 KvX.g44 KvX.g45 KvX.g46 KvX.g47 KvX.g48 KvX.g49 KvX.g50 KvX.g51 KvX.g52 KvX.g53 KvX.g54 KvX.g55 KvX.g56 KvX.g57 KvX.g58 KvX.g59 KvX.g60 KvX.g61 KvX.g62 KvX.g63 KvX.g64 KvX.g65 KvX.g66 KvX.g67 KvX.g68 KvX.g69 KvX.g70 KvX.g71 KvX.g72 KvX.g73 KvX.g74 KvX.g75 KvX.g76 KvX.g77 KvX.g78 KvX.g79 KvX.g80 KvX.g81 KvX.g82 KvX.g83 KvX.gi_cells__0 KvX.gi_cells__1 KvX.gi_cells__2 KvX.gi_cells__3 KvX.gi_cells__4 KvX.gi_cells__5 KvX.gi_cells__6 KvX.gi_cells__7 KvX.gi_ss_0 KvX.gi_ss_1 KvX.gi_ss_2 KvX.gi_ss_3 KvX.gi_ss_4 KvX.gi_ss_5 KvX.gia_cells__1 KvX.gia_cells__2 KvX.gia_cells__3 KvX.gia_cells__4 KvX.gia_cells__5 KvX.gia_cells__6 KvX.gia_cells__7 KvX.gia_ss_1 KvX.gia_ss_2 KvX.gia_ss_3 KvX.gia_ss_4 KvX.gia_ss_5 KvX.pa_cells_ KvX.pa_ss KvX.s64 KvX.s65 Cell.g0 Cell.s0 Cell.g1 Cell.s1 Cell.g2 Cell.s2 Cell.g3 Cell.s3 Cell.g4 Cell.s4 Cell.g5 Cell.s5 Cell.g6 Cell.s6 Cell.g7 Cell.s7 Cell.gi_key_0 Cell.si_key_0 Cell.gi_val_0 Cell.si_val_0 At4.g0 At4.s0 At4.g1 At4.s1 At4.g2 At4.s2 At4.g3 At4.s3 At4.gi_at__0 At4.si_at__0
attribute [local go_sem] ba_get
set_option maxHeartbeats 4000000
set_option maxRecDepth 100000
theorem _root_.Go.ModP.back {W w' : World} {b : Nat} {c : Array Value} {T : TypeId} (m : ModP (fun x => x = b) W w') (h0 : W.At b c T) (h1 : w'.At b c T) : ModP (fun _ => False) W w' :=
  ⟨m.os, m.tape, m.output, m.size, fun k hk _ => by
    by_cases e : k = b
    · subst e; unfold World.At at h0 h1; rw [h0, h1]
    · exact m.block k hk e⟩
def atF (S : List Nat) : Nat → Int := fun m => ((S.getD m 0 : Nat) : Int)
theorem atF_ins (S : List Nat) (i j : Nat) (hj : j ≤ S.length) : upd (shF (atF S) S.length j) j (i : Int) = atF (S.take j ++ i :: S.drop j) := by
  funext m
  unfold atF
  rw [getD_ins _ _ _ _ _ hj]
  unfold upd shF
  by_cases h1 : m = j
  · simp [h1]
  · simp only [h1, if_false]; split <;> rfl
theorem c258 {W : World} {b : Nat} {K : KvX} (h : W.At b K.cells 175) {ps : List (Bs × Bs)} (T : Tab K.cells_ ps) (n4 : ps.length ≤ 4) : Calls Tryz.prog 258 #[vp b] W fun r w' => ∃ S, r = .returned (.agg (At4.cells ⟨atF S⟩)) ∧ SortedTo K.cells_ 8 S ∧ ModP (fun _ => False) W w' := by
  have HT := hidIt T
  have H := hidIt h
  have hb : b < W.heap.size := h.inB
  have n1 : b ≠ W.heap.size := by omega
  have n2 : b ≠ W.heap.size + 1 := by omega
  have n3 : W.heap.size ≠ W.heap.size + 1 := by omega
  have q1 := hidIt (fun (u : World) (i : Nat) (i8 : i < 8) (hs : (K.cells_ i).state = 1) => c259 u (K.cells_ i) (by have := T.kl i i8 hs; omega) (by have := T.kl i i8 hs; omega))
  simp only [Cell.cells] at q1
  have N4 := hidIt n4
  clear h T n4
  go_enter Tryz.func258, Tryz.ntmps258
  go_wp2_with fail
  go_loopw [4, 5] (fun nv iv u => ∃ (i : Nat) (S : List Nat) (y : World), i ≤ 8 ∧ iv = vi i ∧ nv = vi (S.length : Nat) ∧ Hid (SortedTo K.cells_ i S) ∧ u = ((y.put b K.cells 175).put W.heap.size (At4.cells ⟨fun _ => 0⟩) 281).put (W.heap.size + 1) (At4.cells ⟨atF S⟩) 281 ∧ y.inB b ∧ y.inB W.heap.size ∧ y.inB (W.heap.size + 1) ∧ Hid (ModP (fun x => x = b) W y)) (fun _ iv _ => 8 - (intOf iv).toNat)
  case atStart =>
    have a1 : ((W.alloc (.cells (At4.cells ⟨fun _ => 0⟩) 281)).alloc (.cells (At4.cells ⟨fun _ => 0⟩) 281)).At b K.cells 175 := World.At.alloc (World.At.alloc H.out _) _
    have a2 : ((W.alloc (.cells (At4.cells ⟨fun _ => 0⟩) 281)).alloc (.cells (At4.cells ⟨fun _ => 0⟩) 281)).At W.heap.size (At4.cells ⟨fun _ => 0⟩) 281 := World.At.alloc World.At_alloc_new _
    have a3 : ((W.alloc (.cells (At4.cells ⟨fun _ => 0⟩) 281)).alloc (.cells (At4.cells ⟨fun _ => 0⟩) 281)).At (W.heap.size + 1) (At4.cells ⟨fun _ => 0⟩) 281 := at_new (by simp)
    obtain ⟨y, e, i1, i2, i3⟩ := open3 a1 a2 a3 n1 n2 n3
    have m : ModP (fun x => x = b) W ((W.alloc (.cells (At4.cells ⟨fun _ => 0⟩) 281)).alloc (.cells (At4.cells ⟨fun _ => 0⟩) 281)) := (by repeat (first | assumption | exact ModP.refl _ _ | refine ModP.fromPut ?_ (by assumption) | apply ModP.alloc | apply ModP.drew | apply ModP.drewN | refine ModP.put ?_ (by first | (left; assumption) | (left; rfl) | (right; simp only [World.inB, World.size_put] at *; omega)) _ _))
    refine ⟨0, [], y, by omega, rfl, rfl, SortedTo.nil _, (show _ = _ from e), i1, i2, i3, ?_⟩
    rw [e] at m
    exact ((ModP.unput m (.inr (by omega))).unput (.inr (by omega))).unput (.inl rfl)
  case round =>
    have HH := H
    clear H
    obtain ⟨i, S, y, hi, rfl, rfl, HS, rfl, i1, i2, i3, my⟩ := hrel
    by_cases hi8 : i < 8
    · have i9 : (i : Int) < 8 := by omega
      by_cases hs : (K.cells_ i).state = 1
      · have l4 := HS.out.len' hi8 hs HT.out N4.out
        have l5 : (S.length : Int) < 4 := by omega
        have d1 : ((K.cells_ i).state != 1) = false := by simp [hs]
        have d2 : decide ((S.length : Int) ≥ 4) = false := by simp; omega
        have qi := hidIt (fun u => q1.out u i hi8 hs)
        have hs' := hidIt hs
        have z0 := hidIt (shF_start (atF S) S.length)
        have HI := hidIt hi8
        clear hs
        go_wp2_with (first
          | (go_at_call 259; refine (qi.out _).mono ?_; rintro _ w1 ⟨rfl, m1⟩; obtain ⟨y1, rfl, j1, j2, j3, M1⟩ := ModP.put3 (F := fun x => x = b) m1 i1 i2 i3 n1 n2 n3 my.out (.inl rfl) (.inr (Nat.le_refl _)) (.inr (Nat.le_succ _)); have MY := hidIt M1; clear m1 M1 i1 i2 i3 my))
        go_loopw [7, 8] (fun jv _ u => ∃ (j : Nat) (y : World), j ≤ S.length ∧ jv = vi j ∧ Hid (∀ m, j ≤ m → m < S.length → Op.bytesLess (keyS (K.cells_ (S.getD m 0))) (keyS (K.cells_ i)) = false) ∧ u = ((y.put b K.cells 175).put W.heap.size (At4.cells ⟨fun _ => 0⟩) 281).put (W.heap.size + 1) (At4.cells ⟨shF (atF S) S.length j⟩) 281 ∧ y.inB b ∧ y.inB W.heap.size ∧ y.inB (W.heap.size + 1) ∧ Hid (ModP (fun x => x = b) W y)) (fun jv _ _ => (intOf jv).toNat)
        case atStart => exact ⟨S.length, y1, Nat.le_refl _, rfl, fun m h1 h2 => by omega, by rw [z0.out], j1, j2, j3, MY⟩
        case round =>
          clear j1 j2 j3 MY z0
          clear y1 y
          obtain ⟨j, y, hj, rfl, HU, rfl, i1, i2, i3, my⟩ := hrel
          by_cases hj0 : j = 0
          · subst hj0
            have hn := hidIt (HS.out.live HT.out HI.out hs'.out (Nat.zero_le _) HU.out (fun h => by omega))
            have ha := hidIt (atF_ins S i 0 (Nat.zero_le _))
            have hl : Hid ((S.take 0 ++ i :: S.drop 0).length = S.length + 1) := by unfold Hid; simp
            go_wp2_with fail
            go_roundw
            case rel => exact ⟨i + 1, S.take 0 ++ i :: S.drop 0, y, by omega, by go_num, by rw [hl.out]; go_num, hn, by rw [← ha.out], i1, i2, i3, my⟩
            case measure => simp [intOf]; omega
          · obtain ⟨j', rfl⟩ : ∃ j', j = j' + 1 := ⟨j - 1, by omega⟩
            have hj' : j' < S.length := by omega
            have hgd : S.getD j' 0 = S[j'] := by simp [List.getD_eq_getElem?_getD, hj']
            obtain ⟨g1, g2⟩ := HS.out.in8 hj'
            rw [← hgd] at g1 g2
            have hat : shF (atF S) S.length (j' + 1) j' = ((S.getD j' 0 : Nat) : Int) := by unfold shF; rw [if_neg (by omega)]; rfl
            have qj := hidIt (fun u => q1.out u (S.getD j' 0) (by omega) g2)
            have hst := hidIt (shF_step (atF S) S.length j' (by omega))
            rw [hat] at hst
            have p0 : 0 < (j' : Int) + 1 := by omega
            have p1 : (j' : Int) < 4 := by omega
            have p2 : j' < 4 := by omega
            have p3 : j' + 1 < 4 := by omega
            have p4 : (j' : Int) + 1 < 4 := by omega
            clear hgd hj0 g2
            by_cases hless : Op.bytesLess (keyS (K.cells_ (S.getD j' 0))) (keyS (K.cells_ i)) = true
            · have hn := hidIt (HS.out.live HT.out HI.out hs'.out hj HU.out (fun _ => by rw [Nat.add_sub_cancel]; exact hless))
              have ha := hidIt (atF_ins S i (j' + 1) hj)
              have hl : Hid ((S.take (j' + 1) ++ i :: S.drop (j' + 1)).length = S.length + 1) := by unfold Hid; simp; omega
              generalize keyS (K.cells_ (S.getD j' 0)) = kb at *
              generalize hI : S.getD j' 0 = i' at *
              have i8' : i' < 8 := by omega
              have i9' : (i' : Int) < 8 := by omega
              clear hI
              go_wp2_with fail
              refine Ord.region1 [] [0, 1, 2, 3, 4, 5, 6, 7, 8] [9, 10] (by kernel_rfl) (by kernel_rfl) (fun _ _ d _ _ h => by cases d <;> exact h) ?_
              simp only [Ord.pickO, Ord.nth]
              refine wpQuiet_nil ?_
              repeat (go_big_quiet_step (fail))
              refine wpQuiet_nil ?_
              go_wp2_with (first
                | (go_at_call 259; refine (qj.out _).mono ?_; rintro _ w1 ⟨rfl, m1⟩; obtain ⟨y1, rfl, j1, j2, j3, M1⟩ := ModP.put3 (F := fun x => x = b) (y := y.drew) m1 i1 i2 i3 n1 n2 n3 my.out.drew (.inl rfl) (.inr (Nat.le_refl _)) (.inr (Nat.le_succ _)); have MY := hidIt M1; clear m1 M1 i1 i2 i3 my))
              go_roundw
              case rel => exact ⟨i + 1, S.take (j' + 1) ++ i :: S.drop (j' + 1), y1, by omega, by go_num, by rw [hl.out]; go_num, hn, by rw [← ha.out], j1, j2, j3, MY⟩
              case measure => simp [intOf]; omega
            · have hl0 : Op.bytesLess (keyS (K.cells_ (S.getD j' 0))) (keyS (K.cells_ i)) = false := by simpa using hless
              have hup : Hid (∀ m, j' ≤ m → m < S.length → Op.bytesLess (keyS (K.cells_ (S.getD m 0))) (keyS (K.cells_ i)) = false) := by
                intro m h1 h2
                by_cases e : m = j'
                · subst e; exact hl0
                · exact HU.out m (by omega) h2
              clear hless
              generalize keyS (K.cells_ (S.getD j' 0)) = kb at *
              generalize hI : S.getD j' 0 = i' at *
              have i8' : i' < 8 := by omega
              have i9' : (i' : Int) < 8 := by omega
              clear hI
              go_wp2_with fail
              refine Ord.region1 [] [0, 1, 2, 3, 4, 5, 6, 7, 8] [9, 10] (by kernel_rfl) (by kernel_rfl) (fun _ _ d _ _ h => by cases d <;> exact h) ?_
              simp only [Ord.pickO, Ord.nth]
              refine wpQuiet_nil ?_
              repeat (go_big_quiet_step (fail))
              refine wpQuiet_nil ?_
              go_wp2_with (first
                | (go_at_call 259; refine (qj.out _).mono ?_; rintro _ w1 ⟨rfl, m1⟩; obtain ⟨y1, rfl, j1, j2, j3, M1⟩ := ModP.put3 (F := fun x => x = b) (y := y.drew) m1 i1 i2 i3 n1 n2 n3 my.out.drew (.inl rfl) (.inr (Nat.le_refl _)) (.inr (Nat.le_succ _)); have MY := hidIt M1; clear m1 M1 i1 i2 i3 my))
              go_roundw
              case rel => exact ⟨j', y1, by omega, by go_num, hup, by rw [← hst.out], j1, j2, j3, MY⟩
              case measure => simp [intOf]
      · have d1 : ((K.cells_ i).state != 1) = true := by simp [hs]
        have e1 := hidIt (HS.out.dead hs)
        clear hs
        go_wp2_with fail
        go_roundw
        case rel => exact ⟨i + 1, S, y, by omega, by go_num, rfl, e1, rfl, i1, i2, i3, my⟩
        case measure => simp [intOf]; omega
    · have d8 : decide ((i : Int) < 8) = false := by simp; omega
      have hS : Hid (SortedTo K.cells_ 8 S) := by
        have e : i = 8 := by omega
        subst e
        exact HS
      clear hi8
      go_wp2_with fail
      refine bodyPost_ret (v := .agg (At4.cells ⟨atF S⟩)) ?_ rfl ?_
      · simp [results, Tryz.results258, go_sem, i1, i2, i3, n1, n2, n3]
        rfl
      · refine ⟨S, rfl, hS.out, ModP.back ?_ HH.out (by repeat (first | assumption | (with_reducible refine World.At_drew.2 ?_) | (with_reducible refine (World.At_drewN _).2 ?_) | (with_reducible exact World.At_put_same (by first | assumption | (simp only [World.inB, World.size_put, World.alloc, World.drew, World.drewN, Array.size_push] at *; omega))) | (with_reducible refine (World.At_put_ne' (by first | assumption | (exact Ne.symm (by assumption)) | (simp only [World.inB, World.size_put] at *; omega))).2 ?_) | (with_reducible exact World.At_alloc_new) | (with_reducible exact at_new (by first | rfl | (simp [World.size_put]; done) | (simp [World.size_put]; omega))) | (with_reducible refine World.At.alloc ?_ _)))⟩
        have := my.out
        exact (by repeat (first | assumption | exact ModP.refl _ _ | refine ModP.fromPut ?_ (by assumption) | apply ModP.alloc | apply ModP.drew | apply ModP.drewN | refine ModP.put ?_ (by first | (left; assumption) | (left; rfl) | (right; simp only [World.inB, World.size_put] at *; omega)) _ _))
end Go.Proofs.Qxb6500990aGreat
