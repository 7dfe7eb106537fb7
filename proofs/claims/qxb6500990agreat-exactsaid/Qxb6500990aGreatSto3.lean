/- package store: Open -/
import Derived.Test.Qxb6500990aGreatSto2
import Derived.Test.Qxb6500990aGreatSt14
import Derived.Deep.Cut
set_option linter.unusedVariables false
set_option linter.unusedSimpArgs false
namespace Go.Tw
open Go Go.Proofs Go.Proofs.Qxb6500990aGreat
theorem DK.blocks {w : World} {F : Nat → Prop} {bd : Nat} {D : Dk} (h : DK w F bd D) : Blocks D.now := by
  obtain ⟨p, _, h, _⟩ := h
  exact ⟨h.ln, h.l64⟩
def stampK (l : List Bs) (k b : Nat) : UInt8 := if b < k then stStamp l b else 0
theorem stampK_0 (l : List Bs) : stampK l 0 = fun _ => 0 := by funext b; simp [stampK]
theorem stampK_14 (l : List Bs) : stampK l 14 = stStamp l := by
  funext b; unfold stampK; split
  · rfl
  · unfold stStamp; rw [if_neg (by omega)]
theorem stampK_set (l : List Bs) (k : Nat) (y : UInt8) (h : y = stStamp l k) : upd (stampK l k) k y = stampK l (k + 1) := by
  funext b; unfold upd stampK
  by_cases e : b = k
  · subst e; simp [h]
  · simp only [e, if_false]
    by_cases c : b < k
    · rw [if_pos c, if_pos (by omega)]
    · rw [if_neg c, if_neg (by omega)]
theorem stampK_skip (l : List Bs) (k : Nat) (h4 : 4 ≤ k) (h8 : k < 8) : stampK l k = stampK l (k + 1) := by
  rw [← stampK_set l k 0 (by unfold stStamp; rw [if_neg (by omega)])]
  exact (upd_self _ _ _ (by unfold stampK; rw [if_neg (by omega)])).symm
def usedK (l : List Bs) (k s : Nat) : Bool := decide (s < k) && stUsed l s
def recK (l : List Bs) (k s : Nat) : Rec := if s < k then stRec l s else zRec
theorem usedK_0 (l : List Bs) : usedK l 0 = fun _ => false := by funext b; simp [usedK]
theorem recK_0 (l : List Bs) : recK l 0 = fun _ => zRec := by funext b; simp [recK]
theorem usedK_6 (l : List Bs) : usedK l 6 = stUsed l := by
  funext b; unfold usedK stUsed
  by_cases h : b < 6 <;> simp [h]
theorem recK_6 (l : List Bs) : recK l 6 = stRec l := by
  funext b; unfold recK stRec
  by_cases h : b < 6 <;> simp [h]
theorem usedK_set (l : List Bs) (k : Nat) : upd (usedK l k) k (stUsed l k) = usedK l (k + 1) := by
  funext b; unfold upd usedK
  by_cases e : b = k
  · subst e; simp
  · simp only [e, if_false]
    congr 1
    by_cases c : b < k
    · simp [c]; omega
    · simp [c]; omega
theorem recK_set (l : List Bs) (k : Nat) : upd (recK l k) k (stRec l k) = recK l (k + 1) := by
  funext b; unfold upd recK
  by_cases e : b = k
  · subst e; simp
  · simp only [e, if_false]
    by_cases c : b < k
    · rw [if_pos c, if_pos (by omega)]
    · rw [if_neg c, if_neg (by omega)]
end Go.Tw
namespace Go.Proofs.Qxb6500990aGreat
open Go Go.RowKit Go.Tw
attribute [local go_sem] World.cell?_put_same World.cell?_put_ne World.cell?_put_ne' World.frozen?_put_same World.frozen?_put_ne World.frozen?_put_ne' World.setCell_put_same World.setCell_put_ne World.setCell_put_ne' World.inB_put World.inB_alloc World.inB_drew World.inB_drewN World.inB_new World.inB_setCell World.put_drew World.put_drewN World.q_setCell_drew World.q_setCell_drewN World.q_alloc_drew World.q_alloc_drewN World.put_put_same World.put_put_2 World.size_put World.q_cell?_alloc_old World.q_frozen?_alloc_old World.cell?_alloc_new' World.frozen?_alloc_new' World.q_setCell_alloc_old World.q_setCell_alloc_new World.q_put_alloc_old World.cell?_force_same World.frozen?_force_same World.cell?_force2_fst World.cell?_force2_snd StoreR.g0 StoreR.s0 StoreR.g1 StoreR.s1 StoreR.g2 StoreR.s2 StoreR.g3 StoreR.s3 StoreR.g4 StoreR.s4 StoreR.g5 StoreR.s5 StoreR.g6 StoreR.s6 StoreR.g7 StoreR.s7 StoreR.g8 StoreR.s8 StoreR.g9 StoreR.s9 StoreR.g10 StoreR.s10 StoreR.g11 StoreR.s11 StoreR.g12 StoreR.s12 StoreR.g13 StoreR.s13 StoreR.g14 StoreR.s14 StoreR.g15 StoreR.s15 StoreR.g16 StoreR.s16 StoreR.g17 StoreR.s17 StoreR.g18 StoreR.s18 StoreR.g19 StoreR.s19 StoreR.g20 StoreR.s20 StoreR.g21 StoreR.s21 StoreR.g22 StoreR.s22 StoreR.g23 StoreR.s23 StoreR.g24 StoreR.s24 StoreR.g25 StoreR.s25 StoreR.g26 StoreR.s26 StoreR.g27 StoreR.s27 StoreR.g28 StoreR.s28 StoreR.g29 StoreR.s29 StoreR.g30 StoreR.s30 StoreR.g31 StoreR.s31 StoreR.g32 StoreR.s32 StoreR.g33 StoreR.s33 StoreR.g34 StoreR.s34 StoreR.g35 StoreR.s35 StoreR.g36 StoreR.s36 StoreR.g37 StoreR.s37 StoreR.g38 StoreR.s38 StoreR.g39 StoreR.s39 StoreR.g40 StoreR.s40 StoreR.g41 StoreR.s41 StoreR.g42 StoreR.s42 StoreR.g43 StoreR.s43 StoreR.g44 StoreR.s44 StoreR.g45 StoreR.s45 StoreR.g46 StoreR.s46 StoreR.g47 StoreR.s47 StoreR.g48 StoreR.s48 StoreR.g49 StoreR.s49 StoreR.g50 StoreR.s50 StoreR.g51 StoreR.s51 StoreR.gi_stamp_0 StoreR.si_stamp_0 StoreR.gi_used_0 StoreR.si_used_0 StoreR.gi_recs_0 StoreR.si_recs_0 StoreR.gi_recs_1 StoreR.si_recs_1 StoreR.gi_recs_2 StoreR.si_recs_2 Meta.g0 Meta.s0 Meta.g1 Meta.s1 Meta.g2 Meta.s2 Meta.g3 Meta.s3 Head.g0 Head.s0 Head.g1 Head.s1 Head.g2 Head.s2 Head.g3 Head.s3 Head.g4 Head.s4 Head.g5 Head.s5 Rec.g0 Rec.s0 Rec.g1 Rec.s1 Rec.g2 Rec.s2
attribute [local go_sem] StoreR.gia_recs_1 StoreR.sia_recs_1 StoreR.gia_recs_2 StoreR.sia_recs_2
attribute [local go_sem] ba_get upd_same upd_upd
set_option maxHeartbeats 4000000
set_option maxRecDepth 100000
section
variable {W : World} {F : Nat → Prop} {bd : Nat} {D : Dk}
theorem c31 (hd : DK W F bd D) (hs : Sane D.now) :
    Calls Tryz.prog 31 #[vp bd] W fun r w' => r = .returned (vp W.heap.size) ∧ w'.At W.heap.size (stOf (vp bd) D.now).cells 139 ∧ ModP (fun _ => False) W w' := by
  have hB := hd.blocks
  obtain ⟨bt, hbt⟩ : ∃ bt, bt = W.heap.size := ⟨_, rfl⟩
  have hrd := hidIt (fun w' (S : StoreR) (m : ModP (fun _ => False) W w') (ht : w'.At bt S.cells 139) (hS : S.d = vp bd) (k : Nat) (hk : k < 14) => (show Calls Tryz.prog 55 #[vp bt, vi k] w' fun r w'' => r = .returned (vs (blk D.now k)) ∧ w'' = w' from c55 (hd.frame m (fun _ _ f => f)) ht hS k hk))
  have har := hidIt (fun w' (S : StoreR) (m : ModP (fun _ => False) W w') (ht : w'.At bt S.cells 139) (hS : S.d = vp bd) (a n : Nat) (ha : a < 2) (hn : n ≤ 128) => (show Calls Tryz.prog 58 #[vp bt, vi a, vi n] w' fun r w'' => r = .returned (vs (areaS D.now a n)) ∧ ModP (fun _ => False) w' w'' from c58 (hd.frame m (fun _ _ f => f)) ht hS a ha n hn rfl rfl (hB.len (by omega)) (hB.len (by omega))))
  have hlen := hidIt (fun b (hb : b < 14) => hB.len hb)
  have hsa := hidIt hs
  have Hbt := hidIt hbt
  generalize hl : D.now = l at *
  clear hd hs hB hl
  rw [← hbt]
  have P1 : Hid (ModP (fun _ => False) W (W.alloc (.cells (StoreR.cells ⟨vp bd, fun _ => 0, zMeta, 0, zHead, 0, [], fun _ => false, fun _ => zRec⟩) 139))) := (ModP.refl _ _).alloc _
  have P2 : Hid ((W.alloc (.cells (StoreR.cells ⟨vp bd, fun _ => 0, zMeta, 0, zHead, 0, [], fun _ => false, fun _ => zRec⟩) 139)).At bt (StoreR.cells ⟨vp bd, fun _ => 0, zMeta, 0, zHead, 0, [], fun _ => false, fun _ => zRec⟩) 139) := at_new hbt
  clear hbt
  go_enter Tryz.func31, Tryz.ntmps31
  go_wp2_with fail
  rw [← Hbt.out]
  go_loopw [4] (fun kv u => ∃ k : Nat, k ≤ 14 ∧ kv = vi k ∧ Hid (ModP (fun _ => False) W u) ∧ Hid (u.At bt (StoreR.cells ⟨vp bd, stampK l k, zMeta, 0, zHead, 0, [], fun _ => false, fun _ => zRec⟩) 139)) (fun kv _ => 14 - (intOf kv).toNat)
  case atStart => exact ⟨0, by omega, rfl, P1, by rw [stampK_0]; exact P2⟩
  case round =>
    clear P1 P2
    obtain ⟨k, hk, rfl, H1, H2⟩ := hrel
    by_cases hk2 : k < 14
    · skip --@done
      have hr := hidIt (hrd.out _ _ H1.out H2.out rfl k hk2)
      have hlk := hlen.out k hk2
      have hl1 : (blk l k).length ≤ 1000 := by omega
      have hl3 : (63 : Int) < (blk l k).length := by omega
      have hl4 : 63 < (blk l k).length := by omega
      have hk3 : (k : Int) < 14 := by omega
      by_cases ha : 4 ≤ k ∧ k < 8
      · have hsk := hidIt (stampK_skip l k ha.1 ha.2)
        have d1 : decide ((k : Int) < 4) = false := by simp; omega
        have d2 : decide (8 ≤ (k : Int)) = false := by simp; omega
        clear hlk ha
        go_wp2_with (first
          | (go_at_call 55; (with_reducible refine Calls.mono hr.out ?_); rintro _ w' ⟨rfl, e⟩; obtain rfl := e.symm))
        go_roundw
        case rel => exact ⟨k + 1, by omega, by go_num, H1, by rw [← hsk.out]; exact H2⟩
        case measure => simp [intOf]; omega
      · have hst : Hid (upd (stampK l k) k (blk l k)[63] = stampK l (k + 1)) := stampK_set l k _ (by unfold stStamp; rw [if_pos (by omega), List.getD_eq_getElem?_getD, List.getElem?_eq_getElem hl4]; rfl)
        have hcs : Hid (k < 4 ∨ 8 ≤ k) := by unfold Hid; omega
        clear hlk ha
        generalize blk l k = x at *
        obtain ⟨y, rfl, iy⟩ := H2.out.door
        have M1 : Hid (ModP (fun _ => False) W y) := H1.out.unput (.inr (by rw [Hbt.out]; exact Nat.le_refl _))
        clear H1
        rcases hcs.out with hc4 | hc8
        · have d1 : decide ((k : Int) < 4) = true := by simp; omega
          clear hcs hc4
          go_wp2_with (first
            | (go_at_call 55; (with_reducible refine Calls.mono hr.out ?_); rintro _ w' ⟨rfl, e⟩; obtain rfl := e.symm))
          refine Ord.region1 [] [0, 1, 2, 3, 4, 5, 6] [7] (by kernel_rfl) (by kernel_rfl) (fun _ _ d _ _ h => by cases d <;> exact h) ?_
          simp only [Ord.pickO, Ord.nth]
          refine wpQuiet_nil ?_
          repeat (go_big_quiet_step (fail))
          refine wpQuiet_nil ?_
          go_wp2_with fail
          go_roundw
          case rel => exact ⟨k + 1, by omega, by go_num, (M1.out.put (.inr (by rw [Hbt.out]; exact Nat.le_refl _)) _ _).drew, by rw [← hst.out]; exact World.At_drew.2 (World.At_put_same iy)⟩
          case measure => simp [intOf]; omega
        · have d1 : decide ((k : Int) < 4) = false := by simp; omega
          have d2 : decide (8 ≤ (k : Int)) = true := by simp; omega
          clear hcs hc8
          go_wp2_with (first
            | (go_at_call 55; (with_reducible refine Calls.mono hr.out ?_); rintro _ w' ⟨rfl, e⟩; obtain rfl := e.symm))
          refine Ord.region1 [] [0, 1, 2, 3, 4, 5, 6] [7] (by kernel_rfl) (by kernel_rfl) (fun _ _ d _ _ h => by cases d <;> exact h) ?_
          simp only [Ord.pickO, Ord.nth]
          refine wpQuiet_nil ?_
          repeat (go_big_quiet_step (fail))
          refine wpQuiet_nil ?_
          go_wp2_with fail
          go_roundw
          case rel => exact ⟨k + 1, by omega, by go_num, (M1.out.put (.inr (by rw [Hbt.out]; exact Nat.le_refl _)) _ _).drew, by rw [← hst.out]; exact World.At_drew.2 (World.At_put_same iy)⟩
          case measure => simp [intOf]; omega
    · obtain rfl : k = 14 := by omega
      rw [stampK_14] at H2
      have r0 := hidIt (show Calls Tryz.prog 55 #[vp bt, vi 0] _ (fun r w'' => r = .returned (vs (blk l 0)) ∧ w'' = _) from hrd.out _ _ H1.out H2.out rfl 0 (by omega))
      have r1 := hidIt (show Calls Tryz.prog 55 #[vp bt, vi 1] _ (fun r w'' => r = .returned (vs (blk l 1)) ∧ w'' = _) from hrd.out _ _ H1.out H2.out rfl 1 (by omega))
      have e0 := hidIt (fun w => c56 w (blk l 0) (hlen.out 0 (by omega)) (hsa.out.m 0 (by omega)))
      have e1 := hidIt (fun w => c56 w (blk l 1) (hlen.out 1 (by omega)) (hsa.out.m 1 (by omega)))
      have hm0 : Hid (stM0 l = if pickM (decMetaS (blk l 0)) (decMetaS (blk l 1)) = true then decMetaS (blk l 0) else decMetaS (blk l 1)) := rfl
      have hms : Hid (stMS l = if pickM (decMetaS (blk l 0)) (decMetaS (blk l 1)) = true then 0 else 1) := rfl
      generalize decMetaS (blk l 0) = m0 at *
      generalize decMetaS (blk l 1) = m1 at *
      generalize blk l 0 = x0 at *
      generalize blk l 1 = x1 at *
      obtain ⟨ok0, n0, t0, v0⟩ := m0
      obtain ⟨ok1, n1, t1, v1⟩ := m1
      unfold Meta.cells at e0 e1
      clear hk hk2
      go_upto_region 13 with (first
        | (go_at_call 55; (with_reducible refine Calls.mono r0.out ?_); rintro _ w' ⟨rfl, e⟩; obtain rfl := e.symm; clear r0)
        | (go_at_call 55; (with_reducible refine Calls.mono r1.out ?_); rintro _ w' ⟨rfl, e⟩; obtain rfl := e.symm; clear r1)
        | (go_at_call 56; (with_reducible refine Calls.mono (e0.out _) ?_); rintro _ w1 ⟨rfl, p1⟩; have A1 := hidIt (p1.at H2.out (fun f => f)); have M1 := hidIt (H1.out.trans p1); clear p1 e0 H1 H2)
        | (go_at_call 56; (with_reducible refine Calls.mono (e1.out _) ?_); rintro _ w2 ⟨rfl, p2⟩; have A2 := p2.at (A1.out.alloc _) (fun f => f); have M2 := hidIt ((M1.out.alloc _).trans p2); have B2 := p2.at (b := w1.heap.size) World.At_alloc_new (fun f => f); have nb : bt ≠ w1.heap.size := (by have h9 : bt < w1.heap.size := A1.out.inB; omega); have z1 : W.heap.size ≤ w1.heap.size := M1.out.size; clear p2 e1 M1 A1; obtain ⟨y, rfl, iy⟩ := A2.door; clear A2; have B3 := (World.At_put_ne' (Ne.symm nb)).1 B2; have B4 := hidIt B3; clear B2 B3))
      have A8 := (World.At.alloc ((World.At_put_ne' (c := StoreR.cells ⟨vp bd, stStamp l, ⟨ok1, n1, t1, v1⟩, 1, zHead, 0, [], fun _ => false, fun _ => zRec⟩) (T := 139) (Ne.symm nb)).2 B4.out) (.cells #[Value.bool ok1, Value.int IntKind.i64 n1, Value.int IntKind.i64 t1, Value.int IntKind.i64 v1] 131))
      have hc8 := A8.cell
      have i8 := A8.inB
      have C2 := hidIt A8
      have C1 : Hid (World.At ((y.put bt (StoreR.cells ⟨vp bd, stStamp l, ⟨ok1, n1, t1, v1⟩, 1, zHead, 0, [], fun _ => false, fun _ => zRec⟩) 139).alloc (.cells #[Value.bool ok1, Value.int IntKind.i64 n1, Value.int IntKind.i64 t1, Value.int IntKind.i64 v1] 131)) bt (StoreR.cells ⟨vp bd, stStamp l, ⟨ok1, n1, t1, v1⟩, 1, zHead, 0, [], fun _ => false, fun _ => zRec⟩) 139) := World.At.alloc (World.At_put_same iy) _
      have C3 : Hid (ModP (fun _ => False) W ((y.put bt (StoreR.cells ⟨vp bd, stStamp l, ⟨ok1, n1, t1, v1⟩, 1, zHead, 0, [], fun _ => false, fun _ => zRec⟩) 139).alloc (.cells #[Value.bool ok1, Value.int IntKind.i64 n1, Value.int IntKind.i64 t1, Value.int IntKind.i64 v1] 131))) := ((M2.out.unput (.inr (by rw [Hbt.out]; exact Nat.le_refl _))).put (.inr (by rw [Hbt.out]; exact Nat.le_refl _)) _ _).alloc _
      clear A8 B4 M2
      go_cut [65] from 14 (fun s65 wc => s65 = .bool (pickM ⟨ok0, n0, t0, v0⟩ ⟨ok1, n1, t1, v1⟩) ∧ Hid (wc.At bt (StoreR.cells ⟨vp bd, stStamp l, ⟨ok1, n1, t1, v1⟩, 1, zHead, 0, [], fun _ => false, fun _ => zRec⟩) 139) ∧ Hid (wc.At w1.heap.size (Meta.cells ⟨ok0, n0, t0, v0⟩) 131) ∧ Hid (ModP (fun _ => False) W wc))
      case first =>
        cases ok0
        · go_wp2_with fail
          go_meet
          case rel => exact ⟨rfl, C1, C2, C3⟩
        · cases ok1
          · go_wp2_with fail
            go_meet
            case rel => exact ⟨rfl, C1, C2, C3⟩
          · go_wp2_with fail
            go_meet
            case rel => exact ⟨rfl, C1, C2, C3⟩
      case rest =>
        clear C1 C2 C3 hc8 i8
        obtain ⟨rfl, C1, C2, C3⟩ := hcut
        generalize pickM ⟨ok0, n0, t0, v0⟩ ⟨ok1, n1, t1, v1⟩ = pk at *
        obtain ⟨M, hM⟩ : ∃ M, M = stM0 l := ⟨_, rfl⟩
        obtain ⟨ms, hs⟩ : ∃ ms, ms = stMS l := ⟨_, rfl⟩
        have HM := hidIt hM
        have HS := hidIt hs
        have hM2 := hidIt (hM.trans hm0.out)
        have hs2 := hidIt (hs.trans hms.out)
        clear hM hs hm0 hms
        go_upto_if 65 with fail
        go_cut [] from 14 (fun wc => Hid (wc.At bt (StoreR.cells ⟨vp bd, stStamp l, M, ms, zHead, 0, [], fun _ => false, fun _ => zRec⟩) 139) ∧ Hid (ModP (fun _ => False) W wc))
        case first =>
          cases pk
          · go_wp2_with fail
            go_meet
            case rel => exact ⟨by rw [hM2.out, hs2.out]; exact C1, C3⟩
          · obtain ⟨y2, rfl, j1, j2⟩ := open2 C1.out C2.out nb
            go_wp2_with fail
            go_meet
            case rel =>
              have hlb : W.heap.size ≤ bt := by rw [Hbt.out]; exact Nat.le_refl _
              refine ⟨?_, ?_⟩
              · unfold Hid; rw [hM2.out, hs2.out]
                exact (World.At_put_ne' nb).2 (World.At_put_same j1)
              · exact (((C3.out.unput (.inr z1)).unput (.inr hlb)).put (.inr hlb) _ _).put (.inr z1) _ _
        case rest =>
          clear C1 C2 C3
          obtain ⟨C1, C3⟩ := hcut
          obtain ⟨mok, mn, mt, mv⟩ := M
          have hc := C1.out.cell
          have ib := C1.out.inB
          go_upto_if 78 with fail
          go_cut [] from 14 (fun wc => Hid (wc.At bt (StoreR.cells ⟨vp bd, stStamp l, fixM ⟨mok, mn, mt, mv⟩, ms, zHead, 0, [], fun _ => false, fun _ => zRec⟩) 139) ∧ Hid (ModP (fun _ => False) W wc))
          case first =>
            cases mok
            · obtain ⟨y2, rfl, j1⟩ := C1.out.door
              clear hc ib
              go_wp2_with fail
              go_meet
              case rel =>
                have hlb : W.heap.size ≤ bt := by rw [Hbt.out]; exact Nat.le_refl _
                exact ⟨World.At_put_same j1, (C3.out.unput (.inr hlb)).put (.inr hlb) _ _⟩
            · go_wp2_with fail
              go_meet
              case rel => exact ⟨C1, C3⟩
          case rest =>
            clear C1 C3 hc ib
            obtain ⟨C1, C3⟩ := hcut
            have hM' : fixM ⟨mok, mn, mt, mv⟩ = stM l := by unfold Tw.stM; rw [← HM.out]
            rw [hM', HS.out] at C1
            clear hM' HM HS hM2 hs2 z1 nb
            have r0 := hidIt (show Calls Tryz.prog 55 #[vp bt, vi 2] _ (fun r w'' => r = .returned (vs (blk l 2)) ∧ w'' = _) from hrd.out _ _ C3.out C1.out rfl 2 (by omega))
            have r1 := hidIt (show Calls Tryz.prog 55 #[vp bt, vi 3] _ (fun r w'' => r = .returned (vs (blk l 3)) ∧ w'' = _) from hrd.out _ _ C3.out C1.out rfl 3 (by omega))
            have e0 := hidIt (fun w => c57 w (blk l 2) (hlen.out 2 (by omega)) (hsa.out.h 0 (by omega)))
            have e1 := hidIt (fun w => c57 w (blk l 3) (hlen.out 3 (by omega)) (hsa.out.h 1 (by omega)))
            have hm0 : Hid (stH0 l = if pickH (decHeadS (blk l 2)) (decHeadS (blk l 3)) = true then decHeadS (blk l 2) else decHeadS (blk l 3)) := rfl
            have hms : Hid (stHS l = if pickH (decHeadS (blk l 2)) (decHeadS (blk l 3)) = true then 0 else 1) := rfl
            generalize decHeadS (blk l 2) = m0 at *
            generalize decHeadS (blk l 3) = m1 at *
            generalize blk l 2 = x0 at *
            generalize blk l 3 = x1 at *
            obtain ⟨ok0, n0, i0, t0, a0, z0⟩ := m0
            obtain ⟨ok1, n1, i1, t1, a1, q1⟩ := m1
            unfold Head.cells at e0 e1
            go_upto_region 22 with (first
              | (go_at_call 55; (with_reducible refine Calls.mono r0.out ?_); rintro _ w' ⟨rfl, e⟩; obtain rfl := e.symm; clear r0)
              | (go_at_call 55; (with_reducible refine Calls.mono r1.out ?_); rintro _ w' ⟨rfl, e⟩; obtain rfl := e.symm; clear r1)
              | (go_at_call 57; (with_reducible refine Calls.mono (e0.out _) ?_); rintro _ w1 ⟨rfl, p1⟩; have A1 := hidIt (p1.at C1.out (fun f => f)); have M1 := hidIt (C3.out.trans p1); clear p1 e0 C1 C3)
              | (go_at_call 57; (with_reducible refine Calls.mono (e1.out _) ?_); rintro _ w2 ⟨rfl, p2⟩; have A2 := p2.at (A1.out.alloc _) (fun f => f); have M2 := hidIt ((M1.out.alloc _).trans p2); have B2 := p2.at (b := w1.heap.size) World.At_alloc_new (fun f => f); have nb : bt ≠ w1.heap.size := (by have h9 : bt < w1.heap.size := A1.out.inB; omega); have z1 : W.heap.size ≤ w1.heap.size := M1.out.size; clear p2 e1 M1 A1; obtain ⟨y, rfl, iy⟩ := A2.door; clear A2; have B3 := (World.At_put_ne' (Ne.symm nb)).1 B2; have B4 := hidIt B3; clear B2 B3))
            have A8 := (World.At.alloc ((World.At_put_ne' (c := StoreR.cells ⟨vp bd, stStamp l, stM l, stMS l, ⟨ok1, n1, i1, t1, a1, q1⟩, 1, [], fun _ => false, fun _ => zRec⟩) (T := 139) (Ne.symm nb)).2 B4.out) (.cells #[Value.bool ok1, Value.int IntKind.i64 n1, Value.int IntKind.i64 i1, Value.int IntKind.i64 t1, Value.int IntKind.i64 a1, Value.int IntKind.i64 q1] 133))
            have hc8 := A8.cell
            have i8 := A8.inB
            have C2 := hidIt A8
            have C1 : Hid (World.At ((y.put bt (StoreR.cells ⟨vp bd, stStamp l, stM l, stMS l, ⟨ok1, n1, i1, t1, a1, q1⟩, 1, [], fun _ => false, fun _ => zRec⟩) 139).alloc (.cells #[Value.bool ok1, Value.int IntKind.i64 n1, Value.int IntKind.i64 i1, Value.int IntKind.i64 t1, Value.int IntKind.i64 a1, Value.int IntKind.i64 q1] 133)) bt (StoreR.cells ⟨vp bd, stStamp l, stM l, stMS l, ⟨ok1, n1, i1, t1, a1, q1⟩, 1, [], fun _ => false, fun _ => zRec⟩) 139) := World.At.alloc (World.At_put_same iy) _
            have C3 : Hid (ModP (fun _ => False) W ((y.put bt (StoreR.cells ⟨vp bd, stStamp l, stM l, stMS l, ⟨ok1, n1, i1, t1, a1, q1⟩, 1, [], fun _ => false, fun _ => zRec⟩) 139).alloc (.cells #[Value.bool ok1, Value.int IntKind.i64 n1, Value.int IntKind.i64 i1, Value.int IntKind.i64 t1, Value.int IntKind.i64 a1, Value.int IntKind.i64 q1] 133))) := ((M2.out.unput (.inr (by rw [Hbt.out]; exact Nat.le_refl _))).put (.inr (by rw [Hbt.out]; exact Nat.le_refl _)) _ _).alloc _
            clear A8 B4 M2
            go_cut [111] from 14 (fun s65 wc => s65 = .bool (pickH ⟨ok0, n0, i0, t0, a0, z0⟩ ⟨ok1, n1, i1, t1, a1, q1⟩) ∧ Hid (wc.At bt (StoreR.cells ⟨vp bd, stStamp l, stM l, stMS l, ⟨ok1, n1, i1, t1, a1, q1⟩, 1, [], fun _ => false, fun _ => zRec⟩) 139) ∧ Hid (wc.At w1.heap.size (Head.cells ⟨ok0, n0, i0, t0, a0, z0⟩) 133) ∧ Hid (ModP (fun _ => False) W wc))
            case first =>
              cases ok0
              · go_wp2_with fail
                go_meet
                case rel => exact ⟨rfl, C1, C2, C3⟩
              · cases ok1
                · go_wp2_with fail
                  go_meet
                  case rel => exact ⟨rfl, C1, C2, C3⟩
                · go_wp2_with fail
                  go_meet
                  case rel => exact ⟨rfl, C1, C2, C3⟩
            case rest =>
              clear C1 C2 C3 hc8 i8
              obtain ⟨rfl, C1, C2, C3⟩ := hcut
              generalize pickH ⟨ok0, n0, i0, t0, a0, z0⟩ ⟨ok1, n1, i1, t1, a1, q1⟩ = pk at *
              obtain ⟨M, hM⟩ : ∃ M, M = stH0 l := ⟨_, rfl⟩
              obtain ⟨ms, hs⟩ : ∃ ms, ms = stHS l := ⟨_, rfl⟩
              have HM := hidIt hM
              have HS := hidIt hs
              have hM2 := hidIt (hM.trans hm0.out)
              have hs2 := hidIt (hs.trans hms.out)
              clear hM hs hm0 hms
              go_upto_if 111 with fail
              go_cut [] from 14 (fun wc => Hid (wc.At bt (StoreR.cells ⟨vp bd, stStamp l, stM l, stMS l, M, ms, [], fun _ => false, fun _ => zRec⟩) 139) ∧ Hid (ModP (fun _ => False) W wc))
              case first =>
                cases pk
                · go_wp2_with fail
                  go_meet
                  case rel => exact ⟨by rw [hM2.out, hs2.out]; exact C1, C3⟩
                · obtain ⟨y2, rfl, j1, j2⟩ := open2 C1.out C2.out nb
                  go_wp2_with fail
                  go_meet
                  case rel =>
                    have hlb : W.heap.size ≤ bt := by rw [Hbt.out]; exact Nat.le_refl _
                    refine ⟨?_, ?_⟩
                    · unfold Hid; rw [hM2.out, hs2.out]
                      exact (World.At_put_ne' nb).2 (World.At_put_same j1)
                    · exact (((C3.out.unput (.inr z1)).unput (.inr hlb)).put (.inr hlb) _ _).put (.inr z1) _ _
              case rest =>
                clear C1 C2 C3
                obtain ⟨C1, C3⟩ := hcut
                obtain ⟨mok, mn, mi, mt, ma, mz⟩ := M
                have hc := C1.out.cell
                have ib := C1.out.inB
                go_upto_if 124 with fail
                go_cut [] from 14 (fun wc => Hid (wc.At bt (StoreR.cells ⟨vp bd, stStamp l, stM l, stMS l, fixH ⟨mok, mn, mi, mt, ma, mz⟩, ms, [], fun _ => false, fun _ => zRec⟩) 139) ∧ Hid (ModP (fun _ => False) W wc))
                case first =>
                  cases mok
                  · obtain ⟨y2, rfl, j1⟩ := C1.out.door
                    clear hc ib
                    go_wp2_with fail
                    go_meet
                    case rel =>
                      have hlb : W.heap.size ≤ bt := by rw [Hbt.out]; exact Nat.le_refl _
                      exact ⟨World.At_put_same j1, (C3.out.unput (.inr hlb)).put (.inr hlb) _ _⟩
                  · go_wp2_with fail
                    go_meet
                    case rel => exact ⟨C1, C3⟩
                case rest =>
                  clear C1 C3 hc ib
                  obtain ⟨C1, C3⟩ := hcut
                  have hM' : fixH ⟨mok, mn, mi, mt, ma, mz⟩ = stH l := by unfold stH; rw [← HM.out]
                  rw [hM', HS.out] at C1
                  clear hM' HM HS hM2 hs2 z1 nb
                  obtain ⟨b1, b2, b3, b4, b5⟩ := stH_bd l
                  obtain ⟨h, hh⟩ : ∃ h, h = stH l := ⟨_, rfl⟩
                  have hsn : Hid (stSnap l = areaS l h.area.toNat h.size.toNat) := by unfold Hid stSnap; rw [hh]
                  rw [← hh] at C1 b1 b2 b3 b4 b5
                  have Hh := hidIt hh
                  clear hh
                  obtain ⟨hok, hn, hi, ht, ha, hz⟩ := h
                  simp only [] at b1 b2 b3 b4 b5 hsn
                  obtain ⟨a, rfl⟩ := Int.eq_ofNat_of_zero_le b2
                  obtain ⟨z, rfl⟩ := Int.eq_ofNat_of_zero_le b4
                  simp only [Int.toNat_natCast] at hsn
                  have a2 : a < 2 := by omega
                  have z2 : z ≤ 128 := by omega
                  clear b1 b2 b3 b4 b5
                  have hA := hidIt (fun w m A => har.out w ⟨vp bd, stStamp l, stM l, stMS l, ⟨hok, hn, hi, ht, a, z⟩, stHS l, [], fun _ => false, fun _ => zRec⟩ m A rfl a z a2 z2)
                  rw [← hsn.out] at hA
                  have hc := C1.out.cell
                  have ib := C1.out.inB
                  go_wp2_with fail
                  refine Ord.region3 (fun _ => True) [0] [1, 2, 3, 4, 5, 6, 7, 8, 9, 10, 11] (.one 12 true (.val 13 (.val 14 (.one 15 false .fin)))) true (fun _ _ => trivial) (by kernel_rfl) (by kernel_rfl) (fun _ _ d _ _ h => by cases d <;> exact h) trivial ?_
                  simp only [Ord.pickO, Ord.nth]
                  repeat (go_big_quiet_step (fail))
                  refine wpQuiet_nil ?_
                  repeat (go_big_quiet_step (fail))
                  refine wpQuiet_nil ?_
                  -- steps: ['L12', 'V13', 'V14', 'N15']
                  refine Ord.wpS_loose rfl ?_
                  intro K hK
                  dsimp only [Ord.nth]
                  go_wp2_with (first
                    | (go_at_call 58; refine (hA.out wc.drew C3.out.drew (World.At_drew.2 C1.out)).mono ?_; rintro _ w5 ⟨rfl, p5⟩; have A5 := p5.at (World.At_drew.2 C1.out) (fun f => f); have M5 := hidIt (C3.out.drew.trans p5); clear p5 hA C1 C3 hc ib))
                  refine hK _ _ trivial ?_
                  clear hK K
                  obtain ⟨y5, rfl, i5⟩ := A5.door
                  refine Ord.wpS_val rfl ?_
                  dsimp only [Ord.nth]
                  go_big_quiet_step (fail)
                  refine wpQuiet_nil ?_
                  refine Ord.wpS_val rfl ?_
                  dsimp only [Ord.nth]
                  go_big_quiet_step (fail)
                  refine wpQuiet_nil ?_
                  refine Ord.wpS_next rfl ?_
                  intro K hK
                  dsimp only [Ord.nth]
                  go_wp2_with fail
                  refine Ord.wpS_fin ?_
                  go_wp2_with fail
                  have hlb : Hid (W.heap.size ≤ bt) := by unfold Hid; rw [Hbt.out]; exact Nat.le_refl _
                  have M6 : Hid (ModP (fun _ => False) W (y5.put bt (StoreR.cells ⟨vp bd, stStamp l, stM l, stMS l, ⟨hok, hn, hi, ht, a, z⟩, stHS l, stSnap l, fun _ => false, fun _ => zRec⟩) 139)) := (M5.out.unput (.inr hlb.out)).put (.inr hlb.out) _ _
                  have A6 : Hid ((y5.put bt (StoreR.cells ⟨vp bd, stStamp l, stM l, stMS l, ⟨hok, hn, hi, ht, a, z⟩, stHS l, stSnap l, fun _ => false, fun _ => zRec⟩) 139).At bt (StoreR.cells ⟨vp bd, stStamp l, stM l, stMS l, ⟨hok, hn, hi, ht, a, z⟩, stHS l, stSnap l, fun _ => false, fun _ => zRec⟩) 139) := World.At_put_same i5
                  clear M5 A5 i5
                  go_loopw [12] (fun kv u => ∃ k : Nat, k ≤ 6 ∧ kv = vi k ∧ Hid (ModP (fun _ => False) W u) ∧ Hid (u.At bt (StoreR.cells ⟨vp bd, stStamp l, stM l, stMS l, ⟨hok, hn, hi, ht, a, z⟩, stHS l, stSnap l, usedK l k, recK l k⟩) 139)) (fun kv _ => 6 - (intOf kv).toNat)
                  case atStart => exact ⟨0, by omega, rfl, M6, by rw [usedK_0, recK_0]; exact A6⟩
                  case round =>
                    clear M6 A6
                    obtain ⟨k, hk, rfl, H1, H2⟩ := hrel
                    by_cases hk2 : k < 6
                    · have hr := hidIt (show Calls Tryz.prog 55 #[vp bt, vi (8 + (k : Int))] _ (fun r w'' => r = .returned (vs (blk l (8 + k))) ∧ w'' = _) from hrd.out _ _ H1.out H2.out rfl (8 + k) (by omega))
                      have e0 := hidIt (fun w => c59 w (blk l (8 + k)) (hlen.out (8 + k) (by omega)) (hsa.out.r k (by omega)))
                      have hk3 : (k : Int) < 6 := by omega
                      have hu := hidIt (usedK_set l k)
                      have hv := hidIt (recK_set l k)
                      have hu1 : stUsed l k = (slotAt l k).isSome := by unfold stUsed; simp [hk2]
                      have hv1 : stRec l k = (slotAt l k).getD zRec := by unfold stRec; simp [hk2]
                      have hq : recV (blk l (8 + k)) = (match slotAt l k with | none => .tuple #[.agg zRec.cells, .bool false] | some r => .tuple #[.agg r.cells, .bool true]) := rfl
                      rw [hq] at e0
                      rw [hu1] at hu
                      rw [hv1] at hv
                      clear hu1 hv1 hq
                      generalize blk l (8 + k) = x at *
                      cases hsl : slotAt l k with
                      | none =>
                        rw [hsl] at e0 hu hv
                        clear hsl
                        obtain ⟨ri, rt, rd, hz⟩ : ∃ ri rt rd, zRec = ⟨ri, rt, rd⟩ := ⟨_, _, _, rfl⟩
                        simp only [Option.isSome, Option.getD] at hu hv
                        rw [hz] at e0 hv
                        simp only [Rec.cells] at e0
                        go_wp2_with (first
                          | (go_at_call 55; (with_reducible refine Calls.mono hr.out ?_); rintro _ w' ⟨rfl, e⟩; obtain rfl := e.symm; clear hr))
                        refine Ord.region3 (fun _ => True) [0, 1, 2, 3, 9, 10, 13, 14] [4] (.one 5 true (.val 6 (.val 7 (.val 8 (.val 11 (.one 12 true (.val 15 (.one 16 false .fin)))))))) true (fun _ _ => trivial) (by kernel_rfl) (by kernel_rfl) (fun _ _ d _ _ h => by cases d <;> exact h) trivial ?_
                        simp only [Ord.pickO, Ord.nth]
                        repeat (go_big_quiet_step (fail))
                        refine wpQuiet_nil ?_
                        repeat (go_big_quiet_step (fail))
                        refine wpQuiet_nil ?_
                        -- steps: ['L5', 'V6', 'V7', 'V8', 'V11', 'L12', 'V15', 'N16']
                        refine Ord.wpS_loose rfl ?_
                        intro K hK
                        dsimp only [Ord.nth]
                        go_wp2_with (first
                          | (go_at_call 59; refine (e0.out _).mono ?_; rintro _ w6 ⟨rfl, p6⟩; have A6 := p6.at (World.At_drew.2 H2.out) (fun f => f); have M6 := hidIt (H1.out.drew.trans p6); clear p6 H1 H2; obtain ⟨y6, rfl, i6⟩ := A6.door; clear A6; have M7 := hidIt (M6.out.unput (.inr hlb.out)); clear M6; have M6 := M7; clear M7))
                        refine hK _ _ trivial ?_
                        clear hK K
                        refine Ord.wpS_val rfl ?_
                        dsimp only [Ord.nth]
                        go_big_quiet_step (fail)
                        refine wpQuiet_nil ?_
                        refine Ord.wpS_val rfl ?_
                        dsimp only [Ord.nth]
                        go_big_quiet_step (fail)
                        refine wpQuiet_nil ?_
                        refine Ord.wpS_val rfl ?_
                        dsimp only [Ord.nth]
                        go_big_quiet_step (fail)
                        refine wpQuiet_nil ?_
                        refine Ord.wpS_val rfl ?_
                        dsimp only [Ord.nth]
                        go_big_quiet_step (fail)
                        refine wpQuiet_nil ?_
                        refine Ord.wpS_loose rfl ?_
                        intro K hK
                        dsimp only [Ord.nth]
                        go_wp2_with fail
                        refine hK _ _ trivial ?_
                        clear hK K
                        refine Ord.wpS_val rfl ?_
                        dsimp only [Ord.nth]
                        go_big_quiet_step (fail)
                        refine wpQuiet_nil ?_
                        refine Ord.wpS_next rfl ?_
                        intro K hK
                        dsimp only [Ord.nth]
                        go_wp2_with fail
                        refine Ord.wpS_fin ?_
                        go_wp2_with fail
                        go_roundw
                        case rel => exact ⟨k + 1, by omega, by go_num, (M6.out.put (.inr hlb.out) _ _), by rw [← hu.out, ← hv.out]; exact World.At_put_same i6⟩
                        case measure => simp [intOf]; omega
                      | some r =>
                        rw [hsl] at e0 hu hv
                        clear hsl
                        obtain ⟨ri, rt, rd⟩ := r
                        simp only [Option.isSome, Option.getD] at hu hv
                        simp only [Rec.cells] at e0
                        go_wp2_with (first
                          | (go_at_call 55; (with_reducible refine Calls.mono hr.out ?_); rintro _ w' ⟨rfl, e⟩; obtain rfl := e.symm; clear hr))
                        refine Ord.region3 (fun _ => True) [0, 1, 2, 3, 9, 10, 13, 14] [4] (.one 5 true (.val 6 (.val 7 (.val 8 (.val 11 (.one 12 true (.val 15 (.one 16 false .fin)))))))) true (fun _ _ => trivial) (by kernel_rfl) (by kernel_rfl) (fun _ _ d _ _ h => by cases d <;> exact h) trivial ?_
                        simp only [Ord.pickO, Ord.nth]
                        repeat (go_big_quiet_step (fail))
                        refine wpQuiet_nil ?_
                        repeat (go_big_quiet_step (fail))
                        refine wpQuiet_nil ?_
                        -- steps: ['L5', 'V6', 'V7', 'V8', 'V11', 'L12', 'V15', 'N16']
                        refine Ord.wpS_loose rfl ?_
                        intro K hK
                        dsimp only [Ord.nth]
                        go_wp2_with (first
                          | (go_at_call 59; refine (e0.out _).mono ?_; rintro _ w6 ⟨rfl, p6⟩; have A6 := p6.at (World.At_drew.2 H2.out) (fun f => f); have M6 := hidIt (H1.out.drew.trans p6); clear p6 H1 H2; obtain ⟨y6, rfl, i6⟩ := A6.door; clear A6; have M7 := hidIt (M6.out.unput (.inr hlb.out)); clear M6; have M6 := M7; clear M7))
                        refine hK _ _ trivial ?_
                        clear hK K
                        refine Ord.wpS_val rfl ?_
                        dsimp only [Ord.nth]
                        go_big_quiet_step (fail)
                        refine wpQuiet_nil ?_
                        refine Ord.wpS_val rfl ?_
                        dsimp only [Ord.nth]
                        go_big_quiet_step (fail)
                        refine wpQuiet_nil ?_
                        refine Ord.wpS_val rfl ?_
                        dsimp only [Ord.nth]
                        go_big_quiet_step (fail)
                        refine wpQuiet_nil ?_
                        refine Ord.wpS_val rfl ?_
                        dsimp only [Ord.nth]
                        go_big_quiet_step (fail)
                        refine wpQuiet_nil ?_
                        refine Ord.wpS_loose rfl ?_
                        intro K hK
                        dsimp only [Ord.nth]
                        go_wp2_with fail
                        refine hK _ _ trivial ?_
                        clear hK K
                        refine Ord.wpS_val rfl ?_
                        dsimp only [Ord.nth]
                        go_big_quiet_step (fail)
                        refine wpQuiet_nil ?_
                        refine Ord.wpS_next rfl ?_
                        intro K hK
                        dsimp only [Ord.nth]
                        go_wp2_with fail
                        refine Ord.wpS_fin ?_
                        go_wp2_with fail
                        go_roundw
                        case rel => exact ⟨k + 1, by omega, by go_num, (M6.out.put (.inr hlb.out) _ _), by rw [← hu.out, ← hv.out]; exact World.At_put_same i6⟩
                        case measure => simp [intOf]; omega
                    · obtain rfl : k = 6 := by omega
                      rw [usedK_6, recK_6] at H2
                      clear hk hk2
                      go_wp2_with fail
                      go_ret
                      refine ⟨rfl, ?_, H1.out⟩
                      have he : stOf (vp bd) l = ⟨vp bd, stStamp l, stM l, stMS l, ⟨hok, hn, hi, ht, a, z⟩, stHS l, stSnap l, stUsed l, stRec l⟩ := by unfold stOf; rw [← Hh.out]
                      rw [he]
                      exact H2.out
end
end Go.Proofs.Qxb6500990aGreat
