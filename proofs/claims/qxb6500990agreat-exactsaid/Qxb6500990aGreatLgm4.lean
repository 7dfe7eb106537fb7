/- package rlogm: TruncateFrom, rebase, Compact, Install; New, Mark, After -/
import Derived.Test.Qxb6500990aGreatLgm3
set_option linter.unusedVariables false
set_option linter.unusedSimpArgs false
namespace Go.Tw
open Go Go.Proofs Go.Proofs.Qxb6500990aGreat Go.RowKit
theorem exists_least {P : Nat → Prop} : ∀ (n k : Nat), k ≤ n → P k → ∃ m, P m ∧ ∀ j, P j → m ≤ j
  | 0, k, hk, h => ⟨k, h, fun j _ => by omega⟩
  | n + 1, k, hk, h => by
    by_cases h' : ∃ j, j ≤ n ∧ P j
    · obtain ⟨j, h1, h2⟩ := h'
      exact exists_least n j h1 h2
    · refine ⟨k, h, fun j hj => ?_⟩
      rcases Nat.lt_or_ge j k with hl | hl
      · exact absurd ⟨j, by omega, hj⟩ h'
      · exact hl
open Classical in
/-- the least k with P k; 0 if none -/
noncomputable def least (P : Nat → Prop) : Nat := if h : ∃ m, P m ∧ ∀ j, P j → m ≤ j then Classical.choose h else 0
theorem least_spec {P : Nat → Prop} (h : ∃ k, P k) : P (least P) := by
  obtain ⟨k, hk⟩ := h
  have h := exists_least k k (Nat.le_refl _) hk
  unfold least; rw [dif_pos h]; exact (Classical.choose_spec h).1
theorem least_le {P : Nat → Prop} {k : Nat} (hk : P k) : least P ≤ k := by
  have h := exists_least k k (Nat.le_refl _) hk
  unfold least; rw [dif_pos h]; exact (Classical.choose_spec h).2 k hk
theorem _root_.Go.ModP.next {F : Nat → Prop} {w w1 w2 : World} (h1 : ModP F w w1) (h2 : ModP (grow F w) w1 w2) : ModP F w w2 := h1.step h2 fun _ h => h
theorem AL.popN_succ (a : AL) : ∀ n, a.popN (n + 1) = (a.popN n).pop
  | 0 => rfl
  | n + 1 => by
    show a.pop.popN (n + 1) = _
    rw [AL.popN_succ a.pop n]; rfl
theorem AL.popN_now (a : AL) : ∀ n, (a.popN n).now = { a.now with ents := a.now.ents.take (a.now.ents.length - n) }
  | 0 => by simp [AL.popN]
  | n + 1 => by
    rw [AL.popN_succ]
    show { (a.popN n).now with ents := (a.popN n).now.ents.dropLast } = _
    rw [AL.popN_now a n]
    simp only [Lg.mk.injEq, true_and]
    rw [List.dropLast_eq_take, List.take_take, List.length_take]
    congr 1
    omega
theorem AL.popN_len (a : AL) : ∀ n, (a.popN n).hist.length = a.hist.length + n
  | 0 => rfl
  | n + 1 => by rw [AL.popN_succ]; show ((a.popN n).hist ++ [_]).length = _; rw [List.length_append, AL.popN_len a n]; rfl
theorem Lg.Ok.take {s : Lg} (h : s.Ok) (n : Nat) : Lg.Ok { s with ents := s.ents.take n } :=
  ⟨h.t0, h.t1, h.v0, h.v1, h.b0, h.bt0, h.bt1, h.sn, by have := h.n6; simp; omega, by have := h.lm; simp; omega, fun e he => h.en e (List.mem_of_mem_take he)⟩
/-- the ring's cells while rebase fills them -/
def shRing (s : Lg) (k j : Nat) : Nat → Entry := fun m => if m + k < j then s.ent (m + k) else zEnt
theorem shRing_start (s : Lg) (k : Nat) : shRing s k k = fun _ => zEnt := by funext m; unfold shRing; rw [if_neg (by omega)]
theorem shRing_step (s : Lg) (k j : Nat) (h : k ≤ j) : upd (shRing s k j) (j - k) (s.ent j) = shRing s k (j + 1) := by
  funext m
  unfold upd shRing
  by_cases h1 : m = j - k
  · subst h1; rw [if_pos rfl, if_pos (by omega), show j - k + k = j by omega]
  · rw [if_neg h1]
    by_cases h2 : m + k < j
    · rw [if_pos h2, if_pos (by omega)]
    · rw [if_neg h2, if_neg (by omega)]
theorem shRing_end (s : Lg) (k : Nat) : shRing s k s.ents.length = Lg.ent { s with ents := s.ents.drop k } := by
  funext m
  unfold shRing Lg.ent
  simp only [List.getD_eq_getElem?_getD, List.getElem?_drop]
  by_cases h : m + k < s.ents.length
  · rw [if_pos h, Nat.add_comm]
  · rw [if_neg h, List.getElem?_eq_none (by omega)]; rfl
structure WS where
  w : World
  e : StateM
instance : Nonempty WS := ⟨⟨Classical.choice inferInstance, Lg.new.r⟩⟩
theorem ca_ws {w : World} {b bs : Nat} {C : Array Value} {e : StateM} {n : Int} (h1 : w.At b C 215) (h2 : w.At bs e.cells 248) (hn : e.n = n) : ∃ u : WS, w = u.w.force2 b C 215 bs (StateM.cells { u.e with n := n }) 248 :=
  ⟨⟨w, e⟩, by subst hn; exact (World.At.force2 h1 h2).symm⟩
theorem AL.popN_ok {a : AL} (h : a.now.Ok) (n : Nat) : (a.popN n).now.Ok := by rw [AL.popN_now]; exact h.take _
end Go.Tw
namespace Go.Proofs.Qxb6500990aGreat
open Go Go.RowKit Go.Tw
attribute [local go_sem] World.cell?_put_same World.cell?_put_ne World.cell?_put_ne' World.frozen?_put_same World.frozen?_put_ne World.frozen?_put_ne' World.setCell_put_same World.setCell_put_ne World.setCell_put_ne' World.inB_put World.inB_alloc World.inB_drew World.inB_drewN World.inB_new World.inB_setCell World.put_drew World.put_drewN World.q_setCell_drew World.q_setCell_drewN World.q_alloc_drew World.q_alloc_drewN World.put_put_same World.put_put_2 World.size_put World.q_cell?_alloc_old World.q_frozen?_alloc_old World.cell?_alloc_new' World.frozen?_alloc_new' World.q_setCell_alloc_old World.q_setCell_alloc_new World.q_put_alloc_old StateM.g0 StateM.s0 StateM.g1 StateM.s1 StateM.g2 StateM.s2 StateM.g3 StateM.s3 StateM.g4 StateM.s4 StateM.g5 StateM.s5 StateM.g6 StateM.s6 StateM.g7 StateM.s7 StateM.g8 StateM.s8 StateM.g9 StateM.s9 StateM.g10 StateM.s10 StateM.g11 StateM.s11 StateM.g12 StateM.s12 StateM.g13 StateM.s13 StateM.g14 StateM.s14 StateM.g15 StateM.s15 StateM.g16 StateM.s16 StateM.g17 StateM.s17 StateM.gi_ents_0 StateM.si_ents_0 StateM.gi_ents_1 StateM.si_ents_1 LogM.g0 LogM.s0 LogM.g1 LogM.s1 LogM.g2 LogM.s2 Entry.g0 Entry.s0 Entry.g1 Entry.s1
attribute [local go_sem] StateM.gia_ents_1 StateM.sia_ents_1
attribute [local go_sem] ba_get upd_same upd_upd
set_option maxHeartbeats 1000000
set_option maxRecDepth 100000
section
variable {W : World} {F : Nat → Prop} {b : Nat} {a : AL}
theorem c254 (h : LMK W F b a) (ok : a.now.Ok) (hn : a.hist.length ≤ 8000) (i : Int) : Calls Tryz.prog 254 #[vp b, vi i] W fun r w' => r = .returned (vi (a.trunc i).1) ∧ LMK w' (grow F W) b (a.trunc i).2 ∧ ModP F W w' := by
  by_cases h1 : i ≤ a.now.base
  · have hk : Hid (a.trunc i = (7, a)) := by unfold Hid AL.trunc; rw [if_pos h1]
    have Hh := hidIt h
    obtain ⟨bs, bm, hv, bks, h⟩ := h
    obtain ⟨u, hu, i1, i2, ne⟩ := h.open
    clear h
    subst hu
    unfold Lg.r at Hh ⊢
    go_enter Tryz.func254, Tryz.ntmps254
    go_wp2_with fail
    go_ret
    rw [hk.out]
    exact ⟨rfl, Hh.out.mono fun _ => .inl, ModP.refl _ _⟩
  · obtain ⟨K, hK⟩ : ∃ K : Nat, K = (a.now.last - i + 1).toNat := ⟨_, rfl⟩
    have hk : Hid (a.trunc i = (0, a.popN K)) := by unfold Hid AL.trunc; rw [if_neg h1, hK]
    have Hh := hidIt h
    have HK := hidIt hK
    have Hok := hidIt ok
    have K6 : K ≤ a.now.ents.length := by unfold Lg.last at hK; omega
    have n6 := ok.n6
    clear hK ok
    obtain ⟨bs, bm, hv, bks, h⟩ := h
    have hc1 := h.hb.cell
    have hc2 := h.hs.cell
    clear h
    unfold Lg.r at hc2
    go_enter Tryz.func254, Tryz.ntmps254
    go_wp2_with fail
    clear hc1 hc2
    go_loopw [] (fun v => ∃ k, k ≤ K ∧ Hid (LMK v (grow F W) b (a.popN (K - k))) ∧ Hid (ModP F W v)) (fun v => least (fun k => k ≤ K ∧ Hid (LMK v (grow F W) b (a.popN (K - k))) ∧ Hid (ModP F W v)))
    case atStart => exact ⟨K, Nat.le_refl _, by rw [Nat.sub_self]; exact Hh.out.mono fun _ => .inl, ModP.refl _ _⟩
    case round =>
      have hP := least_spec hrel
      clear hrel
      generalize least _ = k at *
      obtain ⟨hkK, hL, hM⟩ := hP
      have okk : (a.popN (K - k)).now.Ok := AL.popN_ok Hok.out _
      have hent : (a.popN (K - k)).now.ents.length = a.now.ents.length - (K - k) := by rw [AL.popN_now]; simp
      have hbase : (a.popN (K - k)).now.base = a.now.base := by rw [AL.popN_now]
      have hlast := hidIt (c154 hL.out (by omega) okk.b0 (by have := okk.lm; omega))
      have hlv : (a.popN (K - k)).now.last = a.now.last - (K - k : Nat) := by unfold Lg.last; rw [hbase, hent]; omega
      rw [hlv] at hlast
      cases k with
      | zero =>
        have hlt : a.now.last - (K - 0 : Nat) < i := by have := HK.out; omega
        have HL : Hid (LMK wr (grow F W) b (a.popN K)) := hL
        clear hlv hent hbase okk hL K6
        generalize a.now.last - (K - 0 : Nat) = l at *
        go_wp2_with (go_at_call 154; refine hlast.out.mono ?_; rintro _ _ ⟨rfl, m, rfl⟩)
        go_ret
        rw [hk.out]
        exact ⟨rfl, HL.out.frame (G := fun _ => False) (by repeat (first | assumption | exact ModP.refl _ _ | refine ModP.fromPut ?_ (by assumption) | apply ModP.alloc | apply ModP.drew | apply ModP.drewN | refine ModP.put ?_ (by first | (left; assumption) | (left; rfl) | (right; simp only [World.inB, World.size_put] at *; omega)) _ _)) (fun _ _ f => f), ModP.drewN hM.out _⟩
      | succ k =>
        have hlt : i ≤ a.now.last - (K - (k + 1) : Nat) := by have := HK.out; unfold Lg.last at *; omega
        have hpop := hidIt (fun m => c256 (hL.out.frame (w1 := wr.drewN m) (G := fun _ => False) (by repeat (first | assumption | exact ModP.refl _ _ | refine ModP.fromPut ?_ (by assumption) | apply ModP.alloc | apply ModP.drew | apply ModP.drewN | refine ModP.put ?_ (by first | (left; assumption) | (left; rfl) | (right; simp only [World.inB, World.size_put] at *; omega)) _ _)) (fun _ _ f => f)) (by rw [AL.popN_len]; omega) (a.now.ents.length - (K - (k + 1)) - 1) (by omega) (by omega))
        have hs : (a.popN (K - (k + 1))).pop = a.popN (K - k) := by rw [← AL.popN_succ]; congr 1; omega
        rw [hs] at hpop
        clear hlv hent hbase okk hs
        generalize a.now.last - (K - (k + 1) : Nat) = l at *
        go_wp2_with (first
          | (go_at_call 154; refine hlast.out.mono ?_; rintro _ _ ⟨rfl, m, rfl⟩)
          | (go_at_call 256; refine (hpop.out _).mono ?_; rintro _ w2 ⟨rfl, h1, h2⟩))
        go_roundw
        case rel => exact ⟨k, by omega, h1.mono (fun x hx => grow_grow hM.out.size hx), (ModP.drewN hM.out _).next h2⟩
        case measure => exact Nat.lt_succ_of_le (least_le ⟨by omega, h1.mono (fun x hx => grow_grow hM.out.size hx), (ModP.drewN hM.out _).next h2⟩)
attribute [local go_sem] World.cell?_put_same World.cell?_put_ne World.cell?_put_ne' World.frozen?_put_same World.frozen?_put_ne World.frozen?_put_ne' World.setCell_put_same World.setCell_put_ne World.setCell_put_ne' World.inB_put World.inB_alloc World.inB_drew World.inB_drewN World.inB_new World.inB_setCell World.put_drew World.put_drewN World.q_setCell_drew World.q_setCell_drewN World.q_alloc_drew World.q_alloc_drewN World.put_put_same World.put_put_2 World.size_put World.q_cell?_alloc_old World.q_frozen?_alloc_old World.cell?_alloc_new' World.frozen?_alloc_new' World.q_setCell_alloc_old World.q_setCell_alloc_new World.q_put_alloc_old World.cell?_force_same World.frozen?_force_same World.cell?_force2_fst World.cell?_force2_snd Ring.g0 Ring.s0 Ring.g1 Ring.s1 Ring.g2 Ring.s2 Ring.g3 Ring.s3 Ring.g4 Ring.s4 Ring.g5 Ring.s5 Ring.g6 Ring.s6 Ring.g7 Ring.s7 Ring.g8 Ring.s8 Ring.g9 Ring.s9 Ring.g10 Ring.s10 Ring.g11 Ring.s11 Ring.gi_ents_0 Ring.si_ents_0 Ring.gi_ents_1 Ring.si_ents_1
attribute [local go_sem] Ring.gia_ents_1 Ring.sia_ents_1
theorem c255 (h : LMK W F b a) (hn : a.hist.length ≤ 9000) (n6 : a.now.ents.length ≤ 6) (b0 : 0 ≤ a.now.base) (b1 : a.now.base ≤ maxT) (k : Nat) (k1 : k ≤ a.now.ents.length) (idx t : Int) (hi : idx = a.now.base + k) (sn : Bs) :
    Calls Tryz.prog 255 #[vp b, vi idx, vi t, vs sn] W fun r w' => r = .returned (.tuple #[]) ∧ LMK w' (grow F W) b (a.rebase idx t sn) ∧ ModP F W w' := by
  obtain ⟨bs, bm, hv, bks, h⟩ := h
  have hst := fun w' m => h.stepAt { a.now with base := idx, baseTerm := t, snap := sn, ents := a.now.ents.drop k } hn (w' := w') m
  have hk : Hid (a.rebase idx t sn = a.to { a.now with base := idx, baseTerm := t, snap := sn, ents := a.now.ents.drop k }) := by
    unfold Hid AL.rebase; rw [show (idx - a.now.base).toNat = k by omega]
  obtain ⟨u, hu, i1, i2, ne⟩ := h.open
  clear h
  subst hu
  have hr : Lg.r { a.now with base := idx, baseTerm := t, snap := sn, ents := a.now.ents.drop k } = ⟨a.now.term, a.now.vote, idx, t, sn, ((a.now.ents.length - k : Nat) : Int), shRing a.now k a.now.ents.length⟩ := by
    rw [shRing_end]; unfold Lg.r; simp only [List.length_drop]; rfl
  rw [hr] at hst
  clear hr
  simp only [World.put_put_same] at hst
  have Hst := hidIt hst
  clear hst
  have hstep := fun j h => hidIt (shRing_step a.now k j h)
  have hsta := hidIt (shRing_start a.now k)
  unfold Lg.r at *
  generalize hx : a.now.ents.length = n at *
  unfold maxT at b1
  have e1 : idx - a.now.base = k := by omega
  have hi0 : 0 ≤ idx := by omega
  have hi1 : idx ≤ 72057594037927950 := by omega
  clear hx hi
  go_enter Tryz.func255, Tryz.ntmps255
  go_wp2_with fail
  go_loopw [10] (fun i u' => ∃ j : Nat, k ≤ j ∧ j ≤ n ∧ i = vi j ∧ Dr (((u.put b (LogM.cells ⟨vp bs, vp bm, hv⟩) 215).put bs (StateM.cells ⟨a.now.term, a.now.vote, a.now.base, a.now.baseTerm, a.now.snap, n, a.now.ent⟩) 248).alloc (.cells (Ring.cells ⟨shRing a.now k j⟩) 246 (0, 0))) u') (fun i _ => n - (intOf i).toNat)
  case atStart => exact ⟨k, Nat.le_refl _, k1, rfl, by rw [hsta.out]; exact Dr.refl _⟩
  case round =>
    obtain ⟨j, hj1, hj2, rfl, m, rfl⟩ := hrel
    by_cases hjn : j < n
    · have j6 : j < 6 := by omega
      have j6' : j - k < 6 := by omega
      have e2 : ((j : Nat) : Int) - k = ((j - k : Nat) : Int) := by omega
      have hs := hstep j hj1
      clear hstep
      go_wp2_with fail
      go_roundw
      case rel => exact ⟨j + 1, by omega, by omega, by go_num, by rw [← hs.out]; exact (Dr.refl _).drewN _⟩
      case measure => simp [intOf]; omega
    · obtain rfl : j = n := by omega
      have e3 : ((j : Nat) : Int) - k = ((j - k : Nat) : Int) := by omega
      go_wp2_with fail
      refine Ord.region2 (fun w' => ∃ u : WS, w' = u.w.force2 b (LogM.cells ⟨vp bs, vp bm, hv⟩) 215 bs (StateM.cells { u.e with n := ((j : Nat) : Int) }) 248) [9, 10, 11, 12, 13, 14, 15, 16, 17] [0, 1, 2, 3, 4, 5, 6, 7, 8, 18, 19] [[(20, true), (21, false), (22, false), (23, false)]] (by kernel_rfl) (by kernel_rfl) (fun _ _ d _ _ h => by cases d <;> exact h) ?ca6_1 ?_
      rotate_left
      simp only [Ord.pickO, Ord.nth]
      repeat (go_big_quiet_step (fail))
      refine wpQuiet_nil ?_
      repeat (go_big_quiet_step (fail))
      refine wpQuiet_nil ?_
      intro T hT
      simp only [List.mem_cons, List.not_mem_nil, or_false] at hT
      subst hT
      rotate_left
      · exact ca_ws (by repeat (first | assumption | exact World.At_alloc_new | exact at_new (by first | rfl | (simp [World.size_put]; done) | (simp [World.size_put]; omega)) | refine World.At.alloc ?_ _ | refine World.At_drew.2 ?_ | refine (World.At_drewN _).2 ?_ | exact World.At_put_same (by first | assumption | (simp only [World.inB, World.size_put, World.alloc, World.drew, World.drewN, Array.size_push] at *; omega)) | refine (World.At_put_ne' (by first | assumption | (exact Ne.symm (by assumption)) | (simp only [World.inB, World.size_put] at *; omega))).2 ?_)) (by repeat (first | assumption | exact World.At_alloc_new | exact at_new (by first | rfl | (simp [World.size_put]; done) | (simp [World.size_put]; omega)) | refine World.At.alloc ?_ _ | refine World.At_drew.2 ?_ | refine (World.At_drewN _).2 ?_ | exact World.At_put_same (by first | assumption | (simp only [World.inB, World.size_put, World.alloc, World.drew, World.drewN, Array.size_push] at *; omega)) | refine (World.At_put_ne' (by first | assumption | (exact Ne.symm (by assumption)) | (simp only [World.inB, World.size_put] at *; omega))).2 ?_)) rfl
      refine Ord.wpT_loose rfl ?_
      intro K hK
      dsimp only [Ord.nth]
      go_wp2_with fail
      refine hK _ _ (ca_ws (by repeat (first | assumption | exact World.At_alloc_new | exact at_new (by first | rfl | (simp [World.size_put]; done) | (simp [World.size_put]; omega)) | refine World.At.alloc ?_ _ | refine World.At_drew.2 ?_ | refine (World.At_drewN _).2 ?_ | exact World.At_put_same (by first | assumption | (simp only [World.inB, World.size_put, World.alloc, World.drew, World.drewN, Array.size_push] at *; omega)) | refine (World.At_put_ne' (by first | assumption | (exact Ne.symm (by assumption)) | (simp only [World.inB, World.size_put] at *; omega))).2 ?_)) (by repeat (first | assumption | exact World.At_alloc_new | exact at_new (by first | rfl | (simp [World.size_put]; done) | (simp [World.size_put]; omega)) | refine World.At.alloc ?_ _ | refine World.At_drew.2 ?_ | refine (World.At_drewN _).2 ?_ | exact World.At_put_same (by first | assumption | (simp only [World.inB, World.size_put, World.alloc, World.drew, World.drewN, Array.size_push] at *; omega)) | refine (World.At_put_ne' (by first | assumption | (exact Ne.symm (by assumption)) | (simp only [World.inB, World.size_put] at *; omega))).2 ?_)) rfl) ?_
      clear hK K
      refine Ord.wpT_next rfl ?_
      intro K hK
      dsimp only [Ord.nth]
      go_wp2_with fail
      refine Ord.wpT_next rfl ?_
      intro K hK
      dsimp only [Ord.nth]
      go_wp2_with fail
      refine Ord.wpT_next rfl ?_
      intro K hK
      dsimp only [Ord.nth]
      go_wp2_with fail
      refine Ord.wpT_nil ?_
      go_wp2_with fail
      refine Ord.region1 [13, 14] [0, 1, 2, 3, 4, 5, 6, 7, 8, 9, 10, 11, 12, 15, 16] [17, 18, 19, 20, 21, 22, 23] (by kernel_rfl) (by kernel_rfl) (fun _ _ d _ _ h => by cases d <;> exact h) ?_
      simp only [Ord.pickO, Ord.nth]
      repeat (go_big_quiet_step (fail))
      refine wpQuiet_nil ?_
      repeat (go_big_quiet_step (fail))
      refine wpQuiet_nil ?_
      go_wp2_with (go_at_call 221; refine (Hst.out _ (by repeat (first | assumption | exact ModP.refl _ _ | refine ModP.fromPut ?_ (by assumption) | apply ModP.alloc | apply ModP.drew | apply ModP.drewN | refine ModP.put ?_ (by first | (left; assumption) | (left; rfl) | (right; simp only [World.inB, World.size_put] at *; omega)) _ _))).mono ?_; rintro _ _ ⟨rfl, hK, hM⟩)
      go_end0
      rw [hk.out]
      exact ⟨rfl, hK, hM⟩
theorem c223 (h : LMK W F b a) (ok : a.now.Ok) (hn : a.hist.length ≤ 9000) (u : Int) (sn : Bs) : Calls Tryz.prog 223 #[vp b, vi u, vs sn] W fun r w' => r = .returned (vi (a.compact u sn).1) ∧ LMK w' (grow F W) b (a.compact u sn).2 ∧ ModP F W w' := by
  have Hh := hidIt h
  have hlast := hidIt (c154 h (by have := ok.n6; omega) ok.b0 (by have := ok.lm; omega))
  have hta := hidIt (fun w' (m : ModP (fun _ => False) W w') => c203 (h.frame m (fun _ _ f => f)) ok u)
  by_cases h1 : 128 < sn.length
  · have hk : Hid (a.compact u sn = (5, a)) := by unfold Hid AL.compact; rw [if_pos h1]
    have h1' : (128 : Int) < sn.length := by omega
    clear h ok h1
    go_enter Tryz.func223, Tryz.ntmps223
    go_wp2_with fail
    go_ret
    rw [hk.out]
    exact ⟨rfl, Hh.out.mono fun _ => .inl, ModP.refl _ _⟩
  have h1' : (sn.length : Int) ≤ 128 := by omega
  by_cases h2 : u ≤ a.now.base
  · have hk : Hid (a.compact u sn = (7, a)) := by unfold Hid AL.compact; rw [if_neg h1, if_pos h2]
    obtain ⟨bs, bm, hv, bks, h⟩ := h
    have hc1 := h.hb.cell
    have hc2 := h.hs.cell
    unfold Lg.r at hc2
    clear h ok h1
    go_enter Tryz.func223, Tryz.ntmps223
    go_wp2_with fail
    go_ret
    rw [hk.out]
    exact ⟨rfl, Hh.out.mono fun _ => .inl, ModP.refl _ _⟩
  by_cases h3 : a.now.last < u
  · have hk : Hid (a.compact u sn = (2, a)) := by unfold Hid AL.compact; rw [if_neg h1, if_neg h2, if_pos h3]
    obtain ⟨bs, bm, hv, bks, h⟩ := h
    have hc1 := h.hb.cell
    have hc2 := h.hs.cell
    unfold Lg.r at hc2
    clear h ok h1
    go_enter Tryz.func223, Tryz.ntmps223
    go_wp2_with (go_at_call 154; refine hlast.out.mono ?_; rintro _ _ ⟨rfl, m, rfl⟩)
    go_ret
    rw [hk.out]
    exact ⟨rfl, (Hh.out.frame (G := fun _ => False) (by repeat (first | assumption | exact ModP.refl _ _ | refine ModP.fromPut ?_ (by assumption) | apply ModP.alloc | apply ModP.drew | apply ModP.drewN | refine ModP.put ?_ (by first | (left; assumption) | (left; rfl) | (right; simp only [World.inB, World.size_put] at *; omega)) _ _)) (fun _ _ f => f)).mono fun _ => .inl, (by repeat (first | assumption | exact ModP.refl _ _ | refine ModP.fromPut ?_ (by assumption) | apply ModP.alloc | apply ModP.drew | apply ModP.drewN | refine ModP.put ?_ (by first | (left; assumption) | (left; rfl) | (right; simp only [World.inB, World.size_put] at *; omega)) _ _))⟩
  · have hk : Hid (a.compact u sn = (0, a.rebase u (a.now.termAt u).1 sn)) := by unfold Hid AL.compact; rw [if_neg h1, if_neg h2, if_neg h3]
    have hreb := hidIt (fun w' (m : ModP (fun _ => False) W w') => c255 (h.frame m (fun _ _ f => f)) hn ok.n6 ok.b0 (by have := ok.lm; omega) (u - a.now.base).toNat (by unfold Lg.last at h3; omega) u (a.now.termAt u).1 (by omega) sn)
    have h3' : u ≤ a.now.last := by omega
    obtain ⟨bs, bm, hv, bks, h⟩ := h
    have hc1 := h.hb.cell
    have hc2 := h.hs.cell
    unfold Lg.r at hc2
    clear h ok h1 h3
    go_enter Tryz.func223, Tryz.ntmps223
    go_wp2_with (first
      | (go_at_call 154; refine hlast.out.mono ?_; rintro _ _ ⟨rfl, m, rfl⟩)
      | (go_at_call 203; refine (hta.out _ (by repeat (first | assumption | exact ModP.refl _ _ | refine ModP.fromPut ?_ (by assumption) | apply ModP.alloc | apply ModP.drew | apply ModP.drewN | refine ModP.put ?_ (by first | (left; assumption) | (left; rfl) | (right; simp only [World.inB, World.size_put] at *; omega)) _ _))).mono ?_; rintro _ w2 ⟨rfl, m2⟩; have m3 : ModP (fun _ => False) W w2 := ModP.trans (by repeat (first | assumption | exact ModP.refl _ _ | refine ModP.fromPut ?_ (by assumption) | apply ModP.alloc | apply ModP.drew | apply ModP.drewN | refine ModP.put ?_ (by first | (left; assumption) | (left; rfl) | (right; simp only [World.inB, World.size_put] at *; omega)) _ _)) m2.toP0; clear m2)
      | (go_at_call 255; refine (hreb.out _ m3).mono ?_; rintro _ w4 ⟨rfl, k1, k2⟩))
    go_ret
    rw [hk.out]
    exact ⟨rfl, k1.mono (fun x hx => grow_mono m3.size hx), (m3.mono (fun _ f => f.elim)).trans k2⟩
end
end Go.Proofs.Qxb6500990aGreat
