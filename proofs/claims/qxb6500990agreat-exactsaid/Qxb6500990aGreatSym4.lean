/- package syncm: send -/
import Derived.Test.Qxb6500990aGreatSym3
import Derived.Test.Qxb6500990aGreatOrder4
set_option linter.unusedVariables false
set_option linter.unusedSimpArgs false
namespace Go.Proofs.Qxb6500990aGreat
open Go Go.RowKit Go.Tw
attribute [local go_sem] World.cell?_put_same World.cell?_put_ne World.cell?_put_ne' World.frozen?_put_same World.frozen?_put_ne World.frozen?_put_ne' World.setCell_put_same World.setCell_put_ne World.setCell_put_ne' World.inB_put World.inB_alloc World.inB_drew World.inB_drewN World.inB_new World.inB_setCell World.put_drew World.put_drewN World.q_setCell_drew World.q_setCell_drewN World.q_alloc_drew World.q_alloc_drewN World.put_put_same World.put_put_2 World.size_put World.q_cell?_alloc_old World.q_frozen?_alloc_old World.cell?_alloc_new' World.frozen?_alloc_new' World.q_setCell_alloc_old World.q_setCell_alloc_new World.q_put_alloc_old World.cell?_force_same World.frozen?_force_same World.cell?_force2_fst World.cell?_force2_snd SyncM.g0 SyncM.s0 SyncM.g1 SyncM.s1 SyncM.g2 SyncM.s2 SyncM.g3 SyncM.s3 SyncM.g4 SyncM.s4 SyncM.g5 SyncM.s5 SyncM.g6 SyncM.s6 SyncM.g7 SyncM.s7 SyncM.g8 SyncM.s8 SyncM.gi_next_0 SyncM.si_next_0 SyncM.gi_mtch_0 SyncM.si_mtch_0 MsgR.g0 MsgR.s0 MsgR.g1 MsgR.s1 MsgR.g2 MsgR.s2 MsgR.g3 MsgR.s3 MsgR.g4 MsgR.s4 MsgR.g5 MsgR.s5 MsgR.g6 MsgR.s6 MsgR.g7 MsgR.s7 MsgR.g8 MsgR.s8 MsgR.g9 MsgR.s9 Entry.g0 Entry.s0 Entry.g1 Entry.s1
attribute [local go_sem] ba_get upd_same upd_upd
set_option maxHeartbeats 4000000
set_option maxRecDepth 100000
section
variable {W w : World} {G : Nat → Prop} {b bl be : Nat} {A : AS}
theorem entsC_snoc' (es : List Entry) (e : Entry) : entsC (es ++ [e]) = entsC es ++ [vi e.term, vs e.data] := by simp [entsC]
theorem ownsRow_low {B B' e s n : Nat} {w : World} {v : Value} {xs : List Value} (h : w.ownsRow B e s v n xs) (hB : B' ≤ B) : w.ownsRow B' e s v n xs := by
  refine ⟨h.1, ?_⟩
  rcases h.2 with h2 | ⟨g, cap, cur, hv, h3, h4, h5⟩
  · exact .inl h2
  · exact .inr ⟨g, cap, cur, hv, Nat.le_trans hB h3, h4, h5⟩
def zMR : MsgR := ⟨0, 0, 0, 0, 0, 0, 0, false, .slice none 0 0, []⟩
theorem c212_snap (h : SMp W G b bl be A) (ok : A.lg.now.Ok) (p : Nat) (p3 : p < 3) (hsn : A.next p ≤ A.lg.now.base) :
    Calls Tryz.prog 212 #[vp b, vi p] W fun r w' => ∃ v, r = .returned (.agg ((A.send p).r v).cells) ∧ EntsAt W.heap.size w' v (A.send p).ents ∧ ModP (fun _ => False) W w' := by
  have hk : Hid (A.send p = ⟨5, A.el.id, p, A.el.term, A.lg.now.base, A.lg.now.baseTerm, 0, false, [], A.lg.now.snap⟩) := by unfold Hid AS.send; rw [if_pos hsn]
  have HE := hidIt h.he
  have hb := h.hb
  obtain ⟨G1, h1, -⟩ := h.hl
  have hL := hidIt (fun w' (m : ModP (fun _ => False) W w') => h1.frame m (fun _ _ f => f))
  have hc := hb.cell
  have ib := hb.inB
  unfold SyR at hc
  have Hok := hidIt ok
  clear h h1 hb ok
  go_enter Tryz.func212, Tryz.ntmps212
  go_wp2_with (first
    | (go_at_call 114; refine (c114 (World.At.alloc HE.out _)).mono ?_; rintro _ _ ⟨rfl, rfl⟩)
    | (go_at_call 147; refine (c147 (World.At.alloc HE.out _)).mono ?_; rintro _ _ ⟨rfl, rfl⟩)
    | (go_at_call 130; refine (c130 (hL.out _ (by repeat (first | assumption | exact ModP.refl _ _ | refine ModP.fromPut ?_ (by assumption) | apply ModP.alloc | apply ModP.drew | apply ModP.drewN | refine ModP.put ?_ (by first | (left; assumption) | (left; rfl) | (right; simp only [World.inB, World.size_put] at *; omega)) _ _)))).mono ?_; rintro _ _ ⟨rfl, rfl⟩)
    | (go_at_call 153; refine (c153 (hL.out _ (by repeat (first | assumption | exact ModP.refl _ _ | refine ModP.fromPut ?_ (by assumption) | apply ModP.alloc | apply ModP.drew | apply ModP.drewN | refine ModP.put ?_ (by first | (left; assumption) | (left; rfl) | (right; simp only [World.inB, World.size_put] at *; omega)) _ _)))).mono ?_; rintro _ _ ⟨rfl, rfl⟩)
    | (go_at_call 154; refine (c154 (hL.out _ (by repeat (first | assumption | exact ModP.refl _ _ | refine ModP.fromPut ?_ (by assumption) | apply ModP.alloc | apply ModP.drew | apply ModP.drewN | refine ModP.put ?_ (by first | (left; assumption) | (left; rfl) | (right; simp only [World.inB, World.size_put] at *; omega)) _ _))) (by have := Hok.out.n6; omega) Hok.out.b0 (by have := Hok.out.lm; omega)).mono ?_; rintro _ _ ⟨rfl, m2, rfl⟩)
    | (go_at_call 155; refine (c155 (hL.out _ (by repeat (first | assumption | exact ModP.refl _ _ | refine ModP.fromPut ?_ (by assumption) | apply ModP.alloc | apply ModP.drew | apply ModP.drewN | refine ModP.put ?_ (by first | (left; assumption) | (left; rfl) | (right; simp only [World.inB, World.size_put] at *; omega)) _ _)))).mono ?_; rintro _ _ ⟨rfl, rfl⟩))
  refine bodyPost_ret (v := .agg (MsgR.cells ⟨5, A.el.id, p, A.el.term, A.lg.now.base, A.lg.now.baseTerm, 0, false, .slice none 0 0, A.lg.now.snap⟩)) (by simp [results, Tryz.results212, go_sem, MsgR.cells]) rfl ?_
  rw [hk.out]
  exact ⟨.slice none 0 0, rfl, ownsRow_nil _ _ _ _, (by repeat (first | assumption | exact ModP.refl _ _ | refine ModP.fromPut ?_ (by assumption) | apply ModP.alloc | apply ModP.drew | apply ModP.drewN | refine ModP.put ?_ (by first | (left; assumption) | (left; rfl) | (right; simp only [World.inB, World.size_put] at *; omega)) _ _))⟩
theorem c212_app (h : SMp W G b bl be A) (ok : A.lg.now.Ok) (p : Nat) (p3 : p < 3) (hsn : A.lg.now.base < A.next p) (hn0 : A.next p ≤ maxT + 1) :
    Calls Tryz.prog 212 #[vp b, vi p] W fun r w' => ∃ v, r = .returned (.agg ((A.send p).r v).cells) ∧ EntsAt W.heap.size w' v (A.send p).ents ∧ ModP (fun _ => False) W w' := by
  have hk : Hid (A.send p = ⟨3, A.el.id, p, A.el.term, A.next p - 1, (A.lg.now.termAt (A.next p - 1)).1, A.commit, false, A.lg.now.batch (A.next p), []⟩) := by unfold Hid AS.send; rw [if_neg (by omega)]
  have HE := hidIt h.he
  have hb := h.hb
  obtain ⟨G1, h1, -⟩ := h.hl
  have hL := hidIt (fun w' (m : ModP (fun _ => False) W w') => h1.frame m (fun _ _ f => f))
  have hc := hb.cell
  have ib := hb.inB
  unfold SyR at hc hb
  have Hok := hidIt ok
  have n1 : 0 ≤ A.next p := by have := ok.b0; omega
  have n2 : A.next p ≤ 72057594037927937 := by unfold maxT at hn0; omega
  have hlt : b < W.heap.size := ib
  clear h h1 ok hn0
  go_enter Tryz.func212, Tryz.ntmps212
  go_wp2_with (first
    | (go_at_call 114; refine (c114 (World.At.alloc HE.out _)).mono ?_; rintro _ _ ⟨rfl, rfl⟩)
    | (go_at_call 147; refine (c147 (World.At.alloc HE.out _)).mono ?_; rintro _ _ ⟨rfl, rfl⟩)
    | (go_at_call 130; refine (c130 (hL.out _ (by repeat (first | assumption | exact ModP.refl _ _ | refine ModP.fromPut ?_ (by assumption) | apply ModP.alloc | apply ModP.drew | apply ModP.drewN | refine ModP.put ?_ (by first | (left; assumption) | (left; rfl) | (right; simp only [World.inB, World.size_put] at *; omega)) _ _)))).mono ?_; rintro _ _ ⟨rfl, rfl⟩)
    | (go_at_call 154; refine (c154 (hL.out _ (by repeat (first | assumption | exact ModP.refl _ _ | refine ModP.fromPut ?_ (by assumption) | apply ModP.alloc | apply ModP.drew | apply ModP.drewN | refine ModP.put ?_ (by first | (left; assumption) | (left; rfl) | (right; simp only [World.inB, World.size_put] at *; omega)) _ _))) (by have := Hok.out.n6; omega) Hok.out.b0 (by have := Hok.out.lm; omega)).mono ?_; rintro _ _ ⟨rfl, m2, rfl⟩))
  refine Ord.region3 (fun w' => ∃ u : World, w' = u.force b (SyncM.cells ⟨vp bl, vp be, A.commit, A.next, A.mtch⟩) 179) [0, 1, 2, 3, 4, 5, 6, 7, 8, 9, 10] [11] (.one 12 true (.one 13 true (.one 14 true (.val 15 (.one 16 false .fin))))) false (fun h => by cases h) (by kernel_rfl) (by kernel_rfl) (fun _ _ d _ _ h => by cases d <;> exact h) ?ca11_1 ?_
  rotate_left
  simp only [Ord.pickO, Ord.nth]
  repeat (go_big_quiet_step (fail))
  refine wpQuiet_nil ?_
  repeat (go_big_quiet_step (fail))
  refine wpQuiet_nil ?_
  -- steps: ['L12', 'L13', 'L14', 'V15', 'N16']
  rotate_left
  · exact ca_of (by repeat (first | assumption | exact World.At_alloc_new | exact at_new (by first | rfl | (simp [World.size_put]; done) | (simp [World.size_put]; omega)) | refine World.At.alloc ?_ _ | refine World.At_drew.2 ?_ | refine (World.At_drewN _).2 ?_ | exact World.At_put_same (by first | assumption | (simp only [World.inB, World.size_put, World.alloc, World.drew, World.drewN, Array.size_push] at *; omega)) | refine (World.At_put_ne' (by first | assumption | (exact Ne.symm (by assumption)) | (simp only [World.inB, World.size_put] at *; omega))).2 ?_))
  refine Ord.wpS_loose rfl ?_
  intro K hK
  dsimp only [Ord.nth]
  go_wp2_with fail
  refine hK _ _ (ca_of (by repeat (first | assumption | exact World.At_alloc_new | exact at_new (by first | rfl | (simp [World.size_put]; done) | (simp [World.size_put]; omega)) | refine World.At.alloc ?_ _ | refine World.At_drew.2 ?_ | refine (World.At_drewN _).2 ?_ | exact World.At_put_same (by first | assumption | (simp only [World.inB, World.size_put, World.alloc, World.drew, World.drewN, Array.size_push] at *; omega)) | refine (World.At_put_ne' (by first | assumption | (exact Ne.symm (by assumption)) | (simp only [World.inB, World.size_put] at *; omega))).2 ?_))) ?_
  clear hK K
  refine Ord.wpS_loose rfl ?_
  intro K hK
  dsimp only [Ord.nth]
  go_wp2_with fail
  refine hK _ _ (ca_of (by repeat (first | assumption | exact World.At_alloc_new | exact at_new (by first | rfl | (simp [World.size_put]; done) | (simp [World.size_put]; omega)) | refine World.At.alloc ?_ _ | refine World.At_drew.2 ?_ | refine (World.At_drewN _).2 ?_ | exact World.At_put_same (by first | assumption | (simp only [World.inB, World.size_put, World.alloc, World.drew, World.drewN, Array.size_push] at *; omega)) | refine (World.At_put_ne' (by first | assumption | (exact Ne.symm (by assumption)) | (simp only [World.inB, World.size_put] at *; omega))).2 ?_))) ?_
  clear hK K
  refine Ord.wpS_loose rfl ?_
  intro K hK
  dsimp only [Ord.nth]
  go_wp2_with fail
  refine hK _ _ (ca_of (by repeat (first | assumption | exact World.At_alloc_new | exact at_new (by first | rfl | (simp [World.size_put]; done) | (simp [World.size_put]; omega)) | refine World.At.alloc ?_ _ | refine World.At_drew.2 ?_ | refine (World.At_drewN _).2 ?_ | exact World.At_put_same (by first | assumption | (simp only [World.inB, World.size_put, World.alloc, World.drew, World.drewN, Array.size_push] at *; omega)) | refine (World.At_put_ne' (by first | assumption | (exact Ne.symm (by assumption)) | (simp only [World.inB, World.size_put] at *; omega))).2 ?_))) ?_
  clear hK K
  refine Ord.wpS_val rfl ?_
  dsimp only [Ord.nth]
  go_big_quiet_step (fail)
  refine wpQuiet_nil ?_
  refine Ord.wpS_next rfl ?_
  intro K hK
  dsimp only [Ord.nth]
  go_wp2_with fail
  refine Ord.wpS_fin ?_
  go_wp2_with fail
  refine Ord.region3 (fun _ => True) [] [0, 1, 2, 3, 4, 5] (.one 6 false (.val 7 (.val 8 (.val 9 (.val 10 (.one 11 false .fin)))))) true (fun _ _ => trivial) (by kernel_rfl) (by kernel_rfl) (fun _ _ d _ _ h => by cases d <;> exact h) trivial ?_
  simp only [Ord.pickO, Ord.nth]
  refine wpQuiet_nil ?_
  repeat (go_big_quiet_step (fail))
  refine wpQuiet_nil ?_
  -- steps: ['N6', 'V7', 'V8', 'V9', 'V10', 'N11']
  refine Ord.wpS_next rfl ?_
  intro K hK
  dsimp only [Ord.nth]
  go_wp2_with fail
  refine (c203 (hL.out _ (by repeat (first | assumption | exact ModP.refl _ _ | refine ModP.fromPut ?_ (by assumption) | apply ModP.alloc | apply ModP.drew | apply ModP.drewN | refine ModP.put ?_ (by first | (left; assumption) | (left; rfl) | (right; simp only [World.inB, World.size_put] at *; omega)) _ _))) Hok.out (A.next p - 1)).mono ?_
  rintro _ w2 ⟨rfl, m3⟩
  have M2 : ModP (fun _ => False) W w2 := ModP.trans (by repeat (first | assumption | exact ModP.refl _ _ | refine ModP.fromPut ?_ (by assumption) | apply ModP.alloc | apply ModP.drew | apply ModP.drewN | refine ModP.put ?_ (by first | (left; assumption) | (left; rfl) | (right; simp only [World.inB, World.size_put] at *; omega)) _ _)) m3.toP0
  obtain ⟨y, rfl, ir, im⟩ := open2 (m3.at (b := W.heap.size) (c := MsgR.cells zMR) (T := 159) (by repeat (first | assumption | exact World.At_alloc_new | exact at_new (by first | rfl | (simp [World.size_put]; done) | (simp [World.size_put]; omega)) | refine World.At.alloc ?_ _ | refine World.At_drew.2 ?_ | refine (World.At_drewN _).2 ?_ | exact World.At_put_same (by first | assumption | (simp only [World.inB, World.size_put, World.alloc, World.drew, World.drewN, Array.size_push] at *; omega)) | refine (World.At_put_ne' (by first | assumption | (exact Ne.symm (by assumption)) | (simp only [World.inB, World.size_put] at *; omega))).2 ?_)) (by simp)) (m3.at (b := W.heap.size + 1) (c := MsgR.cells ⟨3, A.el.id, p, A.el.term, A.next p - 1, 0, A.commit, false, .slice none 0 0, []⟩) (T := 159) (by repeat (first | assumption | exact World.At_alloc_new | exact at_new (by first | rfl | (simp [World.size_put]; done) | (simp [World.size_put]; omega)) | refine World.At.alloc ?_ _ | refine World.At_drew.2 ?_ | refine (World.At_drewN _).2 ?_ | exact World.At_put_same (by first | assumption | (simp only [World.inB, World.size_put, World.alloc, World.drew, World.drewN, Array.size_push] at *; omega)) | refine (World.At_put_ne' (by first | assumption | (exact Ne.symm (by assumption)) | (simp only [World.inB, World.size_put] at *; omega))).2 ?_)) (by simp)) (by omega)
  have my := (M2.unput (.inr (by omega))).unput (.inr (Nat.le_refl _))
  clear M2 m3
  have nb1 : b ≠ W.heap.size := by omega
  have nb2 : b ≠ W.heap.size + 1 := by omega
  have nn : W.heap.size ≠ W.heap.size + 1 := by omega
  have hcy := (my.at hb (by simp)).cell
  have iby : y.inB b := my.inB ib
  obtain ⟨⟨lt, le⟩, hlt2⟩ : ∃ x, A.lg.now.termAt (A.next p - 1) = x := ⟨_, rfl⟩
  rw [hlt2] at hk ⊢
  refine hK _ _ ?_
  clear hK K hc hlt2
  refine Ord.wpS_val rfl ?_
  dsimp only [Ord.nth]
  go_big_quiet_step (fail)
  refine wpQuiet_nil ?_
  refine Ord.wpS_val rfl ?_
  dsimp only [Ord.nth]
  go_big_quiet_step (fail)
  refine wpQuiet_nil ?_
  refine Ord.wpS_val rfl ?_
  dsimp only [Ord.nth]
  go_big_quiet_step (fail)
  refine wpQuiet_nil ?_
  refine Ord.wpS_val rfl ?_
  dsimp only [Ord.nth]
  go_big_quiet_step (fail)
  refine wpQuiet_nil ?_
  refine Ord.wpS_next rfl ?_
  intro K hK
  dsimp only [Ord.nth]
  go_wp2_with fail
  refine Ord.wpS_fin ?_
  go_wp2_with fail
  clear hcy
  go_loopw [12] (fun i u => ∃ (k : Nat) (v : Value), k ≤ A.lg.now.cnt (A.next p) ∧ i = vi (A.next p + k) ∧ Hid (u.At W.heap.size (MsgR.cells zMR) 159) ∧ Hid (u.At (W.heap.size + 1) (MsgR.cells ⟨3, A.el.id, p, A.el.term, A.next p - 1, lt, A.commit, false, v, []⟩) 159) ∧ Hid (EntsAt (W.heap.size + 2) u v (A.lg.now.batchN (A.next p) k)) ∧ Hid (ModP (fun _ => False) W u)) (fun i _ => A.lg.now.cnt (A.next p) - (intOf i - A.next p).toNat)
  case atStart => exact ⟨0, .slice none 0 0, Nat.zero_le _, by simp, (show World.At _ _ _ _ from (by repeat (first | assumption | exact World.At_alloc_new | exact at_new (by first | rfl | (simp [World.size_put]; done) | (simp [World.size_put]; omega)) | refine World.At.alloc ?_ _ | refine World.At_drew.2 ?_ | refine (World.At_drewN _).2 ?_ | exact World.At_put_same (by first | assumption | (simp only [World.inB, World.size_put, World.alloc, World.drew, World.drewN, Array.size_push] at *; omega)) | refine (World.At_put_ne' (by first | assumption | (exact Ne.symm (by assumption)) | (simp only [World.inB, World.size_put] at *; omega))).2 ?_))), (show World.At _ _ _ _ from (by repeat (first | assumption | exact World.At_alloc_new | exact at_new (by first | rfl | (simp [World.size_put]; done) | (simp [World.size_put]; omega)) | refine World.At.alloc ?_ _ | refine World.At_drew.2 ?_ | refine (World.At_drewN _).2 ?_ | exact World.At_put_same (by first | assumption | (simp only [World.inB, World.size_put, World.alloc, World.drew, World.drewN, Array.size_push] at *; omega)) | refine (World.At_put_ne' (by first | assumption | (exact Ne.symm (by assumption)) | (simp only [World.inB, World.size_put] at *; omega))).2 ?_))), ownsRow_nil _ _ _ _, (show ModP _ _ _ from (by repeat (first | assumption | exact ModP.refl _ _ | refine ModP.fromPut ?_ (by assumption) | apply ModP.alloc | apply ModP.drew | apply ModP.drewN | refine ModP.put ?_ (by first | (left; assumption) | (left; rfl) | (right; simp only [World.inB, World.size_put] at *; omega)) _ _)))⟩
  case round =>
    clear my ir im iby
    obtain ⟨k, v, hkc, rfl, H1, H2, H3, H4⟩ := hrel
    have hb4 := H4.out.at hb (by simp)
    have hcnt : k < A.lg.now.cnt (A.next p) ↔ (A.next p + k ≤ A.lg.now.last ∧ k < 2) := by unfold Lg.cnt; omega
    by_cases hkn : k < A.lg.now.cnt (A.next p)
    · obtain ⟨c1, c2⟩ := hcnt.1 hkn
      obtain ⟨⟨⟨et, ed⟩, ee⟩, hat⟩ : ∃ x, A.lg.now.at_ (A.next p + k) = x := ⟨_, rfl⟩
      have hes := A.lg.now.batchN_succ (A.next p) k
      have hlen := A.lg.now.batchN_len (A.next p) k
      rw [hat] at hes
      have Hat := hidIt hat
      have Hes := hidIt hes
      have Hlen := hidIt hlen
      clear hat hes hlen hcnt
      generalize A.lg.now.batchN (A.next p) k = es at *
      obtain ⟨ad, cap, rfl, -⟩ := ownsRow_form H3.out
      obtain ⟨y, rfl, ir, im⟩ := open2 H1.out H2.out nn
      have my := (H4.out.unput (.inr (by omega))).unput (.inr (Nat.le_refl _))
      have hcy := (my.at hb (by simp)).cell
      have iby : y.inB b := my.inB ib
      have c2' : (k : Int) < 2 := by omega
      clear H1 H2 H4 hb4
      unfold zMR
      go_wp2_with (first
        | (go_at_call 224; refine (c224 (hL.out _ (by repeat (first | assumption | exact ModP.refl _ _ | refine ModP.fromPut ?_ (by assumption) | apply ModP.alloc | apply ModP.drew | apply ModP.drewN | refine ModP.put ?_ (by first | (left; assumption) | (left; rfl) | (right; simp only [World.inB, World.size_put] at *; omega)) _ _))) Hok.out (A.next p + k)).mono ?_; rintro _ w3 ⟨rfl, m3⟩; rw [Hat.out]; unfold Tw.Entry.cells
           have q3 : ModP (fun _ => False) ((y.put W.heap.size (MsgR.cells ⟨0, 0, 0, 0, 0, 0, 0, false, .slice none 0 0, []⟩) 159).put (W.heap.size + 1) (MsgR.cells ⟨3, A.el.id, p, A.el.term, A.next p - 1, lt, A.commit, false, .slice ad es.length cap, []⟩) 159) w3 := ModP.trans (by repeat (first | assumption | exact ModP.refl _ _ | refine ModP.fromPut ?_ (by assumption) | apply ModP.alloc | apply ModP.drew | apply ModP.drewN | refine ModP.put ?_ (by first | (left; assumption) | (left; rfl) | (right; simp only [World.inB, World.size_put] at *; omega)) _ _)) m3.toP0
           have ho3 := hidIt (ownsRow_frame H3.out q3 (fun _ _ f => f))
           have hr3 := q3.at (b := W.heap.size) (c := MsgR.cells ⟨0, 0, 0, 0, 0, 0, 0, false, .slice none 0 0, []⟩) (T := 159) (by repeat (first | assumption | exact World.At_alloc_new | exact at_new (by first | rfl | (simp [World.size_put]; done) | (simp [World.size_put]; omega)) | refine World.At.alloc ?_ _ | refine World.At_drew.2 ?_ | refine (World.At_drewN _).2 ?_ | exact World.At_put_same (by first | assumption | (simp only [World.inB, World.size_put, World.alloc, World.drew, World.drewN, Array.size_push] at *; omega)) | refine (World.At_put_ne' (by first | assumption | (exact Ne.symm (by assumption)) | (simp only [World.inB, World.size_put] at *; omega))).2 ?_)) (by simp)
           have hm3 := q3.at (b := W.heap.size + 1) (c := MsgR.cells ⟨3, A.el.id, p, A.el.term, A.next p - 1, lt, A.commit, false, .slice ad es.length cap, []⟩) (T := 159) (by repeat (first | assumption | exact World.At_alloc_new | exact at_new (by first | rfl | (simp [World.size_put]; done) | (simp [World.size_put]; omega)) | refine World.At.alloc ?_ _ | refine World.At_drew.2 ?_ | refine (World.At_drewN _).2 ?_ | exact World.At_put_same (by first | assumption | (simp only [World.inB, World.size_put, World.alloc, World.drew, World.drewN, Array.size_push] at *; omega)) | refine (World.At_put_ne' (by first | assumption | (exact Ne.symm (by assumption)) | (simp only [World.inB, World.size_put] at *; omega))).2 ?_)) (by simp)
           have mw3 : ModP (fun _ => False) W w3 := ModP.trans (by repeat (first | assumption | exact ModP.refl _ _ | refine ModP.fromPut ?_ (by assumption) | apply ModP.alloc | apply ModP.drew | apply ModP.drewN | refine ModP.put ?_ (by first | (left; assumption) | (left; rfl) | (right; simp only [World.inB, World.size_put] at *; omega)) _ _)) q3
           clear q3 m3 H3
           obtain ⟨z, rfl, jr, jm⟩ := open2 hr3 hm3 nn
           have mz := (mw3.unput (.inr (by omega))).unput (.inr (Nat.le_refl _))
           have jr' : W.heap.size < z.heap.size := jr
           have jm' : W.heap.size + 1 < z.heap.size := jm
           clear mw3 hr3 hm3)
        | (at_builtin
           refine wp_app rk157 (v := .slice ad es.length cap) (n := es.length) (xs := entsC es) (B := W.heap.size + 2) rfl _ _ rfl [vi et, vs ed] rfl rfl (by repeat (first | assumption | exact World.At_alloc_new | exact at_new (by first | rfl | (simp [World.size_put]; done) | (simp [World.size_put]; omega)) | refine World.At.alloc ?_ _ | refine World.At_drew.2 ?_ | refine (World.At_drewN _).2 ?_ | exact World.At_put_same (by first | assumption | (simp only [World.inB, World.size_put, World.alloc, World.drew, World.drewN, Array.size_push] at *; omega)) | refine (World.At_put_ne' (by first | assumption | (exact Ne.symm (by assumption)) | (simp only [World.inB, World.size_put] at *; omega))).2 ?_)) rfl (by simp [Value.oneCell']) (ownsRow_alloc (ownsRow_alloc ho3.out _) _) (by simp [World.size_put]; omega) (by have := Hlen.out; unfold maxLen; omega) (by have := Hlen.out; omega) ?_
           intro g' cap' y1 o1 m1 oc1 ol1
           have nv : ∀ x, x < W.heap.size + 2 → x ∉ (Value.slice ad es.length cap).ownBlock.toList := fun x hx hm => by have := (ownsRow_block ho3.out (Option.mem_toList.1 hm)).2; omega
           have hr4 := m1.at (b := W.heap.size) (c := MsgR.cells ⟨0, 0, 0, 0, 0, 0, 0, false, .slice none 0 0, []⟩) (T := 159) (by repeat (first | assumption | exact World.At_alloc_new | exact at_new (by first | rfl | (simp [World.size_put]; done) | (simp [World.size_put]; omega)) | refine World.At.alloc ?_ _ | refine World.At_drew.2 ?_ | refine (World.At_drewN _).2 ?_ | exact World.At_put_same (by first | assumption | (simp only [World.inB, World.size_put, World.alloc, World.drew, World.drewN, Array.size_push] at *; omega)) | refine (World.At_put_ne' (by first | assumption | (exact Ne.symm (by assumption)) | (simp only [World.inB, World.size_put] at *; omega))).2 ?_)) (nv _ (by omega))
           have hm4 := m1.at (b := W.heap.size + 1) (c := MsgR.cells ⟨3, A.el.id, p, A.el.term, A.next p - 1, lt, A.commit, false, .slice ad es.length cap, []⟩) (T := 159) (by repeat (first | assumption | exact World.At_alloc_new | exact at_new (by first | rfl | (simp [World.size_put]; done) | (simp [World.size_put]; omega)) | refine World.At.alloc ?_ _ | refine World.At_drew.2 ?_ | refine (World.At_drewN _).2 ?_ | exact World.At_put_same (by first | assumption | (simp only [World.inB, World.size_put, World.alloc, World.drew, World.drewN, Array.size_push] at *; omega)) | refine (World.At_put_ne' (by first | assumption | (exact Ne.symm (by assumption)) | (simp only [World.inB, World.size_put] at *; omega))).2 ?_)) (nv _ (by omega))
           have mv : ModP (fun _ => False) W y1 := by
             refine ModP.step (G := fun k => W.heap.size ≤ k) (by repeat (first | assumption | exact ModP.refl _ _ | refine ModP.fromPut ?_ (by assumption) | apply ModP.alloc | apply ModP.drew | apply ModP.drewN | refine ModP.put ?_ (by first | (left; assumption) | (left; rfl) | (right; simp only [World.inB, World.size_put] at *; omega)) _ _)) (m1.toP (F := fun k => W.heap.size ≤ k) (fun x hx => ?_)) (fun k hk => .inr hk)
             have := (ownsRow_block ho3.out (Option.mem_toList.1 hx)).2; omega
           have O1 := hidIt o1
           have HB : W.heap.size + 2 ≤ g' := by
             have h9 := ownsRow_block o1 (g := g') rfl
             exact h9.2
           clear m1 o1 nv oc1 ol1
           obtain ⟨q, rfl, kr, km⟩ := open2 hr4 hm4 nn
           have mq := (mv.unput (.inr (by omega))).unput (.inr (Nat.le_refl _))
           clear mv hr4 hm4))
      go_roundw
      case rel =>
        refine ⟨k + 1, .slice (some ⟨g', 0, none⟩) (es.length + 1) cap', by omega, by go_num, (show World.At _ _ _ _ from (by repeat (first | assumption | exact World.At_alloc_new | exact at_new (by first | rfl | (simp [World.size_put]; done) | (simp [World.size_put]; omega)) | refine World.At.alloc ?_ _ | refine World.At_drew.2 ?_ | refine (World.At_drewN _).2 ?_ | exact World.At_put_same (by first | assumption | (simp only [World.inB, World.size_put, World.alloc, World.drew, World.drewN, Array.size_push] at *; omega)) | refine (World.At_put_ne' (by first | assumption | (exact Ne.symm (by assumption)) | (simp only [World.inB, World.size_put] at *; omega))).2 ?_))), (show World.At _ _ _ _ from (by repeat (first | assumption | exact World.At_alloc_new | exact at_new (by first | rfl | (simp [World.size_put]; done) | (simp [World.size_put]; omega)) | refine World.At.alloc ?_ _ | refine World.At_drew.2 ?_ | refine (World.At_drewN _).2 ?_ | exact World.At_put_same (by first | assumption | (simp only [World.inB, World.size_put, World.alloc, World.drew, World.drewN, Array.size_push] at *; omega)) | refine (World.At_put_ne' (by first | assumption | (exact Ne.symm (by assumption)) | (simp only [World.inB, World.size_put] at *; omega))).2 ?_))), ?_, (show ModP _ _ _ from (by repeat (first | assumption | exact ModP.refl _ _ | refine ModP.fromPut ?_ (by assumption) | apply ModP.alloc | apply ModP.drew | apply ModP.drewN | refine ModP.put ?_ (by first | (left; assumption) | (left; rfl) | (right; simp only [World.inB, World.size_put] at *; omega)) _ _)))⟩
        have h5 := ownsRow_unput (ownsRow_unput O1.out (fun g hg => by simp [Value.ownBlock] at hg; omega)) (fun g hg => by simp [Value.ownBlock] at hg; omega)
        show World.ownsRow _ _ _ _ _ _ _
        rw [Hes.out, entsC_snoc', List.length_append]
        exact ownsRow_put (ownsRow_put h5 (fun g hg => by simp [Value.ownBlock] at hg; omega)) (fun g hg => by simp [Value.ownBlock] at hg; omega)
      case measure => simp only [intOf]; omega
    · have hkc' : k = A.lg.now.cnt (A.next p) := by omega
      have hbat : Hid (A.lg.now.batch (A.next p) = A.lg.now.batchN (A.next p) k) := by unfold Hid Lg.batch; rw [hkc']
      obtain ⟨ad, cap, rfl, -⟩ := ownsRow_form H3.out
      obtain ⟨y, rfl, ir, im⟩ := open2 H1.out H2.out nn
      have my := (H4.out.unput (.inr (by omega))).unput (.inr (Nat.le_refl _))
      have hcy := (my.at hb (by simp)).cell
      have iby : y.inB b := my.inB ib
      clear H1 H2 H4 hb4 hkc'
      unfold zMR
      by_cases hle : A.next p + k ≤ A.lg.now.last
      · have c2 : ¬ k < 2 := fun h => hkn (hcnt.2 ⟨hle, h⟩)
        have c2' : (2 : Int) ≤ k := by omega
        clear hcnt hkn c2
        go_wp2_with fail
        refine bodyPost_ret (v := .agg (MsgR.cells ⟨3, A.el.id, p, A.el.term, A.next p - 1, lt, A.commit, false, .slice ad (A.lg.now.batchN (A.next p) k).length cap, []⟩)) (by simp [results, Tryz.results212, go_sem, MsgR.cells, ir, im, nn]) rfl ?_
        rw [hk.out, hbat.out]
        refine ⟨.slice ad (A.lg.now.batchN (A.next p) k).length cap, rfl, ?_, (by repeat (first | assumption | exact ModP.refl _ _ | refine ModP.fromPut ?_ (by assumption) | apply ModP.alloc | apply ModP.drew | apply ModP.drewN | refine ModP.put ?_ (by first | (left; assumption) | (left; rfl) | (right; simp only [World.inB, World.size_put] at *; omega)) _ _))⟩
        have nv : ∀ g, (Value.slice ad (A.lg.now.batchN (A.next p) k).length cap).ownBlock = some g → W.heap.size + 2 ≤ g := fun g hg => (ownsRow_block H3.out hg).2
        have h5 := ownsRow_unput (ownsRow_unput H3.out (fun g hg => by have := nv g hg; omega)) (fun g hg => by have := nv g hg; omega)
        exact ownsRow_low (ownsRow_put (ownsRow_put h5 (fun g hg => by have := nv g hg; omega)) (fun g hg => by have := nv g hg; omega)) (by omega)
      · clear hcnt hkn
        go_wp2_with fail
        refine bodyPost_ret (v := .agg (MsgR.cells ⟨3, A.el.id, p, A.el.term, A.next p - 1, lt, A.commit, false, .slice ad (A.lg.now.batchN (A.next p) k).length cap, []⟩)) (by simp [results, Tryz.results212, go_sem, MsgR.cells, ir, im, nn]) rfl ?_
        rw [hk.out, hbat.out]
        refine ⟨.slice ad (A.lg.now.batchN (A.next p) k).length cap, rfl, ?_, (by repeat (first | assumption | exact ModP.refl _ _ | refine ModP.fromPut ?_ (by assumption) | apply ModP.alloc | apply ModP.drew | apply ModP.drewN | refine ModP.put ?_ (by first | (left; assumption) | (left; rfl) | (right; simp only [World.inB, World.size_put] at *; omega)) _ _))⟩
        have nv : ∀ g, (Value.slice ad (A.lg.now.batchN (A.next p) k).length cap).ownBlock = some g → W.heap.size + 2 ≤ g := fun g hg => (ownsRow_block H3.out hg).2
        have h5 := ownsRow_unput (ownsRow_unput H3.out (fun g hg => by have := nv g hg; omega)) (fun g hg => by have := nv g hg; omega)
        exact ownsRow_low (ownsRow_put (ownsRow_put h5 (fun g hg => by have := nv g hg; omega)) (fun g hg => by have := nv g hg; omega)) (by omega)
theorem c212 (h : SMp W G b bl be A) (ok : A.lg.now.Ok) (p : Nat) (p3 : p < 3) (hn0 : A.next p ≤ maxT + 1) :
    Calls Tryz.prog 212 #[vp b, vi p] W fun r w' => ∃ v, r = .returned (.agg ((A.send p).r v).cells) ∧ EntsAt W.heap.size w' v (A.send p).ents ∧ ModP (fun _ => False) W w' := by
  by_cases hs : A.next p ≤ A.lg.now.base
  · exact c212_snap h ok p p3 hs
  · exact c212_app h ok p p3 (by omega) hn0
end
end Go.Proofs.Qxb6500990aGreat
