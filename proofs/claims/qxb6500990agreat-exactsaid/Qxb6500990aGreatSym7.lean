/- package syncm: open, New, After, As -/
import Derived.Test.Qxb6500990aGreatSym6
set_option linter.unusedVariables false
set_option linter.unusedSimpArgs false
namespace Go.Tw
open Go Go.Proofs Go.Proofs.Qxb6500990aGreat Go.RowKit
def AS.open (lg : AL) (el : EM) : AS := ⟨lg, el.restore lg.now.term lg.now.vote, lg.now.base, fun _ => 0, fun _ => 0⟩
def AS.new (id : Int) : AS := AS.open AL.new (EM.new id)
def AS.after (A : AS) (k : Int) : AS := AS.open (A.lg.after k) (EM.new A.el.id)
def AS.as (A : AS) (id : Int) : AS := AS.open (A.lg.after A.lg.hist.length) (EM.new id)
end Go.Tw
namespace Go.Proofs.Qxb6500990aGreat
open Go Go.RowKit Go.Tw
attribute [local go_sem] World.cell?_put_same World.cell?_put_ne World.cell?_put_ne' World.frozen?_put_same World.frozen?_put_ne World.frozen?_put_ne' World.setCell_put_same World.setCell_put_ne World.setCell_put_ne' World.inB_put World.inB_alloc World.inB_drew World.inB_drewN World.inB_new World.inB_setCell World.put_drew World.put_drewN World.q_setCell_drew World.q_setCell_drewN World.q_alloc_drew World.q_alloc_drewN World.put_put_same World.put_put_2 World.size_put World.q_cell?_alloc_old World.q_frozen?_alloc_old World.cell?_alloc_new' World.frozen?_alloc_new' World.q_setCell_alloc_old World.q_setCell_alloc_new World.q_put_alloc_old SyncM.g0 SyncM.s0 SyncM.g1 SyncM.s1 SyncM.g2 SyncM.s2 SyncM.g3 SyncM.s3 SyncM.g4 SyncM.s4 SyncM.g5 SyncM.s5 SyncM.g6 SyncM.s6 SyncM.g7 SyncM.s7 SyncM.g8 SyncM.s8 SyncM.gi_next_0 SyncM.si_next_0 SyncM.gi_mtch_0 SyncM.si_mtch_0
attribute [local go_sem] ba_get upd_same upd_upd
set_option maxHeartbeats 4000000
set_option maxRecDepth 100000
section
variable {W w : World} {G : Nat → Prop} {b bl be : Nat} {A : AS}
theorem c75 {F1 : Nat → Prop} {lg : AL} {el : EM} (hL : LMK W F1 bl lg) (hw : Within F1 W) (he : W.At be el.cells 218) (hbe : ¬ F1 be) (ok : lg.now.Ok) :
    Calls Tryz.prog 75 #[vp bl, vp be] W fun r w' => r = .returned (vp W.heap.size) ∧ SMp w' (fun k => F1 k ∨ k = be ∨ k = W.heap.size) W.heap.size bl be (AS.open lg el) ∧ ModP (fun k => k = be) W w' := by
  have HL := hidIt (fun w' (m : ModP (fun k => k = be) W w') => hL.frame m (fun k a e => hbe (e ▸ a)))
  have HE := hidIt he
  have ibe := he.inB
  have lbe : be < W.heap.size := ibe
  have nbe : be ≠ W.heap.size := by omega
  have HW := hidIt hw
  have Hbe := hidIt hbe
  have Hok := hidIt ok
  clear hL he hw hbe ok
  go_enter Tryz.func75, Tryz.ntmps75
  go_wp2_with (first
    | (go_at_call 127; refine (c127 (HL.out _ (by repeat (first | assumption | exact ModP.refl _ _ | refine ModP.fromPut ?_ (by assumption) | apply ModP.alloc | apply ModP.drew | apply ModP.drewN | refine ModP.put ?_ (by first | (left; assumption) | (left; rfl) | (right; simp only [World.inB, World.size_put] at *; omega)) _ _)))).mono ?_; rintro _ _ ⟨rfl, rfl⟩)
    | (go_at_call 128; refine (c128 (HL.out _ (by repeat (first | assumption | exact ModP.refl _ _ | refine ModP.fromPut ?_ (by assumption) | apply ModP.alloc | apply ModP.drew | apply ModP.drewN | refine ModP.put ?_ (by first | (left; assumption) | (left; rfl) | (right; simp only [World.inB, World.size_put] at *; omega)) _ _)))).mono ?_; rintro _ _ ⟨rfl, rfl⟩)
    | (go_at_call 129; refine (c129 (HE.out.alloc _) Hok.out.t0 Hok.out.t1 Hok.out.v0 Hok.out.v1).mono ?_; rintro _ _ ⟨rfl, m, rfl⟩)
    | (go_at_call 130; refine (c130 (HL.out _ (by repeat (first | assumption | exact ModP.refl _ _ | refine ModP.fromPut ?_ (by assumption) | apply ModP.alloc | apply ModP.drew | apply ModP.drewN | refine ModP.put ?_ (by first | (left; assumption) | (left; rfl) | (right; simp only [World.inB, World.size_put] at *; omega)) _ _)))).mono ?_; rintro _ _ ⟨rfl, rfl⟩))
  go_ret
  have mp : ModP (fun k => k = be) W ((((W.put be (el.restore lg.now.term lg.now.vote).cells 218).alloc (.cells (SyncM.cells ⟨vp bl, vp be, lg.now.base, fun _ => 0, fun _ => 0⟩) 179 (0, 0)))).drewN m) := (by repeat (first | assumption | exact ModP.refl _ _ | refine ModP.fromPut ?_ (by assumption) | apply ModP.alloc | apply ModP.drew | apply ModP.drewN | refine ModP.put ?_ (by first | (left; assumption) | (left; rfl) | (right; simp only [World.inB, World.size_put] at *; omega)) _ _))
  refine ⟨rfl, ?_, mp⟩
  refine ⟨?_, ?_, ⟨F1, HL.out _ mp, fun k h => .inl h, fun h => ?_, Hbe.out⟩, .inr (.inr rfl), .inr (.inl rfl), ?_⟩
  · exact (World.At_drewN _).2 (at_new (by simp [World.size_put]))
  · exact (World.At_drewN _).2 ((World.At_put_same ibe).alloc _)
  · have := HW.out _ h; omega
  · intro k hk
    have hz : W.heap.size < (((W.put be (el.restore lg.now.term lg.now.vote).cells 218).alloc (.cells (SyncM.cells ⟨vp bl, vp be, lg.now.base, fun _ => 0, fun _ => 0⟩) 179 (0, 0))).drewN m).heap.size := by simp [World.size_put]
    rcases hk with hk | rfl | rfl
    · exact Nat.lt_of_lt_of_le (HW.out _ hk) mp.size
    · exact Nat.lt_of_lt_of_le lbe mp.size
    · exact hz
theorem new_sy {w1 w2 w3 : World} {lg : AL} {el : EM} {bl : Nat} {R : Ending → World → Prop} (h1 : LMK w1 (fun k => W.heap.size ≤ k) bl lg) (m1 : ModP (fun _ => False) W w1) (m2 : Dr (w1.alloc (.cells el.cells 218 (0, 0))) w2) (ok : lg.now.Ok)
    (hk : ∀ b' G w', W.heap.size ≤ b' → SMp w' G b' bl w1.heap.size (AS.open lg el) → (∀ k, G k → W.heap.size ≤ k) → ModP (fun _ => False) W w' → R (.returned (vp b')) w') :
    Calls Tryz.prog 75 #[vp bl, vp w1.heap.size] w2 R := by
  have mm : ModP (fun _ => False) w1 w2 := by obtain ⟨n, rfl⟩ := m2; exact (by repeat (first | assumption | exact ModP.refl _ _ | refine ModP.fromPut ?_ (by assumption) | apply ModP.alloc | apply ModP.drew | apply ModP.drewN | refine ModP.put ?_ (by first | (left; assumption) | (left; rfl) | (right; simp only [World.inB, World.size_put] at *; omega)) _ _))
  have h2 := (h1.within).frame mm (fun _ _ f => f)
  have he : w2.At w1.heap.size el.cells 218 := by obtain ⟨n, rfl⟩ := m2; exact (by repeat (first | assumption | exact World.At_alloc_new | exact at_new (by first | rfl | (simp [World.size_put]; done) | (simp [World.size_put]; omega)) | refine World.At.alloc ?_ _ | refine World.At_drew.2 ?_ | refine (World.At_drewN _).2 ?_ | exact World.At_put_same (by first | assumption | (simp only [World.inB, World.size_put, World.alloc, World.drew, World.drewN, Array.size_push] at *; omega)) | refine (World.At_put_ne' (by first | assumption | (exact Ne.symm (by assumption)) | (simp only [World.inB, World.size_put] at *; omega))).2 ?_))
  refine (c75 h2 (fun k hk => Nat.lt_of_lt_of_le hk.2 mm.size) he (fun h => by omega) ok).mono ?_
  rintro _ w' ⟨rfl, h3, h4⟩
  have z1 := m1.size
  have z2 := mm.size
  refine hk _ _ w' (by omega) h3 ?_ ?_
  · rintro k (hk | rfl | rfl)
    · exact hk.1
    · exact z1
    · omega
  · exact (m1.trans mm).step h4 (fun k hk => .inr (by omega))
theorem c51 (W : World) (id : Int) : Calls Tryz.prog 51 #[vi id] W fun r w' => ∃ b bl be G, r = .returned (vp b) ∧ W.heap.size ≤ b ∧ SMp w' G b bl be (AS.new id) ∧ (∀ k, G k → W.heap.size ≤ k) ∧ ModP (fun _ => False) W w' := by
  have hN := hidIt (c111 W)
  have hE := hidIt (fun w => c74 w id)
  go_enter Tryz.func51, Tryz.ntmps51
  go_wp2_with (first
    | (go_at_call 111; refine hN.out.mono ?_; rintro _ w1 ⟨bl, rfl, h1, m1⟩; have H1 := hidIt h1; have M1 := hidIt m1; clear h1 m1)
    | (go_at_call 74; refine (hE.out _).mono ?_; rintro _ w2 ⟨rfl, m2⟩; have M2 := hidIt m2; clear m2)
    | (go_at_call 75; refine (new_sy (w3 := w2) H1.out M1.out M2.out Lg.new_ok (R := fun r w' => ∃ b' G, r = .returned (vp b') ∧ W.heap.size ≤ b' ∧ SMp w' G b' bl w1.heap.size (AS.new id) ∧ (∀ k, G k → W.heap.size ≤ k) ∧ ModP (fun _ => False) W w') (fun b' G w' a b c d => ⟨b', G, rfl, a, b, c, d⟩)).mono ?_; rintro _ w3 ⟨b', G, rfl, a, b, c, d⟩))
  go_ret
  exact ⟨b', bl, w1.heap.size, G, rfl, a, b, c, d⟩
theorem c54 (h : SMp W G b bl be A) (hn : A.lg.hist.length ≤ 9000) (k : Int) (okk : (A.lg.after k).now.Ok) : Calls Tryz.prog 54 #[vp b, vi k] W fun r w' => ∃ b bl be G, r = .returned (vp b) ∧ W.heap.size ≤ b ∧ SMp w' G b bl be (A.after k) ∧ (∀ k, G k → W.heap.size ≤ k) ∧ ModP (fun _ => False) W w' := by
  have hc := h.hb.cell
  have ib := h.hb.inB
  have hb := hidIt h.hb
  have he := hidIt h.he
  obtain ⟨G1, h1, -⟩ := h.hl
  have hA := hidIt (c73 h1 hn k)
  unfold SyR at hc
  have Okk := hidIt okk
  clear h h1 okk
  go_enter Tryz.func54, Tryz.ntmps54
  go_wp2_with (first
    | (go_at_call 73; refine hA.out.mono ?_; rintro _ w1 ⟨bl', rfl, h1, m1⟩; have hc1 := (m1.at hb.out (by simp)).cell; have ib1 := (m1.at hb.out (by simp)).inB; unfold SyR at hc1; have he1 := hidIt (m1.at he.out (by simp)); have H1 := hidIt h1; have M1 := hidIt m1; clear h1 m1)
    | (go_at_call 114; refine (c114 he1.out).mono ?_; rintro _ w' ⟨rfl, e⟩; obtain rfl := e.symm)
    | (go_at_call 74; refine (c74 _ _).mono ?_; rintro _ w2 ⟨rfl, m2⟩; have M2 := hidIt m2; clear m2)
    | (go_at_call 75; refine (new_sy (w3 := w2) H1.out M1.out M2.out Okk.out (R := fun r w' => ∃ b' G, r = .returned (vp b') ∧ W.heap.size ≤ b' ∧ SMp w' G b' bl' w1.heap.size (A.after k) ∧ (∀ k, G k → W.heap.size ≤ k) ∧ ModP (fun _ => False) W w') (fun b' G w' a b c d => ⟨b', G, rfl, a, b, c, d⟩)).mono ?_; rintro _ w3 ⟨b', G, rfl, a, b, c, d⟩))
  go_ret
  exact ⟨b', bl', w1.heap.size, G, rfl, a, b, c, d⟩
theorem c37 (h : SMp W G b bl be A) (hn : A.lg.hist.length ≤ 9000) (id : Int) (okk : (A.lg.after A.lg.hist.length).now.Ok) : Calls Tryz.prog 37 #[vp b, vi id] W fun r w' => ∃ b bl be G, r = .returned (vp b) ∧ W.heap.size ≤ b ∧ SMp w' G b bl be (A.as id) ∧ (∀ k, G k → W.heap.size ≤ k) ∧ ModP (fun _ => False) W w' := by
  have hc := h.hb.cell
  have ib := h.hb.inB
  obtain ⟨G1, h1, -⟩ := h.hl
  have hA := hidIt (c73 h1 hn A.lg.hist.length)
  have hS := hidIt (c72 h1)
  unfold SyR at hc
  have Okk := hidIt okk
  clear h h1 okk
  go_enter Tryz.func37, Tryz.ntmps37
  go_wp2_with (first
    | (go_at_call 72; refine hS.out.mono ?_; rintro _ w' ⟨rfl, e⟩; obtain rfl := e.symm)
    | (go_at_call 73; refine hA.out.mono ?_; rintro _ w1 ⟨bl', rfl, h1, m1⟩; have H1 := hidIt h1; have M1 := hidIt m1; clear h1 m1)
    | (go_at_call 74; refine (c74 _ _).mono ?_; rintro _ w2 ⟨rfl, m2⟩; have M2 := hidIt m2; clear m2)
    | (go_at_call 75; refine (new_sy (w3 := w2) H1.out M1.out M2.out Okk.out (R := fun r w' => ∃ b' G, r = .returned (vp b') ∧ W.heap.size ≤ b' ∧ SMp w' G b' bl' w1.heap.size (A.as id) ∧ (∀ k, G k → W.heap.size ≤ k) ∧ ModP (fun _ => False) W w') (fun b' G w' a b c d => ⟨b', G, rfl, a, b, c, d⟩)).mono ?_; rintro _ w3 ⟨b', G, rfl, a, b, c, d⟩))
  go_ret
  exact ⟨b', bl', w1.heap.size, G, rfl, a, b, c, d⟩
end
end Go.Proofs.Qxb6500990aGreat
