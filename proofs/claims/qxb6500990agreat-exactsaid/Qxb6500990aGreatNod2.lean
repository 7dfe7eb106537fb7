/- package nodem: catchUp, open and what only reads -/
import Derived.Test.Qxb6500990aGreatNod
set_option linter.unusedVariables false
set_option linter.unusedSimpArgs false
namespace Go.Proofs.Qxb6500990aGreat
open Go Go.RowKit Go.Tw
attribute [local go_sem] World.cell?_put_same World.cell?_put_ne World.cell?_put_ne' World.frozen?_put_same World.frozen?_put_ne World.frozen?_put_ne' World.setCell_put_same World.setCell_put_ne World.setCell_put_ne' World.inB_put World.inB_alloc World.inB_drew World.inB_drewN World.inB_new World.inB_setCell World.put_drew World.put_drewN World.q_setCell_drew World.q_setCell_drewN World.q_alloc_drew World.q_alloc_drewN World.put_put_same World.put_put_2 World.size_put World.q_cell?_alloc_old World.q_frozen?_alloc_old World.cell?_alloc_new' World.frozen?_alloc_new' World.q_setCell_alloc_old World.q_setCell_alloc_new World.q_put_alloc_old World.cell?_force_same World.frozen?_force_same World.cell?_force2_fst World.cell?_force2_snd NodeM.g0 NodeM.s0 NodeM.g1 NodeM.s1 NodeM.g2 NodeM.s2 NodeM.g3 NodeM.s3 NodeM.g4 NodeM.s4 NodeM.g5 NodeM.s5 NodeM.g6 NodeM.s6 NodeM.g7 NodeM.s7 NodeM.g8 NodeM.s8 NodeM.g9 NodeM.s9 NodeM.g10 NodeM.s10 NodeM.g11 NodeM.s11 NodeM.gi_used_0 NodeM.si_used_0 NodeM.gi_seq_0 NodeM.si_seq_0 NodeM.gi_idx_0 NodeM.si_idx_0 SyncV.g0 SyncV.s0 SyncV.g1 SyncV.s1 SyncV.g2 SyncV.s2 SyncV.g3 SyncV.s3 SyncV.g4 SyncV.s4 SyncV.g5 SyncV.s5 SyncV.g6 SyncV.s6 SyncV.g7 SyncV.s7 SyncV.g8 SyncV.s8 SyncV.g9 SyncV.s9 SyncV.g10 SyncV.s10 SyncV.g11 SyncV.s11 SyncV.g12 SyncV.s12 SyncV.g13 SyncV.s13 SyncV.g14 SyncV.s14 SyncV.g15 SyncV.s15 SyncV.g16 SyncV.s16 SyncV.g17 SyncV.s17 SyncV.g18 SyncV.s18 SyncV.g19 SyncV.s19 SyncV.gi_got_0 SyncV.si_got_0 SyncV.gi_next_0 SyncV.si_next_0 SyncV.gi_mtch_0 SyncV.si_mtch_0 NodeV.g0 NodeV.s0 NodeV.g1 NodeV.s1 NodeV.g2 NodeV.s2 NodeV.g3 NodeV.s3 NodeV.g4 NodeV.s4 NodeV.g5 NodeV.s5 NodeV.g6 NodeV.s6 NodeV.g7 NodeV.s7 NodeV.g8 NodeV.s8 NodeV.g9 NodeV.s9 NodeV.g10 NodeV.s10 NodeV.gi_used_0 NodeV.si_used_0 NodeV.gi_seq_0 NodeV.si_seq_0 NodeV.gi_idx_0 NodeV.si_idx_0 Entry.g0 Entry.s0 Entry.g1 Entry.s1 Ans.g0 Ans.s0 Ans.g1 Ans.s1
attribute [local go_sem] ba_get upd_same upd_upd
set_option maxHeartbeats 4000000
set_option maxRecDepth 100000
section
variable {W w : World} {G : Nat → Prop} {b bs bl be bk : Nat} {n : AN}
theorem c76 (h : NB G W b bs bl be bk n w) (ok : n.sy.lg.now.Ok) : Calls Tryz.prog 76 #[vp b] w fun r w' => r = .returned (.tuple #[]) ∧ NB G W b bs bl be bk n.catchUp w' := by
  have hS := hidIt (fun w' (m : ModP (fun _ => False) w w') => h.fr m)
  have hc := h.hb.cell
  have ib := h.hb.inB
  have lk : bk < w.heap.size := h.hk.inB
  have hV := hidIt (by obtain ⟨G1, g1⟩ := h.sy; exact c97 g1 ok)
  unfold NoR at hc
  have hsn := ok.sn
  clear h ok
  unfold AS.view at hV
  by_cases hlt : n.applied < n.sy.lg.now.base
  · have hk : Hid (n.catchUp = { n with kv := (n.kv.restore n.sy.lg.now.snap).2, applied := n.sy.lg.now.base }) := by unfold Hid AN.catchUp; rw [if_pos hlt]
    go_enter Tryz.func76, Tryz.ntmps76
    go_wp2_with (first
      | (go_at_call 97; refine hV.out.mono ?_; rintro _ w1 ⟨bv, rfl, lv, hv, m1⟩; have S1 := hidIt (hS.out _ m1); have hb1 := S1.out.hb; have hc1 := hb1.cell; have ib1 := hb1.inB; unfold NoR at hc1; have hcv := hv.cell; have iv := hv.inB; have Hv := hidIt hv; clear hv m1 hc hb1))
    refine Ord.region1 [] [0, 1, 2, 3, 4, 5, 6, 7] [8] (by kernel_rfl) (by kernel_rfl) (fun _ _ d _ _ h => by cases d <;> exact h) ?_
    simp only [Ord.pickO, Ord.nth]
    refine wpQuiet_nil ?_
    repeat (go_big_quiet_step (fail))
    refine wpQuiet_nil ?_
    go_wp2_with fail
    refine Ord.region1 [] [0, 1, 2, 3, 4, 5, 6, 7] [8] (by kernel_rfl) (by kernel_rfl) (fun _ _ d _ _ h => by cases d <;> exact h) ?_
    simp only [Ord.pickO, Ord.nth]
    refine wpQuiet_nil ?_
    repeat (go_big_quiet_step (fail))
    refine wpQuiet_nil ?_
    go_wp2_with (first
      | (go_at_call 131; refine (c131 (World.At_drew.2 (World.At_drew.2 S1.out.hk)) n.sy.lg.now.snap (by omega)).mono ?_; rintro _ w2 ⟨rfl, hk2, m2⟩; have S2 := (S1.out.fr (ModP.drew (ModP.drew (ModP.refl _ _)))).store hk2 m2; have hv2 := m2.at (World.At_drew.2 (World.At_drew.2 Hv.out)) (by show bv ≠ bk; omega); clear hk2 m2 S1 Hv hcv iv hc1 ib1; obtain ⟨y2, rfl, ib2, HS2⟩ := S2.door; clear S2; have nv : bv ≠ b := (by have : b < w.heap.size := ib; omega); rw [World.At_put_ne' nv] at hv2; have hcv2 := hv2.cell; have iv2 := hv2.inB; clear hv2))
    go_end0
    rw [hk.out]
    exact ⟨rfl, HS2.out _ _ _ _⟩
  · have hk : Hid (n.catchUp = n) := by unfold Hid AN.catchUp; rw [if_neg hlt]
    have hlt' : n.sy.lg.now.base ≤ n.applied := by omega
    clear hlt
    go_enter Tryz.func76, Tryz.ntmps76
    go_wp2_with (first
      | (go_at_call 97; refine hV.out.mono ?_; rintro _ w1 ⟨bv, rfl, lv, hv, m1⟩; have S1 := hidIt (hS.out _ m1); have hb1 := S1.out.hb; have hc1 := hb1.cell; have ib1 := hb1.inB; unfold NoR at hc1; have hcv := hv.cell; have iv := hv.inB; clear hv m1 hc hb1))
    refine Ord.region1 [] [0, 1, 2, 3, 4, 5, 6, 7] [8] (by kernel_rfl) (by kernel_rfl) (fun _ _ d _ _ h => by cases d <;> exact h) ?_
    simp only [Ord.pickO, Ord.nth]
    refine wpQuiet_nil ?_
    repeat (go_big_quiet_step (fail))
    refine wpQuiet_nil ?_
    go_wp2_with fail
    go_end0
    rw [hk.out]
    exact ⟨rfl, S1.out.fr (ModP.drew (ModP.refl _ _))⟩
theorem c39 {G1 : Nat → Prop} {A : AS} (hs : SMp W G1 bs bl be A) (hk : W.At bk AK.new.r.cells 186) (nk : ¬ G1 bk) (ok : A.lg.now.Ok) :
    Calls Tryz.prog 39 #[vp bs, vp bk] W fun r w' => ∃ b', r = .returned (vp b') ∧ W.heap.size ≤ b' ∧ NB (fun k => G1 k ∨ k = bk) W b' bs bl be bk (AN.open A) w' := by
  have h0 : Hid (∀ ob, ob = .cells (NodeM.cells ⟨vp bs, vp bk, 0, fun _ => false, fun _ => 0, fun _ => 0⟩) 104 (0, 0) → NB (fun k => G1 k ∨ k = bk) W W.heap.size bs bl be bk ⟨A, AK.new, 0, fun _ => false, fun _ => 0, fun _ => 0⟩ (W.alloc ob)) := by
    rintro ob rfl
    have m : ModP (fun _ => False) W (W.alloc (.cells (NodeM.cells ⟨vp bs, vp bk, 0, fun _ => false, fun _ => 0, fun _ => 0⟩) 104 (0, 0))) := (ModP.refl _ _).alloc _
    have lk : bk < W.heap.size := hk.inB
    refine ⟨fun k => G1 k ∨ k = bk ∨ k = W.heap.size, ⟨World.At_alloc_new, hk.alloc _, ⟨G1, hs.frame m (fun _ _ f => f), fun k a => .inl a, fun a => ?_, nk⟩, .inr (.inr rfl), .inr (.inl rfl), ?_⟩, ?_, m.mono (fun _ f => f.elim)⟩
    · have := hs.wi _ a; omega
    · rintro k (a | rfl | rfl)
      · exact Nat.lt_of_lt_of_le (hs.wi _ a) m.size
      · exact Nat.lt_of_lt_of_le lk m.size
      · simp
    · rintro k (a | rfl | rfl)
      · exact .inl (.inl a)
      · exact .inl (.inr rfl)
      · exact .inr (Nat.le_refl _)
  have Hok := hidIt ok
  clear hs hk nk ok
  go_enter Tryz.func39, Tryz.ntmps39
  go_wp2_with (first
    | (go_at_call 76; refine (c76 (h0.out _ rfl) Hok.out).mono ?_; rintro _ w1 ⟨rfl, S1⟩))
  go_ret
  exact ⟨_, rfl, Nat.le_refl _, S1⟩
theorem new_no {w1 : World} {A : AS} {Gs : Nat → Prop} {R : Ending → World → Prop} (h1 : SMp w1 Gs bs bl be A) (hG : ∀ k, Gs k → W.heap.size ≤ k) (m1 : ModP (fun _ => False) W w1) (ok : A.lg.now.Ok)
    (hk : ∀ b' G w', W.heap.size ≤ b' → NMp w' G b' bs bl be w1.heap.size (AN.open A) → (∀ k, G k → W.heap.size ≤ k) → ModP (fun _ => False) W w' → R (.returned (vp b')) w') :
    Calls Tryz.prog 39 #[vp bs, vp w1.heap.size] (w1.alloc (.cells AK.new.r.cells 186 (0, 0))) R := by
  have m2 : ModP (fun _ => False) w1 (w1.alloc (.cells AK.new.r.cells 186 (0, 0))) := (ModP.refl _ _).alloc _
  have z1 := m1.size
  refine (c39 (h1.frame m2 (fun _ _ f => f)) World.At_alloc_new (fun a => by have := h1.wi _ a; omega) ok).mono ?_
  rintro _ w3 ⟨b', rfl, lb, G, k1, k2, k3⟩
  have z2 := m2.size
  have hG2 : ∀ k, G k → W.heap.size ≤ k := fun k a => by
    rcases k2 k a with (c | c) | c
    · exact hG k c
    · omega
    · omega
  exact hk b' G w3 (by omega) k1 hG2 ((m1.trans m2).step k3 (fun k c => .inr (by rcases c with c | c; exact hG k c; omega)))
def NewN (W : World) (X : AN) (r : Ending) (w' : World) : Prop := ∃ b bs bl be bk G, r = .returned (vp b) ∧ W.heap.size ≤ b ∧ NMp w' G b bs bl be bk X ∧ (∀ k, G k → W.heap.size ≤ k) ∧ ModP (fun _ => False) W w'
theorem c24 (W : World) (id : Int) (okk : (AS.new id).lg.now.Ok) : Calls Tryz.prog 24 #[vi id] W (NewN W (AN.new id)) := by
  have hN := hidIt (c51 W id)
  have Hok := hidIt okk
  clear okk
  go_enter Tryz.func24, Tryz.ntmps24
  go_wp2_with (first
    | (go_at_call 51; refine hN.out.mono ?_; rintro _ w1 ⟨bs, bl, be, Gs, rfl, lb, h1, hG, m1⟩; have H1 := hidIt h1; have HG := hidIt hG; have M1 := hidIt m1; clear h1 hG m1)
    | (go_at_call 38; refine (c38 _).mono ?_; rintro _ w2 ⟨rfl, rfl⟩)
    | (go_at_call 39; refine new_no (W := W) H1.out HG.out M1.out Hok.out (fun b' G w' a1 a2 a3 a4 => ?_); have Hf := hidIt (show NewN W (AN.new id) (.returned (vp b')) w' from ⟨b', bs, bl, be, _, G, rfl, a1, a2, a3, a4⟩); clear a1 a2 a3 a4))
  go_ret
  exact Hf.out
theorem c29 (h : NMp W G b bs bl be bk n) (hn : n.sy.lg.hist.length ≤ 9000) (k : Int) (okk : (n.sy.lg.after k).now.Ok) : Calls Tryz.prog 29 #[vp b, vi k] W (NewN W (n.atk k)) := by
  have hc := h.hb.cell
  have ib := h.hb.inB
  unfold NoR at hc
  have hN := hidIt (by obtain ⟨G1, g1, -⟩ := h.hs; exact c54 g1 hn k okk)
  have Hok := hidIt okk
  clear h okk
  go_enter Tryz.func29, Tryz.ntmps29
  go_wp2_with (first
    | (go_at_call 54; refine hN.out.mono ?_; rintro _ w1 ⟨bs', bl', be', Gs, rfl, lb, h1, hG, m1⟩; have H1 := hidIt h1; have HG := hidIt hG; have M1 := hidIt m1; clear h1 hG m1)
    | (go_at_call 38; refine (c38 _).mono ?_; rintro _ w2 ⟨rfl, rfl⟩)
    | (go_at_call 39; refine new_no (W := W) H1.out HG.out M1.out Hok.out (fun b' G w' a1 a2 a3 a4 => ?_); have Hf := hidIt (show NewN W (n.atk k) (.returned (vp b')) w' from ⟨b', bs', bl', be', _, G, rfl, a1, a2, a3, a4⟩); clear a1 a2 a3 a4))
  go_ret
  exact Hf.out
theorem c13 (h : NMp W G b bs bl be bk n) (hn : n.sy.lg.hist.length ≤ 9000) (id : Int) (okk : (n.sy.lg.after n.sy.lg.hist.length).now.Ok) : Calls Tryz.prog 13 #[vp b, vi id] W (NewN W (n.as id)) := by
  have hc := h.hb.cell
  have ib := h.hb.inB
  unfold NoR at hc
  have hN := hidIt (by obtain ⟨G1, g1, -⟩ := h.hs; exact c37 g1 hn id okk)
  have Hok := hidIt okk
  clear h okk
  go_enter Tryz.func13, Tryz.ntmps13
  go_wp2_with (first
    | (go_at_call 37; refine hN.out.mono ?_; rintro _ w1 ⟨bs', bl', be', Gs, rfl, lb, h1, hG, m1⟩; have H1 := hidIt h1; have HG := hidIt hG; have M1 := hidIt m1; clear h1 hG m1)
    | (go_at_call 38; refine (c38 _).mono ?_; rintro _ w2 ⟨rfl, rfl⟩)
    | (go_at_call 39; refine new_no (W := W) H1.out HG.out M1.out Hok.out (fun b' G w' a1 a2 a3 a4 => ?_); have Hf := hidIt (show NewN W (n.as id) (.returned (vp b')) w' from ⟨b', bs', bl', be', _, G, rfl, a1, a2, a3, a4⟩); clear a1 a2 a3 a4))
  go_ret
  exact Hf.out
theorem c16 (h : NB G W b bs bl be bk n w) : Calls Tryz.prog 16 #[vp b] w fun r w' => r = .returned (.tuple #[]) ∧ NB G W b bs bl be bk n.mark w' := by
  have hc := h.hb.cell
  have ib := h.hb.inB
  unfold NoR at hc
  have hM := hidIt (h.sync (P := fun r => r = .returned (.tuple #[])) (A' := n.sy.mark) (fun G1 g1 => c41 g1))
  clear h
  go_enter Tryz.func16, Tryz.ntmps16
  go_wp2_with (first
    | (go_at_call 41; refine hM.out.mono ?_; rintro _ w1 ⟨rfl, S1⟩))
  go_end0
  exact ⟨rfl, S1⟩
theorem c18 (h : NMp W G b bs bl be bk n) : Calls Tryz.prog 18 #[vp b] W fun r w' => r = .returned (vi n.sy.lg.hist.length) ∧ w' = W := by
  have hc := h.hb.cell
  have ib := h.hb.inB
  unfold NoR at hc
  have hM := hidIt (by obtain ⟨G1, g1, -⟩ := h.hs; exact c50 g1)
  clear h
  go_enter Tryz.func18, Tryz.ntmps18
  go_wp2_with (first
    | (go_at_call 50; refine hM.out.mono ?_; rintro _ w1 ⟨rfl, e⟩; obtain rfl := e.symm))
  go_ret
  exact ⟨rfl, rfl⟩
theorem c112 (h : NMp W G b bs bl be bk n) : Calls Tryz.prog 112 #[vp b] W fun r w' => r = .returned (vi n.kv.ps.length) ∧ w' = W := by
  have hc := h.hb.cell
  have ib := h.hb.inB
  unfold NoR at hc
  have hM := hidIt (c174 h.hk)
  clear h
  go_enter Tryz.func112, Tryz.ntmps112
  go_wp2_with (first
    | (go_at_call 174; refine hM.out.mono ?_; rintro _ w1 ⟨rfl, e⟩; obtain rfl := e.symm))
  go_ret
  exact ⟨rfl, rfl⟩
theorem c113 (h : NMp W G b bs bl be bk n) (ok : n.kv.Ok) (i : Int) : Calls Tryz.prog 113 #[vp b, vi i] W fun r w' => r = .returned (vs (n.kv.keyAt i)) ∧ w' = W := by
  have hc := h.hb.cell
  have ib := h.hb.inB
  unfold NoR at hc
  have hM := hidIt (c175 h.hk ok.n4 i)
  clear h
  go_enter Tryz.func113, Tryz.ntmps113
  go_wp2_with (first
    | (go_at_call 175; refine hM.out.mono ?_; rintro _ w1 ⟨rfl, e⟩; obtain rfl := e.symm))
  go_ret
  exact ⟨rfl, rfl⟩
theorem c168 (h : NMp W G b bs bl be bk n) (ok : n.kv.Ok) (key : Bs) : Calls Tryz.prog 168 #[vp b, vs key] W fun r w' => r = .returned (.tuple #[vs (n.kv.valOf key).1, .bool (n.kv.valOf key).2]) ∧ w' = W := by
  have hc := h.hb.cell
  have ib := h.hb.inB
  unfold NoR at hc
  have hM := hidIt (c229 h.hk ok.n4 key)
  clear h
  go_enter Tryz.func168, Tryz.ntmps168
  go_wp2_with (first
    | (go_at_call 229; refine hM.out.mono ?_; rintro _ w1 ⟨rfl, e⟩; obtain rfl := e.symm))
  go_ret2
  exact ⟨rfl, rfl⟩
theorem c166 (h : NMp W G b bs bl be bk n) (ok : n.sy.lg.now.Ok) (i : Int) : Calls Tryz.prog 166 #[vp b, vi i] W fun r w' => r = .returned (.tuple #[vi (n.sy.lg.now.termAt i).1, vi (n.sy.lg.now.termAt i).2]) ∧ ModP (fun _ => False) W w' := by
  have hc := h.hb.cell
  have ib := h.hb.inB
  unfold NoR at hc
  have hM := hidIt (by obtain ⟨G1, g1, -⟩ := h.hs; exact c227 g1 ok i)
  clear h
  go_enter Tryz.func166, Tryz.ntmps166
  go_wp2_with (first
    | (go_at_call 227; refine hM.out.mono ?_; rintro _ w1 ⟨rfl, m1⟩))
  go_ret2
  exact ⟨rfl, m1⟩
theorem c164 (h : NMp W G b bs bl be bk n) (ok : n.sy.lg.now.Ok) (i : Int) : Calls Tryz.prog 164 #[vp b, vi i] W fun r w' => r = .returned (.tuple #[.agg (n.sy.lg.now.at_ i).1.cells, vi (n.sy.lg.now.at_ i).2]) ∧ ModP (fun _ => False) W w' := by
  have hc := h.hb.cell
  have ib := h.hb.inB
  unfold NoR at hc
  have hM := hidIt (fun w' (m : ModP (fun _ => False) W w') => by obtain ⟨G1, g1, -⟩ := (h.frame m (fun _ _ f => f)).hs; exact c159 g1 ok i)
  clear h
  obtain ⟨⟨⟨et, ed⟩, er⟩, he⟩ : ∃ x, n.sy.lg.now.at_ i = x := ⟨_, rfl⟩
  rw [he] at hM ⊢
  clear he
  unfold Tw.Entry.cells at hM
  go_enter Tryz.func164, Tryz.ntmps164
  go_wp2_with (first
    | (go_at_call 159; refine (hM.out _ (by repeat (first | assumption | exact ModP.refl _ _ | refine ModP.fromPut ?_ (by assumption) | apply ModP.alloc | apply ModP.drew | apply ModP.drewN | refine ModP.put ?_ (by first | (left; assumption) | (left; rfl) | (right; simp only [World.inB, World.size_put] at *; omega)) _ _))).mono ?_; rintro _ w1 ⟨rfl, m1⟩; have M1 := hidIt (show ModP (fun _ => False) W w1 from ModP.trans (by repeat (first | assumption | exact ModP.refl _ _ | refine ModP.fromPut ?_ (by assumption) | apply ModP.alloc | apply ModP.drew | apply ModP.drewN | refine ModP.put ?_ (by first | (left; assumption) | (left; rfl) | (right; simp only [World.inB, World.size_put] at *; omega)) _ _)) m1); have hz := m1.at (b := W.heap.size) World.At_alloc_new (fun x => x); clear m1; obtain ⟨y, rfl, iy⟩ := hz.door; clear hz))
  refine bodyPost_ret (v := .tuple #[.agg (Entry.cells ⟨et, ed⟩), vi er]) (by simp [results, Tryz.results164, go_sem, Entry.cells, iy]) rfl ?_
  exact ⟨rfl, (M1.out.unput (.inr (Nat.le_refl _))).put (.inr (Nat.le_refl _)) _ _⟩
theorem c172 (h : NMp W G b bs bl be bk n) (c : Int) : Calls Tryz.prog 172 #[vp b, vi c] W fun r w' => r = .returned (.tuple #[vi (n.kv.sess c).1, .agg (n.kv.sess c).2.cells]) ∧ ModP (fun _ => False) W w' := by
  have hc := h.hb.cell
  have ib := h.hb.inB
  unfold NoR at hc
  have hM := hidIt (fun w' (m : ModP (fun _ => False) W w') => c233 (m.at h.hk (fun x => x)) c)
  clear h
  obtain ⟨⟨es, ⟨ee, ev⟩⟩, he⟩ : ∃ x, n.kv.sess c = x := ⟨_, rfl⟩
  rw [he] at hM ⊢
  clear he
  unfold Tw.Ans.cells at hM
  go_enter Tryz.func172, Tryz.ntmps172
  go_wp2_with (first
    | (go_at_call 233; refine (hM.out _ (by repeat (first | assumption | exact ModP.refl _ _ | refine ModP.fromPut ?_ (by assumption) | apply ModP.alloc | apply ModP.drew | apply ModP.drewN | refine ModP.put ?_ (by first | (left; assumption) | (left; rfl) | (right; simp only [World.inB, World.size_put] at *; omega)) _ _))).mono ?_; rintro _ w1 ⟨rfl, o, ho⟩; have m1 : ModP (fun _ => False) (W.alloc (.cells (Ans.cells ⟨0, []⟩) 75 (0, 0))) w1 := (by rcases ho with rfl | rfl; exact (by repeat (first | assumption | exact ModP.refl _ _ | refine ModP.fromPut ?_ (by assumption) | apply ModP.alloc | apply ModP.drew | apply ModP.drewN | refine ModP.put ?_ (by first | (left; assumption) | (left; rfl) | (right; simp only [World.inB, World.size_put] at *; omega)) _ _)); exact (by repeat (first | assumption | exact ModP.refl _ _ | refine ModP.fromPut ?_ (by assumption) | apply ModP.alloc | apply ModP.drew | apply ModP.drewN | refine ModP.put ?_ (by first | (left; assumption) | (left; rfl) | (right; simp only [World.inB, World.size_put] at *; omega)) _ _))); have M1 := hidIt (show ModP (fun _ => False) W w1 from ModP.trans (by repeat (first | assumption | exact ModP.refl _ _ | refine ModP.fromPut ?_ (by assumption) | apply ModP.alloc | apply ModP.drew | apply ModP.drewN | refine ModP.put ?_ (by first | (left; assumption) | (left; rfl) | (right; simp only [World.inB, World.size_put] at *; omega)) _ _)) m1); have hz := m1.at (b := W.heap.size) World.At_alloc_new (fun x => x); clear m1 ho; obtain ⟨y, rfl, iy⟩ := hz.door; clear hz))
  refine bodyPost_ret (v := .tuple #[vi es, .agg (Ans.cells ⟨ee, ev⟩)]) (by simp [results, Tryz.results172, go_sem, Ans.cells, iy]) rfl ?_
  exact ⟨rfl, (M1.out.unput (.inr (Nat.le_refl _))).put (.inr (Nat.le_refl _)) _ _⟩
end
end Go.Proofs.Qxb6500990aGreat
