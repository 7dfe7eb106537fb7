/- package store: encMeta, encHead -/
import Derived.Test.Qxb6500990aGreatSt6
set_option linter.unusedVariables false
set_option linter.unusedSimpArgs false
namespace Go.Proofs.Qxb6500990aGreat
open Go Go.RowKit Go.Tw
attribute [local go_sem] World.cell?_put_same World.cell?_put_ne World.cell?_put_ne' World.frozen?_put_same World.frozen?_put_ne World.frozen?_put_ne' World.setCell_put_same World.setCell_put_ne World.setCell_put_ne' World.inB_put World.inB_alloc World.inB_drew World.inB_drewN World.inB_new World.inB_setCell World.put_drew World.put_drewN World.q_setCell_drew World.q_setCell_drewN World.q_alloc_drew World.q_alloc_drewN World.put_put_same World.put_put_2 World.size_put World.q_cell?_alloc_old World.q_frozen?_alloc_old World.cell?_alloc_new' World.frozen?_alloc_new' World.q_setCell_alloc_old World.q_setCell_alloc_new World.q_put_alloc_old World.cell?_force_same World.frozen?_force_same World.cell?_force2_fst World.cell?_force2_snd Meta.g0 Meta.s0 Meta.g1 Meta.s1 Meta.g2 Meta.s2 Meta.g3 Meta.s3 Head.g0 Head.s0 Head.g1 Head.s1 Head.g2 Head.s2 Head.g3 Head.s3 Head.g4 Head.s4 Head.g5 Head.s5 Rec.g0 Rec.s0 Rec.g1 Rec.s1 Rec.g2 Rec.s2
attribute [local go_sem] byA_set mk127
set_option maxHeartbeats 4000000
set_option maxRecDepth 100000
theorem c288 (W : World) (m : Meta) (n0 : 0 ≤ m.num) (n1 : m.num < 9223372036854775808) (t0 : 0 ≤ m.term) (t1 : m.term < 9223372036854775808) (v0 : -1 ≤ m.vote) (v1 : m.vote < 100) :
    Calls Tryz.prog 288 #[.agg m.cells] W (NewB W (encMetaS m)) := by
  obtain ⟨ok, num, term, vote⟩ := m
  simp only [] at *
  have P1 := hidIt (fun (w : World) (h : w.At (W.heap.size + 1) (byA z64b) 5) => k293 h z64b_len 1 (qi := 1) rfl (by omega) n0 n1)
  have P2 := hidIt (fun (w : World) (h : w.At (W.heap.size + 1) (byA (set8 z64b 1 num 8)) 5) => k293 h ((set8_len z64b 1 num 8).trans z64b_len) 9 (qi := 9) rfl (by omega) t0 t1)
  have hk : Hid (encMetaS ⟨ok, num, term, vote⟩ = (set8 (set8 z64b 1 num 8) 9 term 8).set 32 (lowB (vote + 1))) := rfl
  have hl2 : (set8 (set8 z64b 1 num 8) 9 term 8).length = 64 := (set8_len _ _ _ _).trans ((set8_len _ _ _ _).trans z64b_len)
  clear n0 n1 t0 t1
  generalize set8 z64b 1 num 8 = b1 at *
  generalize set8 b1 9 term 8 = b2 at *
  have hset : (byA b2).setIfInBounds 32 (.int .u8 (vote + 1)) = byA (b2.set 32 (lowB (vote + 1))) := by rw [← byA_set, lowB_nat, Int.emod_eq_of_lt (by omega) (by omega)]
  obtain ⟨old, hget⟩ : ∃ old, (byA b2)[32]? = some (.int .u8 old) := ⟨_, byA_get b2 32 (by omega)⟩
  clear hl2
  go_enter Tryz.func288, Tryz.ntmps288
  have ne : W.heap.size ≠ W.heap.size + 1 := by omega
  have hz0 : Hid (((W.alloc (.cells (Meta.cells ⟨ok, num, term, vote⟩) 131 (0, 0))).alloc (.cells (zb 64) 5 (0, 0))).At (W.heap.size + 1) (byA z64b) 5) := by unfold Hid; rw [zb_byA]; exact at_new (by simp)
  go_wp2_with (first
    | (go_at_call 293; (refine Calls.mono (P1.out _ hz0.out) ?_; rintro _ w1 ⟨rfl, hg1, m1⟩; have hx1 := m1.at (b := W.heap.size) (World.At.alloc World.At_alloc_new _) ne; have M1 := hidIt (show ModP (fun _ => False) W w1 from ModP.step (((ModP.refl _ _).alloc _).alloc _) m1 (fun k e => .inr (by omega))); have hcx := hx1.cell; have ix := hx1.inB; have Hg1 := hidIt hg1; have Hx1 := hidIt hx1; clear hg1 m1 hx1 P1 hz0))
    | (go_at_call 293; refine Calls.mono (P2.out _ Hg1.out) ?_; rintro _ w2 ⟨rfl, hg2, m2⟩; have hx2 := m2.at Hx1.out ne; have M2 := hidIt (M1.out.step m2 (fun k e => .inr (by omega))); clear hcx ix m2; obtain ⟨y, rfl, iy⟩ := hg2.door; have e2 := (World.At_put_ne' ne).1 hx2; have hcx2 := e2.cell; have ix2 := e2.inB; clear e2 hx2 hg2))
  go_ret
  rw [hk.out]
  exact ⟨_, rfl, by omega, World.At_put_same iy, (M2.out.unput (.inr (by omega))).put (.inr (by omega)) _ _⟩
theorem c291 (W : World) (m : Head) (n0 : 0 ≤ m.num) (n1 : m.num < 9223372036854775808) (i0 : 0 ≤ m.idx) (i1 : m.idx < 9223372036854775808) (t0 : 0 ≤ m.term) (t1 : m.term < 9223372036854775808) (a0 : 0 ≤ m.area) (a1 : m.area < 2) (z0 : 0 ≤ m.size) (z1 : m.size ≤ 128) :
    Calls Tryz.prog 291 #[.agg m.cells] W (NewB W (encHeadS m)) := by
  obtain ⟨ok, num, idx, term, area, size⟩ := m
  simp only [] at *
  have P1 := hidIt (fun (w : World) (h : w.At (W.heap.size + 1) (byA z64b) 5) => k293 h z64b_len 1 (qi := 1) rfl (by omega) n0 n1)
  have P2 := hidIt (fun (w : World) (h : w.At (W.heap.size + 1) (byA (set8 z64b 1 num 8)) 5) => k293 h ((set8_len z64b 1 num 8).trans z64b_len) 9 (qi := 9) rfl (by omega) i0 i1)
  have P3 := hidIt (fun (w : World) (h : w.At (W.heap.size + 1) (byA (set8 (set8 z64b 1 num 8) 9 idx 8)) 5) => k293 h ((set8_len _ 9 idx 8).trans ((set8_len z64b 1 num 8).trans z64b_len)) 32 (qi := 32) rfl (by omega) t0 t1)
  have hk : Hid (encHeadS ⟨ok, num, idx, term, area, size⟩ = ((set8 (set8 (set8 z64b 1 num 8) 9 idx 8) 32 term 8).set 40 (lowB area)).set 41 (lowB size)) := rfl
  have hl2 : (set8 (set8 (set8 z64b 1 num 8) 9 idx 8) 32 term 8).length = 64 := (set8_len _ _ _ _).trans ((set8_len _ _ _ _).trans ((set8_len _ _ _ _).trans z64b_len))
  clear n0 n1 t0 t1 i0 i1
  generalize set8 z64b 1 num 8 = b1 at *
  generalize set8 b1 9 idx 8 = b2 at *
  generalize set8 b2 32 term 8 = b3 at *
  have hset : (byA b3).setIfInBounds 40 (.int .u8 area) = byA (b3.set 40 (lowB area)) := by rw [← byA_set, lowB_nat, Int.emod_eq_of_lt (by omega) (by omega)]
  obtain ⟨old, hget⟩ : ∃ old, (byA b3)[40]? = some (.int .u8 old) := ⟨_, byA_get b3 40 (by omega)⟩
  have hset2 : (byA (b3.set 40 (lowB area))).setIfInBounds 41 (.int .u8 size) = byA ((b3.set 40 (lowB area)).set 41 (lowB size)) := by have h9 := byA_set (b3.set 40 (lowB area)) 41 (lowB size); rw [lowB_nat, Int.emod_eq_of_lt (by omega) (by omega)] at h9; exact h9
  obtain ⟨old2, hget2⟩ : ∃ old, (byA (b3.set 40 (lowB area)))[41]? = some (.int .u8 old) := ⟨_, byA_get _ 41 (by rw [List.length_set]; omega)⟩
  clear hl2
  have ne : W.heap.size ≠ W.heap.size + 1 := by omega
  have hz0 : Hid (((W.alloc (.cells (Head.cells ⟨ok, num, idx, term, area, size⟩) 133 (0, 0))).alloc (.cells (zb 64) 5 (0, 0))).At (W.heap.size + 1) (byA z64b) 5) := by unfold Hid; rw [zb_byA]; exact at_new (by simp)
  go_enter Tryz.func291, Tryz.ntmps291
  go_wp2_with (first
    | (go_at_call 293; (refine Calls.mono (P1.out _ hz0.out) ?_; rintro _ w1 ⟨rfl, hg1, m1⟩; have hx1 := m1.at (b := W.heap.size) (World.At.alloc World.At_alloc_new _) ne; have M1 := hidIt (show ModP (fun _ => False) W w1 from ModP.step (((ModP.refl _ _).alloc _).alloc _) m1 (fun k e => .inr (by omega))); have hcx := hx1.cell; have ix := hx1.inB; have Hg1 := hidIt hg1; have Hx1 := hidIt hx1; clear hg1 m1 hx1 P1 hz0))
    | (go_at_call 293; refine Calls.mono (P2.out _ Hg1.out) ?_; rintro _ w2 ⟨rfl, hg2, m2⟩; have hx2 := m2.at Hx1.out ne; have M2 := hidIt (M1.out.step m2 (fun k e => .inr (by omega))); clear hcx ix m2 P2 Hg1; have hcx2 := hx2.cell; have ix2 := hx2.inB; have Hg2 := hidIt hg2; have Hx2 := hidIt hx2; clear hg2 hx2)
    | (go_at_call 293; refine Calls.mono (P3.out _ Hg2.out) ?_; rintro _ w3 ⟨rfl, hg3, m3⟩; have hx3 := m3.at Hx2.out ne; have M3 := hidIt (M2.out.step m3 (fun k e => .inr (by omega))); clear hcx2 ix2 m3 P3 Hg2; obtain ⟨y, rfl, iy⟩ := hg3.door; have e2 := (World.At_put_ne' ne).1 hx3; have hcx3 := e2.cell; have ix3 := e2.inB; clear e2 hx3 hg3))
  go_ret
  rw [hk.out]
  exact ⟨_, rfl, by omega, World.At_put_same iy, (M3.out.unput (.inr (by omega))).put (.inr (by omega)) _ _⟩
end Go.Proofs.Qxb6500990aGreat
