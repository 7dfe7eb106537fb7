/- package store: encRec -/
import Derived.Test.Qxb6500990aGreatSt8
set_option linter.unusedVariables false
set_option linter.unusedSimpArgs false
namespace Go.Tw
open Go
/-- the first k bytes of t laid from byte 11 on -/
def layN (l t : Bs) : Nat → Bs
  | 0 => l
  | k + 1 => (layN l t k).set (11 + k) (t.getD k 0)
theorem layN_len (l t : Bs) : ∀ k, (layN l t k).length = l.length
  | 0 => rfl
  | k + 1 => by unfold layN; rw [List.length_set]; exact layN_len l t k
def recB (r : Rec) : Bs := (set8 (z64b.set 1 1) 2 r.idx 8).set 10 (lowB r.data.length)
def encRecS (r : Rec) : Bs := set8 (layN (recB r) r.data r.data.length) 35 r.term 8
theorem recB_len (r : Rec) : (recB r).length = 64 := by unfold recB; rw [List.length_set, set8_len, List.length_set]; rfl
end Go.Tw
namespace Go.Proofs.Qxb6500990aGreat
open Go Go.RowKit Go.Tw
attribute [local go_sem] World.cell?_put_same World.cell?_put_ne World.cell?_put_ne' World.frozen?_put_same World.frozen?_put_ne World.frozen?_put_ne' World.setCell_put_same World.setCell_put_ne World.setCell_put_ne' World.inB_put World.inB_alloc World.inB_drew World.inB_drewN World.inB_new World.inB_setCell World.put_drew World.put_drewN World.q_setCell_drew World.q_setCell_drewN World.q_alloc_drew World.q_alloc_drewN World.put_put_same World.put_put_2 World.size_put World.q_cell?_alloc_old World.q_frozen?_alloc_old World.cell?_alloc_new' World.frozen?_alloc_new' World.q_setCell_alloc_old World.q_setCell_alloc_new World.q_put_alloc_old World.cell?_force_same World.frozen?_force_same World.cell?_force2_fst World.cell?_force2_snd Meta.g0 Meta.s0 Meta.g1 Meta.s1 Meta.g2 Meta.s2 Meta.g3 Meta.s3 Head.g0 Head.s0 Head.g1 Head.s1 Head.g2 Head.s2 Head.g3 Head.s3 Head.g4 Head.s4 Head.g5 Head.s5 Rec.g0 Rec.s0 Rec.g1 Rec.s1 Rec.g2 Rec.s2
attribute [local go_sem] byA_set mk127 ba_get
set_option maxHeartbeats 4000000
set_option maxRecDepth 100000
theorem c283 (W : World) (r : Rec) (i0 : 0 ≤ r.idx) (i1 : r.idx < 9223372036854775808) (t0 : 0 ≤ r.term) (t1 : r.term < 9223372036854775808) (d24 : r.data.length ≤ 24) :
    Calls Tryz.prog 283 #[.agg r.cells] W (NewB W (encRecS r)) := by
  have hk : Hid (encRecS r = set8 (layN (recB r) r.data r.data.length) 35 r.term 8) := rfl
  have hrl := hidIt (recB_len r)
  have hrb : recB r = (set8 (z64b.set 1 1) 2 r.idx 8).set 10 (lowB r.data.length) := rfl
  have P1 := hidIt (fun (w : World) (h : w.At (W.heap.size + 1) (byA (z64b.set 1 1)) 5) => k293 h (by rw [List.length_set]; rfl) 2 (qi := 2) rfl (by omega) i0 i1)
  have P2 := hidIt (fun (w : World) (h : w.At (W.heap.size + 1) (byA (layN (recB r) r.data r.data.length)) 5) => k293 h ((layN_len _ _ _).trans (recB_len r)) 35 (qi := 35) rfl (by omega) t0 t1)
  have hl1 : (set8 (z64b.set 1 1) 2 r.idx 8).length = 64 := by rw [set8_len, List.length_set]; rfl
  obtain ⟨idx, term, data⟩ := r
  simp only [] at *
  generalize recB ⟨idx, term, data⟩ = rb at *
  generalize set8 (z64b.set 1 1) 2 idx 8 = b1 at *
  have d24' : (data.length : Int) ≤ 24 := by omega
  have hset : (byA b1).setIfInBounds 10 (.int .u8 (data.length : Int)) = byA rb := by rw [hrb, ← byA_set, lowB_nat, Int.emod_eq_of_lt (by omega) (by omega)]
  obtain ⟨old, hget⟩ : ∃ old, (byA b1)[10]? = some (.int .u8 old) := ⟨_, byA_get b1 10 (by omega)⟩
  have hset0 : (zb 64).setIfInBounds 1 (.int .u8 1) = byA (z64b.set 1 1) := by rw [zb_byA]; exact byA_set z64b 1 1
  have hget0 : (zb 64)[1]? = some (.int .u8 0) := rfl
  have ne : W.heap.size ≠ W.heap.size + 1 := by omega
  have hz0 : Hid (((W.alloc (.cells (Rec.cells ⟨idx, term, data⟩) 136 (0, 0))).alloc (.cells (byA (z64b.set 1 1)) 5 (0, 0))).At (W.heap.size + 1) (byA (z64b.set 1 1)) 5) := at_new (by simp)
  clear i0 i1 t0 t1 hrb hl1
  go_enter Tryz.func283, Tryz.ntmps283
  go_wp2_with (first
    | (go_at_call 293; (refine Calls.mono (P1.out _ hz0.out) ?_; rintro _ w1 ⟨rfl, hg1, m1⟩; have hx1 := m1.at (b := W.heap.size) (World.At.alloc World.At_alloc_new _) ne; have M1 := hidIt (show ModP (fun _ => False) W w1 from ModP.step (((ModP.refl _ _).alloc _).alloc _) m1 (fun k e => .inr (by omega))); clear m1 P1 hz0; obtain ⟨y, rfl, iy⟩ := hg1.door; have e2 := (World.At_put_ne' ne).1 hx1; have hcx := e2.cell; have ix := e2.inB; have Hx := hidIt e2; clear e2 hx1 hg1)))
  go_loopw [4] (fun v u => ∃ k : Nat, k ≤ data.length ∧ v = vi k ∧ u = y.put (W.heap.size + 1) (byA (layN rb data k)) 5) (fun v _ => data.length - (intOf v).toNat)
  case atStart => exact ⟨0, Nat.zero_le _, rfl, rfl⟩
  case round =>
    obtain ⟨k, hk2, rfl, rfl⟩ := hrel
    by_cases hlt : k < data.length
    · have hlt' : (k : Int) < data.length := by omega
      have hk24 : (k : Int) < 24 := by omega
      have hst : layN rb data (k + 1) = (layN rb data k).set (11 + k) data[k] := by
        have : data.getD k 0 = data[k] := by simp [List.getD_eq_getElem?_getD, hlt]
        rw [← this]; rfl
      have hln := (layN_len rb data k).trans hrl.out
      have Hst := hidIt hst
      obtain ⟨old2, hget2⟩ : ∃ old, (byA (layN rb data k))[11 + k]? = some (.int .u8 old) := ⟨_, byA_get _ (11 + k) (by omega)⟩
      clear hst hln
      generalize layN rb data k = lk at *
      go_wp2_with fail
      go_roundw
      case rel => exact ⟨k + 1, by omega, by go_num, by rw [Hst.out]⟩
      case measure => simp [intOf]; omega
    · obtain rfl : k = data.length := by omega
      have M2 := hidIt ((M1.out.unput (.inr (by omega))).put (b := W.heap.size + 1) (.inr (by omega)) (byA (layN rb data data.length)) 5)
      have hg2 := hidIt (World.At_put_same (c := byA (layN rb data data.length)) (T := 5) iy)
      clear hlt hk2
      go_wp2_with (first
        | (go_at_call 293; refine Calls.mono (P2.out _ hg2.out) ?_; rintro _ w3 ⟨rfl, hg3, m3⟩; have M3 := hidIt (M2.out.step m3 (fun k e => .inr (by omega))); have Hg3 := hidIt hg3; clear hg3 m3 P2))
      go_ret
      rw [hk.out]
      exact ⟨_, rfl, by omega, Hg3.out, M3.out⟩
end Go.Proofs.Qxb6500990aGreat
