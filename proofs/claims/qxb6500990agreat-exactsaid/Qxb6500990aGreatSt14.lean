/- package store: SetSnap -/
import Derived.Test.Qxb6500990aGreatSt13
set_option linter.unusedVariables false
set_option linter.unusedSimpArgs false
namespace Go.Tw
open Go Go.Proofs Go.Proofs.Qxb6500990aGreat
/-- the first k blocks of data come into area a -/
def snapD (D : Dk) (a : Nat) (data : Bs) : Nat → Dk
  | 0 => D
  | k + 1 => (snapD D a data k).write (4 + a * 2 + k) (chunkS data k)
def nCh (data : Bs) : Nat := (data.length + 63) / 64
theorem snapD_wr (D : Dk) (a : Nat) (data : Bs) : ∀ k, (snapD D a data k).wr.length = D.wr.length + 2 * k
  | 0 => rfl
  | k + 1 => by unfold snapD; simp only [Dk.write, List.length_append, List.length_cons, List.length_nil]; rw [snapD_wr D a data k]; omega
theorem DK.trim {w : World} {F : Nat → Prop} {bd : Nat} {D : Dk} (h : DK w F bd D) : DK w (fun k => F k ∧ k < w.heap.size) bd D := by
  obtain ⟨p, h1, h2, h3⟩ := h
  refine ⟨p, h1, h2, fun k hk => ⟨h3 k hk, ?_⟩⟩
  simp only [DP.fp, List.mem_append, List.mem_cons, List.not_mem_nil, or_false] at hk
  rcases hk with (rfl | rfl | rfl) | hk
  · exact h2.d.inB
  · exact h2.n.inB
  · exact h2.m.inB
  · have hg := Option.mem_toList.1 hk
    rcases h2.r.2 with ⟨hv, _⟩ | ⟨g', cap, cur, hv, _, h4, _⟩
    · rw [hv] at hg; simp [Value.ownBlock] at hg
    · rw [hv] at hg
      have : g' = k := by simpa [Value.ownBlock] using hg
      subst this
      exact (Array.getElem?_eq_some_iff.1 h4).1
theorem chunkS_len (data : Bs) (k : Nat) : (chunkS data k).length = 64 := by
  unfold chunkS
  exact prt_len' _ _ _ (by omega) (by rw [List.length_drop]; omega)
end Go.Tw
namespace Go.Proofs.Qxb6500990aGreat
open Go Go.RowKit Go.Tw
attribute [local go_sem] World.cell?_put_same World.cell?_put_ne World.cell?_put_ne' World.frozen?_put_same World.frozen?_put_ne World.frozen?_put_ne' World.setCell_put_same World.setCell_put_ne World.setCell_put_ne' World.inB_put World.inB_alloc World.inB_drew World.inB_drewN World.inB_new World.inB_setCell World.put_drew World.put_drewN World.q_setCell_drew World.q_setCell_drewN World.q_alloc_drew World.q_alloc_drewN World.put_put_same World.put_put_2 World.size_put World.q_cell?_alloc_old World.q_frozen?_alloc_old World.cell?_alloc_new' World.frozen?_alloc_new' World.q_setCell_alloc_old World.q_setCell_alloc_new World.q_put_alloc_old World.cell?_force_same World.frozen?_force_same World.cell?_force2_fst World.cell?_force2_snd StoreR.g0 StoreR.s0 StoreR.g1 StoreR.s1 StoreR.g2 StoreR.s2 StoreR.g3 StoreR.s3 StoreR.g4 StoreR.s4 StoreR.g5 StoreR.s5 StoreR.g6 StoreR.s6 StoreR.g7 StoreR.s7 StoreR.g8 StoreR.s8 StoreR.g9 StoreR.s9 StoreR.g10 StoreR.s10 StoreR.g11 StoreR.s11 StoreR.g12 StoreR.s12 StoreR.g13 StoreR.s13 StoreR.g14 StoreR.s14 StoreR.g15 StoreR.s15 StoreR.g16 StoreR.s16 StoreR.g17 StoreR.s17 StoreR.g18 StoreR.s18 StoreR.g19 StoreR.s19 StoreR.g20 StoreR.s20 StoreR.g21 StoreR.s21 StoreR.g22 StoreR.s22 StoreR.g23 StoreR.s23 StoreR.g24 StoreR.s24 StoreR.g25 StoreR.s25 StoreR.g26 StoreR.s26 StoreR.g27 StoreR.s27 StoreR.g28 StoreR.s28 StoreR.g29 StoreR.s29 StoreR.g30 StoreR.s30 StoreR.g31 StoreR.s31 StoreR.g32 StoreR.s32 StoreR.g33 StoreR.s33 StoreR.g34 StoreR.s34 StoreR.g35 StoreR.s35 StoreR.g36 StoreR.s36 StoreR.g37 StoreR.s37 StoreR.g38 StoreR.s38 StoreR.g39 StoreR.s39 StoreR.g40 StoreR.s40 StoreR.g41 StoreR.s41 StoreR.g42 StoreR.s42 StoreR.g43 StoreR.s43 StoreR.g44 StoreR.s44 StoreR.g45 StoreR.s45 StoreR.g46 StoreR.s46 StoreR.g47 StoreR.s47 StoreR.g48 StoreR.s48 StoreR.g49 StoreR.s49 StoreR.g50 StoreR.s50 StoreR.g51 StoreR.s51 StoreR.gi_stamp_0 StoreR.si_stamp_0 StoreR.gi_used_0 StoreR.si_used_0 StoreR.gi_recs_0 StoreR.si_recs_0 StoreR.gi_recs_1 StoreR.si_recs_1 StoreR.gi_recs_2 StoreR.si_recs_2 Head.g0 Head.s0 Head.g1 Head.s1 Head.g2 Head.s2 Head.g3 Head.s3 Head.g4 Head.s4 Head.g5 Head.s5
attribute [local go_sem] StoreR.gia_recs_1 StoreR.sia_recs_1 StoreR.gia_recs_2 StoreR.sia_recs_2
attribute [local go_sem] ba_get upd_same upd_upd
set_option maxHeartbeats 4000000
set_option maxRecDepth 100000
section
variable {W : World} {F : Nat → Prop} {bt bd : Nat} {D : Dk} {S : StoreR}
theorem c281_ok (hd : DK W F bd D) (hF : Within F W) (ht : W.At bt S.cells 139) (hS : S.d = vp bd) (nt : ¬ F bt) (hw : D.wr.length ≤ 8990) {idx t : Int} (i0 : 0 ≤ idx) (i1 : idx ≤ maxT) (t0 : 0 ≤ t) (t1 : t ≤ maxT) {data : Bs} (hl : data.length ≤ 128)
    (n0 : 0 ≤ S.h.num) (n1 : S.h.num < 4611686018427387904) {a : Nat} (ha : 1 - S.h.area = (a : Int)) (a2 : a < 2) {sl : Nat} (hsl : 1 - S.hSlot = (sl : Int)) (sl2 : sl < 2) :
    Calls Tryz.prog 281 #[vp bt, vi idx, vi t, vs data] W fun r w' => r = .returned (vi 0) ∧ DK w' (grow F W) bd ((snapD D a data (nCh data)).write (2 + sl) (stampX (encHeadS ⟨true, S.h.num + 1, idx, t, a, data.length⟩) (nextS (S.stamp (2 + sl))))) ∧
      w'.At bt (StoreR.cells { S with h := ⟨true, S.h.num + 1, idx, t, a, data.length⟩, hSlot := sl, snap := data, stamp := upd S.stamp (2 + sl) (nextS (S.stamp (2 + sl))) }) 139 ∧ ModP (fun k => F k ∨ k = bt) W w' := by
  have lt : bt < W.heap.size := ht.inB
  obtain ⟨sd, stamp, m, mSlot, ⟨hok, hnum, hidx, hterm, harea, hsize⟩, hSlot, snap, used, recs⟩ := S
  simp only [] at *
  subst hS
  have i1' : idx ≤ 72057594037927936 := i1
  have t1' : t ≤ 72057594037927936 := t1
  have he := hidIt (fun w => c291 w ⟨true, hnum + 1, idx, t, a, data.length⟩ (by simp only []; omega) (by simp only []; omega) i0 (by simp only []; omega) t0 (by simp only []; omega) (by simp only []; omega) (by simp only []; omega) (by simp only []; omega) (by simp only []; omega))
  have hel : Hid ((encHeadS ⟨true, hnum + 1, idx, t, a, data.length⟩).length = 64) := by unfold Hid encHeadS; rw [List.length_set, List.length_set, set8_len, set8_len, set8_len]; rfl
  have hch := hidIt (fun w k hk => c290 w data (by omega) k hk)
  have hN : nCh data ≤ 2 ∧ data.length ≤ nCh data * 64 ∧ nCh data * 64 < data.length + 64 := by unfold nCh; omega
  obtain ⟨N2, N3, N4⟩ := hN
  have hD0 : Hid (DK W (grow F W) bd (snapD D a data 0)) := hd.mono (fun k => .inl)
  have hT0 := hidIt ht
  have hF' := hidIt hF
  have hwk := hidIt (fun k => snapD_wr D a data k)
  have a2' : (a : Int) < 2 := by omega
  have sl2' : (sl : Int) < 2 := by omega
  have hl' : (data.length : Int) ≤ 128 := by omega
  have M0 : Hid (ModP (fun k => F k ∨ k = bt) W W) := ModP.refl _ _
  have nt' := hidIt nt
  have hc0 := ht.cell
  have ib0 := ht.inB
  unfold Head.cells at he
  generalize nCh data = n at *
  have q1 : decide (idx < 0) = false := by simp; omega
  have q2 : decide (72057594037927936 < idx) = false := by simp; omega
  have q3 : decide (t < 0) = false := by simp; omega
  have q4 : decide (72057594037927936 < t) = false := by simp; omega
  have q5 : decide (128 < (data.length : Int)) = false := by simp; omega
  clear hd ht hF i1 t1 hl nt i1' t1' i0 t0
  go_enter Tryz.func281, Tryz.ntmps281
  go_wp2_with fail
  clear hc0 ib0
  go_loopw [10] (fun kv u => ∃ k : Nat, k ≤ n ∧ kv = vi k ∧ Hid (DK u (grow F W) bd (snapD D a data k)) ∧ Hid (u.At bt (StoreR.cells ⟨vp bd, stamp, m, mSlot, ⟨hok, hnum, hidx, hterm, harea, hsize⟩, hSlot, snap, used, recs⟩) 139) ∧ Hid (ModP (fun k => F k ∨ k = bt) W u)) (fun kv _ => n - (intOf kv).toNat)
  case atStart => exact ⟨0, by omega, rfl, hD0, hT0, M0⟩
  case round =>
    clear hD0 hT0 M0
    obtain ⟨k, hk, rfl, H1, H2, H3⟩ := hrel
    by_cases hkn : k < n
    · have hlt : (k : Int) * 64 < data.length := by omega
      have hc2 := hidIt (hch.out · k (by omega))
      have hc := H2.out.cell
      have ib := H2.out.inB
      go_wp2_with (first
        | (go_at_call 290; refine (hc2.out _).mono ?_; rintro _ w1 ⟨rfl, m1⟩; have M1 := hidIt (m1.mono (G := fun k => F k ∨ k = bt) (fun _ f => f.elim)); have A1 := hidIt (m1.at H2.out (fun f => f)); have D1 := hidIt (H1.out.frame m1 (fun _ _ f => f)); clear m1; have hc := A1.out.cell; have ib := A1.out.inB)
        | (go_at_call 235; refine (k235 D1.out (4 + a * 2 + k) (by omega) (chunkS data k) (chunkS_len _ _) (by have := hwk.out k; omega)).mono ?_; rintro _ w2 ⟨rfl, d2, m2⟩; have D2 := hidIt d2; have M2 := hidIt m2; clear d2 m2))
      go_roundw
      case rel =>
        have hs1 : W.heap.size ≤ w1.heap.size := Nat.le_trans H3.out.size M1.out.size
        refine ⟨k + 1, by omega, by go_num, D2.out.mono (fun k h => grow_grow hs1 h), M2.out.at A1.out (fun h => h.elim nt'.out (fun h => by omega)), ?_⟩
        exact (H3.out.trans M1.out).step M2.out (fun k h => h.elim (fun h => .inl (.inl h)) .inr)
      case measure => simp [intOf]; omega
    · obtain rfl : k = n := by omega
      have hlt : decide ((k : Int) * 64 < data.length) = false := by simp; omega
      obtain ⟨y, rfl, it⟩ := H2.out.door
      have HD := hidIt (fun w' (m : ModP (fun k => k = bt) (y.put bt (StoreR.cells ⟨vp bd, stamp, m, mSlot, ⟨hok, hnum, hidx, hterm, harea, hsize⟩, hSlot, snap, used, recs⟩) 139) w') => H1.out.trim.frame m (fun k a e => by subst e; rcases a.1 with a | a; exact nt'.out a; omega))
      have lty : W.heap.size ≤ y.heap.size := by have := H3.out.size; simpa [World.size_put] using this
      go_wp2_with (first
        | (go_at_call 291; refine (he.out _).mono ?_; rintro _ w1 ⟨g, rfl, lg, hg1, m1⟩; have ht1 := m1.at (World.At_put_same (c := StoreR.cells ⟨vp bd, stamp, m, mSlot, ⟨true, hnum + 1, idx, t, a, data.length⟩, sl, data, used, recs⟩) (T := 139) it) (fun x => x); have M1 : Hid (ModP (fun k => k = bt) (y.put bt (StoreR.cells ⟨vp bd, stamp, m, mSlot, ⟨hok, hnum, hidx, hterm, harea, hsize⟩, hSlot, snap, used, recs⟩) 139) w1) := ((((ModP.refl (fun k => k = bt) y).put (.inl rfl) _ _).trans (m1.mono fun _ f => f.elim)).fromPut rfl); have hc1 := ht1.cell; have i1 := ht1.inB; have Ht1 := hidIt ht1; have Hg1 := hidIt hg1; have lg' : Hid (y.heap.size ≤ g) := (by unfold Hid; simpa [World.size_put] using lg); clear ht1 hg1 m1 lg he)
        | (go_at_call 176; refine (c176 (b := 2 + sl) (HD.out _ M1.out) Ht1.out rfl (fun h => h.1.elim nt'.out (fun h => by omega)) Hg1.out (fun a => by have h9 := a.2; have := lg'.out; simp only [World.size_put] at h9; omega) hel.out (by omega) (by have := hwk.out k; omega)).mono ?_; rintro _ w2 ⟨rfl, hD2, ht2, m2⟩; have HD2 := hidIt hD2; have Ht2 := hidIt ht2; have M2 := hidIt m2; clear hD2 ht2 m2))
      go_ret
      refine ⟨rfl, HD2.out.mono (fun k a => a.elim (fun a => a.1) (fun a => .inr (Nat.le_trans (Nat.le_trans H3.out.size M1.out.size) a))), Ht2.out, ?_⟩
      refine (H3.out.trans (M1.out.mono (fun k a => .inr a))).step M2.out ?_
      rintro k (a | a | a)
      · exact a.1.elim (fun a => .inl (.inl a)) .inr
      · exact .inl (.inr a)
      · exact .inr (by have := lg'.out; omega)
end
end Go.Proofs.Qxb6500990aGreat
