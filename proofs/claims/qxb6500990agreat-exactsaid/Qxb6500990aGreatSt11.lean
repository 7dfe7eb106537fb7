/- package store: SetMeta -/
import Derived.Test.Qxb6500990aGreatSt10
set_option linter.unusedVariables false
set_option linter.unusedSimpArgs false
namespace Go.Proofs.Qxb6500990aGreat
open Go Go.RowKit Go.Tw
attribute [local go_sem] World.cell?_put_same World.cell?_put_ne World.cell?_put_ne' World.frozen?_put_same World.frozen?_put_ne World.frozen?_put_ne' World.setCell_put_same World.setCell_put_ne World.setCell_put_ne' World.inB_put World.inB_alloc World.inB_drew World.inB_drewN World.inB_new World.inB_setCell World.put_drew World.put_drewN World.q_setCell_drew World.q_setCell_drewN World.q_alloc_drew World.q_alloc_drewN World.put_put_same World.put_put_2 World.size_put World.q_cell?_alloc_old World.q_frozen?_alloc_old World.cell?_alloc_new' World.frozen?_alloc_new' World.q_setCell_alloc_old World.q_setCell_alloc_new World.q_put_alloc_old World.cell?_force_same World.frozen?_force_same World.cell?_force2_fst World.cell?_force2_snd StoreR.g0 StoreR.s0 StoreR.g1 StoreR.s1 StoreR.g2 StoreR.s2 StoreR.g3 StoreR.s3 StoreR.g4 StoreR.s4 StoreR.g5 StoreR.s5 StoreR.g6 StoreR.s6 StoreR.g7 StoreR.s7 StoreR.g8 StoreR.s8 StoreR.g9 StoreR.s9 StoreR.g10 StoreR.s10 StoreR.g11 StoreR.s11 StoreR.g12 StoreR.s12 StoreR.g13 StoreR.s13 StoreR.g14 StoreR.s14 StoreR.g15 StoreR.s15 StoreR.g16 StoreR.s16 StoreR.g17 StoreR.s17 StoreR.g18 StoreR.s18 StoreR.g19 StoreR.s19 StoreR.g20 StoreR.s20 StoreR.g21 StoreR.s21 StoreR.g22 StoreR.s22 StoreR.g23 StoreR.s23 StoreR.g24 StoreR.s24 StoreR.g25 StoreR.s25 StoreR.g26 StoreR.s26 StoreR.g27 StoreR.s27 StoreR.g28 StoreR.s28 StoreR.g29 StoreR.s29 StoreR.g30 StoreR.s30 StoreR.g31 StoreR.s31 StoreR.g32 StoreR.s32 StoreR.g33 StoreR.s33 StoreR.g34 StoreR.s34 StoreR.g35 StoreR.s35 StoreR.g36 StoreR.s36 StoreR.g37 StoreR.s37 StoreR.g38 StoreR.s38 StoreR.g39 StoreR.s39 StoreR.g40 StoreR.s40 StoreR.g41 StoreR.s41 StoreR.g42 StoreR.s42 StoreR.g43 StoreR.s43 StoreR.g44 StoreR.s44 StoreR.g45 StoreR.s45 StoreR.g46 StoreR.s46 StoreR.g47 StoreR.s47 StoreR.g48 StoreR.s48 StoreR.g49 StoreR.s49 StoreR.g50 StoreR.s50 StoreR.g51 StoreR.s51 StoreR.gi_stamp_0 StoreR.si_stamp_0 StoreR.gi_used_0 StoreR.si_used_0 StoreR.gi_recs_0 StoreR.si_recs_0 StoreR.gi_recs_1 StoreR.si_recs_1 StoreR.gi_recs_2 StoreR.si_recs_2 Meta.g0 Meta.s0 Meta.g1 Meta.s1 Meta.g2 Meta.s2 Meta.g3 Meta.s3
attribute [local go_sem] StoreR.gia_recs_1 StoreR.sia_recs_1 StoreR.gia_recs_2 StoreR.sia_recs_2
attribute [local go_sem] ba_get upd_same upd_upd
set_option maxHeartbeats 4000000
set_option maxRecDepth 100000
section
variable {W : World} {F : Nat → Prop} {bt bd : Nat} {D : Dk} {S : StoreR}
theorem c274_ok (hd : DK W F bd D) (hF : Within F W) (ht : W.At bt S.cells 139) (hS : S.d = vp bd) (nt : ¬ F bt) (hw : D.wr.length ≤ 9000) {t v : Int} (t0 : 0 ≤ t) (t1 : t ≤ maxT) (v0 : -1 ≤ v) (v1 : v < 3)
    (n0 : 0 ≤ S.m.num) (n1 : S.m.num < 4611686018427387904) {sl : Nat} (hsl : 1 - S.mSlot = (sl : Int)) (sl2 : sl < 2) :
    Calls Tryz.prog 274 #[vp bt, vi t, vi v] W fun r w' => r = .returned (vi 0) ∧ DK w' (grow F W) bd (D.write sl (stampX (encMetaS ⟨true, S.m.num + 1, t, v⟩) (nextS (S.stamp sl)))) ∧
      w'.At bt (StoreR.cells { S with m := ⟨true, S.m.num + 1, t, v⟩, mSlot := sl, stamp := upd S.stamp sl (nextS (S.stamp sl)) }) 139 ∧ ModP (fun k => F k ∨ k = bt) W w' := by
  have HD := hidIt (fun w' (m : ModP (fun k => k = bt) W w') => hd.frame m (fun k a e => nt (e ▸ a)))
  have lt : bt < W.heap.size := ht.inB
  obtain ⟨y, rfl, it⟩ := ht.door
  obtain ⟨sd, stamp, ⟨mok, mnum, mterm, mvote⟩, mSlot, h, hSlot, snap, used, recs⟩ := S
  simp only [] at *
  subst hS
  have t1' : t ≤ 72057594037927936 := t1
  have he := hidIt (fun w => c288 w ⟨true, mnum + 1, t, v⟩ (by simp only []; omega) (by simp only []; omega) t0 (by simp only []; omega) v0 (by simp only []; omega))
  have hel : Hid ((encMetaS ⟨true, mnum + 1, t, v⟩).length = 64) := by unfold Hid encMetaS; rw [List.length_set, set8_len, set8_len]; rfl
  have hF' := hidIt hF
  clear hd ht hF
  have sl2' : (sl : Int) < 2 := by omega
  unfold Meta.cells at he
  go_enter Tryz.func274, Tryz.ntmps274
  go_wp2_with (first
    | (go_at_call 288; refine (he.out _).mono ?_; rintro _ w1 ⟨g, rfl, lg, hg1, m1⟩; have ht1 := m1.at (World.At_put_same (c := StoreR.cells ⟨vp bd, stamp, ⟨true, mnum + 1, t, v⟩, sl, h, hSlot, snap, used, recs⟩) (T := 139) it) (fun x => x); have M1 : Hid (ModP (fun k => k = bt) (y.put bt (StoreR.cells ⟨vp bd, stamp, ⟨mok, mnum, mterm, mvote⟩, mSlot, h, hSlot, snap, used, recs⟩) 139) w1) := ((((ModP.refl (fun k => k = bt) y).put (.inl rfl) _ _).trans (m1.mono fun _ f => f.elim)).fromPut rfl); have hc1 := ht1.cell; have i1 := ht1.inB; have Ht1 := hidIt ht1; have Hg1 := hidIt hg1; have lg' : Hid (y.heap.size ≤ g) := (by unfold Hid; simpa [World.size_put] using lg); clear ht1 hg1 m1 lg he)
    | (go_at_call 176; refine (c176 (HD.out _ M1.out) Ht1.out rfl nt Hg1.out (fun a => by have h9 := hF'.out _ a; have := lg'.out; simp only [World.size_put] at h9; omega) hel.out sl (by omega) hw).mono ?_; rintro _ w2 ⟨rfl, hD2, ht2, m2⟩; have HD2 := hidIt hD2; have Ht2 := hidIt ht2; have M2 := hidIt m2; clear hD2 ht2 m2))
  go_ret
  refine ⟨rfl, HD2.out.mono (fun k a => a.elim .inl (fun c => .inr (Nat.le_trans M1.out.size c))), Ht2.out, ?_⟩
  refine (M1.out.mono (fun k a => .inr a)).step M2.out ?_
  rintro k (a | a | a)
  · exact .inl (.inl a)
  · exact .inl (.inr a)
  · exact .inr (by rw [World.size_put, a]; exact lg'.out)
end
end Go.Proofs.Qxb6500990aGreat
