/- package store: DelRec -/
import Derived.Test.Qxb6500990aGreatSt11
set_option linter.unusedVariables false
set_option linter.unusedSimpArgs false
namespace Go.Proofs.Qxb6500990aGreat
open Go Go.RowKit Go.Tw
attribute [local go_sem] World.cell?_put_same World.cell?_put_ne World.cell?_put_ne' World.frozen?_put_same World.frozen?_put_ne World.frozen?_put_ne' World.setCell_put_same World.setCell_put_ne World.setCell_put_ne' World.inB_put World.inB_alloc World.inB_drew World.inB_drewN World.inB_new World.inB_setCell World.put_drew World.put_drewN World.q_setCell_drew World.q_setCell_drewN World.q_alloc_drew World.q_alloc_drewN World.put_put_same World.put_put_2 World.size_put World.q_cell?_alloc_old World.q_frozen?_alloc_old World.cell?_alloc_new' World.frozen?_alloc_new' World.q_setCell_alloc_old World.q_setCell_alloc_new World.q_put_alloc_old World.cell?_force_same World.frozen?_force_same World.cell?_force2_fst World.cell?_force2_snd StoreR.g0 StoreR.s0 StoreR.g1 StoreR.s1 StoreR.g2 StoreR.s2 StoreR.g3 StoreR.s3 StoreR.g4 StoreR.s4 StoreR.g5 StoreR.s5 StoreR.g6 StoreR.s6 StoreR.g7 StoreR.s7 StoreR.g8 StoreR.s8 StoreR.g9 StoreR.s9 StoreR.g10 StoreR.s10 StoreR.g11 StoreR.s11 StoreR.g12 StoreR.s12 StoreR.g13 StoreR.s13 StoreR.g14 StoreR.s14 StoreR.g15 StoreR.s15 StoreR.g16 StoreR.s16 StoreR.g17 StoreR.s17 StoreR.g18 StoreR.s18 StoreR.g19 StoreR.s19 StoreR.g20 StoreR.s20 StoreR.g21 StoreR.s21 StoreR.g22 StoreR.s22 StoreR.g23 StoreR.s23 StoreR.g24 StoreR.s24 StoreR.g25 StoreR.s25 StoreR.g26 StoreR.s26 StoreR.g27 StoreR.s27 StoreR.g28 StoreR.s28 StoreR.g29 StoreR.s29 StoreR.g30 StoreR.s30 StoreR.g31 StoreR.s31 StoreR.g32 StoreR.s32 StoreR.g33 StoreR.s33 StoreR.g34 StoreR.s34 StoreR.g35 StoreR.s35 StoreR.g36 StoreR.s36 StoreR.g37 StoreR.s37 StoreR.g38 StoreR.s38 StoreR.g39 StoreR.s39 StoreR.g40 StoreR.s40 StoreR.g41 StoreR.s41 StoreR.g42 StoreR.s42 StoreR.g43 StoreR.s43 StoreR.g44 StoreR.s44 StoreR.g45 StoreR.s45 StoreR.g46 StoreR.s46 StoreR.g47 StoreR.s47 StoreR.g48 StoreR.s48 StoreR.g49 StoreR.s49 StoreR.g50 StoreR.s50 StoreR.g51 StoreR.s51 StoreR.gi_stamp_0 StoreR.si_stamp_0 StoreR.gi_used_0 StoreR.si_used_0 StoreR.gi_recs_0 StoreR.si_recs_0 StoreR.gi_recs_1 StoreR.si_recs_1 StoreR.gi_recs_2 StoreR.si_recs_2 Rec.g0 Rec.s0 Rec.g1 Rec.s1 Rec.g2 Rec.s2
attribute [local go_sem] StoreR.gia_recs_1 StoreR.sia_recs_1 StoreR.gia_recs_2 StoreR.sia_recs_2
attribute [local go_sem] ba_get upd_same upd_upd mk127
set_option maxHeartbeats 4000000
set_option maxRecDepth 100000
section
variable {W : World} {F : Nat → Prop} {bt bd : Nat} {D : Dk} {S : StoreR}
theorem c121_ok (hd : DK W F bd D) (hF : Within F W) (ht : W.At bt S.cells 139) (hS : S.d = vp bd) (nt : ¬ F bt) (hw : D.wr.length ≤ 9000) (s : Nat) (s6 : s < 6) (hu : S.used s = true) :
    Calls Tryz.prog 121 #[vp bt, vi s] W fun r w' => r = .returned (vi 0) ∧ DK w' (grow F W) bd (D.write (8 + s) (stampX z64b (nextS (S.stamp (8 + s))))) ∧
      w'.At bt (StoreR.cells { S with used := upd S.used s false, recs := upd S.recs s zRec, stamp := upd S.stamp (8 + s) (nextS (S.stamp (8 + s))) }) 139 ∧ ModP (fun k => F k ∨ k = bt) W w' := by
  have HD := hidIt (fun w' (m : ModP (fun k => k = bt) W w') => hd.frame m (fun k a e => nt (e ▸ a)))
  obtain ⟨y, rfl, it⟩ := ht.door
  obtain ⟨sd, stamp, m, mSlot, h, hSlot, snap, used, recs⟩ := S
  simp only [] at *
  subst hS
  have hF' := hidIt hF
  clear hd ht hF
  have s6' : (s : Int) < 6 := by omega
  go_enter Tryz.func121, Tryz.ntmps121
  go_wp2_with fail
  refine Ord.region1 [2, 3, 4, 9, 10] [0, 1, 5, 6, 7] [8, 11, 12] (by kernel_rfl) (by kernel_rfl) (fun _ _ d _ _ h => by cases d <;> exact h) ?_
  simp only [Ord.pickO, Ord.nth]
  repeat (go_big_quiet_step (fail))
  refine wpQuiet_nil ?_
  repeat (go_big_quiet_step (fail))
  refine wpQuiet_nil ?_
  have M1 : Hid (ModP (fun k => k = bt) (y.put bt (StoreR.cells ⟨vp bd, stamp, m, mSlot, h, hSlot, snap, used, recs⟩) 139) (((y.put bt (StoreR.cells ⟨vp bd, stamp, m, mSlot, h, hSlot, snap, upd used s false, upd recs s ⟨0, 0, []⟩⟩) 139).alloc (.cells (zb 64) 5 (0, 0))).drew)) := ((((ModP.refl (fun k => k = bt) y).put (.inl rfl) _ _).alloc _).drew).fromPut rfl
  go_wp2_with (first
    | (go_at_call 176; (refine (c176 (b := 8 + s) (x := z64b) (g := y.heap.size) (HD.out _ M1.out) (S := ⟨vp bd, stamp, m, mSlot, h, hSlot, snap, upd used s false, upd recs s ⟨0, 0, []⟩⟩) (World.At_drew.2 (World.At.alloc (World.At_put_same it) _)) rfl nt (World.At_drew.2 (by rw [zb_byA]; exact at_new (by simp [World.size_put]))) (fun a => by have h9 := hF'.out _ a; simp only [World.size_put] at h9; omega) rfl (by omega) hw).mono ?_; rintro _ w2 ⟨rfl, hD2, ht2, m2⟩; have HD2 := hidIt hD2; have Ht2 := hidIt ht2; have M2 := hidIt m2; clear hD2 ht2 m2)))
  go_ret
  refine ⟨rfl, HD2.out.mono (fun k a => a.elim .inl (fun c => .inr (Nat.le_trans M1.out.size c))), Ht2.out, ?_⟩
  refine (M1.out.mono (fun k a => .inr a)).step M2.out ?_
  rintro k (a | a | a)
  · exact .inl (.inl a)
  · exact .inl (.inr a)
  · exact .inr (by rw [World.size_put, a]; exact Nat.le_refl _)
end
end Go.Proofs.Qxb6500990aGreat
