/- package store: PutRec -/
import Derived.Test.Qxb6500990aGreatSt12
set_option linter.unusedVariables false
set_option linter.unusedSimpArgs false
namespace Go.Proofs.Qxb6500990aGreat
open Go Go.RowKit Go.Tw
attribute [local go_sem] World.cell?_put_same World.cell?_put_ne World.cell?_put_ne' World.frozen?_put_same World.frozen?_put_ne World.frozen?_put_ne' World.setCell_put_same World.setCell_put_ne World.setCell_put_ne' World.inB_put World.inB_alloc World.inB_drew World.inB_drewN World.inB_new World.inB_setCell World.put_drew World.put_drewN World.q_setCell_drew World.q_setCell_drewN World.q_alloc_drew World.q_alloc_drewN World.put_put_same World.put_put_2 World.size_put World.q_cell?_alloc_old World.q_frozen?_alloc_old World.cell?_alloc_new' World.frozen?_alloc_new' World.q_setCell_alloc_old World.q_setCell_alloc_new World.q_put_alloc_old World.cell?_force_same World.frozen?_force_same World.cell?_force2_fst World.cell?_force2_snd StoreR.g0 StoreR.s0 StoreR.g1 StoreR.s1 StoreR.g2 StoreR.s2 StoreR.g3 StoreR.s3 StoreR.g4 StoreR.s4 StoreR.g5 StoreR.s5 StoreR.g6 StoreR.s6 StoreR.g7 StoreR.s7 StoreR.g8 StoreR.s8 StoreR.g9 StoreR.s9 StoreR.g10 StoreR.s10 StoreR.g11 StoreR.s11 StoreR.g12 StoreR.s12 StoreR.g13 StoreR.s13 StoreR.g14 StoreR.s14 StoreR.g15 StoreR.s15 StoreR.g16 StoreR.s16 StoreR.g17 StoreR.s17 StoreR.g18 StoreR.s18 StoreR.g19 StoreR.s19 StoreR.g20 StoreR.s20 StoreR.g21 StoreR.s21 StoreR.g22 StoreR.s22 StoreR.g23 StoreR.s23 StoreR.g24 StoreR.s24 StoreR.g25 StoreR.s25 StoreR.g26 StoreR.s26 StoreR.g27 StoreR.s27 StoreR.g28 StoreR.s28 StoreR.g29 StoreR.s29 StoreR.g30 StoreR.s30 StoreR.g31 StoreR.s31 StoreR.g32 StoreR.s32 StoreR.g33 StoreR.s33 StoreR.g34 StoreR.s34 StoreR.g35 StoreR.s35 StoreR.g36 StoreR.s36 StoreR.g37 StoreR.s37 StoreR.g38 StoreR.s38 StoreR.g39 StoreR.s39 StoreR.g40 StoreR.s40 StoreR.g41 StoreR.s41 StoreR.g42 StoreR.s42 StoreR.g43 StoreR.s43 StoreR.g44 StoreR.s44 StoreR.g45 StoreR.s45 StoreR.g46 StoreR.s46 StoreR.g47 StoreR.s47 StoreR.g48 StoreR.s48 StoreR.g49 StoreR.s49 StoreR.g50 StoreR.s50 StoreR.g51 StoreR.s51 StoreR.gi_stamp_0 StoreR.si_stamp_0 StoreR.gi_used_0 StoreR.si_used_0 StoreR.gi_recs_0 StoreR.si_recs_0 StoreR.gi_recs_1 StoreR.si_recs_1 StoreR.gi_recs_2 StoreR.si_recs_2 Rec.g0 Rec.s0 Rec.g1 Rec.s1 Rec.g2 Rec.s2
attribute [local go_sem] StoreR.gia_recs_1 StoreR.sia_recs_1 StoreR.gia_recs_2 StoreR.sia_recs_2
attribute [local go_sem] ba_get upd_same upd_upd
set_option maxHeartbeats 4000000
set_option maxRecDepth 100000
section
variable {W : World} {F : Nat → Prop} {bt bd : Nat} {D : Dk} {S : StoreR}
theorem c257_ok (hd : DK W F bd D) (hF : Within F W) (ht : W.At bt S.cells 139) (hS : S.d = vp bd) (nt : ¬ F bt) (hw : D.wr.length ≤ 9000) (s : Nat) (s6 : s < 6) (hu : S.used s = false) (r : Rec) (i0 : 1 ≤ r.idx) (i1 : r.idx ≤ maxT) (t0 : 0 ≤ r.term) (t1 : r.term ≤ maxT) (d24 : r.data.length ≤ 24) :
    Calls Tryz.prog 257 #[vp bt, vi s, .agg r.cells] W fun r' w' => r' = .returned (vi 0) ∧ DK w' (grow F W) bd (D.write (8 + s) (stampX (encRecS r) (nextS (S.stamp (8 + s))))) ∧
      w'.At bt (StoreR.cells { S with used := upd S.used s true, recs := upd S.recs s r, stamp := upd S.stamp (8 + s) (nextS (S.stamp (8 + s))) }) 139 ∧ ModP (fun k => F k ∨ k = bt) W w' := by
  have HD := hidIt (fun w' (m : ModP (fun k => k = bt) W w') => hd.frame m (fun k a e => nt (e ▸ a)))
  have he := hidIt (fun w => c283 w r (by omega) (by unfold maxT at i1; omega) t0 (by unfold maxT at t1; omega) d24)
  have hel : Hid ((encRecS r).length = 64) := by unfold Hid encRecS; rw [set8_len, layN_len]; exact recB_len r
  obtain ⟨y, rfl, it⟩ := ht.door
  obtain ⟨sd, stamp, m, mSlot, h, hSlot, snap, used, recs⟩ := S
  obtain ⟨ri, rt, rd⟩ := r
  simp only [] at *
  subst hS
  have hF' := hidIt hF
  have lt : bt < y.heap.size := it
  have n1 : bt ≠ y.heap.size := by omega
  clear hd ht hF
  unfold maxT at i1 t1
  unfold Rec.cells at he
  have s6' : (s : Int) < 6 := by omega
  have d24' : (rd.length : Int) ≤ 24 := by omega
  go_enter Tryz.func257, Tryz.ntmps257
  go_wp2_with fail
  refine Ord.region3 (fun w' => ∃ u : World, w' = u.force y.heap.size (Rec.cells ⟨ri, rt, rd⟩) 136) [2, 3, 4, 9, 10] [0, 1, 5, 6, 7] (.one 8 true (.val 11 (.one 12 false .fin))) false (fun h => by cases h) (by kernel_rfl) (by kernel_rfl) (fun _ _ d _ _ h => by cases d <;> exact h) ?ca7_1 ?_
  rotate_left
  simp only [Ord.pickO, Ord.nth]
  repeat (go_big_quiet_step (fail))
  refine wpQuiet_nil ?_
  repeat (go_big_quiet_step (fail))
  refine wpQuiet_nil ?_
  -- steps: ['L8', 'V11', 'N12']
  rotate_left
  · exact ca_of (by repeat (first | exact at_new (by simp [World.size_put]) | refine World.At_drew.2 ?_))
  refine Ord.wpS_loose rfl ?_
  intro K hK
  dsimp only [Ord.nth]
  go_wp2_with fail
  refine hK _ _ (ca_of (by repeat (first | exact at_new (by simp [World.size_put]) | refine World.At_drew.2 ?_))) ?_
  clear hK K
  refine Ord.wpS_val rfl ?_
  dsimp only [Ord.nth]
  go_big_quiet_step (fail)
  refine wpQuiet_nil ?_
  refine Ord.wpS_next rfl ?_
  intro K hK
  dsimp only [Ord.nth]
  go_wp2_with fail
  refine Ord.wpS_fin ?_
  go_wp2_with (first
    | (go_at_call 283; (refine (he.out _).mono ?_; rintro _ w1 ⟨g, rfl, lg, hg1, m1⟩; have ht1 := m1.at (b := bt) (c := StoreR.cells ⟨vp bd, stamp, m, mSlot, h, hSlot, snap, upd used s true, upd recs s ⟨ri, rt, rd⟩⟩) (T := 139) (World.At_drew.2 (World.At.alloc (World.At_put_same it) _)) (fun x => x); have M1 : Hid (ModP (fun k => k = bt) (y.put bt (StoreR.cells ⟨vp bd, stamp, m, mSlot, h, hSlot, snap, used, recs⟩) 139) w1) := (((((ModP.refl (fun k => k = bt) y).put (.inl rfl) _ _).alloc _).drew.trans (m1.mono fun _ f => f.elim)).fromPut rfl); have Ht1 := hidIt ht1; have Hg1 := hidIt hg1; have lg' : Hid (y.heap.size ≤ g) := (by unfold Hid; simp [World.size_put] at lg; omega); clear ht1 hg1 m1 lg he))
    | (go_at_call 176; refine (c176 (b := 8 + s) (HD.out _ M1.out) Ht1.out rfl nt Hg1.out (fun a => by have h9 := hF'.out _ a; have := lg'.out; simp only [World.size_put] at h9; omega) hel.out (by omega) hw).mono ?_; rintro _ w2 ⟨rfl, hD2, ht2, m2⟩; have HD2 := hidIt hD2; have Ht2 := hidIt ht2; have M2 := hidIt m2; clear hD2 ht2 m2))
  go_ret
  refine ⟨rfl, HD2.out.mono (fun k a => a.elim .inl (fun c => .inr (Nat.le_trans M1.out.size c))), Ht2.out, ?_⟩
  refine (M1.out.mono (fun k a => .inr a)).step M2.out ?_
  rintro k (a | a | a)
  · exact .inl (.inl a)
  · exact .inl (.inr a)
  · exact .inr (by rw [World.size_put, a]; exact lg'.out)
end
end Go.Proofs.Qxb6500990aGreat
