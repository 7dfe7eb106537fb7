/- package node: after -/
import Derived.Test.Qxb6500990aGreatNo13
set_option linter.unusedVariables false
set_option linter.unusedSimpArgs false
namespace Go.Tw
open Go Go.Proofs Go.Proofs.Qxb6500990aGreat Go.RowKit
/-- what an event of the real node gives -/
def DidRN (G : Nat → Prop) (W : World) (q : NoP) (D : Did) (n : AN) (r : Ending) (w : World) : Prop :=
  ∃ vo vr X R, r = .returned (.agg (DidR.cells ⟨D.err, vo, vr⟩)) ∧ RN G W X q n R w ∧ DRow W.heap.size X w 72 vo D.outs.length (outsC D.outs) ∧ DRow W.heap.size X w 77 vr D.reps.length (repsC D.reps)
theorem AN.applyN_cnt : ∀ (k : Nat) (n : AN), (AN.applyN k n).1.cnt + (AN.applyN k n).2.length = n.cnt
  | 0, n => rfl
  | k + 1, n => by
    have h1 := AN.applyN_cnt k n.apply1.1
    have h2 := n.apply1_cnt
    simp only [AN.applyN, List.length_append]
    omega
theorem AN.applyN_sy : ∀ (k : Nat) (n : AN), (AN.applyN k n).1.sy = n.sy
  | 0, n => rfl
  | k + 1, n => by simp only [AN.applyN]; rw [AN.applyN_sy k, n.apply1_sy.1]
theorem AN.compact_sy (n : AN) : n.compact.sy.el = n.sy.el ∧ n.compact.sy.commit = n.sy.commit := by
  unfold AN.compact; split
  · exact ⟨AS.compact_el _ _ _, AS.compact_commit _ _ _⟩
  · exact ⟨rfl, rfl⟩
end Go.Tw
namespace Go.Proofs.Qxb6500990aGreat
open Go Go.RowKit Go.Tw
attribute [local go_sem] World.cell?_put_same World.cell?_put_ne World.cell?_put_ne' World.frozen?_put_same World.frozen?_put_ne World.frozen?_put_ne' World.setCell_put_same World.setCell_put_ne World.setCell_put_ne' World.inB_put World.inB_alloc World.inB_drew World.inB_drewN World.inB_new World.inB_setCell World.put_drew World.put_drewN World.q_setCell_drew World.q_setCell_drewN World.q_alloc_drew World.q_alloc_drewN World.put_put_same World.put_put_2 World.size_put World.q_cell?_alloc_old World.q_frozen?_alloc_old World.cell?_alloc_new' World.frozen?_alloc_new' World.q_setCell_alloc_old World.q_setCell_alloc_new World.q_put_alloc_old World.cell?_force_same World.frozen?_force_same World.cell?_force2_fst World.cell?_force2_snd NodeR.g0 NodeR.s0 NodeR.g1 NodeR.s1 NodeR.g2 NodeR.s2 NodeR.g3 NodeR.s3 NodeR.g4 NodeR.s4 NodeR.g5 NodeR.s5 NodeR.g6 NodeR.s6 NodeR.g7 NodeR.s7 NodeR.g8 NodeR.s8 NodeR.g9 NodeR.s9 NodeR.g10 NodeR.s10 NodeR.g11 NodeR.s11 NodeR.g12 NodeR.s12 NodeR.g13 NodeR.s13 NodeR.g14 NodeR.s14 NodeR.g15 NodeR.s15 NodeR.g16 NodeR.s16 NodeR.g17 NodeR.s17 NodeR.g18 NodeR.s18 NodeR.g19 NodeR.s19 NodeR.g20 NodeR.s20 NodeR.g21 NodeR.s21 NodeR.g22 NodeR.s22 NodeR.g23 NodeR.s23 NodeR.g24 NodeR.s24 NodeR.g25 NodeR.s25 NodeR.g26 NodeR.s26 NodeR.gi_used_0 NodeR.si_used_0 NodeR.gi_seq_0 NodeR.si_seq_0 NodeR.gi_idx_0 NodeR.si_idx_0 NodeR.gi_reps_0 NodeR.si_reps_0 NodeR.gi_reps_1 NodeR.si_reps_1 NodeR.gi_reps_2 NodeR.si_reps_2 NodeR.gi_reps_3 NodeR.si_reps_3 SyncV.g0 SyncV.s0 SyncV.g1 SyncV.s1 SyncV.g2 SyncV.s2 SyncV.g3 SyncV.s3 SyncV.g4 SyncV.s4 SyncV.g5 SyncV.s5 SyncV.g6 SyncV.s6 SyncV.g7 SyncV.s7 SyncV.g8 SyncV.s8 SyncV.g9 SyncV.s9 SyncV.g10 SyncV.s10 SyncV.g11 SyncV.s11 SyncV.g12 SyncV.s12 SyncV.g13 SyncV.s13 SyncV.g14 SyncV.s14 SyncV.g15 SyncV.s15 SyncV.g16 SyncV.s16 SyncV.g17 SyncV.s17 SyncV.g18 SyncV.s18 SyncV.g19 SyncV.s19 SyncV.gi_got_0 SyncV.si_got_0 SyncV.gi_next_0 SyncV.si_next_0 SyncV.gi_mtch_0 SyncV.si_mtch_0 DidR.g0 DidR.s0 DidR.g1 DidR.s1 DidR.g2 DidR.s2
attribute [local go_sem] ba_get upd_same upd_upd
set_option maxHeartbeats 4000000
set_option maxRecDepth 100000
section
variable {W w : World} {G X : Nat → Prop} {q : NoP} {n : AN} {R : List Reply} {vm : Value} {ms : List Msg}
theorem c96 (h : RN G W X q n R w) (hX : ∀ k, X k → W.heap.size ≤ k) (hm : MsgsX X w vm ms) (hmo : ∀ m ∈ ms, MsgOk m) (h3 : ms.length ≤ 3) (ok : n.Ok) (hn : n.sy.lg.hist.length ≤ 470) : Calls Tryz.prog 96 #[vp q.b, vm] w (DidRN G W q (n.after ms).1 (n.after ms).2) := by
  have m0 : ModP (fun _ => False) w (w.alloc (.cells zDid.cells 117)) := (ModP.refl _ _).alloc _
  have hs0 := h.mod.size
  have S0 : Hid (RN G W (fun k => X k ∨ k = w.heap.size) q n R (w.alloc (.cells zDid.cells 117))) := h.aside2 (Z := fun _ => False) m0 (fun _ f => f.elim) (fun _ f => f.elim) (fun k hk => hk.imp id (fun e => by subst e; simp))
  have HX0 : Hid (∀ k, (X k ∨ k = w.heap.size) → W.heap.size ≤ k) := fun k hk => hk.elim (hX k) (fun e => by omega)
  have HM0 : Hid (MsgsX (fun k => X k ∨ k = w.heap.size) (w.alloc (.cells zDid.cells 117)) vm ms) := hm.step m0 (fun _ _ f => f) (fun _ h => .inl h)
  have HT0 : Hid ((w.alloc (.cells zDid.cells 117)).At w.heap.size zDid.cells 117) := World.At_alloc_new
  obtain ⟨ad, cap, rfl, -⟩ := MsgsX.form ⟨X, hm⟩
  generalize hX1 : (fun k => X k ∨ k = w.heap.size) = X1 at *
  have HX4 : Hid (X1 w.heap.size) := by rw [← hX1]; exact .inr rfl
  have HX1 : Hid (∀ k, X1 k → W.heap.size ≤ k) := by rw [← hX1]; exact HX0.out
  obtain ⟨y, rs, ey, iy, hrs, hr3, HD⟩ := S0.out.door
  obtain ⟨s1, m1⟩ := HD.out n.applied n.used n.seq n.idx rs [] (fun i h => by simp at h) (by simp)
  have hE : n.after ms = (⟨0, ms.map outM, n.catchUp.compact.apply.2 ++ (AN.giveN 3 0 n.catchUp.compact.apply.1).2⟩, (AN.giveN 3 0 n.catchUp.compact.apply.1).1) := rfl
  have HE := hidIt hE
  have q71 := hidIt (fun (u : World) (hu : RN G W X1 q n [] u) => c71 hu ok.sy.el ok.sy.lg.sn)
  have okc := ok.catchUp
  have okk := okc.compact
  have oka := okk.apply
  have hsc : n.catchUp.sy = n.sy := AN.catchUp_sy n
  have hcm : n.catchUp.compact.sy.commit = n.sy.commit := by rw [(AN.compact_sy _).2, hsc]
  have hel : n.catchUp.compact.apply.1.sy.el = n.sy.el := by unfold AN.apply; rw [AN.applyN_sy, (AN.compact_sy _).1, hsc]
  have q40 := hidIt (fun (u : World) (hu : RN G W X1 q n.catchUp [] u) => by obtain ⟨G1, g1⟩ := hu.rs; exact c40 g1 okc.sy.el)
  have q143 := hidIt (fun (Y : Nat → Prop) (u : World) (hu : RN G W Y q n.catchUp [] u) => c143 hu okc (by rw [hsc]; omega))
  have q144 := hidIt (fun (Y : Nat → Prop) (hY : ∀ k, Y k → W.heap.size ≤ k) (u : World) (hu : RN G W Y q n.catchUp.compact [] u) => c144 hu hY okk (by have := AN.cnt_le n.catchUp.compact; simpa using this))
  have q145 := hidIt (fun (Y : Nat → Prop) (u : World) (hu : RN G W Y q n.catchUp.compact.apply.1 ([] ++ n.catchUp.compact.apply.2) u) => c145 hu (by have := AN.applyN_cnt (n.catchUp.compact.sy.commit - n.catchUp.compact.applied).toNat n.catchUp.compact; have := AN.cnt_le n.catchUp.compact; unfold AN.apply; simp only [List.nil_append]; omega))
  rw [hcm] at q144
  rw [hel] at q145
  unfold AS.view at q40
  rw [hsc] at q40 q143
  have q146 : Hid (∀ (Y : Nat → Prop) (u : World), RN G W Y q (AN.giveN 3 0 n.catchUp.compact.apply.1).1 (([] ++ n.catchUp.compact.apply.2) ++ (AN.giveN 3 0 n.catchUp.compact.apply.1).2) u → MsgsX Y u (.slice ad ms.length cap) ms → Calls Tryz.prog 146 #[vp q.b, .slice ad ms.length cap] u fun r w' => ∃ vo vr X', r = .returned (.agg (DidR.cells ⟨0, vo, vr⟩)) ∧ RN G W (fun k => X' k ∨ Y k) q (n.after ms).2 (n.after ms).1.reps w' ∧ DRow W.heap.size X' w' 72 vo ms.length (outsC (ms.map outM)) ∧ DRow W.heap.size X' w' 77 vr (n.after ms).1.reps.length (repsC (n.after ms).1.reps) ∧ (∀ x c T, Y x → u.At x c T → w'.At x c T)) := by
    intro Y u hu hmu
    obtain ⟨G1, k1, k2, k3, k4⟩ := hu
    have hb : RN G1 u Y q (AN.giveN 3 0 n.catchUp.compact.apply.1).1 (([] ++ n.catchUp.compact.apply.2) ++ (AN.giveN 3 0 n.catchUp.compact.apply.1).2) u := RN.start k1 k4
    refine (c146 hb hmu hmo h3).mono ?_
    rintro r w' ⟨vo, vr, X', hr, f1, f2, f3⟩
    have hsz := k3.size
    refine ⟨vo, vr, X', hr, f1.lift k2 k3 k4, ?_, ?_, fun x c T hx ha => f1.mod.at ha (k4 x hx).2⟩
    · rcases f2 with a | ⟨a, g, b, c, d, e⟩
      · exact .inl a
      · exact .inr ⟨a, g, b, c, d, by omega⟩
    · rcases f3 with a | ⟨a, g, b, c, d, e⟩
      · exact .inl a
      · exact .inr ⟨a, g, b, c, d, by omega⟩
  have S1' := hidIt s1
  have M1' : Hid (ModP (fun k => ¬ X1 k) (w.alloc (.cells zDid.cells 117)) (y.put q.b (NodeR.cells ⟨vp q.s.b, vp q.bk, n.sy.el.id, n.applied, n.used, n.seq, n.idx, rs, 0, vp q.bw⟩) 111)) := m1
  have EY : Hid (w.alloc (.cells #[.int .i64 0, .slice none 0 0, .slice none 0 0] 117) = y.put q.b (NodeR.cells ⟨vp q.s.b, vp q.bk, n.sy.el.id, n.applied, n.used, n.seq, n.idx, rs, R.length, vp q.bw⟩) 111) := ey
  clear h hX hm hmo s1 m1 ey hrs hr3 HD m0 hE okc okk oka ok hn S0
  go_enter Tryz.func96, Tryz.ntmps96
  go_upto_region 1 with fail
  rw [EY.out]
  go_wp2_with (first
    | (go_at_call 71; refine (q71.out _ S1'.out).mono ?_; rintro _ w1 ⟨rfl, s1, m1⟩; have S1 := hidIt s1; have mm := M1'.out.trans m1; have HT1 := hidIt (mm.at HT0.out (fun f => f HX4.out)); have HM1 := hidIt (HM0.out.step mm (fun k hk f => f hk) (fun _ h => h)); obtain ⟨rs1, hb1, -, -⟩ := s1.hb; unfold RNo at hb1; have hc1 := hb1.cell; have ib1 := hb1.inB; clear s1 m1 mm hb1)
    | (go_at_call 40; refine (q40.out _ S1.out).mono ?_; rintro _ w2 ⟨bv, rfl, lv, hv, m2⟩; have lw := S1.out.mod.size; have S2 : Hid (RN G W (fun k => X1 k ∨ k = bv) q n.catchUp [] w2) := S1.out.aside2 (Z := fun _ => False) m2 (fun _ f => f.elim) (fun _ f => f.elim) (fun k hk => hk.imp id (fun e => by subst e; exact ⟨lv, hv.inB⟩)); have HX2 : Hid (∀ k, (X1 k ∨ k = bv) → W.heap.size ≤ k) := fun k hk => hk.elim (HX1.out k) (fun e => by omega); have HT2 := hidIt (m2.at HT1.out (fun f => f)); have HM2 : Hid (MsgsX (fun k => X1 k ∨ k = bv) w2 (.slice ad ms.length cap) ms) := HM1.out.step m2 (fun _ _ f => f) (fun _ h => .inl h); have HV2 := hidIt hv; have hcv := hv.cell; have icv := hv.inB; obtain ⟨rs2, hb2, -, -⟩ := S2.out.hb; unfold RNo at hb2; have hc2 := hb2.cell; have ib2 := hb2.inB; clear hv m2 hc1 ib1 lv hb2))
  refine Ord.region1 [] [0, 1, 2, 3, 4, 5, 6, 7, 8] [9] (by kernel_rfl) (by kernel_rfl) (fun _ _ d _ _ h => by cases d <;> exact h) ?_
  simp only [Ord.pickO, Ord.nth]
  refine wpQuiet_nil ?_
  repeat (go_big_quiet_step (fail))
  refine wpQuiet_nil ?_
  go_wp2_with (first
    | (go_at_call 143; refine (q143.out _ _ (S2.out.fr ((ModP.refl _ _).drew))).mono ?_; rintro _ w3 ⟨rfl, s3, m3⟩; have mm := m3.undrew; have S3 := hidIt s3; have HT3 := hidIt (mm.at HT2.out (fun f => f (.inl HX4.out))); have HM3 := hidIt (HM2.out.step mm (fun k hk f => f hk) (fun _ h => h)); have HV3 := hidIt (mm.at HV2.out (fun f => f (.inr rfl))); have hcv3 := HV3.out.cell; have icv3 := HV3.out.inB; clear s3 m3 mm hcv icv hc2 ib2)
    | (go_at_call 144; refine (q144.out _ HX2.out _ S3.out).mono ?_; rintro _ w4 ⟨rfl, s4, m4⟩; have S4 := hidIt s4; have HT4 := hidIt (m4.at HT3.out (fun f => f (.inl HX4.out))); have HM4 := hidIt (HM3.out.step m4 (fun k hk f => f hk) (fun _ h => h)); have HV4 := hidIt (m4.at HV3.out (fun f => f (.inr rfl))); have hcv4 := HV4.out.cell; have icv4 := HV4.out.inB; clear s4 m4 hcv3 icv3)
    | (go_at_call 145; refine (q145.out _ _ S4.out).mono ?_; rintro _ w5 ⟨rfl, s5, m5⟩; have S5 := hidIt s5; have HT5 := hidIt (m5.at HT4.out (fun f => f (.inl HX4.out))); have HM5 := hidIt (HM4.out.step m5 (fun k hk f => f hk) (fun _ h => h)); clear s5 m5 hcv4 icv4)
    | (go_at_call 146; refine (q146.out _ _ S5.out HM5.out).mono ?_; rintro _ w6 ⟨vo, vr, X', rfl, s6, r1, r2, k6⟩; have S6 := hidIt s6; have R1 := hidIt r1; have R2 := hidIt r2; have hat6 := k6 _ _ _ (.inl HX4.out) HT5.out; obtain ⟨y6, e6, i6⟩ := hat6.door; have fvo : ∃ a l c, vo = .slice a l c := (by rcases r1 with ⟨-, h⟩ | ⟨-, g, h, -⟩; exact ⟨_, _, _, h⟩; exact ⟨_, _, _, h⟩); have fvr : ∃ a l c, vr = .slice a l c := (by rcases r2 with ⟨-, h⟩ | ⟨-, g, h, -⟩; exact ⟨_, _, _, h⟩; exact ⟨_, _, _, h⟩); obtain ⟨ao, lo, co, rfl⟩ := fvo; obtain ⟨ar, lr, cr, rfl⟩ := fvr; unfold Tw.DidR.cells; subst e6; unfold zDid; clear s6 r1 r2 k6 hat6))
  refine bodyPost_ret (v := .agg (DidR.cells ⟨0, .slice ao lo co, .slice ar lr cr⟩)) ?_ rfl ?_
  · simp [results, Tryz.results96, go_sem, DidR.cells, i6]
  · have m9 : ModP (fun k => k = w.heap.size) (y6.put w.heap.size (DidR.cells ⟨0, .slice none 0 0, .slice none 0 0⟩) 117) (y6.put w.heap.size (DidR.cells ⟨0, .slice ao lo co, .slice ar lr cr⟩) 117) := ModP.fromPut (ModP.put (F := fun k => k = w.heap.size) (ModP.refl _ _) (.inl rfl) _ _) rfl
    have h9 : (y6.put w.heap.size (DidR.cells ⟨0, .slice none 0 0, .slice none 0 0⟩) 117).At w.heap.size (DidR.cells ⟨0, .slice none 0 0, .slice none 0 0⟩) 117 := World.At_put_same i6
    have he : (n.after ms).1.err = 0 := rfl
    have ho : (n.after ms).1.outs = ms.map outM := rfl
    refine ⟨.slice ao lo co, .slice ar lr cr, X', (n.after ms).1.reps, by rw [he], S6.out.aside2 m9 (fun k e => .inr (.inl (e ▸ HX4.out))) (fun k e => HX1.out k (e ▸ HX4.out)) (fun k hk => .inl (.inl hk)), ?_, ?_⟩
    · rw [ho, List.length_map]
      rcases R1.out with a | ⟨a, g, b, c, d, e⟩
      · exact .inl a
      · exact .inr ⟨a, g, b, m9.at c (At.neT c h9 (by decide)), d, e⟩
    · rcases R2.out with a | ⟨a, g, b, c, d, e⟩
      · exact .inl a
      · exact .inr ⟨a, g, b, m9.at c (At.neT c h9 (by decide)), d, e⟩
end
end Go.Proofs.Qxb6500990aGreat
