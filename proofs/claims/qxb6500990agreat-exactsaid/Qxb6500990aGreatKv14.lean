/- package kv: Snapshot -/
import Derived.Test.Qxb6500990aGreatKv13
import Derived.Test.Qxb6500990aGreatKv10
import Derived.Test.Qxb6500990aGreatKvm6
set_option linter.unusedVariables false
set_option linter.unusedSimpArgs false
namespace Go.Tw
open Go Go.Proofs Go.Proofs.Qxb6500990aGreat Go.RowKit
structure SnB (W : World) (g4 : Nat) (S : List Nat) (u : World) (v : Value) (l : List Int) : Prop where
  bt : BytesB W.heap.size u v l
  be : Below W.heap.size W u
  sz : W.heap.size ≤ u.heap.size
  a4 : u.At g4 (At4.cells ⟨atF S⟩) 281
section
variable {W u u' : World} {g4 : Nat} {S : List Nat} {v v' : Value} {l l' : List Int}
theorem Below.modP (h : Below W.heap.size W u) (m : ModP (fun _ => False) u u') (hs : W.heap.size ≤ u.heap.size) : Below W.heap.size W u' :=
  ⟨m.os.trans h.os, m.tape.trans h.tape, m.output.trans h.output, Nat.le_trans h.size m.size, fun k hk => (m.block k (by omega) (fun f => f)).trans (h.block k hk)⟩
theorem SnB.mod (h : SnB W g4 S u v l) (m : ModP (fun _ => False) u u') : SnB W g4 S u' v l :=
  ⟨ownsRow_frame h.bt m (fun _ _ f => f), Below.modP h.be m h.sz, Nat.le_trans h.sz m.size, m.at h.a4 (fun f => f)⟩
theorem SnB.app (h : SnB W g4 S u v l) (b : BytesB W.heap.size u' v' l') (e : Below W.heap.size u u') (z : u.heap.size ≤ u'.heap.size) (k : Kp u u') : SnB W g4 S u' v' l' :=
  ⟨b, h.be.trans e, Nat.le_trans h.sz z, k _ _ _ (by decide) h.a4⟩
theorem SnB.at (h : SnB W g4 S u v l) {b : Nat} {c : Array Value} {T : TypeId} (ha : W.At b c T) : u.At b c T := below_at h.be ha ha.inB
end
end Go.Tw
namespace Go.Proofs.Qxb6500990aGreat
open Go Go.RowKit Go.Tw
attribute [local go_sem] World.cell?_put_same World.cell?_put_ne World.cell?_put_ne' World.frozen?_put_same World.frozen?_put_ne World.frozen?_put_ne' World.setCell_put_same World.setCell_put_ne World.setCell_put_ne' World.inB_put World.inB_alloc World.inB_drew World.inB_drewN World.inB_new World.inB_setCell World.put_drew World.put_drewN World.q_setCell_drew World.q_setCell_drewN World.q_alloc_drew World.q_alloc_drewN World.put_put_same World.put_put_2 World.size_put World.q_cell?_alloc_old World.q_frozen?_alloc_old World.cell?_alloc_new' World.frozen?_alloc_new' World.q_setCell_alloc_old World.q_setCell_alloc_new World.q_put_alloc_old World.cell?_force_same World.frozen?_force_same World.cell?_force2_fst World.cell?_force2_snd KvX.g0 KvX.g1 KvX.g2 KvX.g3 KvX.g4 KvX.g5 KvX.g6 KvX.g7 KvX.g8 KvX.g9 KvX.g10 KvX.g11 KvX.g12 KvX.g13 KvX.g14 KvX.g15 KvX.g16 KvX.g17 KvX.g18 KvX.g19 KvX.g20 KvX.g21 KvX.g22 KvX.g23 KvX.g24 KvX.g25 KvX.g26 KvX.g27 KvX.g28 KvX.g29 KvX.g30 KvX.g31 KvX.g32 KvX.g33 KvX.g34 KvX.g35 KvX.g36 KvX.g37 KvX.g38 KvX.g39 KvX.g40 KvX.g41 KvX.g42 KvX.g43 KvX.g44 KvX.g45 KvX.g46 KvX.g47 KvX.g48 KvX.g49 KvX.g50 KvX.g51 KvX.g52 KvX.g53 KvX.g54 KvX.g55 KvX.g56 KvX.g57 KvX.g58 KvX.g59 KvX.g60 KvX.g61 KvX.g62 KvX.g63 KvX.g64 KvX.g65 KvX.g66 KvX.g67 KvX.g68 KvX.g69 KvX.g70 KvX.g71 KvX.g72 KvX.g73 KvX.g74 KvX.g75 KvX.g76 KvX.g77 KvX.g78 KvX.g79 KvX.g80 KvX.g81 KvX.g82 KvX.g83 KvX.gi_cells__0 KvX.gi_cells__1 KvX.gi_cells__2 KvX.gi_cells__3 KvX.gi_cells__4 KvX.gi_cells__5 KvX.gi_cells__6 KvX.gi_cells__7 KvX.gi_ss_0 KvX.gi_ss_1 KvX.gi_ss_2 KvX.gi_ss_3 KvX.gi_ss_4 KvX.gi_ss_5 KvX.gia_cells__1 KvX.gia_cells__2 KvX.gia_cells__3 KvX.gia_cells__4 KvX.gia_cells__5 KvX.gia_cells__6 KvX.gia_cells__7 KvX.gia_ss_1 KvX.gia_ss_2 KvX.gia_ss_3 KvX.gia_ss_4 KvX.gia_ss_5 KvX.pa_cells_ KvX.pa_ss KvX.s64 KvX.s65 Cell.g0 Cell.s0 Cell.g1 Cell.s1 Cell.g2 Cell.s2 Cell.g3 Cell.s3 Cell.g4 Cell.s4 Cell.g5 Cell.s5 Cell.g6 Cell.s6 Cell.g7 Cell.s7 Cell.gi_key_0 Cell.si_key_0 Cell.gi_val_0 Cell.si_val_0 At4.g0 At4.s0 At4.g1 At4.s1 At4.g2 At4.s2 At4.g3 At4.s3 At4.gi_at__0 At4.si_at__0 Ans.g0 Ans.s0 Ans.g1 Ans.s1 Sess.g0 Sess.s0 Sess.g1 Sess.s1 Sess.g2 Sess.s2 Sess.g3 Sess.s3 Sess.g4 Sess.s4 Sess.g5 Sess.s5 Sess.gi_val_0 Sess.si_val_0
attribute [local go_sem] ba_get mk127
set_option maxHeartbeats 4000000
set_option maxRecDepth 100000
theorem c214 {W : World} {b : Nat} {Kx : KvX} {k : AK} (h : W.At b Kx.cells 175) (R : KvRel Kx k) : Calls Tryz.prog 214 #[vp b] W fun r w' => r = .returned (vs k.snap) ∧ ModP (fun _ => False) W w' := by
  obtain ⟨f, l, t, ss⟩ := Kx
  obtain rfl : l = k.ps.length := R.t.lv
  have hlt : b < W.heap.size := h.inB
  have Hh := hidIt h
  have hc := h.cell
  have ib := h.inB
  have n4 : k.ps.length ≤ 4 := R.ok.n4
  have n4' : (k.ps.length : Int) ≤ 4 := by omega
  have Ok := hidIt R.ok
  have RR := hidIt R
  have q258 := hidIt (fun (u : World) (hu : u.At b (KvX.cells ⟨f, k.ps.length, t, ss⟩) 175) => c258 hu R.t.tab n4)
  clear h R
  go_enter Tryz.func214, Tryz.ntmps214
  go_wp2_with (first
    | (at_builtin; refine wp_appK (B := W.heap.size) (l := []) (v := .slice (some ⟨W.heap.size, 0, none⟩) 0 128) rfl _ _ rfl [(k.ps.length : Int)] rfl rfl (at_new (by simp)) rfl ((BytesB.made (c := zb 128) (at_new (by simp)) (Nat.le_refl _) (zb_size _) (by unfold maxLen; omega)).alloc _) (by first | omega | (simp; done) | (simp; omega)) (Nat.zero_lt_succ _) (by simp) ?_; intro v1 w1 g1 g2 g3 g4; have B1 := hidIt g1; have L1 := hidIt (((((Below.refl _ _).alloc (Nat.le_refl _) _).alloc (by first | omega | (simp; done) | (simp; omega)) _)).trans g2); have Z1 := hidIt (show W.heap.size ≤ w1.heap.size by simp at g3; omega); have HA1 := hidIt (below_at L1.out Hh.out hlt); have ib1 := HA1.out.inB; clear g1 g2 g3 g4 hc)
    | (go_at_call 258; refine (q258.out _ HA1.out).mono ?_; rintro _ w2 ⟨S, rfl, s1, m1⟩; have S1 := hidIt s1; have M1 := hidIt m1; clear s1 m1; unfold Tw.At4.cells))
  have hsn : Hid (SnB W w2.heap.size S (w2.alloc (.cells (At4.cells ⟨atF S⟩) 281)) v1 [(k.ps.length : Int)]) := by
    have m2 : ModP (fun _ => False) w1 (w2.alloc (.cells (At4.cells ⟨atF S⟩) 281)) := (M1.out.alloc _)
    exact ⟨ownsRow_frame B1.out m2 (fun _ _ f => f), Below.modP L1.out m2 Z1.out, Nat.le_trans Z1.out m2.size, World.At_alloc_new⟩
  generalize w2.heap.size = g4 at *
  clear B1 L1 HA1 M1 ib1
  go_loopw [3, 5] (fun v i u => ∃ j : Nat, j ≤ k.ps.length ∧ i = vi j ∧ Hid (SnB W g4 S u v ((k.ps.length : Int) :: (k.ps.take j).flatMap pairB))) (fun _ i _ => k.ps.length - (intOf i).toNat)
  case atStart => exact ⟨0, Nat.zero_le _, rfl, hsn⟩
  case round =>
    clear hsn
    obtain ⟨j, hj, rfl, H1⟩ := hrel
    have HB := hidIt (H1.out.at Hh.out)
    have hcu := HB.out.cell
    have ibu := HB.out.inB
    by_cases hjn : j < k.ps.length
    · have j4 : j < 4 := by omega
      have j5 : (j : Int) < 4 := by omega
      obtain ⟨q1, q2, q3⟩ := Ok.out.key_len hjn
      have hl := hidIt (AK.pairs_len k Ok.out j hj)
      have hstep := hidIt (AK.pairs_succ k hjn)
      obtain ⟨g1, g2, g3⟩ := (S1.out.get RR.out.t.tab RR.out.ok.asc).2 j hjn
      have kl := RR.out.t.tab.kl _ g1 g2
      simp only [] at kl
      have ek : keyS (f (S.getD j 0)) = k.key j := by have := congrArg (·.1) g3; exact this
      have ev : valS (f (S.getD j 0)) = k.val j := by have := congrArg (·.2) g3; exact this
      have q259 := hidIt (fun (u : World) => c259 u (f (S.getD j 0)) (by omega) (by omega))
      have q261 := hidIt (fun (u : World) => c261 u (f (S.getD j 0)) (by omega) (by omega))
      rw [ek] at q259
      rw [ev] at q261
      have hat : atF S j = ((S.getD j 0 : Nat) : Int) := rfl
      generalize S.getD j 0 = i' at *
      have i8 : i' < 8 := g1
      have i9 : (i' : Int) < 8 := by omega
      have Q := hidIt (And.intro q2 q3)
      have ha4 := H1.out.a4.cell
      have ib4 := H1.out.a4.inB
      have nb4 : b ≠ g4 := At.neT HB.out H1.out.a4 (by decide)
      clear kl g2 g3 ek ev q1 q2 q3 g1
      go_wp2_with fail
      refine Ord.region2f (fun w' => ∃ u : World, w' = u.force2 b (KvX.cells ⟨f, k.ps.length, t, ss⟩) 175 g4 (At4.cells ⟨atF S⟩) 281) [0, 1, 2, 3, 4, 5, 6, 7, 8] [] [[(9, true), (10, false)]] (by kernel_rfl) (by kernel_rfl) (fun _ _ d _ _ h => by cases d <;> exact h) ?ca7_1 ?_
      rotate_left
      simp only [Ord.pickO, Ord.nth]
      repeat (go_big_quiet_step (fail))
      refine wpQuiet_nil ?_
      refine wpQuiet_nil ?_
      intro T hT
      simp only [List.mem_cons, List.not_mem_nil, or_false] at hT
      subst hT
      rotate_left
      · exact ca_of2 (World.At_drew.2 HB.out) (World.At_drew.2 H1.out.a4)
      refine Ord.wpT_loose rfl ?_
      intro K hK
      dsimp only [Ord.nth]
      go_wp2_with fail
      refine hK _ _ (ca_of2 (World.At_drew.2 (World.At.alloc HB.out _)) (World.At_drew.2 (World.At.alloc H1.out.a4 _))) ?_
      clear hK K
      refine Ord.wpT_next rfl ?_
      intro K hK
      dsimp only [Ord.nth]
      go_wp2_with fail
      refine Ord.wpT_nil ?_
      have H2 : Hid (SnB W g4 S (wr.alloc (.cells (f i').cells 167)).drew u3 ((k.ps.length : Int) :: (k.ps.take j).flatMap pairB)) := H1.out.mod (ModP.drew (ModP.alloc (ModP.refl _ _) _))
      have A2 : Hid ((wr.alloc (.cells (f i').cells 167)).drew.At wr.heap.size (f i').cells 167) := World.At_drew.2 World.At_alloc_new
      simp only [Cell.cells] at q259 q261
      clear H1 hcu ibu ha4 ib4
      go_wp2_with (first
        | (go_at_call 259; refine (q259.out _).mono ?_; rintro _ w3 ⟨rfl, m3⟩; have H3 := hidIt (H2.out.mod m3); have A3 := hidIt (m3.at A2.out (fun f => f)); have q260 := hidIt (c260 H3.out.bt H3.out.sz (by have := hl.out; simp only [List.length_cons]; omega) (k.key j) (by have := Q.out; omega)); clear m3 H2 A2)
        | (go_at_call 260; refine q260.out.mono ?_; rintro _ w4 ⟨v4, rfl, b4, e4, z4, k4⟩; have H4 := hidIt (H3.out.app b4 e4 z4 k4); have A4 := hidIt (k4 _ _ _ (by decide) A3.out); have hc4 := A4.out.cell; have ib4 := A4.out.inB; clear b4 e4 z4 k4 q260 H3 A3)
        | (go_at_call 261; refine (q261.out _).mono ?_; rintro _ w5 ⟨rfl, m5⟩; have H5 := hidIt (H4.out.mod m5); have q260b := hidIt (c260 H5.out.bt H5.out.sz (by have := hl.out; have := Q.out; simp only [List.length_append, List.length_cons, bi_length]; omega) (k.val j) (by have := Q.out; omega)); clear m5 hc4 ib4 H4 A4)
        | (go_at_call 260; refine q260b.out.mono ?_; rintro _ w6 ⟨v6, rfl, b6, e6, z6, k6⟩; have H6 := hidIt (H5.out.app b6 e6 z6 k6); clear b6 e6 z6 k6 q260b H5))
      go_roundw
      case rel => exact ⟨j + 1, by omega, by go_num, by have := H6.out; unfold Hid; rw [hstep.out]; simpa [strB, List.append_assoc] using this⟩
      case measure => simp [intOf]; omega
    · have e9 : Hid (j = k.ps.length) := by unfold Hid; omega
      have d9 : decide (j < k.ps.length) = false := by simp; omega
      have H2 : Hid (SnB W g4 S wr u3 ((k.ps.length : Int) :: k.ps.flatMap pairB)) := by
        have := H1.out
        rw [e9.out, List.take_length] at this
        exact this
      clear hjn H1
      go_wp2_with fail
      have hP := hidIt (by have := AK.pairs_len k Ok.out k.ps.length (Nat.le_refl _); rwa [List.take_length] at this : (k.ps.flatMap pairB).length ≤ 7 * k.ps.length)
      have hsn := hidIt (show k.snap = Tw.ib ((k.ps.length : Int) :: k.ps.flatMap pairB ++ k.sessN 3) from rfl)
      generalize k.ps.flatMap pairB = P at *
      go_loopw [3, 9] (fun v i u => ∃ j : Nat, j ≤ 3 ∧ i = vi j ∧ Hid (SnB W g4 S u v (((k.ps.length : Int) :: P) ++ k.sessN j))) (fun _ i _ => 3 - (intOf i).toNat)
      case atStart => exact ⟨0, by omega, rfl, by simpa [AK.sessN] using H2⟩
      case round =>
        clear H2 hcu ibu d9
        obtain ⟨c, hc3, rfl, H1⟩ := hrel
        have HB := hidIt (H1.out.at Hh.out)
        have hcu := HB.out.cell
        have ibu := HB.out.inB
        by_cases hjn : c < 3
        · have c5 : (c : Int) < 3 := by omega
          have hl := AK.sess_len k Ok.out c
          have hl0 : Hid ((((k.ps.length : Int) :: P) ++ k.sessN c).length ≤ 100) := by have := hP.out; unfold Hid; simp only [List.length_append, List.length_cons]; omega
          have hss := RR.out.s c hjn
          simp only [] at hss
          have q0 := Ok.out.s0 c
          have q1 := Ok.out.s1 c
          have q2 := Ok.out.e0 c
          have q3 := Ok.out.e1 c
          have q4 := Ok.out.a3 c
          have q262 := hidIt (fun u => c262 u (k.seq c) (k.ans c) q4)
          have e1 : (ss c).seq = k.seq c := by rw [hss]; rfl
          rw [← hss] at q262
          simp only [Sess.cells, Ans.cells] at q262
          rw [e1] at q262
          have Q := hidIt q4
          have Q0 := hidIt (And.intro q0 q1)
          clear hl q4 hss q1
          go_wp2_with (first
            | (go_at_call 262; refine (q262.out _).mono ?_; rintro _ w3 ⟨rfl, m3⟩; have H3 := hidIt ((H1.out.mod m3).mod ((ModP.refl (fun _ => False) w3).alloc (.cells (k.ans c).cells 75))); have A3 : Hid ((w3.alloc (.cells (k.ans c).cells 75)).At w3.heap.size (k.ans c).cells 75) := World.At_alloc_new; have hb3 := hidIt (H3.out.at Hh.out); have hcb := hb3.out.cell; have ibb := hb3.out.inB; have q140 := hidIt (k140 H3.out.bt H3.out.sz (by have := hl0.out; omega) Q0.out.1 Q0.out.2); simp only [Ans.cells] at hcb ibb q140; clear m3 hcu ibu)
            | (go_at_call 140; refine q140.out.mono ?_; rintro _ w4 ⟨v4, rfl, b4, e4, z4, k4⟩; have H4 := hidIt (H3.out.app b4 e4 z4 k4); have A4 := hidIt (k4 _ _ _ (by decide) A3.out); have hc4 := A4.out.cell; have ib4 := A4.out.inB; clear b4 e4 z4 k4 q140 H3 A3 hcb ibb)
            | (at_builtin; refine wp_appK (B := W.heap.size) (l := (((k.ps.length : Int) :: P) ++ k.sessN c) ++ be8 (k.seq c)) rfl _ _ rfl [((k.ans c).err : Int)] rfl rfl (at_new rfl) rfl (H4.out.bt.alloc _) (by have := H4.out.sz; simp; omega) (Nat.zero_lt_succ _) (by have := hl0.out; simp only [List.length_append, List.length_cons, List.length_nil, be8_len] at this ⊢; omega) ?_; intro v5 w5 b5 l5 z5 k5; have H5 := hidIt ((H4.out.mod ((ModP.refl (fun _ => False) _).alloc _)).app b5 l5 z5 k5); have A5 := hidIt (k5 _ _ _ (by decide) (World.At.alloc A4.out _)); have hc5 := A5.out.cell; have ib5 := A5.out.inB; have q260 := hidIt (c260 H5.out.bt H5.out.sz (by have := hl0.out; simp only [List.length_append, List.length_cons, List.length_nil, be8_len] at this ⊢; omega) (k.ans c).val (by have := Q.out; omega)); clear b5 l5 z5 k5 hc4 ib4 H4 A4)
            | (go_at_call 260; refine q260.out.mono ?_; rintro _ w6 ⟨v6, rfl, b6, e6, z6, k6⟩; have H6 := hidIt (H5.out.app b6 e6 z6 k6); clear b6 e6 z6 k6 q260 H5 A5 hc5 ib5))
          go_roundw
          case rel => exact ⟨c + 1, by omega, by go_num, by have := H6.out; unfold Hid; simpa [AK.sessN, AK.sessB, strB, List.append_assoc] using this⟩
          case measure => simp [intOf]; omega
        · have e3 : Hid (c = 3) := by unfold Hid; omega
          have d3 : decide ((c : Int) < 3) = false := by simp; omega
          clear hjn
          go_wp2_with (refine wp_strB rfl _ rfl rfl H1.out.bt ?_)
          go_ret
          refine ⟨by rw [hsn.out, ← e3.out]; simp, ?_⟩
          have hm5 := H1.out.be
          exact ⟨hm5.os, hm5.tape, hm5.output, hm5.size, fun k hk _ => hm5.block k hk⟩
end Go.Proofs.Qxb6500990aGreat
