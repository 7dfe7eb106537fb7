/- package node: Receive -/
import Derived.Test.Qxb6500990aGreatNo15
set_option linter.unusedVariables false
set_option linter.unusedSimpArgs false
namespace Go.Tw
open Go Go.Proofs Go.Proofs.Qxb6500990aGreat Go.RowKit
theorem AS.advance_el (A : AS) : A.advance.el = A.el := rfl
theorem AS.step_id (A : AS) (m : Msg) : (A.step m).2.el.id = A.el.id := by
  unfold AS.step
  split
  · rfl
  split
  · show (AS.persist { A with el := (A.el.asked m.frm m.term (A.upto m)).2 }).el.id = _
    rw [AS.persist_id]; exact EM.asked_id _ _ _ _
  split
  · have hp : (AS.persist { A with el := (A.el.gotVote m.frm m.term m.ok).2 }).el.id = A.el.id := by rw [AS.persist_id]; exact EM.gotVote_id _ _ _ _
    unfold AS.voteCame
    simp only []
    split
    · exact hp
    · exact hp
  split
  · have hp : (AS.persist { A with el := (A.el.heard m.frm m.term).2 }).el.id = A.el.id := by rw [AS.persist_id]; exact EM.heard_id _ _ _
    unfold AS.entriesCame
    simp only []
    split
    · rw [AS.accept_el]; exact hp
    · exact hp
  split
  · have hp : (AS.persist { A with el := (A.el.heard m.frm m.term).2 }).el.id = A.el.id := by rw [AS.persist_id]; exact EM.heard_id _ _ _
    unfold AS.snapCame
    simp only []
    (repeat' split) <;> exact hp
  · unfold AS.ackCame
    split
    · rw [AS.persist_id]; exact EM.see_id _ _
    · (repeat' split) <;> rfl
section
variable {W W2 w : World} {G : Nat → Prop} {q : NoP} {n : AN} {R : List Reply}
/-- an event that is refused: the answer lies in the cell x -/
theorem RNp.no (h : RNp W G q n R) (e : Int) {x : Nat} {c : Array Value} {y : World} (m : ModP (fun _ => False) W (y.put x c 117)) (hx : W.heap.size ≤ x) : DidRN G W q ⟨e, [], []⟩ n (.returned (.agg (DidR.cells ⟨e, .slice none 0 0, .slice none 0 0⟩))) (y.put x (DidR.cells ⟨e, .slice none 0 0, .slice none 0 0⟩) 117) := by
  have m2 : ModP (fun _ => False) W (y.put x (DidR.cells ⟨e, .slice none 0 0, .slice none 0 0⟩) 117) := (m.unput (.inr hx)).put (.inr hx) _ _
  exact (h.frame m2 (fun _ _ f => f)).did m2 h.wi e
end
end Go.Tw
namespace Go.Proofs.Qxb6500990aGreat
open Go Go.RowKit Go.Tw
attribute [local go_sem] World.cell?_put_same World.cell?_put_ne World.cell?_put_ne' World.frozen?_put_same World.frozen?_put_ne World.frozen?_put_ne' World.setCell_put_same World.setCell_put_ne World.setCell_put_ne' World.inB_put World.inB_alloc World.inB_drew World.inB_drewN World.inB_new World.inB_setCell World.put_drew World.put_drewN World.q_setCell_drew World.q_setCell_drewN World.q_alloc_drew World.q_alloc_drewN World.put_put_same World.put_put_2 World.size_put World.q_cell?_alloc_old World.q_frozen?_alloc_old World.cell?_alloc_new' World.frozen?_alloc_new' World.q_setCell_alloc_old World.q_setCell_alloc_new World.q_put_alloc_old World.cell?_force_same World.frozen?_force_same World.cell?_force2_fst World.cell?_force2_snd NodeR.g0 NodeR.s0 NodeR.g1 NodeR.s1 NodeR.g2 NodeR.s2 NodeR.g3 NodeR.s3 NodeR.g4 NodeR.s4 NodeR.g5 NodeR.s5 NodeR.g6 NodeR.s6 NodeR.g7 NodeR.s7 NodeR.g8 NodeR.s8 NodeR.g9 NodeR.s9 NodeR.g10 NodeR.s10 NodeR.g11 NodeR.s11 NodeR.g12 NodeR.s12 NodeR.g13 NodeR.s13 NodeR.g14 NodeR.s14 NodeR.g15 NodeR.s15 NodeR.g16 NodeR.s16 NodeR.g17 NodeR.s17 NodeR.g18 NodeR.s18 NodeR.g19 NodeR.s19 NodeR.g20 NodeR.s20 NodeR.g21 NodeR.s21 NodeR.g22 NodeR.s22 NodeR.g23 NodeR.s23 NodeR.g24 NodeR.s24 NodeR.g25 NodeR.s25 NodeR.g26 NodeR.s26 NodeR.gi_used_0 NodeR.si_used_0 NodeR.gi_seq_0 NodeR.si_seq_0 NodeR.gi_idx_0 NodeR.si_idx_0 NodeR.gi_reps_0 NodeR.si_reps_0 NodeR.gi_reps_1 NodeR.si_reps_1 NodeR.gi_reps_2 NodeR.si_reps_2 NodeR.gi_reps_3 NodeR.si_reps_3 MsgR.g0 MsgR.s0 MsgR.g1 MsgR.s1 MsgR.g2 MsgR.s2 MsgR.g3 MsgR.s3 MsgR.g4 MsgR.s4 MsgR.g5 MsgR.s5 MsgR.g6 MsgR.s6 MsgR.g7 MsgR.s7 MsgR.g8 MsgR.s8 MsgR.g9 MsgR.s9 DidR.g0 DidR.s0 DidR.g1 DidR.s1 DidR.g2 DidR.s2
attribute [local go_sem] ba_get upd_same upd_upd
set_option maxHeartbeats 4000000
set_option maxRecDepth 100000
section
variable {W w : World} {G X : Nat → Prop} {q : NoP} {n : AN} {R : List Reply}
theorem c88_none (h : RNp W G q n R) (raw : Bs) (hd : decMsg raw = none) : Calls Tryz.prog 88 #[vp q.b, vs raw] W (DidRN G W q ⟨12, [], []⟩ n) := by
  have hx : (W.alloc (.cells zDid.cells 117)).At W.heap.size zDid.cells 117 := World.At_alloc_new
  have m0 : ModP (fun _ => False) W (W.alloc (.cells zDid.cells 117)) := (ModP.refl _ _).alloc _
  obtain ⟨rs, hb, -, -⟩ := h.hb
  unfold RNo at hb
  have lb : q.b < W.heap.size := hb.inB
  have nb : q.b ≠ W.heap.size := by omega
  have op : Hid (∀ w1, ModP (fun _ => False) (W.alloc (.cells zDid.cells 117)) w1 → ∃ y : World, w1 = (y.put q.b (NodeR.cells ⟨vp q.s.b, vp q.bk, n.sy.el.id, n.applied, n.used, n.seq, n.idx, rs, R.length, vp q.bw⟩) 111).put W.heap.size zDid.cells 117 ∧ y.inB q.b ∧ y.inB W.heap.size ∧ ModP (fun _ => False) W w1) := by
    intro w1 m1
    obtain ⟨y, e, i1, i2⟩ := open2 (m1.at (m0.at hb (fun f => f)) (fun f => f)) (m1.at hx (fun f => f)) nb
    exact ⟨y, e, i1, i2, m0.trans m1⟩
  have hD := hidIt (c134 (W.alloc (.cells zDid.cells 117)) raw)
  unfold DecR at hD
  rw [hd] at hD
  have H := hidIt h
  simp only [zMsg, Msg.r, MsgR.cells] at hD
  unfold zDid at *
  clear hx m0 hb h hd
  go_enter Tryz.func88, Tryz.ntmps88
  go_wp2_with (first
    | (go_at_call 134; refine hD.out.mono ?_; rintro _ w1 ⟨m1, rfl⟩; obtain ⟨y, rfl, i1, i2, mm⟩ := op.out _ m1; have MM := hidIt mm; clear m1 mm op))
  refine Ord.region1 [] [0, 1, 2, 3, 4, 5, 6, 7, 8, 9, 10, 11, 12, 13, 14, 15, 16] [17] (by kernel_rfl) (by kernel_rfl) (fun _ _ d _ _ h => by cases d <;> exact h) ?_
  simp only [Ord.pickO, Ord.nth]
  refine wpQuiet_nil ?_
  repeat (go_big_quiet_step (fail))
  refine wpQuiet_nil ?_
  go_wp2_with fail
  refine bodyPost_ret (v := .agg (DidR.cells ⟨12, .slice none 0 0, .slice none 0 0⟩)) ?_ rfl ?_
  · simp [results, Tryz.results88, go_sem, DidR.cells, i1, i2, nb]
  · have m3 := (((MM.out.unput (.inr (Nat.le_refl _))).put (.inr (Nat.le_refl _)) (DidR.cells ⟨12, .slice none 0 0, .slice none 0 0⟩) 117).alloc (.cells (MsgR.cells ⟨0, 0, 0, 0, 0, 0, 0, false, .slice none 0 0, []⟩) 159)).drew
    exact (H.out.frame m3 (fun _ _ f => f)).did m3 H.out.wi 12
theorem c88_bad (h : RNp W G q n R) (raw : Bs) {m : Msg} (hd : decMsg raw = some m) (hno : m.to ≠ n.sy.el.id ∨ m.frm = m.to) : Calls Tryz.prog 88 #[vp q.b, vs raw] W (DidRN G W q ⟨12, [], []⟩ n) := by
  have hx : (W.alloc (.cells zDid.cells 117)).At W.heap.size zDid.cells 117 := World.At_alloc_new
  have m0 : ModP (fun _ => False) W (W.alloc (.cells zDid.cells 117)) := (ModP.refl _ _).alloc _
  obtain ⟨rs, hb, -, -⟩ := h.hb
  unfold RNo at hb
  have lb : q.b < W.heap.size := hb.inB
  have nb : q.b ≠ W.heap.size := by omega
  have op : Hid (∀ w1, ModP (fun _ => False) (W.alloc (.cells zDid.cells 117)) w1 → ∃ y : World, w1 = (y.put q.b (NodeR.cells ⟨vp q.s.b, vp q.bk, n.sy.el.id, n.applied, n.used, n.seq, n.idx, rs, R.length, vp q.bw⟩) 111).put W.heap.size zDid.cells 117 ∧ y.inB q.b ∧ y.inB W.heap.size ∧ ModP (fun _ => False) W w1) := by
    intro w1 m1
    obtain ⟨y, e, i1, i2⟩ := open2 (m1.at (m0.at hb (fun f => f)) (fun f => f)) (m1.at hx (fun f => f)) nb
    exact ⟨y, e, i1, i2, m0.trans m1⟩
  have hD := hidIt (c134 (W.alloc (.cells zDid.cells 117)) raw)
  unfold DecR at hD
  rw [hd] at hD
  have H := hidIt h
  obtain ⟨mk, mf, mt, mtm, mi, ml, mc, mo, me, md⟩ := m
  simp only [Msg.r, MsgR.cells] at hD hno
  unfold zDid at *
  clear hx m0 hb h hd
  by_cases h1 : mt = n.sy.el.id
  · have e2 : mf = mt := hno.resolve_left (fun x => x h1)
    have d1 : (mt != n.sy.el.id) = false := by simpa using h1
    have d2 : (mf == mt) = true := by simpa using e2
    clear hno h1 e2
    go_enter Tryz.func88, Tryz.ntmps88
    go_wp2_with (first
      | (go_at_call 134; refine hD.out.mono ?_; rintro _ w1 ⟨m1, v, rfl, hv⟩; obtain ⟨y, rfl, i1, i2, mm⟩ := op.out _ m1; have MM := hidIt mm; obtain ⟨adv, capv, rfl, -⟩ := hv.form; clear m1 mm op hv))
    refine Ord.region1 [] [0, 1, 2, 3, 4, 5, 6, 7, 8, 9, 10, 11, 12, 13, 14, 15, 16] [17] (by kernel_rfl) (by kernel_rfl) (fun _ _ d _ _ h => by cases d <;> exact h) ?_
    simp only [Ord.pickO, Ord.nth]
    refine wpQuiet_nil ?_
    repeat (go_big_quiet_step (fail))
    refine wpQuiet_nil ?_
    go_wp2_with fail
    refine bodyPost_ret (v := .agg (DidR.cells ⟨12, .slice none 0 0, .slice none 0 0⟩)) ?_ rfl ?_
    · simp [results, Tryz.results88, go_sem, DidR.cells, i1, i2, nb]
    · have m3 := (((MM.out.unput (.inr (Nat.le_refl _))).put (.inr (Nat.le_refl _)) (DidR.cells ⟨12, .slice none 0 0, .slice none 0 0⟩) 117).alloc (.cells (MsgR.cells ⟨mk, mf, mt, mtm, mi, ml, mc, mo, .slice adv me.length capv, md⟩) 159)).drew
      exact (H.out.frame m3 (fun _ _ f => f)).did m3 H.out.wi 12
  · have d1 : (mt != n.sy.el.id) = true := by simpa using h1
    clear hno h1
    go_enter Tryz.func88, Tryz.ntmps88
    go_wp2_with (first
      | (go_at_call 134; refine hD.out.mono ?_; rintro _ w1 ⟨m1, v, rfl, hv⟩; obtain ⟨y, rfl, i1, i2, mm⟩ := op.out _ m1; have MM := hidIt mm; obtain ⟨adv, capv, rfl, -⟩ := hv.form; clear m1 mm op hv))
    refine Ord.region1 [] [0, 1, 2, 3, 4, 5, 6, 7, 8, 9, 10, 11, 12, 13, 14, 15, 16] [17] (by kernel_rfl) (by kernel_rfl) (fun _ _ d _ _ h => by cases d <;> exact h) ?_
    simp only [Ord.pickO, Ord.nth]
    refine wpQuiet_nil ?_
    repeat (go_big_quiet_step (fail))
    refine wpQuiet_nil ?_
    go_wp2_with fail
    refine bodyPost_ret (v := .agg (DidR.cells ⟨12, .slice none 0 0, .slice none 0 0⟩)) ?_ rfl ?_
    · simp [results, Tryz.results88, go_sem, DidR.cells, i1, i2, nb]
    · have m3 := (((MM.out.unput (.inr (Nat.le_refl _))).put (.inr (Nat.le_refl _)) (DidR.cells ⟨12, .slice none 0 0, .slice none 0 0⟩) 117).alloc (.cells (MsgR.cells ⟨mk, mf, mt, mtm, mi, ml, mc, mo, .slice adv me.length capv, md⟩) 159)).drew
      exact (H.out.frame m3 (fun _ _ f => f)).did m3 H.out.wi 12
theorem c88_ok (h : RNp W G q n R) (ok : n.Ok) (hT1 : n.sy.el.T1) (hn : n.sy.lg.hist.length ≤ 420) (raw : Bs) {m : Msg} (hd : decMsg raw = some m) (hto : m.to = n.sy.el.id) (hfr : m.frm ≠ m.to) : Calls Tryz.prog 88 #[vp q.b, vs raw] W (DidRN G W q (AN.after { n with sy := (n.sy.step m).2 } (n.sy.step m).1).1 (AN.after { n with sy := (n.sy.step m).2 } (n.sy.step m).1).2) := by
  have hx : (W.alloc (.cells zDid.cells 117)).At W.heap.size zDid.cells 117 := World.At_alloc_new
  have m0 : ModP (fun _ => False) W (W.alloc (.cells zDid.cells 117)) := (ModP.refl _ _).alloc _
  obtain ⟨rs, hb, -, -⟩ := h.hb
  unfold RNo at hb
  have lb : q.b < W.heap.size := hb.inB
  have nb : q.b ≠ W.heap.size := by omega
  have op : Hid (∀ w1, ModP (fun _ => False) (W.alloc (.cells zDid.cells 117)) w1 → ∃ y : World, w1 = (y.put q.b (NodeR.cells ⟨vp q.s.b, vp q.bk, n.sy.el.id, n.applied, n.used, n.seq, n.idx, rs, R.length, vp q.bw⟩) 111).put W.heap.size zDid.cells 117 ∧ y.inB q.b ∧ y.inB W.heap.size ∧ ModP (fun _ => False) W w1) := by
    intro w1 m1
    obtain ⟨y, e, i1, i2⟩ := open2 (m1.at (m0.at hb (fun f => f)) (fun f => f)) (m1.at hx (fun f => f)) nb
    exact ⟨y, e, i1, i2, m0.trans m1⟩
  have hD := hidIt (c134 (W.alloc (.cells zDid.cells 117)) raw)
  unfold DecR at hD
  rw [hd] at hD
  have hG : ¬ G W.heap.size := fun g => by have := h.wi _ g; omega
  have qs := hidIt (fun (u : World) (mu : ModP (fun _ => False) W u) (v : Value) (hv : EntsAt (W.heap.size + 1) u v m.ents) => (h.frame mu (fun _ _ f => f)).event (A' := (n.sy.step m).2) (ms := (n.sy.step m).1) (AS.step_id _ _) (f := 135) (args := #[vp q.s.b, .agg (m.r v).cells]) (fun G1 bx h1 hsub => c135 (G := G1) (W := u) (X := fun g => v.ownBlock = some g) ⟨G1, bx, h1, fun _ h => .inl h, ModP.refl _ _, fun k hk => ⟨(ownsRow_block hv hk).1, fun g => by have := h.wi _ (hsub _ g); have := (ownsRow_block hv hk).2; omega⟩⟩ ok.sy (by omega) (fun hr => hT1.lead hr) hv (fun g hg => hg)))
  have qa := hidIt (fun (u0 : World) (X : Nat → Prop) (u : World) (vm : Value) (hu : RN G u0 X q { n with sy := (n.sy.step m).2 } R u) (hX : ∀ k, X k → u0.heap.size ≤ k) (hm : MsgsX X u vm (n.sy.step m).1) => c96 hu hX hm (ok.sy.step_msgs m) (AS.step_cnt _ _) (ok.with_sy (ok.sy.step m)) (by have := AS.step_len ok.sy m; show (n.sy.step m).2.lg.hist.length ≤ 470; omega))
  generalize AN.after { n with sy := (n.sy.step m).2 } (n.sy.step m).1 = DN at *
  have fin := hidIt (fun (u0 w : World) (v : Value) (mu : ModP (fun _ => False) W u0) (hc : u0.At W.heap.size zDid.cells 117) (hd : DidRN G u0 q DN.1 DN.2 (.returned v) w) => hd.cell hc hG mu (Nat.le_refl _))
  generalize (n.sy.step m).1 = ms at *
  generalize (n.sy.step m).2 = A1 at *
  obtain ⟨mk, mf, mt, mtm, mi, ml, mc, mo, me, md⟩ := m
  simp only [Msg.r, MsgR.cells] at hD hto hfr qs
  have d1 : (mt != n.sy.el.id) = false := by simpa using hto
  have d2 : (mf == mt) = false := by simpa using hfr
  rw [show (W.alloc (.cells zDid.cells 117)).heap.size = W.heap.size + 1 by simp] at hD
  unfold zDid at *
  clear hx m0 hb h hd ok hT1 hn hto hfr
  go_enter Tryz.func88, Tryz.ntmps88
  go_wp2_with (first
    | (go_at_call 134; refine hD.out.mono ?_; rintro _ w1 ⟨m1, v, rfl, hv⟩; have HV := hidIt hv; obtain ⟨y, rfl, i1, i2, mm⟩ := op.out _ m1; have MM := hidIt mm; obtain ⟨adv, capv, rfl, -⟩ := hv.form; clear m1 mm op hv))
  refine Ord.region1 [] [0, 1, 2, 3, 4, 5, 6, 7, 8, 9, 10, 11, 12, 13, 14, 15, 16] [17] (by kernel_rfl) (by kernel_rfl) (fun _ _ d _ _ h => by cases d <;> exact h) ?_
  simp only [Ord.pickO, Ord.nth]
  refine wpQuiet_nil ?_
  repeat (go_big_quiet_step (fail))
  refine wpQuiet_nil ?_
  go_wp2_with fail
  refine Ord.region1 [] [0, 1, 2, 3, 4] [5, 6] (by kernel_rfl) (by kernel_rfl) (fun _ _ d _ _ h => by cases d <;> exact h) ?_
  simp only [Ord.pickO, Ord.nth]
  refine wpQuiet_nil ?_
  repeat (go_big_quiet_step (fail))
  refine wpQuiet_nil ?_
  have MB := hidIt (((MM.out.alloc (.cells #[vi mk, vi mf, vi mt, vi mtm, vi mi, vi ml, vi mc, .bool mo, .slice adv me.length capv, vs md] 159)).drew).drew)
  have VB := hidIt (ownsRow_drew (ownsRow_drew (ownsRow_alloc HV.out (.cells #[vi mk, vi mf, vi mt, vi mtm, vi mi, vi ml, vi mc, .bool mo, .slice adv me.length capv, vs md] 159))))
  have TB : Hid (((((y.put q.b (NodeR.cells ⟨vp q.s.b, vp q.bk, n.sy.el.id, n.applied, n.used, n.seq, n.idx, rs, R.length, vp q.bw⟩) 111).put W.heap.size (DidR.cells ⟨0, .slice none 0 0, .slice none 0 0⟩) 117).alloc (.cells #[vi mk, vi mf, vi mt, vi mtm, vi mi, vi ml, vi mc, .bool mo, .slice adv me.length capv, vs md] 159)).drew.drew).At W.heap.size (DidR.cells ⟨0, .slice none 0 0, .slice none 0 0⟩) 117) := World.At_drew.2 (World.At_drew.2 (World.At.alloc (World.At_put_same (World.inB_put.2 i2)) _))
  generalize (((y.put q.b (NodeR.cells ⟨vp q.s.b, vp q.bk, n.sy.el.id, n.applied, n.used, n.seq, n.idx, rs, R.length, vp q.bw⟩) 111).put W.heap.size (DidR.cells ⟨0, .slice none 0 0, .slice none 0 0⟩) 117).alloc (.cells #[vi mk, vi mf, vi mt, vi mtm, vi mi, vi ml, vi mc, .bool mo, .slice adv me.length capv, vs md] 159)).drew.drew = wB at *
  clear MM HV hD
  go_wp2_with (first
    | (go_at_call 135; refine (qs.out _ MB.out _ VB.out).mono ?_; rintro _ w1 ⟨v, X, rfl, s1, m1, x1⟩; have Q1 := hidIt (qa.out wB X _ v s1 x1 m1); obtain ⟨adm, capm, rfl, -⟩ := MsgsX.form ⟨X, m1⟩; clear s1 m1 x1)
    | (go_at_call 96; refine Q1.out.mono ?_; rintro r w2 hd; have hr : ∃ v, r = .returned v := (by obtain ⟨vo, vr, X, R, e, -⟩ := hd; exact ⟨_, e⟩); obtain ⟨v, rfl⟩ := hr; obtain ⟨a1, l1, c1, a2, l2, c2, y9, rfl, rfl, iy, hf⟩ := fin.out _ _ _ MB.out TB.out hd; have HF := hidIt hf; clear hd hf; unfold Tw.DidR.cells))
  refine bodyPost_ret (v := .agg (DidR.cells ⟨DN.1.err, .slice a1 l1 c1, .slice a2 l2 c2⟩)) ?_ rfl ?_
  · simp [results, Tryz.results88, go_sem, DidR.cells, iy]
  · exact HF.out
theorem c88 (h : RNp W G q n R) (ok : n.Ok) (hT1 : n.sy.el.T1) (hn : n.sy.lg.hist.length ≤ 420) (raw : Bs) : Calls Tryz.prog 88 #[vp q.b, vs raw] W (DidRN G W q (n.receive raw).1 (n.receive raw).2) := by
  unfold AN.receive
  cases hd : decMsg raw with
  | none => exact c88_none h raw hd
  | some m =>
    simp only []
    by_cases hno : m.to ≠ n.sy.el.id ∨ m.frm = m.to
    · rw [if_pos hno]; exact c88_bad h raw hd hno
    · rw [if_neg hno]
      exact c88_ok h ok hT1 hn raw hd (Decidable.of_not_not (fun x => hno (.inl x))) (fun x => hno (.inr x))
end
end Go.Proofs.Qxb6500990aGreat
