/- package node: Tick, Receive -/
import Derived.Test.Qxb6500990aGreatNo14
set_option linter.unusedVariables false
set_option linter.unusedSimpArgs false
namespace Go.Tw
open Go Go.Proofs Go.Proofs.Qxb6500990aGreat Go.RowKit
section
variable {W w w1 W0 : World} {G X : Nat → Prop} {q : NoP} {n : AN} {R : List Reply} {A' : AS} {ms : List Msg}
theorem RNp.event (h : RNp W G q n R) (hid : A'.el.id = n.sy.el.id) {f : Nat} {args : Array Value} (hc : ∀ G1 bx, RSp W G1 q.s n.sy n.sy.lg.now.last (n.sy.lg.now.termAt n.sy.lg.now.last).1 bx 0 → (∀ k, G1 k → G k) → Calls Tryz.prog f args W fun r w' => ∃ v, r = .returned v ∧ RSm G1 W q.s A' ms w' v) :
    Calls Tryz.prog f args W fun r w' => ∃ v X, r = .returned v ∧ RN G W X q { n with sy := A' } R w' ∧ MsgsX X w' v ms ∧ ∀ k, X k → W.heap.size ≤ k := by
  obtain ⟨G1, bx, s1, s2, s3, s4, s5⟩ := h.hs
  refine (hc G1 bx s1 s2).mono ?_
  rintro r w' ⟨v, hr, G', bx', B, k1, k2, k3, k4, k5, k6⟩
  obtain ⟨rs, a1, a2, a3⟩ := h.hb
  obtain ⟨K, b1, b2⟩ := h.hk
  have lb : q.b < W.heap.size := a1.inB
  have lk : q.bk < W.heap.size := b1.inB
  have lw : q.bw < W.heap.size := h.wi _ h.fw
  have ng : ∀ x, x < W.heap.size → ¬ G1 x → ¬ G' x := fun x hx hn g => (k2 x g).elim hn (fun a => by omega)
  refine ⟨v, fun k => B ≤ k ∧ k < w'.heap.size, hr, ⟨fun k => G k ∨ G' k, ⟨⟨rs, ?_, a2, a3⟩, ⟨K, k3.at b1 s4, b2⟩, h.hw.mod k3 s5, ⟨G', bx', k1, fun k hk => .inr hk, ng _ lb s3, ng _ lk s4, ng _ lw s5⟩, .inl h.fb, .inl h.fk, .inl h.fw, ?_⟩, ?_, k3.mono s2, ?_⟩, MsgsAt.x k4 (fun k h1 h2 => ⟨h1, h2⟩), fun k hk => Nat.le_trans k6 hk.1⟩
  · have := k3.at a1 s3
    unfold RNo at this ⊢
    simp only []
    rw [hid]; exact this
  · rintro k (g | g)
    · exact Nat.lt_of_lt_of_le (h.wi k g) k3.size
    · exact k1.wi k g
  · rintro k (g | g)
    · exact .inl g
    · exact (k2 k g).elim (fun a => .inl (s2 k a)) .inr
  · rintro k ⟨hk1, hk2⟩
    refine ⟨hk2, ?_⟩
    rintro (g | g)
    · have := h.wi k g; omega
    · have := k5 k g; omega
theorem RN.early (h : RN G W X q n R w) (m : ModP (fun _ => False) W0 W) : RN G W0 X q n R w := by
  obtain ⟨G', h1, h2, h3, h4⟩ := h
  exact ⟨G', h1, fun k hk => (h2 k hk).elim .inl (fun a => .inr (Nat.le_trans m.size a)), (m.mono fun _ f => f.elim).trans h3, h4⟩
theorem DRow.early {B B' T m : Nat} {v : Value} {xs : List Value} (h : DRow B X w T v m xs) (hB : B' ≤ B) : DRow B' X w T v m xs := by
  rcases h with a | ⟨a, g, b, c, d, e⟩
  · exact .inl a
  · exact .inr ⟨a, g, b, c, d, Nat.le_trans hB e⟩
theorem DidRN.early {D : Did} {r : Ending} (h : DidRN G W q D n r w) (m : ModP (fun _ => False) W0 W) : DidRN G W0 q D n r w := by
  obtain ⟨vo, vr, X, R, h1, h2, h3, h4⟩ := h
  exact ⟨vo, vr, X, R, h1, h2.early m, h3.early m.size, h4.early m.size⟩
theorem DRow.form {B T m : Nat} {v : Value} {xs : List Value} (h : DRow B X w T v m xs) : ∃ a l c, v = .slice a l c := by
  rcases h with ⟨-, h⟩ | ⟨-, g, h, -⟩
  · exact ⟨_, _, _, h⟩
  · exact ⟨_, _, _, h⟩
/-- the answer is laid into the cell x of the caller -/
theorem DidRN.cell {D : Did} {v : Value} {x : Nat} {c : Array Value} (h : DidRN G W q D n (.returned v) w) (hx : W.At x c 117) (hG : ¬ G x) (m : ModP (fun _ => False) W0 W) (hW : W0.heap.size ≤ x) :
    ∃ (a1 : Option Addr) (l1 c1 : Nat) (a2 : Option Addr) (l2 c2 : Nat) (y : World), v = .agg (DidR.cells ⟨D.err, .slice a1 l1 c1, .slice a2 l2 c2⟩) ∧ w = y.put x c 117 ∧ y.inB x ∧ DidRN G W0 q D n (.returned (.agg (DidR.cells ⟨D.err, .slice a1 l1 c1, .slice a2 l2 c2⟩))) (y.put x (DidR.cells ⟨D.err, .slice a1 l1 c1, .slice a2 l2 c2⟩) 117) := by
  obtain ⟨vo, vr, X, R, h1, h2, h3, h4⟩ := h
  obtain ⟨a1, l1, c1, rfl⟩ := h3.form
  obtain ⟨a2, l2, c2, rfl⟩ := h4.form
  have hlt : x < W.heap.size := hx.inB
  have hat := h2.mod.at hx hG
  obtain ⟨y, e, i⟩ := hat.door
  injection h1 with h1
  refine ⟨a1, l1, c1, a2, l2, c2, y, h1, e, i, ?_⟩
  subst e
  have m9 : ModP (fun k => k = x) (y.put x c 117) (y.put x (DidR.cells ⟨D.err, .slice a1 l1 c1, .slice a2 l2 c2⟩) 117) := ModP.fromPut (ModP.put (F := fun k => k = x) (ModP.refl _ _) (.inl rfl) _ _) rfl
  obtain ⟨G', k1, k2, k3, k4⟩ := h2
  have ng : ¬ G' x := fun g => (k2 x g).elim hG (fun a => by omega)
  have hW2 := m.size
  refine ⟨_, _, X, R, rfl, ⟨G', k1.frame m9 (fun k a e => ng (e ▸ a)), fun k hk => (k2 k hk).elim .inl (fun a => .inr (by omega)), ((m.mono fun _ f => f.elim).trans k3).step m9 (fun k e => .inr (by omega)), fun k hk => ⟨Nat.lt_of_lt_of_le (k4 k hk).1 m9.size, (k4 k hk).2⟩⟩, ?_, ?_⟩
  · rcases h3.early hW2 with a | ⟨a, g, b, c, d, e⟩
    · exact .inl a
    · exact .inr ⟨a, g, b, m9.at c (At.neT c hat (by decide)), d, e⟩
  · rcases h4.early hW2 with a | ⟨a, g, b, c, d, e⟩
    · exact .inl a
    · exact .inr ⟨a, g, b, m9.at c (At.neT c hat (by decide)), d, e⟩
theorem RNp.did (h : RNp w G q n R) (m : ModP (fun _ => False) W w) (hw : Within G W) (e : Int) : DidRN G W q ⟨e, [], []⟩ n (.returned (.agg (DidR.cells ⟨e, .slice none 0 0, .slice none 0 0⟩))) w :=
  ⟨_, _, fun _ => False, R, rfl, ⟨G, h, fun _ h => .inl h, m.mono fun _ f => f.elim, fun _ f => f.elim⟩, .inl ⟨rfl, rfl⟩, .inl ⟨rfl, rfl⟩⟩
end
end Go.Tw
namespace Go.Proofs.Qxb6500990aGreat
open Go Go.RowKit Go.Tw
attribute [local go_sem] World.cell?_put_same World.cell?_put_ne World.cell?_put_ne' World.frozen?_put_same World.frozen?_put_ne World.frozen?_put_ne' World.setCell_put_same World.setCell_put_ne World.setCell_put_ne' World.inB_put World.inB_alloc World.inB_drew World.inB_drewN World.inB_new World.inB_setCell World.put_drew World.put_drewN World.q_setCell_drew World.q_setCell_drewN World.q_alloc_drew World.q_alloc_drewN World.put_put_same World.put_put_2 World.size_put World.q_cell?_alloc_old World.q_frozen?_alloc_old World.cell?_alloc_new' World.frozen?_alloc_new' World.q_setCell_alloc_old World.q_setCell_alloc_new World.q_put_alloc_old World.cell?_force_same World.frozen?_force_same World.cell?_force2_fst World.cell?_force2_snd NodeR.g0 NodeR.s0 NodeR.g1 NodeR.s1 NodeR.g2 NodeR.s2 NodeR.g3 NodeR.s3 NodeR.g4 NodeR.s4 NodeR.g5 NodeR.s5 NodeR.g6 NodeR.s6 NodeR.g7 NodeR.s7 NodeR.g8 NodeR.s8 NodeR.g9 NodeR.s9 NodeR.g10 NodeR.s10 NodeR.g11 NodeR.s11 NodeR.g12 NodeR.s12 NodeR.g13 NodeR.s13 NodeR.g14 NodeR.s14 NodeR.g15 NodeR.s15 NodeR.g16 NodeR.s16 NodeR.g17 NodeR.s17 NodeR.g18 NodeR.s18 NodeR.g19 NodeR.s19 NodeR.g20 NodeR.s20 NodeR.g21 NodeR.s21 NodeR.g22 NodeR.s22 NodeR.g23 NodeR.s23 NodeR.g24 NodeR.s24 NodeR.g25 NodeR.s25 NodeR.g26 NodeR.s26 NodeR.gi_used_0 NodeR.si_used_0 NodeR.gi_seq_0 NodeR.si_seq_0 NodeR.gi_idx_0 NodeR.si_idx_0 NodeR.gi_reps_0 NodeR.si_reps_0 NodeR.gi_reps_1 NodeR.si_reps_1 NodeR.gi_reps_2 NodeR.si_reps_2 NodeR.gi_reps_3 NodeR.si_reps_3 MsgR.g0 MsgR.s0 MsgR.g1 MsgR.s1 MsgR.g2 MsgR.s2 MsgR.g3 MsgR.s3 MsgR.g4 MsgR.s4 MsgR.g5 MsgR.s5 MsgR.g6 MsgR.s6 MsgR.g7 MsgR.s7 MsgR.g8 MsgR.s8 MsgR.g9 MsgR.s9 DidR.g0 DidR.s0 DidR.g1 DidR.s1 DidR.g2 DidR.s2
attribute [local go_sem] ba_get upd_same upd_upd
set_option maxHeartbeats 4000000
set_option maxRecDepth 100000
section
variable {W w : World} {G X : Nat → Prop} {q : NoP} {n : AN} {R : List Reply}
theorem AS.tick_el (A : AS) : A.tick.2.el.id = A.el.id := by
  show (AS.persist { A with el := A.el.tick.2 }).el.id = _
  rw [AS.persist_id]
  show A.el.tick.2.id = A.el.id
  unfold EM.tick
  (repeat' split) <;> rfl
theorem c87 (h : RNp W G q n R) (ok : n.Ok) (hn : n.sy.lg.hist.length ≤ 460) : Calls Tryz.prog 87 #[vp q.b] W (DidRN G W q n.tick.1 n.tick.2) := by
  have m0 : ModP (fun _ => False) W (W.alloc (.cells zDid.cells 117)) := (ModP.refl _ _).alloc _
  have h1 := h.frame m0 (fun _ _ f => f)
  have hx : (W.alloc (.cells zDid.cells 117)).At W.heap.size zDid.cells 117 := World.At_alloc_new
  have hG : ¬ G W.heap.size := fun g => by have := h.wi _ g; omega
  have fin := hidIt (fun (w : World) (v : Value) (hd : DidRN G (W.alloc (.cells zDid.cells 117)) q n.tick.1 n.tick.2 (.returned v) w) => hd.cell hx hG m0 (Nat.le_refl _))
  obtain ⟨rs, hb, -, -⟩ := h.hb
  unfold RNo at hb
  have hc := hb.cell
  have ib := hb.inB
  have qt := hidIt (h1.event (A' := n.sy.tick.2) (ms := n.sy.tick.1) (AS.tick_el _) (fun G1 bx h1 _ => c133 h1.rs ok.sy.el (by omega) ok.sy.n1))
  have qa := hidIt (fun (X : Nat → Prop) (u : World) (vm : Value) (hu : RN G (W.alloc (.cells zDid.cells 117)) X q { n with sy := n.sy.tick.2 } R u) (hX : ∀ k, X k → (W.alloc (.cells zDid.cells 117)).heap.size ≤ k) (hm : MsgsX X u vm n.sy.tick.1) => c96 hu hX hm ok.sy.tick_msgs (AS.tick_cnt _) (ok.with_sy ok.sy.tick) (by have := AS.tick_len n.sy; show n.sy.tick.2.lg.hist.length ≤ 470; omega))
  rw [show AN.after { n with sy := n.sy.tick.2 } n.sy.tick.1 = n.tick from rfl] at qa
  unfold zDid at *
  clear h hb ok hn h1 hx hG m0
  go_enter Tryz.func87, Tryz.ntmps87
  go_wp2_with (first
    | (go_at_call 133; refine qt.out.mono ?_; rintro _ w1 ⟨v, X, rfl, s1, m1, x1⟩; have Q1 := hidIt (qa.out X _ v s1 x1 m1); obtain ⟨adm, capm, rfl, -⟩ := MsgsX.form ⟨X, m1⟩; clear s1 m1 x1)
    | (go_at_call 96; refine Q1.out.mono ?_; rintro r w2 hd; have hr : ∃ v, r = .returned v := (by obtain ⟨vo, vr, X, R, e, -⟩ := hd; exact ⟨_, e⟩); obtain ⟨v, rfl⟩ := hr; obtain ⟨a1, l1, c1, a2, l2, c2, y, rfl, rfl, iy, hf⟩ := fin.out _ _ hd; have HF := hidIt hf; clear hd hf; unfold Tw.DidR.cells))
  refine bodyPost_ret (v := .agg (DidR.cells ⟨n.tick.1.err, .slice a1 l1 c1, .slice a2 l2 c2⟩)) ?_ rfl ?_
  · simp [results, Tryz.results87, go_sem, DidR.cells, iy]
  · exact HF.out
end
end Go.Proofs.Qxb6500990aGreat
