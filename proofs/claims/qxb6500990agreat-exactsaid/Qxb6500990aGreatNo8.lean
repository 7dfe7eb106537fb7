/- the real node: what lies where -/
import Derived.Test.Qxb6500990aGreatNo7
import Derived.Test.Qxb6500990aGreatKv14
import Derived.Test.Qxb6500990aGreatKv17
import Derived.Test.Qxb6500990aGreatKv18
import Derived.Test.Qxb6500990aGreatSy24
import Derived.Test.Qxb6500990aGreatSy25
import Derived.Test.Qxb6500990aGreatNod4
set_option linter.unusedVariables false
set_option linter.unusedSimpArgs false
namespace Go.Tw
open Go Go.Proofs Go.Proofs.Qxb6500990aGreat Go.RowKit
/-- where a real node lies: itself, store, encoder, core -/
structure NoP where
  b : Nat
  bk : Nat
  bw : Nat
  s : SyP
def RNo (q : NoP) (n : AN) (rs : Nat → Reply) (nr : Nat) : NodeR := ⟨vp q.s.b, vp q.bk, n.sy.el.id, n.applied, n.used, n.seq, n.idx, rs, nr, vp q.bw⟩
structure RNp (w : World) (G : Nat → Prop) (q : NoP) (n : AN) (R : List Reply) : Prop where
  hb : ∃ rs, w.At q.b (RNo q n rs R.length).cells 111 ∧ (∀ i (h : i < R.length), rs i = R[i]) ∧ R.length ≤ 3
  hk : ∃ K : KvX, w.At q.bk K.cells 175 ∧ KvRel K n.kv
  hw : EncS w q.bw
  hs : ∃ G1 bx, RSp w G1 q.s n.sy n.sy.lg.now.last (n.sy.lg.now.termAt n.sy.lg.now.last).1 bx 0 ∧ (∀ k, G1 k → G k) ∧ ¬ G1 q.b ∧ ¬ G1 q.bk ∧ ¬ G1 q.bw
  fb : G q.b
  fk : G q.bk
  fw : G q.bw
  wi : Within G w
/-- behind some steps from W on; the blocks X are none of its own -/
def RN (G0 : Nat → Prop) (W : World) (X : Nat → Prop) (q : NoP) (n : AN) (R : List Reply) (w : World) : Prop := ∃ G, RNp w G q n R ∧ Grows G0 W G ∧ ModP G0 W w ∧ ∀ k, X k → k < w.heap.size ∧ ¬ G k
section
variable {w w1 W : World} {F G G0 X Y : Nat → Prop} {q : NoP} {n : AN} {R : List Reply} {A' : AS}
theorem EncS.at {w : World} {bw : Nat} (h : EncS w bw) : ∃ c, w.At bw c 115 := by obtain ⟨f, n, s, h, _⟩ := h; exact ⟨_, h⟩
theorem RNp.ne (h : RNp w G q n R) : q.b ≠ q.bk ∧ q.b ≠ q.bw ∧ q.bk ≠ q.bw := by
  obtain ⟨rs, h1, -⟩ := h.hb
  obtain ⟨K, h2, -⟩ := h.hk
  obtain ⟨c, h3⟩ := h.hw.at
  exact ⟨At.neT h1 h2 (by decide), At.neT h1 h3 (by decide), At.neT h2 h3 (by decide)⟩
theorem RNp.frame (h : RNp w G q n R) (m : ModP F w w1) (hG : Apart G F) : RNp w1 G q n R := by
  obtain ⟨G1, bx, h1, h2, h3, h4, h5⟩ := h.hs
  obtain ⟨rs, a1, a2, a3⟩ := h.hb
  obtain ⟨K, b1, b2⟩ := h.hk
  exact ⟨⟨rs, m.at a1 (fun x => hG _ h.fb x), a2, a3⟩, ⟨K, m.at b1 (fun x => hG _ h.fk x), b2⟩, h.hw.mod m (fun x => hG _ h.fw x), ⟨G1, bx, h1.frame m (fun k a b => hG k (h2 k a) b), h2, h3, h4, h5⟩, h.fb, h.fk, h.fw, h.wi.mono m.size⟩
theorem RN.start (h : RNp W G q n R) (hX : ∀ k, X k → k < W.heap.size ∧ ¬ G k) : RN G W X q n R W := ⟨G, h, fun _ h => .inl h, ModP.refl _ _, hX⟩
theorem RN.hb (h : RN G0 W X q n R w) : ∃ rs, w.At q.b (RNo q n rs R.length).cells 111 ∧ (∀ i (h : i < R.length), rs i = R[i]) ∧ R.length ≤ 3 := by obtain ⟨G, h, _⟩ := h; exact h.hb
theorem RN.hk (h : RN G0 W X q n R w) : ∃ K : KvX, w.At q.bk K.cells 175 ∧ KvRel K n.kv := by obtain ⟨G, h, _⟩ := h; exact h.hk
theorem RN.rs (h : RN G0 W X q n R w) : ∃ G1, RS G1 w q.s n.sy [] w := by obtain ⟨G, h, _⟩ := h; obtain ⟨G1, bx, h1, _⟩ := h.hs; exact ⟨G1, h1.rs⟩
theorem RN.mod (h : RN G0 W X q n R w) : ModP G0 W w := by obtain ⟨G, _, _, h, _⟩ := h; exact h
theorem RN.kv (h : RN G0 W X q n R w) : n.kv.Ok := by obtain ⟨K, _, h⟩ := h.hk; exact h.ok
theorem RN.fr (h : RN G0 W X q n R w) (m : ModP (fun _ => False) w w1) : RN G0 W X q n R w1 := by
  obtain ⟨G, h1, h2, h3, h4⟩ := h
  exact ⟨G, h1.frame m (fun _ _ f => f), h2, h3.trans (m.mono fun _ f => f.elim), fun k hk => ⟨Nat.lt_of_lt_of_le (h4 k hk).1 m.size, (h4 k hk).2⟩⟩
/-- a step that turns only what was set aside, or new blocks; new blocks may be set aside too -/
theorem RN.aside (h : RN G0 W X q n R w) (m : ModP X w w1) (hXW : ∀ k, X k → W.heap.size ≤ k) (hY : ∀ k, Y k → X k ∨ (w.heap.size ≤ k ∧ k < w1.heap.size)) : RN G0 W Y q n R w1 := by
  obtain ⟨G, h1, h2, h3, h4⟩ := h
  refine ⟨G, h1.frame m (fun k a b => (h4 k b).2 a), h2, h3.step m (fun k hk => .inr (hXW k hk)), fun k hk => ?_⟩
  rcases hY k hk with h | h
  · exact ⟨Nat.lt_of_lt_of_le (h4 k h).1 m.size, (h4 k h).2⟩
  · exact ⟨h.2, fun g => by have := h1.wi k g; omega⟩
theorem RN.less (h : RN G0 W X q n R w) (hY : ∀ k, Y k → X k) : RN G0 W Y q n R w := by
  obtain ⟨G, h1, h2, h3, h4⟩ := h
  exact ⟨G, h1, h2, h3, fun k hk => h4 k (hY k hk)⟩
/-- an operation of the core -/
theorem RN.core (h : RN G0 W X q n R w) {f : Nat} {args : Array Value} {P : Ending → Prop} (hid : A'.el.id = n.sy.el.id) (hc : ∀ G1, RS G1 w q.s n.sy [] w → Calls Tryz.prog f args w fun r w' => P r ∧ RS G1 w q.s A' [] w') :
    Calls Tryz.prog f args w fun r w' => P r ∧ RN G0 W X q { n with sy := A' } R w' ∧ ModP (fun k => ¬ X k) w w' := by
  obtain ⟨G, h1, h2, h3, h4⟩ := h
  obtain ⟨G1, bx, s1, s2, s3, s4, s5⟩ := h1.hs
  refine (hc G1 s1.rs).mono ?_
  rintro r w' ⟨hr, G', bx', B, k1, k2, k3, k4, k5, k6, k7⟩
  obtain ⟨rs, a1, a2, a3⟩ := h1.hb
  obtain ⟨K, b1, b2⟩ := h1.hk
  have lb : q.b < w.heap.size := a1.inB
  have lk : q.bk < w.heap.size := b1.inB
  have lw : q.bw < w.heap.size := h1.wi _ h1.fw
  refine ⟨hr, ⟨fun k => (G k ∨ w.heap.size ≤ k) ∧ k < w'.heap.size, ⟨⟨rs, ?_, a2, a3⟩, ⟨K, k4.at b1 s4, b2⟩, h1.hw.mod k4 s5, ⟨G', bx', k1, fun k hk => ⟨(k3 k hk).elim (fun a => .inl (s2 k a)) .inr, k1.wi k hk⟩, ?_, ?_, ?_⟩, ⟨.inl h1.fb, ?_⟩, ⟨.inl h1.fk, ?_⟩, ⟨.inl h1.fw, ?_⟩, fun k hk => hk.2⟩, ?_, h3.step k4 (fun k a => h2 k (s2 k a)), ?_⟩, k4.mono (fun k a b => (h4 k b).2 (s2 k a))⟩
  · have := k4.at a1 s3
    unfold RNo at this ⊢
    simp only []
    rw [hid]; exact this
  · intro g; rcases k3 _ g with a | a
    · exact s3 a
    · omega
  · intro g; rcases k3 _ g with a | a
    · exact s4 a
    · omega
  · intro g; rcases k3 _ g with a | a
    · exact s5 a
    · omega
  · exact Nat.lt_of_lt_of_le lb k4.size
  · exact Nat.lt_of_lt_of_le lk k4.size
  · exact Nat.lt_of_lt_of_le lw k4.size
  · intro k hk
    rcases hk.1 with a | a
    · exact h2 k a
    · exact .inr (Nat.le_trans h3.size a)
  · intro k hk
    have := h4 k hk
    exact ⟨Nat.lt_of_lt_of_le this.1 k4.size, fun g => g.1.elim this.2 (fun a => by omega)⟩
/-- an operation of the store -/
theorem RN.store (h : RN G0 W X q n R w) {k' : AK} {K' : KvX} (hk : w1.At q.bk K'.cells 175) (hr : KvRel K' k') (m : ModP (fun x => x = q.bk) w w1) : RN G0 W X q { n with kv := k' } R w1 ∧ ModP (fun k => ¬ X k) w w1 := by
  obtain ⟨G, h1, h2, h3, h4⟩ := h
  obtain ⟨ne1, ne2, ne3⟩ := h1.ne
  obtain ⟨G1, bx, s1, s2, s3, s4, s5⟩ := h1.hs
  obtain ⟨rs, a1, a2, a3⟩ := h1.hb
  exact ⟨⟨G, ⟨⟨rs, m.at a1 ne1, a2, a3⟩, ⟨K', hk, hr⟩, h1.hw.mod m (fun e => ne3 e.symm), ⟨G1, bx, s1.frame m (fun k a e => s4 (e ▸ a)), s2, s3, s4, s5⟩, h1.fb, h1.fk, h1.fw, h1.wi.mono m.size⟩, h2, h3.step m (fun k e => by rw [e]; exact h2 _ h1.fk), fun k hk => ⟨Nat.lt_of_lt_of_le (h4 k hk).1 m.size, (h4 k hk).2⟩⟩, m.mono (fun k e hk => (h4 k hk).2 (e ▸ h1.fk))⟩
/-- an operation of the encoder -/
theorem RN.enc (h : RN G0 W X q n R w) (he : EncS w1 q.bw) (m : ModP (fun x => x = q.bw) w w1) : RN G0 W X q n R w1 ∧ ModP (fun k => ¬ X k) w w1 := by
  obtain ⟨G, h1, h2, h3, h4⟩ := h
  obtain ⟨ne1, ne2, ne3⟩ := h1.ne
  obtain ⟨G1, bx, s1, s2, s3, s4, s5⟩ := h1.hs
  obtain ⟨rs, a1, a2, a3⟩ := h1.hb
  obtain ⟨K, b1, b2⟩ := h1.hk
  exact ⟨⟨G, ⟨⟨rs, m.at a1 ne2, a2, a3⟩, ⟨K, m.at b1 ne3, b2⟩, he, ⟨G1, bx, s1.frame m (fun k a e => s5 (e ▸ a)), s2, s3, s4, s5⟩, h1.fb, h1.fk, h1.fw, h1.wi.mono m.size⟩, h2, h3.step m (fun k e => by rw [e]; exact h2 _ h1.fw), fun k hk => ⟨Nat.lt_of_lt_of_le (h4 k hk).1 m.size, (h4 k hk).2⟩⟩, m.mono (fun k e hk => (h4 k hk).2 (e ▸ h1.fw))⟩
/-- the node's own block laid open -/
theorem RN.door (h : RN G0 W X q n R w) : ∃ (y : World) (rs : Nat → Reply), w = y.put q.b (NodeR.cells ⟨vp q.s.b, vp q.bk, n.sy.el.id, n.applied, n.used, n.seq, n.idx, rs, R.length, vp q.bw⟩) 111 ∧ y.inB q.b ∧ (∀ i (h : i < R.length), rs i = R[i]) ∧ R.length ≤ 3 ∧
    Hid (∀ a u s i rs' R', (∀ i (h : i < R'.length), rs' i = R'[i]) → R'.length ≤ 3 → RN G0 W X q { n with applied := a, used := u, seq := s, idx := i } R' (y.put q.b (NodeR.cells ⟨vp q.s.b, vp q.bk, n.sy.el.id, a, u, s, i, rs', R'.length, vp q.bw⟩) 111) ∧ ModP (fun k => ¬ X k) w (y.put q.b (NodeR.cells ⟨vp q.s.b, vp q.bk, n.sy.el.id, a, u, s, i, rs', R'.length, vp q.bw⟩) 111)) := by
  obtain ⟨G, h1, h2, h3, h4⟩ := h
  obtain ⟨ne1, ne2, ne3⟩ := h1.ne
  obtain ⟨G1, bx, s1, s2, s3, s4, s5⟩ := h1.hs
  obtain ⟨rs, a1, a2, a3⟩ := h1.hb
  obtain ⟨K, b1, b2⟩ := h1.hk
  obtain ⟨y, e, i1⟩ := a1.door
  refine ⟨y, rs, e, i1, a2, a3, ?_⟩
  intro a u s i rs' R' hR hR3
  subst e
  have m : ModP (fun x => x = q.b) (y.put q.b (RNo q n rs R.length).cells 111) (y.put q.b (NodeR.cells ⟨vp q.s.b, vp q.bk, n.sy.el.id, a, u, s, i, rs', R'.length, vp q.bw⟩) 111) := ModP.fromPut (ModP.put (F := fun x => x = q.b) (ModP.refl _ _) (.inl rfl) _ _) rfl
  refine ⟨⟨G, ⟨⟨rs', World.At_put_same i1, hR, hR3⟩, ⟨K, m.at b1 (Ne.symm ne1), b2⟩, h1.hw.mod m (fun e => ne2 e.symm), ⟨G1, bx, s1.frame m (fun k a e => s3 (e ▸ a)), s2, s3, s4, s5⟩, h1.fb, h1.fk, h1.fw, h1.wi.mono m.size⟩, h2, h3.step m (fun k e => by rw [e]; exact h2 _ h1.fb), fun k hk => ⟨Nat.lt_of_lt_of_le (h4 k hk).1 m.size, (h4 k hk).2⟩⟩, m.mono (fun k e hk => (h4 k hk).2 (e ▸ h1.fb))⟩
end
end Go.Tw
