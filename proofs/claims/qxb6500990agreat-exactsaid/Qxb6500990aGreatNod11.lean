/- package nodem: Tick, Receive, Call: what they need -/
import Derived.Test.Qxb6500990aGreatNod7
import Derived.Test.Qxb6500990aGreatNod8
import Derived.Test.Qxb6500990aGreatNod9
import Derived.Test.Qxb6500990aGreatNod10
set_option linter.unusedVariables false
set_option linter.unusedSimpArgs false
namespace Go.Tw
open Go Go.Proofs Go.Proofs.Qxb6500990aGreat Go.RowKit
section
variable {w w1 W : World} {F G G0 X X' : Nat → Prop} {b bs bl be bk : Nat} {n n' : AN} {vm : Value} {ms : List Msg} {A' : AS}
/-- an event of the core that makes messages -/
theorem NMp.event (h : NMp w G b bs bl be bk n) {f : Nat} {args : Array Value} (hc : ∀ G1, SMp w G1 bs bl be n.sy → (∀ k, G1 k → G k) → Calls Tryz.prog f args w fun r w' => ∃ v, r = .returned v ∧ SBm G1 w bs bl be A' ms w' v) :
    Calls Tryz.prog f args w fun r w' => ∃ v, r = .returned v ∧ NBm G w b bs bl be bk { n with sy := A' } ms w' v := by
  obtain ⟨G1, g1, g2, g3, g4⟩ := h.hs
  refine (hc G1 g1 g2).mono ?_
  rintro r w' ⟨v, rfl, G2, B, k1, k2, k3, k4, k5, k6⟩
  have lb := h.hb.inB
  have lk := h.hk.inB
  unfold World.inB at lb lk
  refine ⟨v, rfl, fun k => B ≤ k ∧ k < w'.heap.size, ⟨fun k => G k ∨ G2 k, ⟨k3.at h.hb g3, k3.at h.hk g4, ⟨G2, k1, fun k a => .inr a, ?_, ?_⟩, .inl h.fb, .inl h.fk, ?_⟩, ?_, k3.mono g2, ?_⟩, k4.x (fun k a c => ⟨a, c⟩), fun k a => by have := a.1; omega⟩
  · intro a
    rcases k2 _ a with a | a
    · exact g3 a
    · omega
  · intro a
    rcases k2 _ a with a | a
    · exact g4 a
    · omega
  · rintro k (a | a)
    · exact Nat.lt_of_lt_of_le (h.wi _ a) k3.size
    · exact k1.wi _ a
  · rintro k (a | a)
    · exact .inl a
    · exact (k2 k a).elim (fun a => .inl (g2 k a)) .inr
  · rintro k ⟨a, c⟩
    refine ⟨c, ?_⟩
    rintro (d | d)
    · have := h.wi _ d; omega
    · have := k5 _ d; omega
theorem NB.bare (h : NMp w G b bs bl be bk n) : NBm G w b bs bl be bk n [] w (.slice none 0 0) := by
  refine ⟨fun _ => False, ⟨G, h, fun k a => .inl a, ModP.refl _ _, fun k a => a.elim⟩, ⟨[], rfl, ⟨ownsRow_nil _ _ _ _, by simp [Value.ownBlock]⟩, by simp⟩, fun k a => a.elim⟩
theorem NB.bare' (h : NB G W b bs bl be bk n w) : NBm G W b bs bl be bk n [] w (.slice none 0 0) := by
  obtain ⟨G1, h1, h2, h3⟩ := h
  exact ⟨fun _ => False, ⟨G1, h1, h2, h3, fun k a => a.elim⟩, ⟨[], rfl, ⟨ownsRow_nil _ _ _ _, by simp [Value.ownBlock]⟩, by simp⟩, fun k a => a.elim⟩
/-- seen from an earlier world that the steps up to here have left as it was -/
theorem NBm.early (h : NBm G W b bs bl be bk n ms w vm) {W0 : World} (m : ModP (fun _ => False) W0 W) : NBm G W0 b bs bl be bk n ms w vm := by
  obtain ⟨X, ⟨G1, h1, h2, h3, h4⟩, h5, h6⟩ := h
  exact ⟨X, ⟨G1, h1, fun k a => (h2 k a).elim .inl (fun c => .inr (Nat.le_trans m.size c)), (m.mono fun _ f => f.elim).trans h3, h4⟩, h5, fun k a => Nat.le_trans m.size (h6 k a)⟩
theorem DidN.early {D : Did} {r : Ending} (h : DidN G W b bs bl be bk D n r w) {W0 : World} (m : ModP (fun _ => False) W0 W) : DidN G W0 b bs bl be bk D n r w := by
  obtain ⟨vo, vr, X, h0, ⟨G1, h1, h2, h3, h4⟩, h5, h6, h7⟩ := h
  exact ⟨vo, vr, X, h0, ⟨G1, h1, fun k a => (h2 k a).elim .inl (fun c => .inr (Nat.le_trans m.size c)), (m.mono fun _ f => f.elim).trans h3, h4⟩, h5, h6, fun k a => Nat.le_trans m.size (h7 k a)⟩
theorem NB.did (h : NB G W b bs bl be bk n w) (e : Int) : DidN G W b bs bl be bk ⟨e, [], []⟩ n (.returned (.agg (DidR.cells ⟨e, .slice none 0 0, .slice none 0 0⟩))) w := by
  obtain ⟨G1, h1, h2, h3⟩ := h
  exact ⟨_, _, fun _ => False, rfl, ⟨G1, h1, h2, h3, fun k a => a.elim⟩, ⟨ownsRow_nil _ _ _ _, by simp [Value.ownBlock]⟩, ⟨ownsRow_nil _ _ _ _, by simp [Value.ownBlock]⟩, fun k a => a.elim⟩
/-- the answer is laid into the cell of the result -/
theorem DidN.cell {D : Did} {v : Value} {x : Nat} {c : Array Value} (h : DidN G W b bs bl be bk D n (.returned v) w) (hx : W.At x c 117) (hG : ¬ G x) (hl : x < W.heap.size) :
    w.At x c 117 ∧ ∃ vo vr, v = .agg (DidR.cells ⟨D.err, vo, vr⟩) ∧ (∃ a1 c1, vo = .slice a1 D.outs.length c1) ∧ (∃ a2 c2, vr = .slice a2 D.reps.length c2) ∧ ∀ W0, ModP (fun _ => False) W0 W → W0.heap.size ≤ x → ∀ c', DidN G W0 b bs bl be bk D n (.returned (.agg (DidR.cells ⟨D.err, vo, vr⟩))) (w.put x c' 117) := by
  obtain ⟨vo, vr, X, h0, ⟨G1, h1, h2, h3, h4⟩, h5, h6, h7⟩ := h
  have hv : v = .agg (DidR.cells ⟨D.err, vo, vr⟩) := by injection h0
  have hxw := h3.at hx hG
  obtain ⟨a1, c1, e1, -⟩ := ownsRow_form h5.1
  obtain ⟨a2, c2, e2, -⟩ := ownsRow_form h6.1
  refine ⟨hxw, vo, vr, hv, ⟨a1, c1, e1⟩, ⟨a2, c2, e2⟩, fun W0 m0 l0 c' => ?_⟩
  have m : ModP (fun k => k = x) w (w.put x c' 117) := (ModP.refl (fun k => k = x) w).put (.inl rfl) _ _
  have nG : ¬ G1 x := fun a => (h2 x a).elim hG (fun c => by omega)
  have nX : ∀ k, X k → ¬ k = x := fun k a e => by have := h7 k a; omega
  refine ⟨vo, vr, X, rfl, ⟨G1, h1.frame m (fun k a e => nG (e ▸ a)), fun k a => (h2 k a).elim .inl (fun c => .inr (Nat.le_trans m0.size c)), ?_, fun k a => ⟨by rw [World.size_put]; exact (h4 k a).1, (h4 k a).2⟩⟩, h5.step m nX (fun _ a => a), h6.step m nX (fun _ a => a), fun k a => Nat.le_trans m0.size (h7 k a)⟩
  exact ((m0.mono fun _ f => f.elim).trans h3).step m (fun k e => .inr (by rw [e]; exact l0))
end
end Go.Tw
namespace Go.Proofs.Qxb6500990aGreat
open Go Go.RowKit Go.Tw
section
variable {W w : World} {G : Nat → Prop} {b bs bl be bk : Nat} {n : AN} {ms : List Msg} {vm : Value}
theorem c99 (h : NBm G W b bs bl be bk n ms w vm) (ok : n.Ok) (hn : n.sy.lg.hist.length ≤ 8900) (hms : ∀ m ∈ ms, MsgOk m) (hml : ms.length ≤ 3) : Calls Tryz.prog 99 #[vp b, vm] w (DidN G W b bs bl be bk (n.after ms).1 (n.after ms).2) := by
  by_cases q1 : n.catchUp.sy.lg.now.base < n.catchUp.applied
  · by_cases q2 : 4 ≤ n.catchUp.applied - n.catchUp.sy.lg.now.base
    · exact c99_b h ok hn hms hml q1 q2
    · by_cases q3 : 6 ≤ n.catchUp.sy.lg.now.last - n.catchUp.sy.lg.now.base
      · exact c99_c h ok hn hms hml q1 q2 q3
      · exact c99_d h ok hn hms hml q1 q2 q3
  · exact c99_a h ok hn hms hml q1
end
end Go.Proofs.Qxb6500990aGreat
