/- package towerexact: play, an event -/
import Derived.Test.Qxb6500990aGreatEx28
import Derived.Test.Qxb6500990aGreatEx18
import Derived.Test.Qxb6500990aGreatOrder5
import Derived.Deep.Cut
set_option linter.unusedVariables false
set_option linter.unusedSimpArgs false
namespace Go.Tw
open Go Go.Proofs Go.Proofs.Qxb6500990aGreat Go.RowKit
/-- a call that answers a Did: from anywhere behind WB, and where its result's cell was laid before -/
def EvC (f : Nat) (args : Array Value) (WB : World) (G : Nat → Prop) (de : Int) (P : Option Addr → Nat → Nat → Option Addr → Nat → Nat → World → Prop) : Prop :=
  (∀ u, ModP (fun _ => False) WB u → Calls Tryz.prog f args u fun r w => ∃ a1 l1 c1 a2 l2 c2, r = .returned (.agg #[vi de, .slice a1 l1 c1, .slice a2 l2 c2]) ∧ P a1 l1 c1 a2 l2 c2 w ∧ ModP G WB w) ∧
  (∀ a1 l1 c1 a2 l2 c2 w w', P a1 l1 c1 a2 l2 c2 w → ModP (fun _ => False) w w' → P a1 l1 c1 a2 l2 c2 w') ∧
  (∀ u x c, ModP (fun _ => False) WB u → u.At x c 117 → WB.heap.size ≤ x → Calls Tryz.prog f args u fun r w => ∃ (a1 : Option Addr) (l1 c1 : Nat) (a2 : Option Addr) (l2 c2 : Nat) (y : World), r = .returned (.agg #[vi de, .slice a1 l1 c1, .slice a2 l2 c2]) ∧ w = y.put x c 117 ∧ y.inB x ∧ P a1 l1 c1 a2 l2 c2 (y.put x #[vi de, .slice a1 l1 c1, .slice a2 l2 c2] 117))
section
variable {WB : World} {G : Nat → Prop} {q : NoP} {n n' : AN} {R : List Reply} {D : Did} {f : Nat} {args : Array Value} {nb bs bl be bk : Nat}
theorem evR (hr : RNp WB G q n R) (hc : ∀ u, ModP (fun _ => False) WB u → Calls Tryz.prog f args u (DidRN G u q D n')) :
    EvC f args WB G D.err (fun a1 l1 c1 a2 l2 c2 w => DidRN G WB q D n' (.returned (.agg (DidR.cells ⟨D.err, .slice a1 l1 c1, .slice a2 l2 c2⟩))) w) := by
  refine ⟨fun u m => (hc u m).mono ?_, fun a1 l1 c1 a2 l2 c2 w w' h m => h.fr m, fun u x c m hx hl => (hc u m).mono ?_⟩
  · intro r w hd
    obtain ⟨a1, l1, c1, a2, l2, c2, e, h2⟩ := (hd.early m).form
    refine ⟨a1, l1, c1, a2, l2, c2, e, h2, ?_⟩
    obtain ⟨_, _, _, _, _, h3, _⟩ := h2
    exact h3.mod
  · intro r w hd
    obtain ⟨v, rfl⟩ : ∃ v, r = .returned v := by obtain ⟨vo, vr, X, R, e, -⟩ := hd; exact ⟨_, e⟩
    obtain ⟨a1, l1, c1, a2, l2, c2, y, e1, e2, i, h2⟩ := hd.cell hx (fun g => by have := hr.wi _ g; omega) m hl
    exact ⟨a1, l1, c1, a2, l2, c2, y, by rw [e1]; rfl, e2, i, h2⟩
theorem evM (hr : NMp WB G nb bs bl be bk n) (hc : ∀ u, ModP (fun _ => False) WB u → Calls Tryz.prog f args u (DidN G u nb bs bl be bk D n')) :
    EvC f args WB G D.err (fun a1 l1 c1 a2 l2 c2 w => DidN G WB nb bs bl be bk D n' (.returned (.agg (DidR.cells ⟨D.err, .slice a1 l1 c1, .slice a2 l2 c2⟩))) w) := by
  refine ⟨fun u m => (hc u m).mono ?_, fun a1 l1 c1 a2 l2 c2 w w' h m => h.fr m, fun u x c m hx hl => (hc u m).mono ?_⟩
  · intro r w hd
    obtain ⟨a1, l1, c1, a2, l2, c2, e, h2⟩ := (hd.early2 m).form
    refine ⟨a1, l1, c1, a2, l2, c2, e, h2, ?_⟩
    obtain ⟨_, _, _, _, ⟨_, _, _, h3, _⟩, _⟩ := h2
    exact h3
  · intro r w hd
    obtain ⟨v, rfl⟩ : ∃ v, r = .returned v := by obtain ⟨vo, vr, X, e, -⟩ := hd; exact ⟨_, e⟩
    obtain ⟨a1, l1, c1, a2, l2, c2, y, e1, e2, i, h2⟩ := hd.cell2 hx (fun g => by have := hr.wi _ g; omega) m hl
    exact ⟨a1, l1, c1, a2, l2, c2, y, by rw [e1]; rfl, e2, i, h2⟩
end
/-- all that the events need, laid before the walk; WB is the world at the first call -/
structure Ev2 (B : Nat) (WB : World) (own : Own) (bw i g : Nat) (b : BC) (vb : Value) (S f1 f2 : Nat) (arg : Value) (D : Did) (G G2 : Nat → Prop) (P : Option Addr → Nat → Nat → Option Addr → Nat → Nat → World → Prop) : Prop where
  e1 : EvC f1 #[vp b.q.b, arg] WB G D.err P
  l1 : D.outs.length ≤ 3
  l2 : D.reps.length ≤ 3
  ng : ¬ G g
  nn : ∀ k, G k → k < WB.heap.size
  no : ∀ k, own k = .no → ¬ G k ∧ ¬ G2 k
  pm : ∀ a1 l1 c1 a2 l2 c2 w, P a1 l1 c1 a2 l2 c2 w → ModP G WB w
  e2 : ∀ a1 l1 c1 a2 l2 c2 w1, P a1 l1 c1 a2 l2 c2 w1 → l1 = D.outs.length ∧ l2 = D.reps.length ∧ Rd w1 (.slice a1 D.outs.length c1) D.outs.length (outsC D.outs) ∧ Rd w1 (.slice a2 D.reps.length c2) D.reps.length (repsC D.reps) ∧ ¬ G2 g ∧ (∀ k, G2 k → k < WB.heap.size) ∧
    (∀ k, (Value.slice a1 D.outs.length c1).ownBlock = some k → ¬ G2 k) ∧ (∀ k, (Value.slice a2 D.reps.length c2).ownBlock = some k → ¬ G2 k) ∧
    ∃ P2, EvC f2 #[vp b.p.b, arg] w1 G2 D.err P2 ∧ (∀ b1 m1 d1 b2 m2 d2 w2, P2 b1 m1 d1 b2 m2 d2 w2 → ModP G2 w1 w2 ∧ m1 = D.outs.length ∧ m2 = D.reps.length ∧ Rd w2 (.slice b1 D.outs.length d1) D.outs.length (outsC D.outs) ∧ Rd w2 (.slice b2 D.reps.length d2) D.reps.length (repsC D.reps) ∧
      ∀ w3, ModP (fun _ => False) w2 w3 → Calls Tryz.prog 45 #[vp bw, .agg (DidR.cells ⟨D.err, .slice a1 D.outs.length c1, .slice a2 D.reps.length c2⟩)] w3 fun r w' => r = .returned (.tuple #[]) ∧ PlayR B WB bw i b vb S (.returned (.bool true)) w')
theorem Ev2.make {B bw i g S f1 f2 : Nat} {WB : World} {own : Own} {c : Conf} {b : BC} {vb vo vr vv arg : Value} {D : Did} {n' : AN} (h : WI B WB bw own c vb vo vr vv S) (hz : S + 1 ≤ 1073741824) (hb : c.bs[i]? = some b) (hg : vb.ownBlock = some g) (hh : b.n.sy.lg.hist.length = 0)
    (l1 : D.outs.length ≤ 3) (l2 : D.reps.length ≤ 3) (gd : n'.Gd) (eid : n'.sy.el.id = b.n.sy.el.id) (hl : n'.sy.lg.hist.length ≤ 21)
    (q1 : ∀ G R u, RNp u G b.q b.n R → Calls Tryz.prog f1 #[vp b.q.b, arg] u (DidRN G u b.q D n')) (q2 : ∀ G u, NMp u G b.p.b b.p.bs b.p.bl b.p.be b.p.bk b.n → Calls Tryz.prog f2 #[vp b.p.b, arg] u (DidN G u b.p.b b.p.bs b.p.bl b.p.be b.p.bk D n')) :
    ∃ G G2 P, Ev2 B WB own bw i g b vb S f1 f2 arg D G G2 P := by
  have bo := h.bs i b hb
  obtain ⟨⟨G, R, hr, tg⟩, ⟨G2, hm, tm⟩, -, -, -, -⟩ := bo
  have lG : ∀ k, G k → k < WB.heap.size := fun k hk => (h.lo k (by rw [tg k hk]; exact nofun)).2
  have lM : ∀ k, G2 k → k < WB.heap.size := fun k hk => (h.lo k (by rw [tm k hk]; exact nofun)).2
  have og := h.rb.2 g hg
  have ap : ∀ k, G2 k → ¬ G k := fun k a f => by have h1 := tg k f; rw [tm k a] at h1; cases h1
  refine ⟨G, G2, _, evR hr (fun u m => q1 G R u (hr.frame m (fun _ _ f => f))), l1, l2, fun f => (by rw [tg g f] at og; cases og), lG, fun k hk => ⟨fun f => (by rw [tg k f] at hk; cases hk), fun f => (by rw [tm k f] at hk; cases hk)⟩, fun a1 k1 c1 a2 k2 c2 w hd => ?_, fun a1 k1 c1 a2 k2 c2 w1 hd => ?_⟩
  · obtain ⟨_, _, _, _, _, h3, _⟩ := hd
    exact h3.mod
  · obtain ⟨vo', vr', X, R', e, rn, d1, d2⟩ := hd
    injection e with e
    injection e with e
    have e1 : vo' = .slice a1 k1 c1 := by have := congrArg (fun x : Array Value => x[1]?) e; simpa [DidR.cells] using this.symm
    have e2 : vr' = .slice a2 k2 c2 := by have := congrArg (fun x : Array Value => x[2]?) e; simpa [DidR.cells] using this.symm
    subst e1 e2
    obtain rfl := d1.len
    obtain rfl := d2.len
    have hm1 : NMp w1 G2 b.p.b b.p.bs b.p.bl b.p.be b.p.bk b.n := hm.frame rn.mod ap
    have nx : ∀ {T : Nat} {v : Value} {m : Nat} {xs : List Value}, DRow WB.heap.size X w1 T v m xs → ∀ k, v.ownBlock = some k → ¬ G2 k := fun hd k hk f => by
      rcases hd with ⟨_, e⟩ | ⟨_, g', e, _, _, e4⟩
      · rw [e] at hk; cases hk
      · rw [e] at hk
        have hk' : g' = k := by simpa [Value.ownBlock] using hk
        have := lM k f; omega
    refine ⟨rfl, rfl, d1.rdO, d2.rdR, fun f => (by rw [tm g f] at og; cases og), lM, nx d1, nx d2, _, evM hm1 (fun u m => q2 G2 u (hm1.frame m (fun _ _ f => f))), fun b1 m1 k1 b2 m2 k2 w2 hd2 => ?_⟩
    obtain ⟨vo2, vr2, X2, e, nbx, x1, x2, _⟩ := hd2
    injection e with e
    injection e with e
    have e1 : vo2 = .slice b1 m1 k1 := by have := congrArg (fun x : Array Value => x[1]?) e; simpa [DidR.cells] using this.symm
    have e2 : vr2 = .slice b2 m2 k2 := by have := congrArg (fun x : Array Value => x[2]?) e; simpa [DidR.cells] using this.symm
    subst e1 e2
    have r1 := Rd.of_row x1.1
    have r2 := Rd.of_row x2.1
    have em1 : m1 = D.outs.length := by obtain ⟨_, _, e, _⟩ := r1; injection e with _ e2 _
    have em2 : m2 = D.reps.length := by obtain ⟨_, _, e, _⟩ := r2; injection e with _ e2 _
    subst em1 em2
    have mb : ModP G2 w1 w2 := by obtain ⟨_, _, _, h3, _⟩ := nbx; exact h3
    refine ⟨mb, rfl, rfl, r1, r2, fun w3 m3 => ?_⟩
    obtain ⟨own', wi, hX, mm⟩ := h.event hb hh tg tm gd eid hl rn nbx hz
    have m23 := mb.step m3 (fun _ f => f.elim)
    have l3 := h.ln
    refine (c45g (S' := S + 1) (wi.frame m3) (Nat.le_refl _) hz (by show c.os.length + 1 ≤ S + 1; omega) (by show c.rs.length + 1 ≤ S + 1; omega) (X := fun k => X k ∧ WB.heap.size ≤ k) (B0 := WB.heap.size) (d1.big.fr m23 (fun k hk f => by have := lM k f; omega)) (d2.big.fr m23 (fun k hk f => by have := lM k f; omega)) (fun k hk => hX k hk.1 hk.2) (by have := (h.lo bw (by rw [h.tw]; exact nofun)); omega) l1 l2).mono ?_
    rintro r w4 ⟨rfl, own4, c4, vo4, vr4, wi4, eb, _, m4⟩
    refine ⟨rfl, rfl, own4, c4, vo4, vr4, _, { b with n := n' }, wi4, ?_, rfl, rfl, (mm.step m3 (fun _ f => f.elim)).trans m4⟩
    rw [eb]
    have hlt := (List.getElem?_eq_some_iff.1 hb).1
    simp [hlt]
end Go.Tw
