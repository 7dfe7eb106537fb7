/- package towerexact: play, the plain part -/
import Derived.Test.Qxb6500990aGreatEx27
import Derived.Test.Qxb6500990aGreatEx11
import Derived.Test.Qxb6500990aGreatEx12
import Derived.Test.Qxb6500990aGreatLa6
import Derived.Test.Qxb6500990aGreatLa10
import Derived.Test.Qxb6500990aGreatInv2
set_option linter.unusedVariables false
set_option linter.unusedSimpArgs false
namespace Go.Tw
open Go Go.Proofs Go.Proofs.Qxb6500990aGreat Go.RowKit
theorem AN.giveN_cnt : ∀ (k c : Nat) (n : AN), c + k ≤ 3 → (AN.giveN k c n).1.cnt + (AN.giveN k c n).2.length = n.cnt
  | 0, c, n, _ => rfl
  | k + 1, c, n, h => by
    have h1 := AN.giveN_cnt k (c + 1) (n.give c).1 (by omega)
    have h2 := n.give_cnt (c := c) (by omega)
    simp only [AN.giveN, List.length_append]
    omega
theorem AN.after_small (n : AN) (ms : List Msg) (h : ms.length ≤ 3) : (n.after ms).1.outs.length ≤ 3 ∧ (n.after ms).1.reps.length ≤ 3 := by
  have h1 := AN.applyN_cnt (n.catchUp.compact.sy.commit - n.catchUp.compact.applied).toNat n.catchUp.compact
  have h2 := AN.giveN_cnt 3 0 n.catchUp.compact.apply.1 (by omega)
  have h3 := AN.cnt_le n.catchUp.compact
  have e : n.catchUp.compact.apply = AN.applyN (n.catchUp.compact.sy.commit - n.catchUp.compact.applied).toNat n.catchUp.compact := rfl
  rw [← e] at h1
  constructor
  · show (ms.map outM).length ≤ 3
    rw [List.length_map]; exact h
  · show (n.catchUp.compact.apply.2 ++ (AN.giveN 3 0 n.catchUp.compact.apply.1).2).length ≤ 3
    rw [List.length_append]; omega
theorem AN.call_small (n : AN) (c : Cmd) : (n.call c).1.outs.length ≤ 3 ∧ (n.call c).1.reps.length ≤ 3 := by
  unfold AN.call
  split
  · simp
  · split
    · simp
    · split
      · simp
      · split
        · simp
        · exact AN.after_small _ _ (by simp)
theorem AN.event_small (n : AN) (o : OpR) : (n.event o).1.outs.length ≤ 3 ∧ (n.event o).1.reps.length ≤ 3 := by
  unfold AN.event
  split
  · exact AN.after_small _ _ n.sy.tick_cnt
  · split
    · unfold AN.receive
      split
      · simp
      · split
        · simp
        · exact AN.after_small _ _ (n.sy.step_cnt _)
    · exact AN.call_small _ _
theorem AN.call_ex {n : AN} (h : n.Gd) (c : Cmd) : (n.call c).2.Gd ∧ (n.call c).2.sy.el.id = n.sy.el.id ∧ (n.call c).2.sy.lg.hist.length ≤ n.sy.lg.hist.length + 21 := by
  have key : ∀ (n1 n2 : AN), n2.Ok → n2.In → n2.sy.el.T1 → AL.Ex n.sy.lg n2.sy.lg → n2.Gd := by
    intro n1 n2 a b c ⟨d1, l, d2, d3⟩
    refine ⟨a, b, c, by rw [d1]; exact h.mrk, fun s hs => ?_⟩
    rw [d2] at hs
    rcases List.mem_append.1 hs with q | q
    · exact h.hs s q
    · exact d3 s q
  have hok := h.ok.call c
  have hin := h.inn.call c
  unfold AN.call at *
  split
  · exact ⟨h, rfl, by simp⟩
  · rename_i c1
    rw [if_neg c1] at hok hin
    split
    · exact ⟨h, rfl, by simp⟩
    · rename_i c2
      rw [if_neg c2] at hok hin
      split
      · exact ⟨h, rfl, by simp⟩
      · rename_i c3
        rw [if_neg c3] at hok hin
        obtain ⟨p1, p2, p3⟩ := AS.propose_ex h.ok.sy.lg (encCmd c)
        split
        · rename_i c4
          rw [if_pos c4] at hok hin
          refine ⟨key n _ hok hin ?_ p1, ?_, ?_⟩
          · show (n.sy.propose (encCmd c)).2.el.T1; rw [p2]; exact h.t1
          · show (n.sy.propose (encCmd c)).2.el.id = _; rw [p2]
          · show (n.sy.propose (encCmd c)).2.lg.hist.length ≤ _; omega
        · rename_i c4
          rw [if_neg c4] at hok hin
          have hp := h.ok.with_sy (h.ok.sy.propose (encCmd c))
          obtain ⟨a1, a2, a3⟩ := AN.after_ex (n := { n with sy := (n.sy.propose (encCmd c)).2, used := upd n.used c.client.toNat true, seq := upd n.seq c.client.toNat c.seq, idx := upd n.idx c.client.toNat (n.sy.propose (encCmd c)).1.1 }) ⟨hp.sy, hp.kv, hp.a0, hp.a1⟩ []
          refine ⟨key n _ hok hin ?_ (p1.trans a1), ?_, ?_⟩
          · rw [a2]; show (n.sy.propose (encCmd c)).2.el.T1; rw [p2]; exact h.t1
          · rw [a2]; show (n.sy.propose (encCmd c)).2.el.id = _; rw [p2]
          · simp only [] at a3; omega
section
variable {B bw S i g : Nat} {W w w1 w2 : World} {own : Own} {c : Conf} {b : BC} {vb vo vr vv : Value} {G G2 X : Nat → Prop} {q : NoP} {n n' : AN} {D : Did} {r : Ending}
theorem DRow.fr {B' T m : Nat} {v : Value} {xs : List Value} {F : Nat → Prop} (h : DRow B' X w T v m xs) (e : ModP F w w1) (hF : ∀ k, B' ≤ k → ¬ F k) : DRow B' X w1 T v m xs := by
  rcases h with a | ⟨a, g, b, c, d, f⟩
  · exact .inl a
  · exact .inr ⟨a, g, b, e.at c (hF g f), d, f⟩
theorem DRow.big {B' T m : Nat} {v : Value} {xs : List Value} (h : DRow B' X w T v m xs) : DRow B' (fun k => X k ∧ B' ≤ k) w T v m xs := by
  rcases h with a | ⟨a, g, b, c, d, f⟩
  · exact .inl a
  · exact .inr ⟨a, g, b, c, ⟨d, f⟩, f⟩
theorem DRow.len {B' T m l k : Nat} {a : Option Addr} {xs : List Value} (h : DRow B' X w T (.slice a l k) m xs) : l = m := by
  rcases h with ⟨a, e⟩ | ⟨a, g, e, _⟩
  · injection e with _ e2 _; omega
  · injection e with _ e2 _
theorem DRow.rdO {B' l k : Nat} {a : Option Addr} {xs : List OutM} (h : DRow B' X w 72 (.slice a l k) xs.length (outsC xs)) : Rd w (.slice a xs.length k) xs.length (outsC xs) := by
  rcases h with ⟨h0, e⟩ | ⟨_, g, e, h2, _⟩
  · injection e with e1 e2 e3
    subst e1 e3
    have : xs = [] := List.eq_nil_of_length_eq_zero h0
    subst this
    exact ⟨_, _, rfl, fun f => absurd rfl f⟩
  · injection e with e1 e2 e3
    subst e1 e3
    exact Rd.of_at h2
theorem DRow.rdR {B' l k : Nat} {a : Option Addr} {xs : List Reply} (h : DRow B' X w 77 (.slice a l k) xs.length (repsC xs)) : Rd w (.slice a xs.length k) xs.length (repsC xs) := by
  rcases h with ⟨h0, e⟩ | ⟨_, g, e, h2, _⟩
  · injection e with e1 e2 e3
    subst e1 e3
    have : xs = [] := List.eq_nil_of_length_eq_zero h0
    subst this
    exact ⟨_, _, rfl, fun f => absurd rfl f⟩
  · injection e with e1 e2 e3
    subst e1 e3
    exact Rd.of_at h2
theorem DidRN.form (h : DidRN G W q D n r w) : ∃ a1 l1 c1 a2 l2 c2, r = .returned (.agg (DidR.cells ⟨D.err, .slice a1 l1 c1, .slice a2 l2 c2⟩)) ∧ DidRN G W q D n (.returned (.agg (DidR.cells ⟨D.err, .slice a1 l1 c1, .slice a2 l2 c2⟩))) w := by
  obtain ⟨vo, vr, X, R, h1, h2, h3, h4⟩ := h
  obtain ⟨a1, l1, c1, rfl⟩ := h3.form
  obtain ⟨a2, l2, c2, rfl⟩ := h4.form
  exact ⟨a1, l1, c1, a2, l2, c2, h1, _, _, X, R, rfl, h2, h3, h4⟩
theorem DidRN.fr (h : DidRN G W q D n r w) (m : ModP (fun _ => False) w w1) : DidRN G W q D n r w1 := by
  obtain ⟨vo, vr, X, R, h1, h2, h3, h4⟩ := h
  exact ⟨vo, vr, X, R, h1, h2.fr m, h3.fr m (fun _ _ f => f), h4.fr m (fun _ _ f => f)⟩
theorem DidN.form {nb bs bl be bk : Nat} (h : DidN G W nb bs bl be bk D n r w) : ∃ a1 l1 c1 a2 l2 c2, r = .returned (.agg (DidR.cells ⟨D.err, .slice a1 l1 c1, .slice a2 l2 c2⟩)) ∧ DidN G W nb bs bl be bk D n (.returned (.agg (DidR.cells ⟨D.err, .slice a1 l1 c1, .slice a2 l2 c2⟩))) w := by
  obtain ⟨vo, vr, X, h1, h2, h3, h4, h5⟩ := h
  obtain ⟨a1, c1, e1, -⟩ := ownsRow_form h3.1
  obtain ⟨a2, c2, e2, -⟩ := ownsRow_form h4.1
  subst e1 e2
  exact ⟨a1, _, c1, a2, _, c2, h1, _, _, X, rfl, h2, h3, h4, h5⟩
theorem DidN.fr {nb bs bl be bk : Nat} (h : DidN G W nb bs bl be bk D n r w) (m : ModP (fun _ => False) w w1) : DidN G W nb bs bl be bk D n r w1 := by
  obtain ⟨vo, vr, X, h1, ⟨G1, k1, k2, k3, k4⟩, h3, h4, h5⟩ := h
  exact ⟨vo, vr, X, h1, ⟨G1, k1.frame m (fun _ _ f => f), k2, k3.step m (fun _ f => f.elim), fun k hk => ⟨Nat.lt_of_lt_of_le (k4 k hk).1 m.size, (k4 k hk).2⟩⟩, h3.step m (fun _ _ f => f) (fun _ a => a), h4.step m (fun _ _ f => f) (fun _ a => a), h5⟩
/-- what play gives -/
def PlayR (B : Nat) (W : World) (bw i : Nat) (b : BC) (vb : Value) (S : Nat) (r : Ending) (w' : World) : Prop :=
  r = .returned (.bool true) ∧ ∃ own' c' vo' vr' vv' b', WI B w' bw own' c' vb vo' vr' vv' (S + 1) ∧ c'.bs[i]? = some b' ∧ b'.cells = b.cells ∧ b'.q.s.r = b.q.s.r ∧ ModP (fun k => B ≤ k) W w'
/-- both nodes have gone on -/
theorem WI.event (h : WI B W bw own c vb vo vr vv S) (hb : c.bs[i]? = some b) (hh : b.n.sy.lg.hist.length = 0) (tg : ∀ k, G k → own k = .br i) (tm : ∀ k, G2 k → own k = .bm i)
    (gd : n'.Gd) (eid : n'.sy.el.id = b.n.sy.el.id) (hl : n'.sy.lg.hist.length ≤ 21) {R' : List Reply} (d1 : RN G W X b.q n' R' w1) {X2 : Nat → Prop} (d2 : NBx G2 w1 X2 b.p.b b.p.bs b.p.bl b.p.be b.p.bk n' w2) (hz : S + 1 ≤ 1073741824) :
    ∃ own', WI B w2 bw own' { c with bs := c.bs.set i { b with n := n' } } vb vo vr vv (S + 1) ∧ (∀ k, X k → W.heap.size ≤ k → own' k = .no) ∧ ModP (fun k => B ≤ k) W w2 := by
  obtain ⟨Ga, ra, ga, ma, xa⟩ := d1
  obtain ⟨Gb, nb, gb, mb, -⟩ := d2
  have bo := h.bs i b hb
  have lG : ∀ k, G k → k < W.heap.size := fun k hk => (h.lo k (by rw [tg k hk]; exact nofun)).2
  have lM : ∀ k, G2 k → k < W.heap.size := fun k hk => (h.lo k (by rw [tm k hk]; exact nofun)).2
  have hno : ∀ k, W.heap.size ≤ k → own k = .no := fun k hk => by
    rcases e : own k with _ | _ | _ | _ | _ | _ | _ | _ | _ | _ | _ | _ | _ | _
    · rfl
    all_goals (have := (h.lo k (by rw [e]; exact nofun)).2; omega)
  have ap : ∀ k, Ga k → ¬ G2 k := fun k a f => by
    rcases ga k a with q | q
    · have h1 := tg k q; rw [tm k f] at h1; cases h1
    · have := lM k f; omega
  have m : ModP (fun k => G k ∨ G2 k) W w2 := (ma.mono (fun _ => .inl)).step mb (fun k hk => .inl (.inr hk))
  have nbb := bo.nb
  refine ⟨tagO own Ga Gb i, h.baseStep (b' := { b with n := n' }) (S' := S + 1) hb m (fun k f => f.imp (tg k) (tm k)) ⟨R', ra.frame mb ap⟩ (fun k a => (ga k a).imp (tg k) id) nb (fun k a => ?_) (fun k a f => ?_) gd (eid.trans bo.eid) hl (by show b.q.s.N + n'.sy.lg.hist.length ≤ _; omega) rfl (by omega) hz, fun k hk hl => ?_, m.mono (fun k f => ?_)⟩
  · rcases gb k a with q | q
    · exact .inl (tm k q)
    · exact .inr (Nat.le_trans ma.size q)
  · rcases gb k f with q | q
    · exact ap k a q
    · have := ra.wi k a; omega
  · rw [tagO_out (xa k hk).2 (fun f => ?_), hno k hl]
    rcases gb k f with q | q
    · have := lM k q; omega
    · have := (xa k hk).1; omega
  · rcases f with f | f
    · exact (h.lo k (by rw [tg k f]; exact nofun)).1
    · exact (h.lo k (by rw [tm k f]; exact nofun)).1
end
end Go.Tw
