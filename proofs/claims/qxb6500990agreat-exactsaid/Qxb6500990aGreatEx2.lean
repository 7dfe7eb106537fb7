/- the disk below a node: taken out and put back; Mark; what a cut leaves -/
import Derived.Test.Qxb6500990aGreatEx1
set_option linter.unusedVariables false
set_option linter.unusedSimpArgs false
namespace Go.Tw
open Go Go.Proofs Go.Proofs.Qxb6500990aGreat Go.RowKit
section
variable {w w' : World} {G : Nat → Prop} {q : NoP} {n : AN} {R : List Reply}
/-- the same place with other numbers of the log's tie -/
def NoP.re (q : NoP) (N r : Nat) : NoP := { q with s := { q.s with N := N, r := r } }
def AN.wl (n : AN) (A : AL) : AN := { n with sy := { n.sy with lg := A } }
def trimG (G : Nat → Prop) (w w' : World) : Nat → Prop := fun k => (G k ∨ w.heap.size ≤ k) ∧ k < w'.heap.size
theorem RNp.disk (h : RNp w G q n R) : ∃ Fd D, DK w Fd q.s.bd D ∧ (∀ k, Fd k → G k) ∧ Tie n.sy.lg D q.s.N q.s.r ∧
    ∀ w' Fd' D' A' N' r', ModP Fd w w' → DK w' Fd' q.s.bd D' → (∀ k, Fd' k → Fd k ∨ w.heap.size ≤ k) → Within Fd' w' → D'.now = D.now → A'.now = n.sy.lg.now → Tie A' D' N' r' →
      RNp w' (trimG G w w') (q.re N' r') (n.wl A') R := by
  obtain ⟨G1, bx, rs, sub1, n1, n2, n3⟩ := h.hs
  obtain ⟨G2, ⟨Fd, bt, L, D, rl⟩, sub2, nb, ne, wi2⟩ := rs.hl
  refine ⟨Fd, D, rl.sk.d, fun k hk => sub1 k (sub2 k (rl.fd k hk)), rl.tie, ?_⟩
  intro w' Fd' D' A' N' r' m dk hF wi hD hA ht
  have tr : ∀ (X : Nat → Prop) b, ¬ X b → b < w.heap.size → ¬ trimG X w w' b := fun X b hx hb hq => hq.1.elim hx (fun c => by omega)
  have ti : ∀ (X : Nat → Prop) b, X b → b < w.heap.size → trimG X w w' b := fun X b hx hb => ⟨.inl hx, Nat.lt_of_lt_of_le hb m.size⟩
  obtain ⟨rs0, a1, a2, a3⟩ := h.hb
  obtain ⟨K, b1, b2⟩ := h.hk
  have lb : q.b < w.heap.size := a1.inB
  have lk : q.bk < w.heap.size := b1.inB
  have lw : q.bw < w.heap.size := h.wi _ h.fw
  have lt : bt < w.heap.size := rl.sk.t.inB
  have ll : q.s.bl < w.heap.size := rl.hl.inB
  have lsb : q.s.b < w.heap.size := rs.hb.inB
  have lse : q.s.be < w.heap.size := rs.he.inB
  have hrl : RLp w' (trimG G2 w w') Fd' q.s.bl bt q.s.bd L D' A' N' r' := by
    refine ⟨m.at rl.hl rl.nl, rl.st, by rw [hA]; exact rl.lr, ⟨by rw [hD]; exact m.at rl.sk.t rl.sk.nt, dk, fun f => (hF _ f).elim rl.sk.nt (fun c => by omega), wi⟩, ht, fun k hk => ⟨(hF k hk).elim (fun a => .inl (rl.fd k a)) .inr, wi k hk⟩, ti _ _ rl.fl ll, ti _ _ rl.ft lt, fun f => (hF _ f).elim rl.nl (fun c => by omega)⟩
  have fq : ∀ b, ¬ G1 b → ¬ Fd b := fun b hb f => hb (sub2 _ (rl.fd _ f))
  have fq2 : ∀ b, ¬ G2 b → ¬ Fd b := fun b hb f => hb (rl.fd _ f)
  have hlast : (n.wl A').sy.lg.now = n.sy.lg.now := hA
  refine ⟨⟨rs0, m.at a1 (fq _ n1), a2, a3⟩, ⟨K, m.at b1 (fq _ n2), b2⟩, h.hw.mod m (fq _ n3), ⟨trimG G1 w w', bx, ?_, fun k hk => ⟨hk.1.elim (fun a => .inl (sub1 k a)) .inr, hk.2⟩, tr _ _ n1 lb, tr _ _ n2 lk, tr _ _ n3 lw⟩, ti _ _ h.fb lb, ti _ _ h.fk lk, ti _ _ h.fw lw, fun k hk => hk.2⟩
  rw [hlast]
  refine ⟨m.at rs.hb (fq2 _ nb), m.at rs.he (fq2 _ ne), ⟨trimG G2 w w', ⟨Fd', bt, L, D', hrl⟩, fun k hk => ⟨hk.1.elim (fun a => .inl (sub2 k a)) .inr, hk.2⟩, tr _ _ nb lsb, tr _ _ ne lse, fun k hk => hk.2⟩, ti _ _ rs.fb lsb, ti _ _ rs.fe lse, fun k hk => hk.2⟩
theorem AN.wl_mark (n : AN) : n.wl n.sy.lg.now.al = n.mark := rfl
/-- one store, one log -/
theorem RecS.uniq {S : StoreR} {s s' : Lg} (h : RecS S s) (h' : RecS S s') (k : s.Ok) (k' : s'.Ok) : s = s' := by
  have hb : s.base = s'.base := h.b.symm.trans h'.b
  have half : ∀ {s s' : Lg}, RecS S s → RecS S s' → s.base = s'.base → s.ents.length ≤ s'.ents.length → s'.ents.length ≤ s.ents.length := by
    intro s s' h h' hb hl
    rcases Nat.lt_or_ge s.ents.length s'.ents.length with c | c
    · obtain ⟨u1, u2⟩ := h'.up (s'.ents.length - 1) _ (List.getElem?_eq_getElem (by omega))
      have := h.dn _ (slN_lt _) u1
      rw [u2] at this
      simp only [] at this
      have h3 := this.2.2
      unfold Lg.last at h3
      omega
    · exact c
  have hlen : s.ents.length = s'.ents.length := by
    rcases Nat.le_total s.ents.length s'.ents.length with c | c
    · exact Nat.le_antisymm c (half h h' hb c)
    · exact Nat.le_antisymm (half h' h hb.symm c) c
  have he : s.ents = s'.ents := by
    apply List.ext_getElem hlen
    intro i i1 i2
    obtain ⟨_, u2⟩ := h.up i _ (List.getElem?_eq_getElem i1)
    obtain ⟨_, u2'⟩ := h'.up i _ (List.getElem?_eq_getElem i2)
    rw [← hb, u2] at u2'
    simp only [Rec.mk.injEq] at u2'
    obtain ⟨_, e1, e2⟩ := u2'
    generalize s.ents[i] = x at *
    generalize s'.ents[i] = y at *
    cases x; cases y
    simp only [] at e1 e2
    subst e1 e2
    rfl
  have t := h.t.symm.trans h'.t
  have v := h.v.symm.trans h'.v
  have bt := h.bt.symm.trans h'.bt
  have sn := h.sn.symm.trans h'.sn
  cases s; cases s'
  simp only [] at *
  subst t v hb bt sn he
  rfl
theorem Good.uniq {l : List Bs} {s s' : Lg} {M M' : Nat} (h : Tw.Good l s M) (h' : Tw.Good l s' M') : s = s' := h.rc.uniq h'.rc h.ok h'.ok
theorem AL.state_zero (a : AL) : a.state 0 = a.mark := by unfold AL.state; simp
theorem Dk.after_big (D : Dk) {k : Nat} (h : D.wr.length ≤ k) : D.after k = D.after D.wr.length := by
  unfold Dk.after
  rw [List.take_of_length_le h, List.take_of_length_le (Nat.le_refl _)]
/-- what a cut after k half writes leaves: the model behind its step j -/
theorem Tie.cut {A : AL} {D : Dk} {N r : Nat} (h : Tie A D N r) (k : Int) : ∃ j : Nat, j ≤ A.hist.length ∧ Tw.Good (D.after k.toNat) (A.state j) (N + A.hist.length) ∧ (k ≤ 0 → A.state j = A.state 0) ∧
    ((D.wr.length : Int) ≤ k → A.state j = A.state A.hist.length ∧ CleanS (stOf (vp 0) (D.after k.toNat)) (A.state j)) := by
  have h0 : Tw.Good (D.after 0) (A.state 0) (N + A.hist.length) := by
    rw [AL.state_zero]; exact h.c.foot
  by_cases hk : (D.wr.length : Int) ≤ k
  · have e : D.after k.toNat = D.now := by rw [Dk.after_big D (by omega), h.c.all]
    refine ⟨A.hist.length, Nat.le_refl _, by rw [e, h.tip]; exact h.g, fun hk0 => ?_, fun _ => ⟨rfl, by rw [e, h.tip]; exact h.cl⟩⟩
    have e0 : k.toNat = 0 := by omega
    rw [e0] at e
    have hg := h.g
    rw [← e] at hg
    rw [h.tip]
    exact Good.uniq hg h0
  · by_cases hk0 : k ≤ 0
    · refine ⟨0, Nat.zero_le _, ?_, fun _ => rfl, fun c => absurd c hk⟩
      have e0 : k.toNat = 0 := by omega
      rw [e0]; exact h0
    · obtain ⟨j, j1, j2⟩ := h.c.cut k.toNat (by omega)
      exact ⟨j, j1, j2, fun c => absurd c hk0, fun c => absurd c hk⟩
end
end Go.Tw
