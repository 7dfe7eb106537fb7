/- package nodem: the node beside what an event is making -/
import Derived.Test.Qxb6500990aGreatNod4
set_option linter.unusedVariables false
set_option linter.unusedSimpArgs false
namespace Go.Tw
open Go Go.Proofs Go.Proofs.Qxb6500990aGreat Go.RowKit
theorem rk54 : RowK 54 77 4 40 := ⟨by kernel_rfl, ⟨(Tryz.prog.info? 77).getD default, .agg (Reply.cells ⟨0, 0, ⟨0, []⟩⟩), by kernel_rfl, by kernel_rfl, by kernel_rfl, by kernel_rfl, by kernel_rfl⟩, by decide⟩
theorem rk50 : RowK 50 72 2 24 := ⟨by kernel_rfl, ⟨(Tryz.prog.info? 72).getD default, .agg (OutM.cells ⟨0, []⟩), by kernel_rfl, by kernel_rfl, by kernel_rfl, by kernel_rfl, by kernel_rfl⟩, by decide⟩
def repsC (rs : List Reply) : List Value := rs.flatMap fun r => r.cells.toList
def outsC (os : List OutM) : List Value := os.flatMap fun r => r.cells.toList
theorem repsC_snoc (rs : List Reply) (r : Reply) : repsC (rs ++ [r]) = repsC rs ++ r.cells.toList := by simp [repsC]
theorem outsC_snoc (rs : List OutM) (r : OutM) : outsC (rs ++ [r]) = outsC rs ++ r.cells.toList := by simp [outsC]
/-- the node, and blocks X that are none of its own -/
def NBx (G0 : Nat → Prop) (W : World) (X : Nat → Prop) (b bs bl be bk : Nat) (n : AN) (w : World) : Prop := ∃ G, NMp w G b bs bl be bk n ∧ Grows G0 W G ∧ ModP G0 W w ∧ ∀ k, X k → k < w.heap.size ∧ ¬ G k
/-- a row whose block is one of X -/
def RowX (X : Nat → Prop) (w : World) (T s : Nat) (v : Value) (n : Nat) (xs : List Value) : Prop := w.ownsRow 0 T s v n xs ∧ ∀ g, v.ownBlock = some g → X g
def MsgsX (X : Nat → Prop) (w : World) (v : Value) (ms : List Msg) : Prop := ∃ ps : List (Msg × Value), ps.map (·.1) = ms ∧ RowX X w 159 10 v ps.length (msgsC ps) ∧ ∀ p ∈ ps, RowX X w 232 2 p.2 p.1.ents.length (entsC p.1.ents)
section
variable {w w1 W : World} {F G G0 X X' : Nat → Prop} {b bs bl be bk : Nat} {n : AN} {A' : AS}
theorem RowX.step {T s m : Nat} {v : Value} {xs : List Value} (h : RowX X w T s v m xs) (hm : ModP F w w1) (hF : ∀ k, X k → ¬ F k) (hX : ∀ k, X k → X' k) : RowX X' w1 T s v m xs :=
  ⟨ownsRow_frame h.1 hm (fun g hg => hF g (h.2 g hg)), fun g hg => hX g (h.2 g hg)⟩
theorem MsgsX.step {v : Value} {ms : List Msg} (h : MsgsX X w v ms) (hm : ModP F w w1) (hF : ∀ k, X k → ¬ F k) (hX : ∀ k, X k → X' k) : MsgsX X' w1 v ms := by
  obtain ⟨ps, h1, h2, h3⟩ := h
  exact ⟨ps, h1, h2.step hm hF hX, fun p hp => (h3 p hp).step hm hF hX⟩
theorem MsgsAt.x {B : Nat} {v : Value} {ms : List Msg} (h : MsgsAt B w v ms) (hX : ∀ k, B ≤ k → k < w.heap.size → X k) : MsgsX X w v ms := by
  obtain ⟨ps, h1, h2, h3⟩ := h
  exact ⟨ps, h1, ⟨ownsRow_low h2 (Nat.zero_le _), fun g hg => hX g (ownsRow_block h2 hg).2 (ownsRow_block h2 hg).1⟩, fun p hp => ⟨ownsRow_low (h3 p hp) (Nat.zero_le _), fun g hg => hX g (ownsRow_block (h3 p hp) hg).2 (ownsRow_block (h3 p hp) hg).1⟩⟩
theorem NBx.nb (h : NBx G0 W X b bs bl be bk n w) : NB G0 W b bs bl be bk n w := by obtain ⟨G, h1, h2, h3, _⟩ := h; exact ⟨G, h1, h2, h3⟩
/-- a call of the node's own -/
theorem NBx.call {n' : AN} (h : NBx G0 W X b bs bl be bk n w) {f : Nat} {args : Array Value} {P : Ending → Prop} (hc : ∀ G, NB G w b bs bl be bk n w → Calls Tryz.prog f args w fun r w' => P r ∧ NB G w b bs bl be bk n' w') :
    Calls Tryz.prog f args w fun r w' => P r ∧ NBx G0 W X b bs bl be bk n' w' ∧ ∃ F, ModP F w w' ∧ ∀ k, X k → ¬ F k := by
  obtain ⟨G, h1, h2, h3, h4⟩ := h
  refine (hc G (NB.start h1)).mono ?_
  rintro r w' ⟨hr, G', k1, k2, k3⟩
  refine ⟨hr, ⟨G', k1, fun k hk => (k2 k hk).elim (h2 k) (fun a => .inr (Nat.le_trans h3.size a)), h3.step k3 h2, fun k hk => ⟨Nat.lt_of_lt_of_le (h4 k hk).1 k3.size, fun g => ?_⟩⟩, G, k3, fun k hk => (h4 k hk).2⟩
  rcases k2 k g with a | a
  · exact (h4 k hk).2 a
  · have := (h4 k hk).1; omega
/-- a step beside the node: what is new is set aside too -/
theorem NBx.out (h : NBx G0 W X b bs bl be bk n w) (m : ModP X w w1) (hX : ∀ k, X k → W.heap.size ≤ k) : NBx G0 W (fun k => X k ∨ (w.heap.size ≤ k ∧ k < w1.heap.size)) b bs bl be bk n w1 := by
  obtain ⟨G, h1, h2, h3, h4⟩ := h
  refine ⟨G, h1.frame m (fun k a c => (h4 k c).2 a), h2, h3.step m (fun k c => .inr (hX k c)), ?_⟩
  rintro k (c | ⟨c, d⟩)
  · exact ⟨Nat.lt_of_lt_of_le (h4 k c).1 m.size, (h4 k c).2⟩
  · exact ⟨d, fun g => by have := h1.wi _ g; omega⟩
theorem NBx.own (h : NBx G0 W X b bs bl be bk n w) (a : Int) (u : Nat → Bool) (s i : Nat → Int) : NBx G0 W X b bs bl be bk { n with applied := a, used := u, seq := s, idx := i } (w.put b (NodeM.cells ⟨vp bs, vp bk, a, u, s, i⟩) 104) := by
  obtain ⟨G, h1, h2, h3, h4⟩ := h
  obtain ⟨G1, g1, g2, g3, g4⟩ := h1.hs
  have m : ModP (fun x => x = b) w (w.put b (NodeM.cells ⟨vp bs, vp bk, a, u, s, i⟩) 104) := (ModP.refl (fun x => x = b) w).put (.inl rfl) _ _
  exact ⟨G, ⟨World.At_put_same h1.hb.inB, m.at h1.hk (Ne.symm h1.ne), ⟨G1, g1.frame m (fun k a e => g3 (e ▸ a)), g2, g3, g4⟩, h1.fb, h1.fk, h1.wi.mono m.size⟩, h2, h3.step m (fun k e => by rw [e]; exact h2 _ h1.fb), fun k hk => ⟨by rw [World.size_put]; exact (h4 k hk).1, (h4 k hk).2⟩⟩
theorem NBx.store (h : NBx G0 W X b bs bl be bk n w) {k' : AK} (hk : w1.At bk k'.r.cells 186) (m : ModP (fun x => x = bk) w w1) : NBx G0 W X b bs bl be bk { n with kv := k' } w1 ∧ ∀ k, X k → ¬ (k = bk) := by
  obtain ⟨G, h1, h2, h3, h4⟩ := h
  obtain ⟨G1, g1, g2, g3, g4⟩ := h1.hs
  refine ⟨⟨G, ⟨m.at h1.hb h1.ne, hk, ⟨G1, g1.frame m (fun k a e => g4 (e ▸ a)), g2, g3, g4⟩, h1.fb, h1.fk, h1.wi.mono m.size⟩, h2, h3.step m (fun k e => by rw [e]; exact h2 _ h1.fk), fun k hk => ⟨Nat.lt_of_lt_of_le (h4 k hk).1 m.size, (h4 k hk).2⟩⟩, fun k hk e => (h4 k hk).2 (e ▸ h1.fk)⟩
end
/-- an event in the making: the node; at b5 what it answers (outs os, replies rs); the messages ms; the blocks ex that are only read -/
structure AfX (G0 : Nat → Prop) (W : World) (b bs bl be bk : Nat) (n : AN) (b5 : Nat) (D : DidR) (os : List OutM) (rs : List Reply) (vm : Value) (ms : List Msg) (ex : List (Nat × Array Value × TypeId)) (w : World) (X : Nat → Prop) : Prop where
  nb : NBx G0 W X b bs bl be bk n w
  h5 : w.At b5 D.cells 117
  x5 : X b5
  ho : RowX X w 72 2 D.outs os.length (outsC os)
  hr : RowX X w 77 4 D.reps rs.length (repsC rs)
  hm : MsgsX X w vm ms
  he : ∀ e ∈ ex, X e.1 ∧ w.At e.1 e.2.1 e.2.2
  lo : ∀ k, X k → W.heap.size ≤ k
def Af (G0 : Nat → Prop) (W : World) (b bs bl be bk : Nat) (n : AN) (b5 : Nat) (D : DidR) (os : List OutM) (rs : List Reply) (vm : Value) (ms : List Msg) (ex : List (Nat × Array Value × TypeId)) (w : World) : Prop := ∃ X, AfX G0 W b bs bl be bk n b5 D os rs vm ms ex w X
section
variable {w w1 W : World} {F G G0 X X' : Nat → Prop} {b bs bl be bk b5 : Nat} {n n' : AN} {D : DidR} {os : List OutM} {rs : List Reply} {vm : Value} {ms : List Msg} {ex : List (Nat × Array Value × TypeId)}
theorem AfX.step (h : AfX G0 W b bs bl be bk n b5 D os rs vm ms ex w X) (hn : NBx G0 W X' b bs bl be bk n' w1) (m : ModP F w w1) (hF : ∀ k, X k → ¬ F k) (hX : ∀ k, X k → X' k) (lo : ∀ k, X' k → W.heap.size ≤ k) : AfX G0 W b bs bl be bk n' b5 D os rs vm ms ex w1 X' :=
  ⟨hn, m.at h.h5 (hF _ h.x5), hX _ h.x5, h.ho.step m hF hX, h.hr.step m hF hX, h.hm.step m hF hX, fun e he => ⟨hX _ (h.he e he).1, m.at (h.he e he).2 (hF _ (h.he e he).1)⟩, lo⟩
theorem Af.call (h : Af G0 W b bs bl be bk n b5 D os rs vm ms ex w) {f : Nat} {args : Array Value} {P : Ending → Prop} (hc : ∀ G, NB G w b bs bl be bk n w → Calls Tryz.prog f args w fun r w' => P r ∧ NB G w b bs bl be bk n' w') :
    Calls Tryz.prog f args w fun r w' => P r ∧ Af G0 W b bs bl be bk n' b5 D os rs vm ms ex w' := by
  obtain ⟨X, h⟩ := h
  refine (h.nb.call hc).mono ?_
  rintro r w' ⟨hr, h1, F, h2, h3⟩
  exact ⟨hr, X, h.step h1 h2 h3 (fun _ a => a) h.lo⟩
/-- a step that writes no old block -/
theorem Af.fr (h : Af G0 W b bs bl be bk n b5 D os rs vm ms ex w) (m : ModP (fun _ => False) w w1) : Af G0 W b bs bl be bk n b5 D os rs vm ms ex w1 := by
  obtain ⟨X, h⟩ := h
  have hs := h.nb.nb.mod.size
  exact ⟨_, h.step (h.nb.out (m.mono fun _ f => f.elim) h.lo) m (fun _ _ f => f) (fun _ a => .inl a) (fun k a => a.elim (h.lo k) (fun c => by have := c.1; omega))⟩
/-- .. and makes a block that is only read -/
theorem Af.more (h : Af G0 W b bs bl be bk n b5 D os rs vm ms ex w) (m : ModP (fun _ => False) w w1) {x : Nat} {c : Array Value} {T : TypeId} (hx : w.heap.size ≤ x) (ha : w1.At x c T) : Af G0 W b bs bl be bk n b5 D os rs vm ms ((x, c, T) :: ex) w1 := by
  obtain ⟨X, h⟩ := h
  have hs := h.nb.nb.mod.size
  have h2 := h.step (h.nb.out (m.mono fun _ f => f.elim) h.lo) m (fun _ _ f => f) (fun _ a => .inl a) (fun k a => a.elim (h.lo k) (fun c => by have := c.1; omega))
  refine ⟨_, h2.nb, h2.h5, h2.x5, h2.ho, h2.hr, h2.hm, ?_, h2.lo⟩
  intro e he
  rcases List.mem_cons.1 he with rfl | he
  · exact ⟨.inr ⟨hx, ha.inB⟩, ha⟩
  · exact h2.he e he
theorem Af.less (h : Af G0 W b bs bl be bk n b5 D os rs vm ms ex w) {ex' : List (Nat × Array Value × TypeId)} (hx : ∀ e ∈ ex', e ∈ ex) : Af G0 W b bs bl be bk n b5 D os rs vm ms ex' w := by
  obtain ⟨X, h⟩ := h
  exact ⟨X, h.nb, h.h5, h.x5, h.ho, h.hr, h.hm, fun e he => h.he e (hx e he), h.lo⟩
theorem Af.store (h : Af G0 W b bs bl be bk n b5 D os rs vm ms ex w) {k' : AK} (hk : w1.At bk k'.r.cells 186) (m : ModP (fun x => x = bk) w w1) : Af G0 W b bs bl be bk { n with kv := k' } b5 D os rs vm ms ex w1 := by
  obtain ⟨X, h⟩ := h
  obtain ⟨h1, h2⟩ := h.nb.store hk m
  exact ⟨X, h.step h1 m h2 (fun _ a => a) h.lo⟩
theorem Af.hb (h : Af G0 W b bs bl be bk n b5 D os rs vm ms ex w) : w.At b (NodeM.cells ⟨vp bs, vp bk, n.applied, n.used, n.seq, n.idx⟩) 104 := by obtain ⟨X, h⟩ := h; exact h.nb.nb.hb
theorem Af.h5 (h : Af G0 W b bs bl be bk n b5 D os rs vm ms ex w) : w.At b5 D.cells 117 := by obtain ⟨X, h⟩ := h; exact h.h5
theorem Af.get (h : Af G0 W b bs bl be bk n b5 D os rs vm ms ex w) {e : Nat × Array Value × TypeId} (he : e ∈ ex) : w.At e.1 e.2.1 e.2.2 := by obtain ⟨X, h⟩ := h; exact (h.he e he).2
theorem Af.nb (h : Af G0 W b bs bl be bk n b5 D os rs vm ms ex w) : NB G0 W b bs bl be bk n w := by obtain ⟨X, h⟩ := h; exact h.nb.nb
/-- the node's own block laid open -/
theorem Af.door (h : Af G0 W b bs bl be bk n b5 D os rs vm ms ex w) : ∃ y : World, w = y.put b (NodeM.cells ⟨vp bs, vp bk, n.applied, n.used, n.seq, n.idx⟩) 104 ∧ y.inB b ∧ (∀ x c T, w.At x c T → T ≠ 104 → x ≠ b ∧ y.At x c T) ∧
    Hid (∀ a u s i, Af G0 W b bs bl be bk { n with applied := a, used := u, seq := s, idx := i } b5 D os rs vm ms ex (y.put b (NodeM.cells ⟨vp bs, vp bk, a, u, s, i⟩) 104)) := by
  have hb := h.hb
  obtain ⟨y, rfl, i1⟩ := h.hb.door
  refine ⟨y, rfl, i1, fun x c T ha hT => ?_, fun a u s i => ?_⟩
  · have hne := At.neT ha hb hT
    exact ⟨hne, (World.At_put_ne' hne).1 ha⟩
  · obtain ⟨X, h⟩ := h
    have h1 := h.nb.own a u s i
    obtain ⟨G, g1, g2, g3, g4⟩ := h.nb
    have m : ModP (fun x => x = b) (y.put b (NodeM.cells ⟨vp bs, vp bk, n.applied, n.used, n.seq, n.idx⟩) 104) ((y.put b (NodeM.cells ⟨vp bs, vp bk, n.applied, n.used, n.seq, n.idx⟩) 104).put b (NodeM.cells ⟨vp bs, vp bk, a, u, s, i⟩) 104) := (ModP.refl (fun x => x = b) _).put (.inl rfl) _ _
    have h2 := h.step h1 m (fun k hk e => (g4 k hk).2 (e ▸ g1.fb)) (fun _ a => a) h.lo
    rw [World.put_put_same] at h2
    exact ⟨X, h2⟩
theorem row_ne_at {B e s n : Nat} {v : Value} {xs : List Value} {x : Nat} {c : Array Value} {T : TypeId} (h : w.ownsRow B e s v n xs) (ha : w.At x c T) (hT : T ≠ e) : ¬ v.ownBlock = some x := fun hg => ownsRow_neT h ha hT hg rfl
/-- one more is laid behind the others, and then into what is answered -/
theorem Af.appR (h : Af G0 W b bs bl be bk n b5 D os rs vm ms ex w) (hT : ∀ e ∈ ex, e.2.2 ≠ 77 ∧ e.1 ≠ b5) {y1 : World} {ob : Obj} {g' cap : Nat} {r : Reply} (o1 : y1.ownsRow 0 77 4 (.slice (some ⟨g', 0, none⟩) (rs.length + 1) cap) (rs.length + 1) (repsC rs ++ r.cells.toList)) (m1 : Mod D.reps.ownBlock.toList (w.alloc ob) y1) (hg : D.reps.ownBlock = some g' ∨ g' = (w.alloc ob).heap.size) (hl : g' < y1.heap.size) :
    y1.At b5 D.cells 117 ∧ Af G0 W b bs bl be bk n b5 { D with reps := .slice (some ⟨g', 0, none⟩) (rs.length + 1) cap } os (rs ++ [r]) vm ms ex (y1.put b5 (DidR.cells { D with reps := .slice (some ⟨g', 0, none⟩) (rs.length + 1) cap }) 117) := by
  obtain ⟨X, h⟩ := h
  have hs := h.nb.nb.mod.size
  have mR : ModP (fun k => D.reps.ownBlock = some k) w y1 := ModP.trans ((ModP.refl _ _).alloc ob) (m1.toP (fun x hx => Option.mem_toList.1 hx))
  have n5 : ¬ D.reps.ownBlock = some b5 := row_ne_at h.hr.1 h.h5 (by decide)
  have h51 : y1.At b5 D.cells 117 := mR.at h.h5 n5
  refine ⟨h51, ?_⟩
  have hg2 := hg
  generalize hv : (Value.slice (some ⟨g', 0, none⟩) (rs.length + 1) cap) = v' at *
  have mA : ModP (fun k => D.reps.ownBlock = some k ∨ k = b5) w (y1.put b5 (DidR.cells { D with reps := v' }) 117) := (mR.mono fun _ a => .inl a).put (.inl (.inr rfl)) _ _
  have sz : w.heap.size < y1.heap.size := by have := m1.size; simp only [World.alloc, Array.size_push] at this; omega
  have hn := h.nb.out (mA.mono (G := X) (fun k a => a.elim (h.hr.2 k) (fun e => e ▸ h.x5))) h.lo
  have hX : ∀ k, X k → (X k ∨ (w.heap.size ≤ k ∧ k < (y1.put b5 (DidR.cells { D with reps := v' }) 117).heap.size)) := fun _ a => .inl a
  refine ⟨_, hn, World.At_put_same h51.inB, hX _ h.x5, ?rowOld, ?rowNew, ?_, ?_, fun k a => a.elim (h.lo k) (fun c => by have := c.1; omega)⟩
  case rowNew =>
    refine ⟨?_, fun g hg => ?_⟩
    · rw [repsC_snoc, List.length_append]
      refine ownsRow_put o1 ?_
      intro g hg e
      exact row_ne_at o1 h51 (by decide) (e ▸ hg)
    · have e : g = g' := by rw [← hv] at hg; simpa [Value.ownBlock] using hg.symm
      subst e
      rcases hg2 with a | a
      · exact .inl (h.hr.2 _ a)
      · exact .inr ⟨by rw [a]; simp only [World.alloc, Array.size_push]; omega, by rw [World.size_put]; exact hl⟩
  case rowOld =>
    refine ⟨ownsRow_frame h.ho.1 mA ?_, fun g hg => hX g (h.ho.2 g hg)⟩
    rintro g hg (a | a)
    · exact ownsRow_ne h.ho.1 h.hr.1 (by decide) hg a
    · exact row_ne_at h.ho.1 h.h5 (by decide) (a ▸ hg)
  · obtain ⟨ps, q1, q2, q3⟩ := h.hm
    refine ⟨ps, q1, ⟨ownsRow_frame q2.1 mA ?_, fun g hg => hX g (q2.2 g hg)⟩, fun p hp => ⟨ownsRow_frame (q3 p hp).1 mA ?_, fun g hg => hX g ((q3 p hp).2 g hg)⟩⟩
    · rintro g hg (a | a)
      · exact ownsRow_ne q2.1 h.hr.1 (by decide) hg a
      · exact row_ne_at q2.1 h.h5 (by decide) (a ▸ hg)
    · rintro g hg (a | a)
      · exact ownsRow_ne (q3 p hp).1 h.hr.1 (by decide) hg a
      · exact row_ne_at (q3 p hp).1 h.h5 (by decide) (a ▸ hg)
  · intro e he
    obtain ⟨x1, x2⟩ := h.he e he
    refine ⟨hX _ x1, mA.at x2 ?_⟩
    rintro (a | a)
    · exact row_ne_at h.hr.1 x2 (hT e he).1 a
    · exact (hT e he).2 a
/-- one more is laid behind the others, and then into what is answered -/
theorem Af.appO (h : Af G0 W b bs bl be bk n b5 D os rs vm ms ex w) (hT : ∀ e ∈ ex, e.2.2 ≠ 72 ∧ e.1 ≠ b5) {y1 : World} {ob : Obj} {g' cap : Nat} {r : OutM} (o1 : y1.ownsRow 0 72 2 (.slice (some ⟨g', 0, none⟩) (os.length + 1) cap) (os.length + 1) (outsC os ++ r.cells.toList)) (m1 : Mod D.outs.ownBlock.toList (w.alloc ob) y1) (hg : D.outs.ownBlock = some g' ∨ g' = (w.alloc ob).heap.size) (hl : g' < y1.heap.size) :
    y1.At b5 D.cells 117 ∧ Af G0 W b bs bl be bk n b5 { D with outs := .slice (some ⟨g', 0, none⟩) (os.length + 1) cap } (os ++ [r]) rs vm ms ex (y1.put b5 (DidR.cells { D with outs := .slice (some ⟨g', 0, none⟩) (os.length + 1) cap }) 117) := by
  obtain ⟨X, h⟩ := h
  have hs := h.nb.nb.mod.size
  have mR : ModP (fun k => D.outs.ownBlock = some k) w y1 := ModP.trans ((ModP.refl _ _).alloc ob) (m1.toP (fun x hx => Option.mem_toList.1 hx))
  have n5 : ¬ D.outs.ownBlock = some b5 := row_ne_at h.ho.1 h.h5 (by decide)
  have h51 : y1.At b5 D.cells 117 := mR.at h.h5 n5
  refine ⟨h51, ?_⟩
  have hg2 := hg
  generalize hv : (Value.slice (some ⟨g', 0, none⟩) (os.length + 1) cap) = v' at *
  have mA : ModP (fun k => D.outs.ownBlock = some k ∨ k = b5) w (y1.put b5 (DidR.cells { D with outs := v' }) 117) := (mR.mono fun _ a => .inl a).put (.inl (.inr rfl)) _ _
  have sz : w.heap.size < y1.heap.size := by have := m1.size; simp only [World.alloc, Array.size_push] at this; omega
  have hn := h.nb.out (mA.mono (G := X) (fun k a => a.elim (h.ho.2 k) (fun e => e ▸ h.x5))) h.lo
  have hX : ∀ k, X k → (X k ∨ (w.heap.size ≤ k ∧ k < (y1.put b5 (DidR.cells { D with outs := v' }) 117).heap.size)) := fun _ a => .inl a
  refine ⟨_, hn, World.At_put_same h51.inB, hX _ h.x5, ?rowNew, ?rowOld, ?_, ?_, fun k a => a.elim (h.lo k) (fun c => by have := c.1; omega)⟩
  case rowNew =>
    refine ⟨?_, fun g hg => ?_⟩
    · rw [outsC_snoc, List.length_append]
      refine ownsRow_put o1 ?_
      intro g hg e
      exact row_ne_at o1 h51 (by decide) (e ▸ hg)
    · have e : g = g' := by rw [← hv] at hg; simpa [Value.ownBlock] using hg.symm
      subst e
      rcases hg2 with a | a
      · exact .inl (h.ho.2 _ a)
      · exact .inr ⟨by rw [a]; simp only [World.alloc, Array.size_push]; omega, by rw [World.size_put]; exact hl⟩
  case rowOld =>
    refine ⟨ownsRow_frame h.hr.1 mA ?_, fun g hg => hX g (h.hr.2 g hg)⟩
    rintro g hg (a | a)
    · exact ownsRow_ne h.hr.1 h.ho.1 (by decide) hg a
    · exact row_ne_at h.hr.1 h.h5 (by decide) (a ▸ hg)
  · obtain ⟨ps, q1, q2, q3⟩ := h.hm
    refine ⟨ps, q1, ⟨ownsRow_frame q2.1 mA ?_, fun g hg => hX g (q2.2 g hg)⟩, fun p hp => ⟨ownsRow_frame (q3 p hp).1 mA ?_, fun g hg => hX g ((q3 p hp).2 g hg)⟩⟩
    · rintro g hg (a | a)
      · exact ownsRow_ne q2.1 h.ho.1 (by decide) hg a
      · exact row_ne_at q2.1 h.h5 (by decide) (a ▸ hg)
    · rintro g hg (a | a)
      · exact ownsRow_ne (q3 p hp).1 h.ho.1 (by decide) hg a
      · exact row_ne_at (q3 p hp).1 h.h5 (by decide) (a ▸ hg)
  · intro e he
    obtain ⟨x1, x2⟩ := h.he e he
    refine ⟨hX _ x1, mA.at x2 ?_⟩
    rintro (a | a)
    · exact row_ne_at h.ho.1 x2 (hT e he).1 a
    · exact (hT e he).2 a
end
end Go.Tw
