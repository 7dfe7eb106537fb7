/- the node as it is meant; package nodem: what lies where -/
import Derived.Test.Qxb6500990aGreatSym20
import Derived.Test.Qxb6500990aGreatKvm4
import Derived.Test.Qxb6500990aGreatKvm6
import Derived.Test.Qxb6500990aGreatKvm8
import Derived.Test.Qxb6500990aGreatApi9
set_option linter.unusedVariables false
set_option linter.unusedSimpArgs false
namespace Go.Tw
open Go Go.Proofs Go.Proofs.Qxb6500990aGreat Go.RowKit
structure AN where
  sy : AS
  kv : AK
  applied : Int
  used : Nat → Bool
  seq : Nat → Int
  idx : Nat → Int
/-- what an event answers -/
structure Did where
  err : Int
  outs : List OutM
  reps : List Reply
def AN.clear (n : AN) (c : Nat) : AN := { n with used := upd n.used c false, seq := upd n.seq c 0, idx := upd n.idx c 0 }
def AN.catchUp (n : AN) : AN := if n.applied < n.sy.lg.now.base then { n with kv := (n.kv.restore n.sy.lg.now.snap).2, applied := n.sy.lg.now.base } else n
def AN.due (n : AN) : Prop := n.sy.lg.now.base < n.applied ∧ (4 ≤ n.applied - n.sy.lg.now.base ∨ 6 ≤ n.sy.lg.now.last - n.sy.lg.now.base)
instance (n : AN) : Decidable n.due := by unfold AN.due; exact inferInstance
def AN.compact (n : AN) : AN := if n.due then { n with sy := (n.sy.compact n.applied n.kv.snap).2 } else n
/-- the pending call that the entry d answers -/
def AN.answers (n : AN) (d : Bs) : Option Cmd := match decCmd d with
  | some c => if n.used c.client.toNat = true ∧ n.seq c.client.toNat = c.seq then some c else none
  | none => none
/-- the entry d is run -/
def AN.run (n : AN) (d : Bs) : AN × List Reply := match n.answers d with
  | some c => (AN.clear { n with kv := (n.kv.apply d).2 } c.client.toNat, [⟨c.client, c.seq, (n.kv.apply d).1⟩])
  | none => ({ n with kv := (n.kv.apply d).2 }, [])
def AN.next (n : AN) : AN := { n with applied := n.applied + 1 }
def AN.apply1 (n : AN) : AN × List Reply := if (n.sy.lg.now.at_ (n.applied + 1)).1.data = [] then (n.next, []) else n.next.run (n.sy.lg.now.at_ (n.applied + 1)).1.data
def AN.applyN : Nat → AN → AN × List Reply
  | 0, n => (n, [])
  | k + 1, n => ((AN.applyN k n.apply1.1).1, n.apply1.2 ++ (AN.applyN k n.apply1.1).2)
def AN.apply (n : AN) : AN × List Reply := AN.applyN (n.sy.commit - n.applied).toNat n
def AN.lost (n : AN) (c : Nat) : Prop := n.used c = true ∧ (n.sy.el.role ≠ 2 ∨ n.idx c ≤ n.applied)
instance (n : AN) (c : Nat) : Decidable (n.lost c) := by unfold AN.lost; exact inferInstance
def AN.give (n : AN) (c : Nat) : AN × List Reply := if n.lost c then (n.clear c, [⟨c, n.seq c, ⟨13, []⟩⟩]) else (n, [])
/-- calls of the clients c, c+1 .. given up, k of them -/
def AN.giveN : Nat → Nat → AN → AN × List Reply
  | 0, _, n => (n, [])
  | k + 1, c, n => ((AN.giveN k (c + 1) (n.give c).1).1, (n.give c).2 ++ (AN.giveN k (c + 1) (n.give c).1).2)
def outM (m : Msg) : OutM := ⟨m.to, encMsg m⟩
def AN.after (n : AN) (ms : List Msg) : Did × AN :=
  let a := n.catchUp.compact.apply
  let g := AN.giveN 3 0 a.1
  (⟨0, ms.map outM, a.2 ++ g.2⟩, g.1)
def AN.tick (n : AN) : Did × AN := AN.after { n with sy := n.sy.tick.2 } n.sy.tick.1
def AN.receive (n : AN) (raw : Bs) : Did × AN := match decMsg raw with
  | none => (⟨12, [], []⟩, n)
  | some m => if m.to ≠ n.sy.el.id ∨ m.frm = m.to then (⟨12, [], []⟩, n) else AN.after { n with sy := (n.sy.step m).2 } (n.sy.step m).1
def AN.call (n : AN) (c : Cmd) : Did × AN :=
  if cmdOK c = false then (⟨9, [], []⟩, n) else if n.sy.el.role ≠ 2 then (⟨8, [], []⟩, n) else if n.used c.client.toNat = true then (⟨14, [], []⟩, n)
  else if (n.sy.propose (encCmd c)).1.2 ≠ 0 then (⟨(n.sy.propose (encCmd c)).1.2, [], []⟩, { n with sy := (n.sy.propose (encCmd c)).2 })
  else AN.after { n with sy := (n.sy.propose (encCmd c)).2, used := upd n.used c.client.toNat true, seq := upd n.seq c.client.toNat c.seq, idx := upd n.idx c.client.toNat (n.sy.propose (encCmd c)).1.1 } []
def AN.open (A : AS) : AN := AN.catchUp ⟨A, AK.new, 0, fun _ => false, fun _ => 0, fun _ => 0⟩
def AN.new (id : Int) : AN := AN.open (AS.new id)
def AN.atk (n : AN) (k : Int) : AN := AN.open (n.sy.after k)
def AN.as (n : AN) (id : Int) : AN := AN.open (n.sy.as id)
def AN.mark (n : AN) : AN := { n with sy := n.sy.mark }
/-- where it lies -/
def NoR (bs bk : Nat) (n : AN) : NodeM := ⟨vp bs, vp bk, n.applied, n.used, n.seq, n.idx⟩
structure NMp (w : World) (G : Nat → Prop) (b bs bl be bk : Nat) (n : AN) : Prop where
  hb : w.At b (NoR bs bk n).cells 104
  hk : w.At bk n.kv.r.cells 186
  hs : ∃ G1, SMp w G1 bs bl be n.sy ∧ (∀ k, G1 k → G k) ∧ ¬ G1 b ∧ ¬ G1 bk
  fb : G b
  fk : G bk
  wi : Within G w
def NB (G0 : Nat → Prop) (W : World) (b bs bl be bk : Nat) (n : AN) (w : World) : Prop := ∃ G, NMp w G b bs bl be bk n ∧ Grows G0 W G ∧ ModP G0 W w
section
variable {w w1 W : World} {F G G0 : Nat → Prop} {b bs bl be bk : Nat} {n : AN} {A' : AS}
theorem NMp.frame (h : NMp w G b bs bl be bk n) (m : ModP F w w1) (hG : Apart G F) : NMp w1 G b bs bl be bk n := by
  obtain ⟨G1, h1, h2, h3, h4⟩ := h.hs
  exact ⟨m.at h.hb (fun x => hG _ h.fb x), m.at h.hk (fun x => hG _ h.fk x), ⟨G1, h1.frame m (fun k a b => hG k (h2 k a) b), h2, h3, h4⟩, h.fb, h.fk, h.wi.mono m.size⟩
theorem NMp.ne (h : NMp w G b bs bl be bk n) : b ≠ bk := At.neT h.hb h.hk (by decide)
theorem NB.start (h : NMp W G b bs bl be bk n) : NB G W b bs bl be bk n W := ⟨G, h, fun _ h => .inl h, ModP.refl _ _⟩
theorem NB.hb (h : NB G0 W b bs bl be bk n w) : w.At b (NoR bs bk n).cells 104 := by obtain ⟨G, h, _⟩ := h; exact h.hb
theorem NB.hk (h : NB G0 W b bs bl be bk n w) : w.At bk n.kv.r.cells 186 := by obtain ⟨G, h, _⟩ := h; exact h.hk
theorem NB.sy (h : NB G0 W b bs bl be bk n w) : ∃ G1, SMp w G1 bs bl be n.sy := by obtain ⟨G, h, _⟩ := h; obtain ⟨G1, h1, _⟩ := h.hs; exact ⟨G1, h1⟩
theorem NB.mod (h : NB G0 W b bs bl be bk n w) : ModP G0 W w := by obtain ⟨G, _, _, h⟩ := h; exact h
theorem NB.fr (h : NB G0 W b bs bl be bk n w) (m : ModP (fun _ => False) w w1) : NB G0 W b bs bl be bk n w1 := by
  obtain ⟨G, h1, h2, h3⟩ := h
  exact ⟨G, h1.frame m (fun _ _ f => f), h2, h3.trans (m.mono fun _ f => f.elim)⟩
/-- an operation of the core -/
theorem NMp.core (h : NMp w G b bs bl be bk n) {G1 : Nat → Prop} (h2 : ∀ k, G1 k → G k) (h3 : ¬ G1 b) (h4 : ¬ G1 bk) (hs : SB G1 w bs bl be A' w1) : ∃ G', NMp w1 G' b bs bl be bk { n with sy := A' } ∧ Grows G w G' ∧ ModP G w w1 := by
  obtain ⟨G2, k1, k2, k3⟩ := hs
  have lb := h.hb.inB
  have lk := h.hk.inB
  unfold World.inB at lb lk
  refine ⟨fun k => (G k ∨ w.heap.size ≤ k) ∧ k < w1.heap.size, ⟨k3.at h.hb h3, k3.at h.hk h4, ⟨G2, k1, fun k hk => ⟨(k2 k hk).elim (fun a => .inl (h2 k a)) .inr, k1.wi k hk⟩, ?_, ?_⟩, ⟨.inl h.fb, ?_⟩, ⟨.inl h.fk, ?_⟩, fun k hk => hk.2⟩, fun k hk => hk.1, k3.mono h2⟩
  · intro g
    rcases k2 _ g with a | a
    · exact h3 a
    · omega
  · intro g
    rcases k2 _ g with a | a
    · exact h4 a
    · omega
  · exact Nat.lt_of_lt_of_le lb k3.size
  · exact Nat.lt_of_lt_of_le lk k3.size
theorem NB.sync (h : NB G0 W b bs bl be bk n w) {f : Nat} {args : Array Value} {P : Ending → Prop} (hc : ∀ G, SMp w G bs bl be n.sy → Calls Tryz.prog f args w fun r w' => P r ∧ SB G w bs bl be A' w') :
    Calls Tryz.prog f args w fun r w' => P r ∧ NB G0 W b bs bl be bk { n with sy := A' } w' := by
  obtain ⟨G, h1, h2, h3⟩ := h
  obtain ⟨G1, g1, g2, g3, g4⟩ := h1.hs
  refine (hc G1 g1).mono ?_
  rintro r w' ⟨hr, hs⟩
  obtain ⟨G', k1, k2, k3⟩ := h1.core g2 g3 g4 hs
  exact ⟨hr, G', k1, fun k hk => (k2 k hk).elim (h2 k) (fun a => .inr (Nat.le_trans h3.size a)), h3.step k3 h2⟩
theorem NB.store (h : NB G0 W b bs bl be bk n w) {k' : AK} (hk : w1.At bk k'.r.cells 186) (m : ModP (fun x => x = bk) w w1) : NB G0 W b bs bl be bk { n with kv := k' } w1 := by
  obtain ⟨G, h1, h2, h3⟩ := h
  obtain ⟨G1, g1, g2, g3, g4⟩ := h1.hs
  exact ⟨G, ⟨m.at h1.hb h1.ne, hk, ⟨G1, g1.frame m (fun k a e => g4 (e ▸ a)), g2, g3, g4⟩, h1.fb, h1.fk, h1.wi.mono m.size⟩, h2, h3.step m (fun k e => by rw [e]; exact h2 _ h1.fk)⟩
theorem NB.own (h : NB G0 W b bs bl be bk n w) (a : Int) (u : Nat → Bool) (s i : Nat → Int) : NB G0 W b bs bl be bk { n with applied := a, used := u, seq := s, idx := i } (w.put b (NodeM.cells ⟨vp bs, vp bk, a, u, s, i⟩) 104) := by
  obtain ⟨G, h1, h2, h3⟩ := h
  obtain ⟨G1, g1, g2, g3, g4⟩ := h1.hs
  have m : ModP (fun x => x = b) w (w.put b (NodeM.cells ⟨vp bs, vp bk, a, u, s, i⟩) 104) := (ModP.refl (fun x => x = b) w).put (.inl rfl) _ _
  exact ⟨G, ⟨World.At_put_same h1.hb.inB, m.at h1.hk (Ne.symm h1.ne), ⟨G1, g1.frame m (fun k a e => g3 (e ▸ a)), g2, g3, g4⟩, h1.fb, h1.fk, h1.wi.mono m.size⟩, h2, h3.step m (fun k e => by rw [e]; exact h2 _ h1.fb)⟩
/-- the node's own block laid open -/
theorem NB.door (h : NB G0 W b bs bl be bk n w) : ∃ y : World, w = y.put b (NodeM.cells ⟨vp bs, vp bk, n.applied, n.used, n.seq, n.idx⟩) 104 ∧ y.inB b ∧
    Hid (∀ a u s i, NB G0 W b bs bl be bk { n with applied := a, used := u, seq := s, idx := i } (y.put b (NodeM.cells ⟨vp bs, vp bk, a, u, s, i⟩) 104)) := by
  obtain ⟨y, rfl, i1⟩ := h.hb.door
  refine ⟨y, rfl, i1, fun a u s i => ?_⟩
  have h1 := h.own a u s i
  rw [World.put_put_same] at h1
  exact h1
end
end Go.Tw
