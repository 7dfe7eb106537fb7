/- the real protocol core: what lies where -/
import Derived.Test.Qxb6500990aGreatRl11
import Derived.Test.Qxb6500990aGreatSym20
set_option linter.unusedVariables false
set_option linter.unusedSimpArgs false
namespace Go.Tw
open Go Go.Proofs Go.Proofs.Qxb6500990aGreat
/-- where a real core lies: itself, log, election rule, disk; and the two numbers of the log's tie -/
structure SyP where
  b : Nat
  bl : Nat
  be : Nat
  bd : Nat
  N : Nat
  r : Nat
def RSy (p : SyP) (A : AS) (la lt : Int) (bx : Nat → MsgR) (n : Nat) : SyncR := ⟨vp p.bl, vp p.be, A.commit, A.next, A.mtch, la, lt, bx, n⟩
structure RSp (w : World) (G : Nat → Prop) (p : SyP) (A : AS) (la lt : Int) (bx : Nat → MsgR) (n : Nat) : Prop where
  hb : w.At p.b (RSy p A la lt bx n).cells 162
  he : w.At p.be A.el.el.cells 155
  hl : ∃ G1, RLK w G1 p.bl p.bd A.lg p.N p.r ∧ (∀ k, G1 k → G k) ∧ ¬ G1 p.b ∧ ¬ G1 p.be ∧ Within G1 w
  fb : G p.b
  fe : G p.be
  wi : Within G w
theorem RLK.within {w : World} {F : Nat → Prop} {bl bd : Nat} {A : AL} {N r : Nat} (h : RLK w F bl bd A N r) : RLK w (fun k => F k ∧ k < w.heap.size) bl bd A N r := by
  obtain ⟨Fd, bt, L, D, h⟩ := h
  exact ⟨Fd, bt, L, D, h.hl, h.st, h.lr, h.sk, h.tie, fun k hk => ⟨h.fd k hk, h.sk.wi k hk⟩, ⟨h.fl, h.hl.inB⟩, ⟨h.ft, h.sk.t.inB⟩, h.nl⟩
/-- the outbox: messages whose entries lie in blocks made since B -/
def BoxAt (B : Nat) (w : World) (bx : Nat → MsgR) (ms : List Msg) : Prop := ∀ (i : Nat) (m : Msg), ms[i]? = some m → ∃ v, bx i = m.r v ∧ EntsAt B w v m.ents
section
variable {w w1 W : World} {F G G0 : Nat → Prop} {p : SyP} {A : AS} {la lt : Int} {bx : Nat → MsgR} {n : Nat} {ms : List Msg}
theorem BoxAt.nil (B : Nat) (w : World) (bx : Nat → MsgR) : BoxAt B w bx [] := fun i m h => by simp at h
theorem BoxAt.frame {B : Nat} (h : BoxAt B w bx ms) (m : ModP F w w1) (hF : ∀ k, B ≤ k → k < w.heap.size → ¬ F k) : BoxAt B w1 bx ms := fun i x hx => by
  obtain ⟨v, h1, h2⟩ := h i x hx
  exact ⟨v, h1, ownsRow_frame h2 m (fun g hg => hF g (ownsRow_block h2 hg).2 (ownsRow_block h2 hg).1)⟩
theorem RSp.frame (h : RSp w G p A la lt bx n) (m : ModP F w w1) (hG : Apart G F) : RSp w1 G p A la lt bx n := by
  obtain ⟨G1, h1, h2, h3, h4, h5⟩ := h.hl
  exact ⟨m.at h.hb (fun x => hG _ h.fb x), m.at h.he (fun x => hG _ h.fe x), ⟨G1, h1.frame m (fun k a b => hG k (h2 k a) b), h2, h3, h4, h5.mono m.size⟩, h.fb, h.fe, h.wi.mono m.size⟩
theorem RSp.ne (h : RSp w G p A la lt bx n) : p.b ≠ p.be := At.neT h.hb h.he (by decide)
theorem RSp.log (h : RSp w G p A la lt bx n) {f : Nat} {args : Array Value} {R : Ending → Prop} {lg' : AL}
    (hc : ∀ G1, RLK w G1 p.bl p.bd A.lg p.N p.r → Within G1 w → Calls Tryz.prog f args w fun x w' => R x ∧ RLK w' (grow G1 w) p.bl p.bd lg' p.N p.r ∧ ModP G1 w w') :
    Calls Tryz.prog f args w fun x w' => R x ∧ ∃ G', RSp w' G' p { A with lg := lg' } la lt bx n ∧ Grows G w G' ∧ ModP G w w' := by
  obtain ⟨G1, h1, h2, h3, h4, h5⟩ := h.hl
  refine (hc G1 h1 h5).mono ?_
  rintro r w' ⟨hr, k1, k2⟩
  have lb := h.hb.inB
  have le := h.he.inB
  unfold World.inB at lb le
  refine ⟨hr, fun k => (G k ∨ w.heap.size ≤ k) ∧ k < w'.heap.size, ⟨k2.at h.hb h3, k2.at h.he h4, ⟨_, k1.within, ?_, ?_, ?_, fun k a => a.2⟩, ⟨.inl h.fb, ?_⟩, ⟨.inl h.fe, ?_⟩, fun k hk => hk.2⟩, fun k hk => hk.1, k2.mono h2⟩
  · rintro k ⟨a | a, c⟩
    · exact ⟨.inl (h2 k a), c⟩
    · exact ⟨.inr a, c⟩
  · rintro ⟨a | a, _⟩
    · exact h3 a
    · omega
  · rintro ⟨a | a, _⟩
    · exact h4 a
    · omega
  · exact Nat.lt_of_lt_of_le lb k2.size
  · exact Nat.lt_of_lt_of_le le k2.size
theorem RSp.elec (h : RSp w G p A la lt bx n) {el' : EM} (m : Dr (w.put p.be el'.el.cells 155) w1) : RSp w1 G p { A with el := el' } la lt bx n ∧ ModP G w w1 := by
  obtain ⟨k, rfl⟩ := m
  obtain ⟨G1, h1, h2, h3, h4, h5⟩ := h.hl
  have ne := h.ne
  have mp : ModP (fun x => x = p.be) w ((w.put p.be el'.el.cells 155).drewN k) := ((ModP.refl (fun x => x = p.be) w).put (.inl rfl) _ _).drewN k
  refine ⟨⟨mp.at h.hb ne, (World.At_drewN _).2 (World.At_put_same h.he.inB), ⟨G1, h1.frame mp (fun k a e => h4 (e ▸ a)), h2, h3, h4, h5.mono mp.size⟩, h.fb, h.fe, h.wi.mono mp.size⟩, mp.mono (fun k e => e ▸ h.fe)⟩
theorem RSp.own (h : RSp w G p A la lt bx n) (c : Int) (nx mt : Nat → Int) (la' lt' : Int) (bx' : Nat → MsgR) (n' : Nat) :
    RSp (w.put p.b (RSy p { A with commit := c, next := nx, mtch := mt } la' lt' bx' n').cells 162) G p { A with commit := c, next := nx, mtch := mt } la' lt' bx' n' := by
  obtain ⟨G1, h1, h2, h3, h4, h5⟩ := h.hl
  have ne := h.ne
  have mp : ModP (fun x => x = p.b) w (w.put p.b (RSy p { A with commit := c, next := nx, mtch := mt } la' lt' bx' n').cells 162) := (ModP.refl (fun x => x = p.b) w).put (.inl rfl) _ _
  exact ⟨World.At_put_same h.hb.inB, mp.at h.he (Ne.symm ne), ⟨G1, h1.frame mp (fun k a e => h3 (e ▸ a)), h2, h3, h4, h5.mono mp.size⟩, h.fb, h.fe, h.wi.mono mp.size⟩
/-- behind some steps from W on -/
def RB (G0 : Nat → Prop) (W : World) (p : SyP) (A : AS) (la lt : Int) (ms : List Msg) (w : World) : Prop :=
  ∃ G bx B, RSp w G p A la lt bx ms.length ∧ BoxAt B w bx ms ∧ Grows G0 W G ∧ ModP G0 W w ∧ (∀ k, G k → k < B) ∧ W.heap.size ≤ B ∧ B ≤ w.heap.size
theorem RSp.start (h : RSp W G p A la lt bx 0) : RB G W p A la lt [] W := ⟨G, bx, W.heap.size, h, BoxAt.nil _ _ _, fun _ h => .inl h, ModP.refl _ _, h.wi, Nat.le_refl _, Nat.le_refl _⟩
theorem RB.hb (h : RB G0 W p A la lt ms w) : ∃ bx, w.At p.b (RSy p A la lt bx ms.length).cells 162 := by obtain ⟨G, bx, B, h, _⟩ := h; exact ⟨bx, h.hb⟩
theorem RB.he (h : RB G0 W p A la lt ms w) : w.At p.be A.el.el.cells 155 := by obtain ⟨G, bx, B, h, _⟩ := h; exact h.he
theorem RB.lk (h : RB G0 W p A la lt ms w) : ∃ G1, RLK w G1 p.bl p.bd A.lg p.N p.r := by obtain ⟨G, bx, B, h, _⟩ := h; obtain ⟨G1, h1, _⟩ := h.hl; exact ⟨G1, h1⟩
theorem RB.ok (h : RB G0 W p A la lt ms w) : A.lg.now.Ok := by obtain ⟨G1, h⟩ := h.lk; exact h.ok
theorem RB.mod (h : RB G0 W p A la lt ms w) : ModP G0 W w := by obtain ⟨G, bx, B, _, _, _, h, _⟩ := h; exact h
theorem RB.fr (h : RB G0 W p A la lt ms w) (m : ModP (fun _ => False) w w1) : RB G0 W p A la lt ms w1 := by
  obtain ⟨G, bx, B, h1, h2, h3, h4, h5, h6, h7⟩ := h
  exact ⟨G, bx, B, h1.frame m (fun _ _ f => f), h2.frame m (fun _ _ _ f => f), h3, h4.trans (m.mono fun _ f => f.elim), h5, h6, Nat.le_trans h7 m.size⟩
theorem RB.log (h : RB G0 W p A la lt [] w) {f : Nat} {args : Array Value} {R : Ending → Prop} {lg' : AL}
    (hc : ∀ G1, RLK w G1 p.bl p.bd A.lg p.N p.r → Within G1 w → Calls Tryz.prog f args w fun x w' => R x ∧ RLK w' (grow G1 w) p.bl p.bd lg' p.N p.r ∧ ModP G1 w w') :
    Calls Tryz.prog f args w fun x w' => R x ∧ RB G0 W p { A with lg := lg' } la lt [] w' := by
  obtain ⟨G, bx, B, h1, h2, h3, h4, h5, h6, h7⟩ := h
  refine (h1.log hc).mono ?_
  rintro r w' ⟨hr, G', k1, k2, k3⟩
  have hm := h4.step k3 h3
  exact ⟨hr, G', bx, w'.heap.size, k1, BoxAt.nil _ _ _, fun k hk => (k2 k hk).elim (h3 k) (fun a => .inr (Nat.le_trans h4.size a)), hm, k1.wi, hm.size, Nat.le_refl _⟩
theorem RB.elec (h : RB G0 W p A la lt [] w) {el' : EM} (m : Dr (w.put p.be el'.el.cells 155) w1) : RB G0 W p { A with el := el' } la lt [] w1 := by
  obtain ⟨G, bx, B, h1, h2, h3, h4, h5, h6, h7⟩ := h
  obtain ⟨k1, k2⟩ := h1.elec m
  exact ⟨G, bx, B, k1, BoxAt.nil _ _ _, h3, h4.step k2 h3, h5, h6, Nat.le_trans h7 k2.size⟩
theorem RB.own (h : RB G0 W p A la lt ms w) (c : Int) (nx mt : Nat → Int) (la' lt' : Int) : ∃ bx, w.At p.b (RSy p A la lt bx ms.length).cells 162 ∧
    RB G0 W p { A with commit := c, next := nx, mtch := mt } la' lt' ms (w.put p.b (RSy p { A with commit := c, next := nx, mtch := mt } la' lt' bx ms.length).cells 162) := by
  obtain ⟨G, bx, B, h1, h2, h3, h4, h5, h6, h7⟩ := h
  refine ⟨bx, h1.hb, G, bx, B, h1.own c nx mt la' lt' bx ms.length, h2.frame (F := fun x => x = p.b) ((ModP.refl (fun x => x = p.b) w).put (.inl rfl) _ _) ?_, h3, h4.put (h3 _ h1.fb) _ _, h5, h6, by rw [World.size_put]; exact h7⟩
  intro k a _ e
  subst e
  have := h5 _ h1.fb
  omega
end
/-- the caches are what the log says -/
def RS (G0 : Nat → Prop) (W : World) (p : SyP) (A : AS) (ms : List Msg) (w : World) : Prop := RB G0 W p A A.lg.now.last (A.lg.now.termAt A.lg.now.last).1 ms w
end Go.Tw
namespace Go.Proofs.Qxb6500990aGreat
open Go Go.RowKit Go.Tw
section
variable {W : World} {F : Nat → Prop} {bl bd : Nat} {A : AL} {N r : Nat}
theorem k66 (h : RLK W F bl bd A N r) : Calls Tryz.prog 66 #[vp bl] W fun x w' => x = .returned (vi A.now.term) ∧ w' = W := by
  obtain ⟨Fd, bt, L, D, h⟩ := h; rw [← h.lr.t]; exact c66 h.hl
theorem k67 (h : RLK W F bl bd A N r) : Calls Tryz.prog 67 #[vp bl] W fun x w' => x = .returned (vi A.now.vote) ∧ w' = W := by
  obtain ⟨Fd, bt, L, D, h⟩ := h; rw [← h.lr.v]; exact c67 h.hl
theorem k69 (h : RLK W F bl bd A N r) : Calls Tryz.prog 69 #[vp bl] W fun x w' => x = .returned (vi A.now.base) ∧ w' = W := by
  obtain ⟨Fd, bt, L, D, h⟩ := h; rw [← h.lr.b]; exact c69 h.hl
theorem k84 (h : RLK W F bl bd A N r) : Calls Tryz.prog 84 #[vp bl] W fun x w' => x = .returned (vi A.now.baseTerm) ∧ w' = W := by
  obtain ⟨Fd, bt, L, D, h⟩ := h; rw [← h.lr.bt]; exact c84 h.hl
theorem k85 (h : RLK W F bl bd A N r) : Calls Tryz.prog 85 #[vp bl] W fun x w' => x = .returned (vs A.now.snap) ∧ w' = W := by
  obtain ⟨Fd, bt, L, D, h⟩ := h; rw [← h.lr.sn]; exact c85 h.hl
theorem k123 (h : RLK W F bl bd A N r) : Calls Tryz.prog 123 #[vp bl] W fun x w' => x = .returned (vi A.now.last) ∧ w' = W := by
  obtain ⟨Fd, bt, L, D, h⟩ := h; rw [← h.lr.l]; exact c123 h.hl
theorem k124 (h : RLK W F bl bd A N r) (i : Int) : Calls Tryz.prog 124 #[vp bl, vi i] W fun x w' => x = .returned (.tuple #[vi (A.now.termAt i).1, vi (A.now.termAt i).2]) ∧ ModP (fun _ => False) W w' := by
  obtain ⟨Fd, bt, L, D, h⟩ := h; exact c124 h.hl h.lr h.tie.g.ok i
theorem k177 (h : RLK W F bl bd A N r) (i : Int) : Calls Tryz.prog 177 #[vp bl, vi i] W fun x w' => x = .returned (.tuple #[.agg (A.now.at_ i).1.cells, vi (A.now.at_ i).2]) ∧ ModP (fun _ => False) W w' := by
  obtain ⟨Fd, bt, L, D, h⟩ := h; exact c177 h.hl h.lr h.tie.g.ok i
end
end Go.Proofs.Qxb6500990aGreat
