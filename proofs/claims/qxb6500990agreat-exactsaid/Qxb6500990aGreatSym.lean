/- the protocol core as it is meant; package syncm: what lies where -/
import Derived.Test.Qxb6500990aGreatOwn2
import Derived.Test.Qxb6500990aGreatLgm5
import Derived.Test.Qxb6500990aGreatElectM2
set_option linter.unusedVariables false
set_option linter.unusedSimpArgs false
namespace Go.Tw
open Go Go.Proofs Go.Proofs.Qxb6500990aGreat Go.RowKit
structure AS where
  lg : AL
  el : EM
  commit : Int
  next : Nat → Int
  mtch : Nat → Int
def Grows (G : Nat → Prop) (w : World) (G' : Nat → Prop) : Prop := ∀ k, G' k → G k ∨ w.heap.size ≤ k
theorem LMK.within {w : World} {F : Nat → Prop} {b : Nat} {a : AL} (h : LMK w F b a) : LMK w (fun k => F k ∧ k < w.heap.size) b a := by
  obtain ⟨bs, bm, hv, bks, h⟩ := h
  exact ⟨bs, bm, hv, bks, h.hb, h.hs, h.hm, h.hr, fun j g hg => ⟨(h.hh j g hg).1, ⟨(h.hh j g hg).2.1, (h.hh j g hg).1.inB⟩, (h.hh j g hg).2.2⟩, ⟨h.fb, h.hb.inB⟩, ⟨h.fs, h.hs.inB⟩, ⟨h.fm, h.hm.inB⟩, h.nm, fun g hg => ⟨h.fv g hg, (ownsRow_block h.hr hg).1⟩⟩
def SyR (bl be : Nat) (A : AS) : SyncM := ⟨vp bl, vp be, A.commit, A.next, A.mtch⟩
structure SMp (w : World) (G : Nat → Prop) (b bl be : Nat) (A : AS) : Prop where
  hb : w.At b (SyR bl be A).cells 179
  he : w.At be A.el.cells 218
  hl : ∃ G1, LMK w G1 bl A.lg ∧ (∀ k, G1 k → G k) ∧ ¬ G1 b ∧ ¬ G1 be
  fb : G b
  fe : G be
  wi : Within G w
section
variable {w w1 W : World} {F G G0 : Nat → Prop} {b bl be : Nat} {A : AS}
theorem SMp.frame (h : SMp w G b bl be A) (m : ModP F w w1) (hG : Apart G F) : SMp w1 G b bl be A := by
  obtain ⟨G1, h1, h2, h3, h4⟩ := h.hl
  exact ⟨m.at h.hb (fun x => hG _ h.fb x), m.at h.he (fun x => hG _ h.fe x), ⟨G1, h1.frame m (fun k a b => hG k (h2 k a) b), h2, h3, h4⟩, h.fb, h.fe, h.wi.mono m.size⟩
theorem SMp.log (h : SMp w G b bl be A) {f : Nat} {args : Array Value} {R : Ending → Prop} {lg' : AL}
    (hc : ∀ G1, LMK w G1 bl A.lg → Calls Tryz.prog f args w fun r w' => R r ∧ LMK w' (grow G1 w) bl lg' ∧ ModP G1 w w') :
    Calls Tryz.prog f args w fun r w' => R r ∧ ∃ G', SMp w' G' b bl be { A with lg := lg' } ∧ Grows G w G' ∧ ModP G w w' := by
  obtain ⟨G1, h1, h2, h3, h4⟩ := h.hl
  refine (hc G1 h1).mono ?_
  rintro r w' ⟨hr, k1, k2⟩
  have lb := h.hb.inB
  have le := h.he.inB
  unfold World.inB at lb le
  refine ⟨hr, fun k => (G k ∨ w.heap.size ≤ k) ∧ k < w'.heap.size, ⟨k2.at h.hb h3, k2.at h.he h4, ⟨_, k1.within, ?_, ?_, ?_⟩, ⟨.inl h.fb, ?_⟩, ⟨.inl h.fe, ?_⟩, fun k hk => hk.2⟩, fun k hk => hk.1, k2.mono h2⟩
  · rintro k ⟨a | a, c⟩
    · exact ⟨.inl (h2 k a), c⟩
    · exact ⟨.inr a, c⟩
  · rintro ⟨a | a, _⟩
    · exact h3 a
    · omega
  · rintro ⟨a | a, _⟩
    · exact h4 a
    · omega
  · exact Nat.lt_of_lt_of_le lb k2.size
  · exact Nat.lt_of_lt_of_le le k2.size
theorem SMp.elec (h : SMp w G b bl be A) {el' : EM} (m : Dr (w.put be el'.cells 218) w1) : SMp w1 G b bl be { A with el := el' } ∧ ModP G w w1 := by
  obtain ⟨n, rfl⟩ := m
  obtain ⟨G1, h1, h2, h3, h4⟩ := h.hl
  have ne := At.neT h.hb h.he (by decide)
  have mp : ModP (fun x => x = be) w ((w.put be el'.cells 218).drewN n) := (by repeat (first | assumption | exact ModP.refl _ _ | refine ModP.fromPut ?_ (by assumption) | apply ModP.alloc | apply ModP.drew | apply ModP.drewN | refine ModP.put ?_ (by first | (left; assumption) | (left; rfl) | (right; simp only [World.inB, World.size_put] at *; omega)) _ _))
  refine ⟨⟨mp.at h.hb ne, (World.At_drewN _).2 (World.At_put_same h.he.inB), ⟨G1, h1.frame mp (fun k a e => h4 (e ▸ a)), h2, h3, h4⟩, h.fb, h.fe, h.wi.mono mp.size⟩, mp.mono (fun k e => e ▸ h.fe)⟩
theorem SMp.own (h : SMp w G b bl be A) (c : Int) (n m : Nat → Int) : SMp (w.put b (SyR bl be { A with commit := c, next := n, mtch := m }).cells 179) G b bl be { A with commit := c, next := n, mtch := m } := by
  obtain ⟨G1, h1, h2, h3, h4⟩ := h.hl
  have ne := At.neT h.hb h.he (by decide)
  have mp : ModP (fun x => x = b) w (w.put b (SyR bl be { A with commit := c, next := n, mtch := m }).cells 179) := (by repeat (first | assumption | exact ModP.refl _ _ | refine ModP.fromPut ?_ (by assumption) | apply ModP.alloc | apply ModP.drew | apply ModP.drewN | refine ModP.put ?_ (by first | (left; assumption) | (left; rfl) | (right; simp only [World.inB, World.size_put] at *; omega)) _ _))
  exact ⟨World.At_put_same h.hb.inB, mp.at h.he (Ne.symm ne), ⟨G1, h1.frame mp (fun k a e => h3 (e ▸ a)), h2, h3, h4⟩, h.fb, h.fe, h.wi.mono mp.size⟩
/-- behind some steps from W on: the core A lies at b, all of it in G0 or newer than W -/
def SB (G0 : Nat → Prop) (W : World) (b bl be : Nat) (A : AS) (w : World) : Prop := ∃ G, SMp w G b bl be A ∧ Grows G0 W G ∧ ModP G0 W w
theorem SB.start (h : SMp W G b bl be A) : SB G W b bl be A W := ⟨G, h, fun _ h => .inl h, ModP.refl _ _⟩
theorem SB.hb (h : SB G0 W b bl be A w) : w.At b (SyR bl be A).cells 179 := by obtain ⟨G, h, _⟩ := h; exact h.hb
theorem SB.he (h : SB G0 W b bl be A w) : w.At be A.el.cells 218 := by obtain ⟨G, h, _⟩ := h; exact h.he
theorem SB.lk (h : SB G0 W b bl be A w) : ∃ G1, LMK w G1 bl A.lg := by obtain ⟨G, h, _⟩ := h; obtain ⟨G1, h1, _⟩ := h.hl; exact ⟨G1, h1⟩
theorem SB.mod (h : SB G0 W b bl be A w) : ModP G0 W w := by obtain ⟨G, _, _, h⟩ := h; exact h
theorem SB.fr (h : SB G0 W b bl be A w) (m : ModP (fun _ => False) w w1) : SB G0 W b bl be A w1 := by
  obtain ⟨G, h1, h2, h3⟩ := h
  exact ⟨G, h1.frame m (fun _ _ f => f), h2, h3.trans (m.mono fun _ f => f.elim)⟩
theorem SB.log (h : SB G0 W b bl be A w) {f : Nat} {args : Array Value} {R : Ending → Prop} {lg' : AL}
    (hc : ∀ G1, LMK w G1 bl A.lg → Calls Tryz.prog f args w fun r w' => R r ∧ LMK w' (grow G1 w) bl lg' ∧ ModP G1 w w') :
    Calls Tryz.prog f args w fun r w' => R r ∧ SB G0 W b bl be { A with lg := lg' } w' := by
  obtain ⟨G, h1, h2, h3⟩ := h
  refine (h1.log hc).mono ?_
  rintro r w' ⟨hr, G', k1, k2, k3⟩
  exact ⟨hr, G', k1, fun k hk => (k2 k hk).elim (h2 k) (fun a => .inr (Nat.le_trans h3.size a)), h3.step k3 h2⟩
theorem SB.elec (h : SB G0 W b bl be A w) {el' : EM} (m : Dr (w.put be el'.cells 218) w1) : SB G0 W b bl be { A with el := el' } w1 := by
  obtain ⟨G, h1, h2, h3⟩ := h
  obtain ⟨k1, k2⟩ := h1.elec m
  exact ⟨G, k1, h2, h3.step k2 h2⟩
theorem SB.own (h : SB G0 W b bl be A w) (c : Int) (n m : Nat → Int) : SB G0 W b bl be { A with commit := c, next := n, mtch := m } (w.put b (SyR bl be { A with commit := c, next := n, mtch := m }).cells 179) := by
  obtain ⟨G, h1, h2, h3⟩ := h
  exact ⟨G, h1.own c n m, h2, h3.put (h2 _ h1.fb) _ _⟩
end
/-- messages in a slice made since B -/
def msgsC (ps : List (Msg × Value)) : List Value := ps.flatMap fun p => (p.1.r p.2).cells.toList
def MsgsAt (B : Nat) (w : World) (v : Value) (ms : List Msg) : Prop := ∃ ps : List (Msg × Value), ps.map (·.1) = ms ∧ w.ownsRow B 159 10 v ps.length (msgsC ps) ∧ ∀ p ∈ ps, EntsAt B w p.2 p.1.ents
theorem MsgsAt.nil (B : Nat) (w : World) : MsgsAt B w (.slice none 0 0) [] := ⟨[], rfl, ownsRow_nil _ _ _ _, by simp⟩
theorem MsgsAt.frame {B : Nat} {w w1 : World} {v : Value} {ms : List Msg} {F : Nat → Prop} (h : MsgsAt B w v ms) (m : ModP F w w1) (hF : ∀ k, B ≤ k → ¬ F k) : MsgsAt B w1 v ms := by
  obtain ⟨ps, h1, h2, h3⟩ := h
  exact ⟨ps, h1, ownsRow_frame h2 m (fun g hg => hF g (ownsRow_block h2 hg).2), fun p hp => ownsRow_frame (h3 p hp) m (fun g hg => hF g (ownsRow_block (h3 p hp) hg).2)⟩
end Go.Tw
