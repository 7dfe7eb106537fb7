/- package syncm: accept, as it is meant; the core beside blocks that are set aside -/
import Derived.Test.Qxb6500990aGreatSym8
set_option linter.unusedVariables false
set_option linter.unusedSimpArgs false
namespace Go.Tw
open Go Go.Proofs Go.Proofs.Qxb6500990aGreat Go.RowKit
/-- the follower's repair: entries es belong at i, i+1 ..; (log, what has matched) -/
def accF (commit : Int) : List Entry → Int → AL × Int → AL × Int
  | [], _, s => s
  | e :: es, i, (lg, m) =>
    if i ≤ lg.now.last ∧ (lg.now.termAt i).1 = e.term then accF commit es (i + 1) (lg, i)
    else if i ≤ lg.now.last ∧ i ≤ commit then (lg, m)
    else
      let lg1 := if i ≤ lg.now.last then (lg.trunc i).2 else lg
      if (lg1.append e).1 ≠ 0 then (lg1, m) else accF commit es (i + 1) ((lg1.append e).2, i)
def AS.acc (A : AS) (m : Msg) : AL × Int := accF A.commit m.ents (m.index + 1) (A.lg, m.index)
/-- ((ok, index), state) -/
def AS.accept (A : AS) (m : Msg) : (Bool × Int) × AS :=
  if m.index < A.lg.now.base then ((true, A.lg.now.base), A)
  else if A.lg.now.last < m.index then ((false, A.lg.now.last), A)
  else if (A.lg.now.termAt m.index).1 ≠ m.logTerm then ((false, if m.index = 0 then 0 else m.index - 1), A)
  else ((true, (A.acc m).2), { A with lg := (A.acc m).1, commit := max A.commit (min m.commit (A.acc m).2) })
/-- SB, and the blocks X are none of the core's -/
def SBx (G0 : Nat → Prop) (W : World) (X : Nat → Prop) (b bl be : Nat) (A : AS) (w : World) : Prop := ∃ G, SMp w G b bl be A ∧ Grows G0 W G ∧ ModP G0 W w ∧ (∀ k, X k → k < w.heap.size ∧ ¬ G k)
section
variable {w w1 W : World} {G0 X : Nat → Prop} {b bl be : Nat} {A : AS}
theorem SB.aside (h : SB G0 W b bl be A w) (ob : Obj) : SBx G0 W (fun k => k = w.heap.size) b bl be A (w.alloc ob) := by
  obtain ⟨G, h1, h2, h3⟩ := h
  have m : ModP (fun _ => False) w (w.alloc ob) := (ModP.refl _ _).alloc _
  refine ⟨G, h1.frame m (fun _ _ f => f), h2, h3.trans (m.mono fun _ f => f.elim), fun k hk => ⟨by subst hk; simp, fun g => ?_⟩⟩
  have := h1.wi _ g
  omega
theorem SBx.sb (h : SBx G0 W X b bl be A w) : SB G0 W b bl be A w := by obtain ⟨G, h1, h2, h3, _⟩ := h; exact ⟨G, h1, h2, h3⟩
theorem SBx.fr (h : SBx G0 W X b bl be A w) (m : ModP (fun _ => False) w w1) : SBx G0 W X b bl be A w1 := by
  obtain ⟨G, h1, h2, h3, h4⟩ := h
  exact ⟨G, h1.frame m (fun _ _ f => f), h2, h3.trans (m.mono fun _ f => f.elim), fun k hk => ⟨Nat.lt_of_lt_of_le (h4 k hk).1 m.size, (h4 k hk).2⟩⟩
theorem SBx.log (h : SBx G0 W X b bl be A w) {f : Nat} {args : Array Value} {R : Ending → Prop} {lg' : AL}
    (hc : ∀ G1, LMK w G1 bl A.lg → Calls Tryz.prog f args w fun r w' => R r ∧ LMK w' (grow G1 w) bl lg' ∧ ModP G1 w w') :
    Calls Tryz.prog f args w fun r w' => R r ∧ SBx G0 W X b bl be { A with lg := lg' } w' ∧ ∀ x c T, X x → w.At x c T → w'.At x c T := by
  obtain ⟨G, h1, h2, h3, h4⟩ := h
  refine (h1.log hc).mono ?_
  rintro r w' ⟨hr, G', k1, k2, k3⟩
  refine ⟨hr, ⟨G', k1, fun k hk => (k2 k hk).elim (h2 k) (fun a => .inr (Nat.le_trans h3.size a)), h3.step k3 h2, fun k hk => ⟨Nat.lt_of_lt_of_le (h4 k hk).1 k3.size, fun g => ?_⟩⟩, fun x c T hx ha => k3.at ha (h4 x hx).2⟩
  rcases k2 k g with a | a
  · exact (h4 k hk).2 a
  · have := (h4 k hk).1; omega
theorem SBx.elec (h : SBx G0 W X b bl be A w) {el' : EM} (m : Dr (w.put be el'.cells 218) w1) : SBx G0 W X b bl be { A with el := el' } w1 ∧ ∀ x c T, X x → w.At x c T → w1.At x c T := by
  obtain ⟨G, h1, h2, h3, h4⟩ := h
  obtain ⟨k1, k2⟩ := h1.elec m
  exact ⟨⟨G, k1, h2, h3.step k2 h2, fun k hk => ⟨Nat.lt_of_lt_of_le (h4 k hk).1 k2.size, (h4 k hk).2⟩⟩, fun x c T hx ha => k2.at ha (h4 x hx).2⟩
theorem SBx.own (h : SBx G0 W X b bl be A w) (c : Int) (n m : Nat → Int) : SBx G0 W X b bl be { A with commit := c, next := n, mtch := m } (w.put b (SyR bl be { A with commit := c, next := n, mtch := m }).cells 179) := by
  obtain ⟨G, h1, h2, h3, h4⟩ := h
  exact ⟨G, h1.own c n m, h2, h3.put (h2 _ h1.fb) _ _, fun k hk => ⟨by rw [World.size_put]; exact (h4 k hk).1, (h4 k hk).2⟩⟩
/-- a list of entries that is none of the core's stays -/
theorem SB.ents (h : SB G0 W b bl be A w) {v : Value} {es : List Entry} {B : Nat} (hv : EntsAt B W v es) (hn : ∀ g, v.ownBlock = some g → ¬ G0 g) : EntsAt B w v es := ownsRow_frame hv h.mod hn
end
/-- bounds through the repair -/
theorem accF_ok (commit : Int) : ∀ (es : List Entry) (i : Int) (s : AL × Int), s.1.now.Ok → (accF commit es i s).1.now.Ok
  | [], _, _, h => h
  | e :: es, i, (lg, m), h => by
    unfold accF
    have hl : (if i ≤ lg.now.last then (lg.trunc i).2 else lg).now.Ok := by
      split
      · exact AL.trunc_ok h i
      · exact h
    simp only []
    generalize (if i ≤ lg.now.last then (lg.trunc i).2 else lg) = lg1 at *
    split
    · exact accF_ok commit es _ (lg, i) h
    · split
      · exact h
      · split
        · exact hl
        · exact accF_ok commit es _ ((lg1.append e).2, i) (AL.append_ok hl e)
theorem accF_len (commit : Int) : ∀ (es : List Entry) (i : Int) (s : AL × Int), s.1.now.Ok → (accF commit es i s).1.hist.length ≤ s.1.hist.length + 7 * es.length
  | [], _, _, _ => by simp [accF]
  | e :: es, i, (lg, m), h => by
    unfold accF
    have hl : (if i ≤ lg.now.last then (lg.trunc i).2 else lg).now.Ok := by
      split
      · exact AL.trunc_ok h i
      · exact h
    have hn : (if i ≤ lg.now.last then (lg.trunc i).2 else lg).hist.length ≤ lg.hist.length + 6 := by
      split
      · exact AL.trunc_len h i
      · omega
    simp only []
    generalize (if i ≤ lg.now.last then (lg.trunc i).2 else lg) = lg1 at *
    split
    · have := accF_len commit es (i + 1) (lg, i) h; simp only [List.length_cons] at *; omega
    · split
      · simp
      · split
        · simp only [List.length_cons]; omega
        · have h1 := AL.append_len lg1 e
          have := accF_len commit es (i + 1) ((lg1.append e).2, i) (AL.append_ok hl e)
          simp only [List.length_cons] at *; omega
end Go.Tw
