/- more on frames -/
import Derived.Test.Qxb6500990aGreatRowA
set_option linter.unusedVariables false
set_option linter.unusedSimpArgs false
namespace Go.Tw
open Go Go.Proofs Go.Proofs.Qxb6500990aGreat
theorem _root_.Go.ModP.unput {F : Nat → Prop} {w y : World} {b : Nat} {c : Array Value} {T : TypeId} (h : ModP F w (y.put b c T)) (hb : F b ∨ w.heap.size ≤ b) : ModP F w y :=
  ⟨h.os, h.tape, h.output, by have := h.size; rwa [World.size_put] at this, fun k hk hn => by
    have h1 := h.block k hk hn
    have hne : b ≠ k := fun e => hb.elim (fun f => hn (e ▸ f)) (fun f => by omega)
    simpa only [World.put, Array.getElem?_setIfInBounds_ne hne] using h1⟩
theorem ca_of2 {w : World} {b b' : Nat} {c c' : Array Value} {T T' : TypeId} (h : w.At b c T) (h' : w.At b' c' T') : ∃ u : World, w = u.force2 b c T b' c' T' := ⟨w, (World.At.force2 h h').symm⟩
theorem open3 {w : World} {b1 b2 b3 : Nat} {c1 c2 c3 : Array Value} {T1 T2 T3 : TypeId} (h1 : w.At b1 c1 T1) (h2 : w.At b2 c2 T2) (h3 : w.At b3 c3 T3) (n12 : b1 ≠ b2) (n13 : b1 ≠ b3) (n23 : b2 ≠ b3) :
    ∃ u : World, w = ((u.put b1 c1 T1).put b2 c2 T2).put b3 c3 T3 ∧ u.inB b1 ∧ u.inB b2 ∧ u.inB b3 := by
  obtain ⟨u, rfl, i3⟩ := h3.door
  rw [World.At_put_ne' n13] at h1
  rw [World.At_put_ne' n23] at h2
  obtain ⟨v, rfl, i1, i2⟩ := open2 h1 h2 n12
  exact ⟨v, rfl, i1, i2, World.inB_put.1 (World.inB_put.1 i3)⟩
end Go.Tw
