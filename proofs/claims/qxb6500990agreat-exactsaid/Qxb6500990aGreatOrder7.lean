/- the class of worlds in which three blocks hold what they hold -/
import Derived.Test.Qxb6500990aGreatOwn2
set_option linter.unusedVariables false
set_option linter.unusedSimpArgs false
namespace Go
theorem World.force_keep {u : World} {b b' : Nat} {c c' : Array Value} {T T' : TypeId} (hg : u.heap[b]? = some (.cells c T (0, 0))) (h : b ≠ b') : (u.force b' c' T').heap[b]? = some (.cells c T (0, 0)) := by
  have hlt : b < u.heap.size := (Array.getElem?_eq_some_iff.1 hg).1
  unfold World.force
  simp only []
  rw [Array.getElem?_setIfInBounds_ne (Ne.symm h), Array.getElem?_append_left hlt]
  exact hg
def World.force3 (w : World) (b1 : Nat) (c1 : Array Value) (T1 : TypeId) (b2 : Nat) (c2 : Array Value) (T2 : TypeId) (b3 : Nat) (c3 : Array Value) (T3 : TypeId) : World := ((w.force b1 c1 T1).force b2 c2 T2).force b3 c3 T3
section
variable {w : World} {b1 b2 b3 o : Nat} {c1 c2 c3 : Array Value} {T1 T2 T3 : TypeId}
theorem World.cell?_force3_3 : (w.force3 b1 c1 T1 b2 c2 T2 b3 c3 T3).cell? ⟨b3, o, none⟩ = c3[o]? := World.cell?_force_same
theorem World.cell?_force3_2 (h : b2 ≠ b3) : (w.force3 b1 c1 T1 b2 c2 T2 b3 c3 T3).cell? ⟨b2, o, none⟩ = c2[o]? := by
  have := World.force_keep (c' := c3) (T' := T3) (World.force_get (w := w.force b1 c1 T1) (b := b2) (c := c2) (T := T2)) h
  unfold World.force3 World.cell?
  rw [this]
  simp
theorem World.cell?_force3_1 (h : b1 ≠ b2) (h' : b1 ≠ b3) : (w.force3 b1 c1 T1 b2 c2 T2 b3 c3 T3).cell? ⟨b1, o, none⟩ = c1[o]? := by
  have := World.force_keep (c' := c3) (T' := T3) (World.force_keep (c' := c2) (T' := T2) (World.force_get (w := w) (b := b1) (c := c1) (T := T1)) h) h'
  unfold World.force3 World.cell?
  rw [this]
  simp
end
theorem ca_of3 {w : World} {b1 b2 b3 : Nat} {c1 c2 c3 : Array Value} {T1 T2 T3 : TypeId} (h1 : w.At b1 c1 T1) (h2 : w.At b2 c2 T2) (h3 : w.At b3 c3 T3) : ∃ u : World, w = u.force3 b1 c1 T1 b2 c2 T2 b3 c3 T3 := by
  refine ⟨w, ?_⟩
  unfold World.force3
  rw [h1.force, h2.force, h3.force]
end Go
