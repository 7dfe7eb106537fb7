/- worlds in put form, behind a call that turns no old block -/
import Derived.Test.Qxb6500990aGreatOwn2
set_option linter.unusedVariables false
set_option linter.unusedSimpArgs false
namespace Go
open Go.RowKit
section
variable {F : Nat → Prop} {W y w1 : World} {b b1 b2 b3 : Nat} {c c1 c2 c3 : Array Value} {T T1 T2 T3 : TypeId}
theorem ModP.put1 (m : ModP (fun _ => False) (y.put b1 c1 T1) w1) (i1 : y.inB b1) (my : ModP F W y) (f1 : F b1 ∨ W.heap.size ≤ b1) :
    ∃ y1, w1 = y1.put b1 c1 T1 ∧ y1.inB b1 ∧ ModP F W y1 := by
  have a1 := m.at (World.At_put_same i1) (fun f => f)
  exact ⟨w1, a1.eq_put.symm, a1.inB, (my.put f1 _ _).trans (m.mono fun _ f => f.elim)⟩
theorem ModP.put2 (m : ModP (fun _ => False) ((y.put b1 c1 T1).put b2 c2 T2) w1) (i1 : y.inB b1) (i2 : y.inB b2) (ne : b1 ≠ b2) (my : ModP F W y) (f1 : F b1 ∨ W.heap.size ≤ b1) (f2 : F b2 ∨ W.heap.size ≤ b2) :
    ∃ y1, w1 = (y1.put b1 c1 T1).put b2 c2 T2 ∧ y1.inB b1 ∧ y1.inB b2 ∧ ModP F W y1 := by
  have a1 := m.at ((World.At_put_ne (Ne.symm ne)).2 (World.At_put_same i1)) (fun f => f)
  have a2 := m.at (World.At_put_same (World.inB_put.2 i2)) (fun f => f)
  refine ⟨w1, ?_, a1.inB, a2.inB, ((my.put f1 _ _).put f2 _ _).trans (m.mono fun _ f => f.elim)⟩
  rw [a1.eq_put, a2.eq_put]
theorem ModP.put3 (m : ModP (fun _ => False) (((y.put b1 c1 T1).put b2 c2 T2).put b3 c3 T3) w1) (i1 : y.inB b1) (i2 : y.inB b2) (i3 : y.inB b3) (n12 : b1 ≠ b2) (n13 : b1 ≠ b3) (n23 : b2 ≠ b3) (my : ModP F W y) (f1 : F b1 ∨ W.heap.size ≤ b1) (f2 : F b2 ∨ W.heap.size ≤ b2) (f3 : F b3 ∨ W.heap.size ≤ b3) :
    ∃ y1, w1 = ((y1.put b1 c1 T1).put b2 c2 T2).put b3 c3 T3 ∧ y1.inB b1 ∧ y1.inB b2 ∧ y1.inB b3 ∧ ModP F W y1 := by
  have a1 := m.at ((World.At_put_ne (Ne.symm n13)).2 ((World.At_put_ne (Ne.symm n12)).2 (World.At_put_same i1))) (fun f => f)
  have a2 := m.at ((World.At_put_ne (Ne.symm n23)).2 (World.At_put_same (World.inB_put.2 i2))) (fun f => f)
  have a3 := m.at (World.At_put_same (World.inB_put.2 (World.inB_put.2 i3))) (fun f => f)
  refine ⟨w1, ?_, a1.inB, a2.inB, a3.inB, (((my.put f1 _ _).put f2 _ _).put f3 _ _).trans (m.mono fun _ f => f.elim)⟩
  rw [a1.eq_put, a2.eq_put, a3.eq_put]
theorem ModP.chg2 {c1' : Array Value} (m : ModP (fun x => x = b1) ((y.put b1 c1 T1).put b2 c2 T2) w1) (a1 : w1.At b1 c1' T1) (i2 : y.inB b2) (ne : b1 ≠ b2) (my : ModP F W y) (f1 : F b1 ∨ W.heap.size ≤ b1) (f2 : F b2 ∨ W.heap.size ≤ b2) :
    ∃ y1, w1 = (y1.put b1 c1' T1).put b2 c2 T2 ∧ y1.inB b1 ∧ y1.inB b2 ∧ ModP F W y1 := by
  have a2 := m.at (World.At_put_same (World.inB_put.2 i2)) (fun f => ne f.symm)
  refine ⟨w1, ?_, a1.inB, a2.inB, ((my.put f1 _ _).put f2 _ _).step m (fun k e => by subst e; exact f1)⟩
  rw [a1.eq_put, a2.eq_put]
theorem ModP.chg3 {c1' : Array Value} (m : ModP (fun x => x = b1) (((y.put b1 c1 T1).put b2 c2 T2).put b3 c3 T3) w1) (a1 : w1.At b1 c1' T1) (i2 : y.inB b2) (i3 : y.inB b3) (n12 : b1 ≠ b2) (n13 : b1 ≠ b3) (n23 : b2 ≠ b3) (my : ModP F W y) (f1 : F b1 ∨ W.heap.size ≤ b1) (f2 : F b2 ∨ W.heap.size ≤ b2) (f3 : F b3 ∨ W.heap.size ≤ b3) :
    ∃ y1, w1 = ((y1.put b1 c1' T1).put b2 c2 T2).put b3 c3 T3 ∧ y1.inB b1 ∧ y1.inB b2 ∧ y1.inB b3 ∧ ModP F W y1 := by
  have a2 := m.at ((World.At_put_ne (Ne.symm n23)).2 (World.At_put_same (World.inB_put.2 i2))) (fun f => n12 f.symm)
  have a3 := m.at (World.At_put_same (World.inB_put.2 (World.inB_put.2 i3))) (fun f => n13 f.symm)
  refine ⟨w1, ?_, a1.inB, a2.inB, a3.inB, (((my.put f1 _ _).put f2 _ _).put f3 _ _).step m (fun k e => by subst e; exact f1)⟩
  rw [a1.eq_put, a2.eq_put, a3.eq_put]
theorem ModP.undrew (m : ModP F W.drew w1) : ModP F W w1 := ⟨m.os, m.tape, m.output, m.size, m.block⟩
/-- a call behind two new blocks -/
theorem ModP.two (m : ModP (fun _ => False) ((W.alloc (.cells c2 T2)).alloc (.cells c3 T3)) w1) (h : W.At b1 c1 T1) :
    ∃ y1, w1 = ((y1.put b1 c1 T1).put W.heap.size c2 T2).put (W.heap.size + 1) c3 T3 ∧ y1.inB b1 ∧ y1.inB W.heap.size ∧ y1.inB (W.heap.size + 1) ∧ ModP (fun _ => False) W y1 := by
  have a1 := m.at ((h.alloc _).alloc _) (fun f => f)
  have a2 := m.at (World.At.alloc (World.At_alloc_new (c := c2) (T := T2)) _) (fun f => f)
  have a3 : w1.At (W.heap.size + 1) c3 T3 := m.at (by have := World.At_alloc_new (w := W.alloc (.cells c2 T2)) (c := c3) (T := T3); simpa using this) (fun f => f)
  refine ⟨w1, ?_, a1.inB, a2.inB, a3.inB, (((ModP.refl _ _).alloc _).alloc _).trans m⟩
  rw [a1.eq_put, a2.eq_put, a3.eq_put]
theorem ModP.two0 (h : W.At b1 c1 T1) (c2 c3 : Array Value) (T2 T3 : TypeId) :
    ∃ y1, ((W.alloc (.cells c2 T2)).alloc (.cells c3 T3)) = ((y1.put b1 c1 T1).put W.heap.size c2 T2).put (W.heap.size + 1) c3 T3 ∧ y1.inB b1 ∧ y1.inB W.heap.size ∧ y1.inB (W.heap.size + 1) ∧ ModP (fun _ => False) W y1 :=
  ModP.two (ModP.refl _ _) h
theorem ModP.twoC {c1' : Array Value} (m : ModP (fun x => x = b1) ((W.alloc (.cells c2 T2)).alloc (.cells c3 T3)) w1) (ib : W.inB b1) (a1 : w1.At b1 c1' T1) :
    ∃ y1, w1 = ((y1.put b1 c1' T1).put W.heap.size c2 T2).put (W.heap.size + 1) c3 T3 ∧ y1.inB b1 ∧ y1.inB W.heap.size ∧ y1.inB (W.heap.size + 1) ∧ ModP (fun x => x = b1) W y1 := by
  have hb : b1 < W.heap.size := ib
  have a2 := m.at (World.At.alloc (World.At_alloc_new (c := c2) (T := T2)) _) (by omega)
  have a3 : w1.At (W.heap.size + 1) c3 T3 := m.at (by have := World.At_alloc_new (w := W.alloc (.cells c2 T2)) (c := c3) (T := T3); simpa using this) (by omega)
  refine ⟨w1, ?_, a1.inB, a2.inB, a3.inB, (((ModP.refl _ _).alloc _).alloc _).trans m⟩
  rw [a1.eq_put, a2.eq_put, a3.eq_put]
end
end Go
