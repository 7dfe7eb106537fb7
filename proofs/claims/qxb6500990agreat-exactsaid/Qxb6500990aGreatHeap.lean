/- The heap, block by block: 'put' (a block's whole content laid), 'At' (what a block holds), 'Mod' (all old blocks but those of S are as they were). -/
import Derived.Test.Qxb6500990aGreatProg
import Derived.WalkKit
import Derived.WalkSpells
import Derived.WalkLawsBesides
set_option linter.unusedVariables false
set_option linter.unusedSimpArgs false
namespace Go
open Go.RowKit

/-- block b is there -/
def World.inB (w : World) (b : Nat) : Prop := b < w.heap.size
/-- block b is made to hold the cells c -/
def World.put (w : World) (b : Nat) (c : Array Value) (T : TypeId) : World := { w with heap := w.heap.setIfInBounds b (.cells c T (0, 0)) }
/-- block b holds the cells c -/
def World.At (w : World) (b : Nat) (c : Array Value) (T : TypeId) : Prop := w.heap[b]? = some (.cells c T (0, 0))
/-- all old blocks but those of S are as they were -/
structure Mod (S : List Nat) (w w' : World) : Prop where
  os : w'.os = w.os
  tape : w'.tape = w.tape
  output : w'.output = w.output
  size : w.heap.size ≤ w'.heap.size
  block : ∀ k, k < w.heap.size → k ∉ S → w'.heap[k]? = w.heap[k]?

def upd {α : Type} (f : Nat → α) (i : Nat) (v : α) : Nat → α := fun j => if j = i then v else f j
theorem upd_same {α : Type} (f : Nat → α) (i : Nat) (v : α) : upd f i v i = v := by simp [upd]
theorem upd_ne {α : Type} (f : Nat → α) {i j : Nat} (v : α) (h : j ≠ i) : upd f i v j = f j := by simp [upd, h]

section
variable {w : World} {b b' o : Nat} {c c' : Array Value} {T T' : TypeId} {v : Value}
theorem World.inB_put : (w.put b c T).inB b' ↔ w.inB b' := by simp [World.inB, World.put]
theorem World.inB_alloc (ob : Obj) (h : w.inB b) : (w.alloc ob).inB b := by
  simp only [World.inB, World.alloc] at *; simp; omega
theorem World.inB_drew : w.drew.inB b ↔ w.inB b := Iff.rfl
theorem World.inB_drewN (n : Nat) : (w.drewN n).inB b ↔ w.inB b := Iff.rfl
theorem World.size_put : (w.put b c T).heap.size = w.heap.size := by simp [World.put]
theorem World.cell?_put_same (h : w.inB b) : (w.put b c T).cell? ⟨b, o, none⟩ = c[o]? := by
  simp only [World.inB, World.put, World.cell?] at *
  simp [h]
theorem World.cell?_put_ne (h : b ≠ b') : (w.put b c T).cell? ⟨b', o, none⟩ = w.cell? ⟨b', o, none⟩ := by
  simp only [World.put, World.cell?] at *
  simp [h]
theorem World.cell?_put_ne' (h : b' ≠ b) : (w.put b c T).cell? ⟨b', o, none⟩ = w.cell? ⟨b', o, none⟩ := World.cell?_put_ne (Ne.symm h)
theorem World.frozen?_put_same (h : w.inB b) : (w.put b c T).frozen? ⟨b, o, none⟩ = false := by
  simp only [World.inB, World.put, World.frozen?] at *
  simp [h]
theorem World.frozen?_put_ne (h : b ≠ b') : (w.put b c T).frozen? ⟨b', o, none⟩ = w.frozen? ⟨b', o, none⟩ := by
  simp only [World.put, World.frozen?] at *
  simp [h]
theorem World.frozen?_put_ne' (h : b' ≠ b) : (w.put b c T).frozen? ⟨b', o, none⟩ = w.frozen? ⟨b', o, none⟩ := World.frozen?_put_ne (Ne.symm h)
theorem setIfInBounds_modify_same {α : Type} (xs : Array α) (f : α → α) (x : α) : (xs.setIfInBounds b x).modify b f = xs.setIfInBounds b (f x) := by
  apply Array.ext'
  apply List.ext_getElem?
  intro i
  simp only [Array.getElem?_toList, Array.getElem?_modify, Array.getElem?_setIfInBounds]
  by_cases h1 : b = i
  · subst h1; by_cases h2 : b < xs.size <;> simp [h2]
  · simp [h1]
theorem setIfInBounds_modify_ne {α : Type} (xs : Array α) (f : α → α) (x : α) (h : b ≠ b') : (xs.setIfInBounds b x).modify b' f = (xs.modify b' f).setIfInBounds b x := by
  apply Array.ext'
  apply List.ext_getElem?
  intro i
  simp only [Array.getElem?_toList, Array.getElem?_modify, Array.getElem?_setIfInBounds]
  by_cases h1 : b' = i
  · subst h1; simp [h]
  · simp [h1]
theorem World.setCell_put_same : (w.put b c T).setCell ⟨b, o, none⟩ v = w.put b (c.setIfInBounds o v) T := by
  simp only [World.put, World.setCell]
  rw [setIfInBounds_modify_same]
  simp
theorem World.setCell_put_ne (h : b ≠ b') : (w.put b c T).setCell ⟨b', o, none⟩ v = (w.setCell ⟨b', o, none⟩ v).put b c T := by
  simp only [World.put, World.setCell]
  rw [setIfInBounds_modify_ne _ _ _ h]
theorem World.setCell_put_ne' (h : b' ≠ b) : (w.put b c T).setCell ⟨b', o, none⟩ v = (w.setCell ⟨b', o, none⟩ v).put b c T := World.setCell_put_ne (Ne.symm h)
theorem World.put_drew : w.drew.put b c T = (w.put b c T).drew := rfl
theorem World.put_drewN (n : Nat) : (w.drewN n).put b c T = (w.put b c T).drewN n := rfl
theorem World.q_setCell_drew (a : Addr) : w.drew.setCell a v = (w.setCell a v).drew := rfl
theorem World.q_setCell_drewN (a : Addr) (n : Nat) : (w.drewN n).setCell a v = (w.setCell a v).drewN n := rfl
theorem World.q_alloc_drew (ob : Obj) : w.drew.alloc ob = (w.alloc ob).drew := rfl
theorem World.q_alloc_drewN (ob : Obj) (n : Nat) : (w.drewN n).alloc ob = (w.alloc ob).drewN n := rfl
theorem World.inB_new (ob : Obj) (h : b = w.heap.size) : (w.alloc ob).inB b := by
  subst h; simp only [World.inB, World.alloc]; simp
theorem World.inB_setCell (a : Addr) : (w.setCell a v).inB b ↔ w.inB b := by simp [World.inB]
theorem World.q_cell?_alloc_old (ob : Obj) (h : w.inB b) : (w.alloc ob).cell? ⟨b, o, none⟩ = w.cell? ⟨b, o, none⟩ := by
  unfold World.inB at h
  simp only [World.cell?, World.alloc, Array.getElem?_push, Nat.ne_of_lt h, if_false]
theorem World.q_frozen?_alloc_old (ob : Obj) (h : w.inB b) : (w.alloc ob).frozen? ⟨b, o, none⟩ = w.frozen? ⟨b, o, none⟩ := by
  unfold World.inB at h
  simp only [World.frozen?, World.alloc, Array.getElem?_push, Nat.ne_of_lt h, if_false]
theorem World.cell?_alloc_new' (h : b = w.heap.size) (f : Nat × Nat) : (w.alloc (.cells c T f)).cell? ⟨b, o, none⟩ = c[o]? := by
  subst h
  unfold World.cell? World.alloc; simp
theorem World.frozen?_alloc_new' (h : b = w.heap.size) : (w.alloc (.cells c T (0, 0))).frozen? ⟨b, o, none⟩ = false := by
  subst h
  unfold World.frozen? World.alloc; simp
theorem push_modify_old {α : Type} (xs : Array α) (f : α → α) (x : α) (h : b < xs.size) : (xs.push x).modify b f = (xs.modify b f).push x := by
  apply Array.ext'
  apply List.ext_getElem?
  intro i
  simp only [Array.getElem?_toList, Array.getElem?_modify, Array.getElem?_push, Array.size_modify]
  by_cases h1 : b = i
  · subst h1; simp [Nat.ne_of_lt h]
  · simp [h1]
theorem push_modify_new {α : Type} (xs : Array α) (f : α → α) (x : α) : (xs.push x).modify xs.size f = xs.push (f x) := by
  apply Array.ext'
  apply List.ext_getElem?
  intro i
  simp only [Array.getElem?_toList, Array.getElem?_modify, Array.getElem?_push]
  by_cases h1 : i = xs.size
  · subst h1; simp
  · simp [h1, Ne.symm h1]
theorem World.q_setCell_alloc_old (ob : Obj) (h : w.inB b) : (w.alloc ob).setCell ⟨b, o, none⟩ v = (w.setCell ⟨b, o, none⟩ v).alloc ob := by
  unfold World.inB at h
  simp only [World.setCell, World.alloc]
  rw [push_modify_old _ _ _ h]
theorem World.q_setCell_alloc_new (h : b = w.heap.size) (f : Nat × Nat) : (w.alloc (.cells c T f)).setCell ⟨b, o, none⟩ v = w.alloc (.cells (c.setIfInBounds o v) T f) := by
  subst h
  simp only [World.setCell, World.alloc]
  rw [push_modify_new]
  simp
theorem World.q_put_alloc_old (ob : Obj) (h : w.inB b) : (w.alloc ob).put b c T = (w.put b c T).alloc ob := by
  unfold World.inB at h
  simp only [World.put, World.alloc]
  congr 1
  apply Array.ext'
  apply List.ext_getElem?
  intro i
  simp only [Array.getElem?_toList, Array.getElem?_setIfInBounds, Array.getElem?_push, Array.size_push, Array.size_setIfInBounds]
  by_cases h1 : i = w.heap.size
  · subst h1; simp [Nat.ne_of_lt h]
  · by_cases h2 : b = i
    · subst h2; simp [h, h1]; omega
    · simp [h1, h2]
theorem World.put_put_same : (w.put b c T).put b c' T' = w.put b c' T' := by simp [World.put]
theorem World.put_put_2 {b2 : Nat} {c2 : Array Value} {T2 : TypeId} (h : b ≠ b2) : ((w.put b c T).put b2 c2 T2).put b c' T' = (w.put b c' T').put b2 c2 T2 := by
  simp only [World.put]
  rw [Array.setIfInBounds_comm _ _ (Ne.symm h)]
  simp
theorem World.put_comm (h : b ≠ b') : (w.put b c T).put b' c' T' = (w.put b' c' T').put b c T := by
  simp only [World.put]
  rw [Array.setIfInBounds_comm _ _ h]

theorem World.At.inB (h : w.At b c T) : w.inB b := by
  unfold World.At at h
  exact (Array.getElem?_eq_some_iff.1 h).1
theorem World.At.eq_put (h : w.At b c T) : w.put b c T = w := by
  unfold World.At at h
  obtain ⟨h1, h2⟩ := Array.getElem?_eq_some_iff.1 h
  unfold World.put
  have : w.heap.setIfInBounds b (.cells c T (0, 0)) = w.heap := by
    apply Array.ext'
    apply List.ext_getElem?
    intro i
    simp only [Array.getElem?_toList, Array.getElem?_setIfInBounds]
    by_cases hi : b = i
    · subst hi; simp [h1, h2]
    · simp [hi]
  rw [this]
/-- the door into a walk -/
theorem World.At.door (h : w.At b c T) : ∃ w0 : World, w = w0.put b c T ∧ w0.inB b := ⟨w, h.eq_put.symm, h.inB⟩
theorem World.At_put_same (h : w.inB b) : (w.put b c T).At b c T := by
  simp only [World.inB, World.At, World.put] at *
  simp [h]
theorem World.At_put_ne (h : b ≠ b') : (w.put b c T).At b' c' T' ↔ w.At b' c' T' := by
  simp only [World.At, World.put]
  simp [h]
theorem World.At_put_ne' (h : b' ≠ b) : (w.put b c T).At b' c' T' ↔ w.At b' c' T' := World.At_put_ne (Ne.symm h)
theorem World.At_drew : w.drew.At b c T ↔ w.At b c T := Iff.rfl
theorem World.At_drewN (n : Nat) : (w.drewN n).At b c T ↔ w.At b c T := Iff.rfl
theorem World.At.alloc (h : w.At b c T) (ob : Obj) : (w.alloc ob).At b c T := by
  have := h.inB
  simp only [World.At, World.alloc, World.inB] at *
  rw [Array.getElem?_push]
  simp [h, Nat.ne_of_lt this]
theorem World.At_alloc_new : (w.alloc (.cells c T (0, 0))).At w.heap.size c T := by
  unfold World.At World.alloc; simp
/-- a block that is laid anew just behind the old ones -/
theorem World.alloc_put (h : b = w.heap.size) (c0 : Array Value) (T0 : TypeId) : (w.alloc (.cells c0 T0 (0, 0))).put b c T = w.alloc (.cells c T (0, 0)) := by
  subst h
  simp only [World.put, World.alloc]
  congr 1
  apply Array.ext'
  apply List.ext_getElem?
  intro i
  simp only [Array.getElem?_toList, Array.getElem?_setIfInBounds, Array.getElem?_push, Array.size_push]
  by_cases hi : i = w.heap.size
  · subst hi; simp
  · have : w.heap.size ≠ i := Ne.symm hi
    simp [this, hi]
theorem World.At.cell (h : w.At b c T) (o : Nat) : w.cell? ⟨b, o, none⟩ = c[o]? := by
  unfold World.At at h
  simp [World.cell?, h]
theorem World.At.frozen (h : w.At b c T) (o : Nat) : w.frozen? ⟨b, o, none⟩ = false := by
  unfold World.At at h
  simp [World.frozen?, h]
theorem World.At.inj (h : w.At b c T) (h' : w.At b c' T') : c = c' := by
  unfold World.At at h h'
  rw [h] at h'
  cases h'; rfl
end

section
variable {S : List Nat} {w w1 w2 : World} {b : Nat} {c : Array Value} {T : TypeId}
theorem Mod.refl (S : List Nat) (w : World) : Mod S w w := ⟨rfl, rfl, rfl, Nat.le_refl _, fun _ _ _ => rfl⟩
theorem Mod.trans (h1 : Mod S w w1) (h2 : Mod S w1 w2) : Mod S w w2 :=
  ⟨h2.os.trans h1.os, h2.tape.trans h1.tape, h2.output.trans h1.output, Nat.le_trans h1.size h2.size,
   fun k hk hS => (h2.block k (Nat.lt_of_lt_of_le hk h1.size) hS).trans (h1.block k hk hS)⟩
theorem Mod.wide {S' : List Nat} (h : Mod S w w1) (hs : ∀ x ∈ S, x ∈ S') : Mod S' w w1 :=
  ⟨h.os, h.tape, h.output, h.size, fun k hk hS => h.block k hk (fun hm => hS (hs k hm))⟩
/-- new blocks may be turned at will -/
theorem Mod.wideNew {S' : List Nat} (h0 : Mod S w w1) (h : Mod S' w1 w2) (hs : ∀ x ∈ S', x ∈ S ∨ w.heap.size ≤ x) : Mod S w w2 :=
  ⟨h.os.trans h0.os, h.tape.trans h0.tape, h.output.trans h0.output, Nat.le_trans h0.size h.size, fun k hk hS =>
    (h.block k (Nat.lt_of_lt_of_le hk h0.size) (fun hm => (hs k hm).elim hS (fun h' => absurd hk (Nat.not_lt.2 h')))).trans (h0.block k hk hS)⟩
theorem Mod.put (h : Mod S w w1) (hb : b ∈ S) (c : Array Value) (T : TypeId) : Mod S w (w1.put b c T) :=
  ⟨h.os, h.tape, h.output, by rw [World.size_put]; exact h.size, fun k hk hS => by
    have hne : b ≠ k := fun e => hS (e ▸ hb)
    simp only [World.put, Array.getElem?_setIfInBounds_ne hne]
    exact h.block k hk hS⟩
theorem Mod.putNew (h : Mod S w w1) (hb : w.heap.size ≤ b) (c : Array Value) (T : TypeId) : Mod S w (w1.put b c T) :=
  ⟨h.os, h.tape, h.output, by rw [World.size_put]; exact h.size, fun k hk hS => by
    have hne : b ≠ k := fun e => by omega
    simp only [World.put, Array.getElem?_setIfInBounds_ne hne]
    exact h.block k hk hS⟩
theorem Mod.alloc (h : Mod S w w1) (ob : Obj) : Mod S w (w1.alloc ob) :=
  ⟨h.os, h.tape, h.output, by have := h.size; unfold World.alloc; simp; omega, fun k hk hS => by
    have := h.size
    simp only [World.alloc, Array.getElem?_push]
    rw [if_neg (by omega)]
    exact h.block k hk hS⟩
theorem Mod.drew (h : Mod S w w1) : Mod S w w1.drew := ⟨h.os, h.tape, h.output, h.size, h.block⟩
theorem Mod.drewN (h : Mod S w w1) (n : Nat) : Mod S w (w1.drewN n) := ⟨h.os, h.tape, h.output, h.size, h.block⟩
theorem Mod.setCell (h : Mod S w w1) (a : Addr) (hb : a.block ∈ S) (v : Value) : Mod S w (w1.setCell a v) :=
  ⟨h.os, h.tape, h.output, by simp; exact h.size, fun k hk hS => by
    have hne : a.block ≠ k := fun e => hS (e ▸ hb)
    simp only [World.setCell, Array.getElem?_modify, hne, if_false]
    exact h.block k hk hS⟩
theorem Mod.setCellNew (h : Mod S w w1) (a : Addr) (hb : w.heap.size ≤ a.block) (v : Value) : Mod S w (w1.setCell a v) :=
  ⟨h.os, h.tape, h.output, by simp; exact h.size, fun k hk hS => by
    have hne : a.block ≠ k := fun e => by omega
    simp only [World.setCell, Array.getElem?_modify, hne, if_false]
    exact h.block k hk hS⟩
theorem Mod.at (h : Mod S w w1) (ha : w.At b c T) (hb : b ∉ S) : w1.At b c T := by
  have := h.block b ha.inB hb
  unfold World.At at *
  rw [this]; exact ha
theorem Mod.inB (h : Mod S w w1) (hb : w.inB b) : w1.inB b := Nat.lt_of_lt_of_le hb h.size
theorem Mod.below (h : Mod [] w w1) : Below w.heap.size w w1 := ⟨h.os, h.tape, h.output, h.size, fun k hk => h.block k hk (by simp)⟩
/-- the left world of a frame may be laid anew at blocks of S -/
theorem Mod.ofPut (h : Mod S (w.put b c T) w1) (hb : b ∈ S) : Mod S w w1 :=
  ((Mod.refl S w).put hb c T).trans h
end

/-- the same world but for draws -/
def Dr (w w' : World) : Prop := ∃ n, w' = w.drewN n
theorem Dr.refl (w : World) : Dr w w := ⟨0, rfl⟩
theorem Dr.drew {w w1 : World} (h : Dr w w1) : Dr w w1.drew := by
  obtain ⟨n, rfl⟩ := h
  exact ⟨n + 1, by simp [World.drewN, World.drew, Nat.add_assoc]⟩
theorem Dr.drewN {w w1 : World} (h : Dr w w1) (m : Nat) : Dr w (w1.drewN m) := by
  obtain ⟨n, rfl⟩ := h
  exact ⟨n + m, by simp [World.drewN, Nat.add_assoc]⟩
theorem Dr.trans {w w1 w2 : World} (h : Dr w w1) (h' : Dr w1 w2) : Dr w w2 := by
  obtain ⟨m, rfl⟩ := h'
  exact h.drewN m
theorem Dr.mod {w w1 : World} (h : Dr w w1) (S : List Nat) : Mod S w w1 := by
  obtain ⟨n, rfl⟩ := h
  exact (Mod.refl S w).drewN n
theorem Dr.at {w w1 : World} (h : Dr w w1) {b : Nat} {c : Array Value} {T : TypeId} (ha : w.At b c T) : w1.At b c T := by
  obtain ⟨n, rfl⟩ := h
  exact ha
end Go
