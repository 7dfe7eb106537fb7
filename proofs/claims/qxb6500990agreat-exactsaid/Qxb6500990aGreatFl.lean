/- rows of flat cells -/
import Derived.Test.Qxb6500990aGreatNod6
set_option linter.unusedVariables false
set_option linter.unusedSimpArgs false
namespace Go.Tw
open Go Go.Proofs Go.Proofs.Qxb6500990aGreat Go.RowKit
section
variable {α : Type} (f : α → List Value) (s : Nat)
theorem flat_len (hs : ∀ x, (f x).length = s) (l : List α) : (l.flatMap f).length = l.length * s := by
  induction l with
  | nil => simp
  | cons x l ih => rw [List.flatMap_cons, List.length_append, hs, ih, List.length_cons, Nat.succ_mul]; omega
theorem flat_get (hs : ∀ x, (f x).length = s) : ∀ (l : List α) (i : Nat) (x : α), l[i]? = some x → ∀ j, j < s → (l.flatMap f)[i * s + j]? = (f x)[j]?
  | [], i, x, h, _, _ => by simp at h
  | y :: l, 0, x, h, j, hj => by
    simp at h; subst h
    simp only [List.flatMap_cons, Nat.zero_mul, Nat.zero_add]
    rw [List.getElem?_append_left (by rw [hs]; exact hj)]
  | y :: l, i + 1, x, h, j, hj => by
    have h1 := flat_get hs l i x (by simpa using h) j hj
    have e : (i + 1) * s + j - s = i * s + j := by rw [Nat.succ_mul]; omega
    rw [List.flatMap_cons, List.getElem?_append_right (by rw [hs, Nat.succ_mul]; omega), hs, e]
    exact h1
theorem flat_set (hs : ∀ x, (f x).length = s) : ∀ (l : List α) (i : Nat) (x x' : α) (j : Nat) (v : Value), l[i]? = some x → j < s → f x' = (f x).set j v → (l.flatMap f).set (i * s + j) v = (l.set i x').flatMap f
  | [], i, x, _, _, _, h, _, _ => by simp at h
  | y :: l, 0, x, x', j, v, h, hj, he => by
    simp at h; subst h
    simp only [List.flatMap_cons, Nat.zero_mul, Nat.zero_add, List.set_cons_zero]
    rw [List.set_append_left _ _ (by rw [hs]; exact hj), he]
  | y :: l, i + 1, x, x', j, v, h, hj, he => by
    have h1 := flat_set hs l i x x' j v (by simpa using h) hj he
    have e : (i + 1) * s + j - s = i * s + j := by rw [Nat.succ_mul]; omega
    rw [List.flatMap_cons, List.set_append_right _ _ (by rw [hs, Nat.succ_mul]; omega), hs, e, h1, List.set_cons_succ, List.flatMap_cons]
end
/-- the row xs of m things can be read at v -/
def Rd (w : World) (v : Value) (m : Nat) (xs : List Value) : Prop := ∃ a c, v = .slice a m c ∧ (xs ≠ [] → ∃ g, a = some ⟨g, 0, none⟩ ∧ w.inB g ∧ ∀ k u, xs[k]? = some u → w.cell? ⟨g, k, none⟩ = some u)
theorem Rd.mod {w w1 : World} {v : Value} {m : Nat} {xs : List Value} {F : Nat → Prop} (h : Rd w v m xs) (e : ModP F w w1) (hF : ∀ g, v.ownBlock = some g → ¬ F g) : Rd w1 v m xs := by
  obtain ⟨a, c, h1, h2⟩ := h
  refine ⟨a, c, h1, fun hx => ?_⟩
  obtain ⟨g, g1, g2, g3⟩ := h2 hx
  have hg : ¬ F g := hF g (by rw [h1, g1]; rfl)
  exact ⟨g, g1, e.inB g2, fun k u hu => by rw [e.cell g2 hg]; exact g3 k u hu⟩
theorem Rd.of_at {w : World} {g T m c : Nat} {xs : List Value} (h : w.At g xs.toArray T) : Rd w (.slice (some ⟨g, 0, none⟩) m c) m xs :=
  ⟨_, _, rfl, fun _ => ⟨g, rfl, h.inB, fun k u hu => by rw [h.cell k]; simpa using hu⟩⟩
theorem Rd.of_row {w : World} {B e s n : Nat} {v : Value} {xs : List Value} (h : w.ownsRow B e s v n xs) : Rd w v n xs := by
  obtain ⟨ad, cap, hv, hc⟩ := ownsRow_form h
  refine ⟨ad, cap, hv, fun hx => ?_⟩
  obtain ⟨x, l, rfl⟩ := List.exists_cons_of_ne_nil hx
  obtain ⟨g, g1, g2, g3⟩ := hc 0 x rfl
  refine ⟨g, g1, g2, fun k u hu => ?_⟩
  obtain ⟨g', e1, -, e3⟩ := hc k u hu
  rw [g1] at e1
  injection e1 with e1; injection e1 with e1
  subst e1
  exact e3
theorem outsC_get {l : List OutM} {i : Nat} {x : OutM} (h : l[i]? = some x) : (outsC l)[i * 2]? = some (.int .i64 x.to) ∧ (outsC l)[i * 2 + 1]? = some (.string (ByteArray.mk x.raw.toArray)) := by
  have := flat_get (fun r : OutM => r.cells.toList) 2 (fun _ => rfl) l i x h
  exact ⟨this 0 (by omega), this 1 (by omega)⟩
theorem repsC_get {l : List Reply} {i : Nat} {x : Reply} (h : l[i]? = some x) : (repsC l)[i * 4]? = some (.int .i64 x.client) ∧ (repsC l)[i * 4 + 1]? = some (.int .i64 x.seq) ∧ (repsC l)[i * 4 + 2]? = some (.int .i64 x.ans.err) ∧ (repsC l)[i * 4 + 3]? = some (.string (ByteArray.mk x.ans.val.toArray)) := by
  have := flat_get (fun r : Reply => r.cells.toList) 4 (fun _ => rfl) l i x h
  exact ⟨this 0 (by omega), this 1 (by omega), this 2 (by omega), this 3 (by omega)⟩
end Go.Tw
