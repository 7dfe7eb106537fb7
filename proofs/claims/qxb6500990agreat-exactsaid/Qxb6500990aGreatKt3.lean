/- the hash table of package kv: the live cells in ascending order (no Go) -/
import Derived.Test.Qxb6500990aGreatKt2
set_option linter.unusedVariables false
set_option linter.unusedSimpArgs false
namespace Go.Tw
open Go Go.Proofs Go.Proofs.Qxb6500990aGreat
def idxs (f : Nat → Cell) (i : Nat) : List Nat := (List.range i).filter (fun a => (f a).state == 1)
theorem lives_idxs (f : Nat → Cell) (i : Nat) : livesTo f i = (idxs f i).map f := by
  unfold livesTo idxs
  rw [List.filter_map]
  rfl
theorem idxs_live {f : Nat → Cell} {i : Nat} (h : (f i).state = 1) : idxs f (i + 1) = idxs f i ++ [i] := by
  unfold idxs; rw [List.range_succ, List.filter_append]; simp [h]
theorem idxs_dead {f : Nat → Cell} {i : Nat} (h : (f i).state ≠ 1) : idxs f (i + 1) = idxs f i := by
  unfold idxs; rw [List.range_succ, List.filter_append]; simp [h]
theorem idxs_sub {f : Nat → Cell} {i n : Nat} (h : i ≤ n) : (idxs f i).Sublist (idxs f n) := (List.range_sublist.2 h).filter _
theorem mem_idxs {f : Nat → Cell} {i a : Nat} : a ∈ idxs f i ↔ a < i ∧ (f a).state = 1 := by simp [idxs]
theorem Tab.keysne {f : Nat → Cell} {ps : List (Bs × Bs)} (h : Tab f ps) : (idxs f 8).Pairwise (fun a b => keyS (f a) ≠ keyS (f b)) := by
  have hp := h.perm
  rw [prs_lives, lives_idxs] at hp
  have := (hp.map (·.1)).nodup_iff.2 h.nd
  rw [List.map_map, List.map_map] at this
  exact List.pairwise_map.1 this
structure SortedTo (f : Nat → Cell) (i : Nat) (S : List Nat) : Prop where
  mem : S.Perm (idxs f i)
  asc : S.Pairwise (fun a b => Op.bytesLess (keyS (f a)) (keyS (f b)) = true)
theorem SortedTo.nil (f : Nat → Cell) : SortedTo f 0 [] := ⟨List.Perm.refl _, List.Pairwise.nil⟩
theorem SortedTo.dead {f : Nat → Cell} {i : Nat} {S : List Nat} (h : SortedTo f i S) (hs : (f i).state ≠ 1) : SortedTo f (i + 1) S :=
  ⟨by rw [idxs_dead hs]; exact h.mem, h.asc⟩
theorem SortedTo.in8 {f : Nat → Cell} {i : Nat} {S : List Nat} (h : SortedTo f i S) {m : Nat} (hm : m < S.length) : S[m] < i ∧ (f S[m]).state = 1 := mem_idxs.1 (h.mem.mem_iff.1 (List.getElem_mem hm))
theorem SortedTo.len {f : Nat → Cell} {i : Nat} {S : List Nat} (h : SortedTo f i S) (hi : i ≤ 8) {ps : List (Bs × Bs)} (T : Tab f ps) (n4 : ps.length ≤ 4) : S.length ≤ 4 := by
  rw [h.mem.length_eq]
  refine Nat.le_trans (idxs_sub hi).length_le ?_
  have := (T.lives n4).1.n4
  rwa [lives_idxs, List.length_map] at this
theorem SortedTo.len' {f : Nat → Cell} {i : Nat} {S : List Nat} (h : SortedTo f i S) (hi : i < 8) (hs : (f i).state = 1) {ps : List (Bs × Bs)} (T : Tab f ps) (n4 : ps.length ≤ 4) : S.length < 4 := by
  rw [h.mem.length_eq]
  have h1 := (idxs_sub (f := f) (show i + 1 ≤ 8 by omega)).length_le
  rw [idxs_live hs, List.length_append] at h1
  have := (T.lives n4).1.n4
  rw [lives_idxs, List.length_map] at this
  simp at h1
  omega
theorem SortedTo.live {f : Nat → Cell} {i : Nat} {S : List Nat} (h : SortedTo f i S) {ps : List (Bs × Bs)} (T : Tab f ps) (hi : i < 8) (hs : (f i).state = 1) {j : Nat} (hj : j ≤ S.length) (hup : ∀ m, j ≤ m → m < S.length → Op.bytesLess (keyS (f (S.getD m 0))) (keyS (f i)) = false) (hlo : 0 < j → Op.bytesLess (keyS (f (S.getD (j - 1) 0))) (keyS (f i)) = true) :
    SortedTo f (i + 1) (S.take j ++ i :: S.drop j) := by
  have hne : ∀ a ∈ S, keyS (f a) ≠ keyS (f i) := by
    intro a ha
    have h1 := T.keysne.sublist (idxs_sub (f := f) (show i + 1 ≤ 8 by omega))
    rw [idxs_live hs, List.pairwise_append] at h1
    exact h1.2.2 a (h.mem.mem_iff.1 ha) i (by simp)
  have hg : ∀ m (hm : m < S.length), S.getD m 0 = S[m] := fun m hm => by simp [List.getD_eq_getElem?_getD, hm]
  refine ⟨?_, ?_⟩
  · rw [idxs_live hs]
    refine List.perm_middle.trans ?_
    rw [List.take_append_drop]
    exact (List.Perm.cons _ h.mem).trans (List.perm_append_comm (l₁ := [i]))
  · rw [List.pairwise_append]
    refine ⟨h.asc.sublist (List.take_sublist _ _), List.pairwise_cons.2 ⟨?_, h.asc.sublist (List.drop_sublist _ _)⟩, ?_⟩
    · intro a ha
      obtain ⟨m, hm, rfl⟩ := List.mem_iff_getElem.1 ha
      rw [List.length_drop] at hm
      rw [List.getElem_drop]
      have := hup (j + m) (by omega) (by omega)
      rw [hg _ (by omega)] at this
      exact less_total this (hne _ (List.getElem_mem _))
    · have hlt : ∀ a ∈ S.take j, Op.bytesLess (keyS (f a)) (keyS (f i)) = true := by
        intro a ha
        obtain ⟨m, hm, rfl⟩ := List.mem_iff_getElem.1 ha
        rw [List.length_take] at hm
        rw [List.getElem_take]
        have h1 := hlo (by omega)
        rw [hg _ (by omega)] at h1
        by_cases e : m = j - 1
        · subst e; exact h1
        · exact less_trans (List.pairwise_iff_getElem.1 h.asc m (j - 1) (by omega) (by omega) (by omega)) h1
      intro a ha c hc
      rcases List.mem_cons.1 hc with rfl | hc
      · exact hlt a ha
      · obtain ⟨m, hm, rfl⟩ := List.mem_iff_getElem.1 hc
        rw [List.length_drop] at hm
        rw [List.getElem_drop]
        have := hup (j + m) (by omega) (by omega)
        rw [hg _ (by omega)] at this
        exact less_trans (hlt a ha) (less_total this (hne _ (List.getElem_mem _)))
theorem SortedTo.all {f : Nat → Cell} {S : List Nat} (h : SortedTo f 8 S) {ps : List (Bs × Bs)} (T : Tab f ps) (asc : ps.Pairwise (fun p q => Op.bytesLess p.1 q.1 = true)) : S.map (fun a => pairC (f a)) = ps := by
  refine List.Perm.eq_of_pairwise (le := fun (p q : Bs × Bs) => Op.bytesLess p.1 q.1 = true) ?_ (List.pairwise_map.2 h.asc) asc ?_
  · intro p q _ _ h1 h2
    have := less_trans h1 h2
    rw [less_irrefl] at this
    cases this
  · have hp := T.perm
    rw [prs_lives, lives_idxs, List.map_map] at hp
    exact (h.mem.map _).trans hp
/-- what the sorted places say -/
theorem SortedTo.get {f : Nat → Cell} {S : List Nat} (h : SortedTo f 8 S) {ps : List (Bs × Bs)} (T : Tab f ps) (asc : ps.Pairwise (fun p q => Op.bytesLess p.1 q.1 = true)) : S.length = ps.length ∧ ∀ m, m < ps.length → S.getD m 0 < 8 ∧ (f (S.getD m 0)).state = 1 ∧ pairC (f (S.getD m 0)) = ps.getD m ([], []) := by
  have e := h.all T asc
  have el : S.length = ps.length := by rw [← e, List.length_map]
  refine ⟨el, fun m hm => ?_⟩
  have hm' : m < S.length := by omega
  have g : S.getD m 0 = S[m] := by simp [List.getD_eq_getElem?_getD, hm']
  rw [g]
  refine ⟨(h.in8 hm').1, (h.in8 hm').2, ?_⟩
  subst e
  simp [List.getD_eq_getElem?_getD, hm']
end Go.Tw
