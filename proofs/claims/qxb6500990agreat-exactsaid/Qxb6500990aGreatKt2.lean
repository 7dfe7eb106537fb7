/- the hash table of package kv: rebuild and add (no Go) -/
import Derived.Test.Qxb6500990aGreatKt
set_option linter.unusedVariables false
set_option linter.unusedSimpArgs false
namespace Go.Tw
open Go Go.Proofs Go.Proofs.Qxb6500990aGreat
def pairC (c : Cell) : Bs × Bs := (keyS c, valS c)
def livesTo (f : Nat → Cell) (i : Nat) : List Cell := ((List.range i).map f).filter (fun c => c.state == 1)
theorem livesTo_live {f : Nat → Cell} {i : Nat} (h : (f i).state = 1) : livesTo f (i + 1) = livesTo f i ++ [f i] := by
  unfold livesTo
  rw [List.range_succ, List.map_append, List.filter_append]
  simp [h]
theorem livesTo_dead {f : Nat → Cell} {i : Nat} (h : (f i).state ≠ 1) : livesTo f (i + 1) = livesTo f i := by
  unfold livesTo
  rw [List.range_succ, List.map_append, List.filter_append]
  simp [h]
theorem livesTo_le {f : Nat → Cell} : ∀ {n i : Nat}, i ≤ n → (livesTo f i).length ≤ (livesTo f n).length
  | 0, i, h => by have : i = 0 := by omega
                  subst this; exact Nat.le_refl _
  | n + 1, i, h => by
    by_cases e : i = n + 1
    · subst e; exact Nat.le_refl _
    · refine Nat.le_trans (livesTo_le (n := n) (by omega)) ?_
      by_cases hs : (f n).state = 1
      · rw [livesTo_live hs]; simp
      · rw [livesTo_dead hs]; exact Nat.le_refl _
theorem prs_lives (f : Nat → Cell) : prs f = (livesTo f 8).map pairC := by
  unfold prs livesTo cellsL
  generalize (List.range 8).map f = l
  induction l with
  | nil => rfl
  | cons c l ih =>
    rw [List.filterMap_cons, List.filter_cons]
    unfold Cell.pr
    by_cases h : c.state = 1
    · rw [if_pos h]; simp [h, pairC]; exact ih
    · rw [if_neg h]; simp [h]; exact ih
theorem mem_lives {f : Nat → Cell} {n : Nat} {c : Cell} : c ∈ livesTo f n ↔ ∃ i, i < n ∧ f i = c ∧ c.state = 1 := by
  unfold livesTo
  simp only [List.mem_filter, List.mem_map, List.mem_range, beq_iff_eq]
  constructor
  · rintro ⟨⟨i, hi, e⟩, h⟩; exact ⟨i, hi, e, h⟩
  · rintro ⟨i, hi, e, h⟩; exact ⟨⟨i, hi, e⟩, h⟩
def keepF (l : List Cell) : Nat → Cell := fun m => l.getD m zCell
theorem keepF_nil : keepF [] = fun _ => zCell := rfl
theorem keepF_snoc (l : List Cell) (c : Cell) (n : Nat) (hn : n = l.length) : upd (keepF l) n c = keepF (l ++ [c]) := by
  subst hn
  funext j
  simp only [keepF, upd, getD_snoc]
def wipeF (f : Nat → Cell) (i : Nat) : Nat → Cell := fun m => if m < i then zCell else f m
theorem wipeF_0 (f : Nat → Cell) : wipeF f 0 = f := by funext m; simp [wipeF]
theorem wipeF_step (f : Nat → Cell) (i : Nat) : upd (wipeF f i) i zCell = wipeF f (i + 1) := by
  funext m
  unfold upd wipeF
  by_cases e : m = i
  · subst e; simp
  · rw [if_neg e]
    by_cases h : m < i
    · rw [if_pos h, if_pos (by omega)]
    · rw [if_neg h, if_neg (by omega)]
theorem leastD {P : Nat → Prop} : ∀ n, P n → ∃ d, d ≤ n ∧ P d ∧ ∀ m, m < d → ¬ P m := by
  intro n
  induction n using Nat.strongRecOn with
  | ind n ih =>
    intro h
    by_cases hm : ∃ m, m < n ∧ P m
    · obtain ⟨m, h1, h2⟩ := hm
      obtain ⟨d, h3, h4, h5⟩ := ih m h1 h2
      exact ⟨d, by omega, h4, h5⟩
    · exact ⟨n, Nat.le_refl _, h, fun m h1 h2 => hm ⟨m, h1, h2⟩⟩
/-- the first cell on a key's walk that is not live -/
theorem Tab.room {f : Nat → Cell} {ps : List (Bs × Bs)} (T : Tab f ps) (hp : ps.length < 8) (key : Bs) : ∃ d, d < 8 ∧ (f ((hN key + d) % 8)).state ≠ 1 ∧ ∀ m, m < d → (f ((hN key + m) % 8)).state = 1 := by
  obtain ⟨i0, i08, hi0⟩ := prs_room (f := f) (by rw [T.len]; exact hp)
  have hlt := hN_lt key
  obtain ⟨d0, d08, ed0⟩ : ∃ d, d < 8 ∧ (hN key + d) % 8 = i0 := ⟨(i0 + 8 - hN key) % 8, by omega, by omega⟩
  obtain ⟨d, h1, h2, h3⟩ := leastD (P := fun d => (f ((hN key + d) % 8)).state ≠ 1) d0 (by rw [ed0]; exact hi0)
  exact ⟨d, by omega, h2, fun m hm => Classical.byContradiction (h3 m hm)⟩
theorem room_one {f : Nat → Cell} {h d d' : Nat} (n1 : (f ((h + d) % 8)).state ≠ 1) (b1 : ∀ m, m < d → (f ((h + m) % 8)).state = 1) (n2 : (f ((h + d') % 8)).state ≠ 1) (b2 : ∀ m, m < d' → (f ((h + m) % 8)).state = 1) : d = d' := by
  rcases Nat.lt_trichotomy d d' with h | h | h
  · exact absurd (b2 d h) n1
  · exact h
  · exact absurd (b1 d' h) n2
/-- j of the live cells L are laid in again -/
structure Reb (L : List Cell) (j : Nat) (f : Nat → Cell) : Prop where
  tab : Tab f ((L.take j).map pairC)
  no : ∀ i, i < 8 → (f i).state ≠ 2
structure LivesOk (L : List Cell) : Prop where
  st : ∀ c ∈ L, c.state = 1 ∧ 1 ≤ c.klen ∧ c.klen ≤ 2 ∧ 0 ≤ c.vlen ∧ c.vlen ≤ 3
  nd : ((L.map pairC).map (·.1)).Nodup
  n4 : L.length ≤ 4
theorem Tab.lives {f : Nat → Cell} {ps : List (Bs × Bs)} (h : Tab f ps) (n4 : ps.length ≤ 4) : LivesOk (livesTo f 8) ∧ ((livesTo f 8).map pairC).Perm ps := by
  have hp := h.perm
  rw [prs_lives] at hp
  refine ⟨⟨?_, ?_, ?_⟩, hp⟩
  · intro c hc
    obtain ⟨i, hi, rfl, hs⟩ := mem_lives.1 hc
    exact ⟨hs, h.kl i hi hs⟩
  · exact (hp.map _).nodup_iff.2 h.nd
  · have := hp.length_eq
    rw [List.length_map] at this
    omega
theorem Reb.start (L : List Cell) {f : Nat → Cell} (h : ∀ i, i < 8 → f i = zCell) : Reb L 0 f :=
  ⟨by simpa using Tab.none (f := f) (fun i hi => by rw [h i hi]; rfl), fun i hi => by rw [h i hi]; decide⟩
theorem Reb.step {L : List Cell} {j : Nat} {f : Nat → Cell} (ok : LivesOk L) (h : Reb L j f) {c : Cell} (hj : L[j]? = some c) {d : Nat} (hd : d < 8) (hn : (f ((hN (keyS c) + d) % 8)).state ≠ 1) (hb : ∀ m, m < d → (f ((hN (keyS c) + m) % 8)).state = 1) : Reb L (j + 1) (upd f ((hN (keyS c) + d) % 8) c) := by
  obtain ⟨hlt, rfl⟩ := List.getElem?_eq_some_iff.1 hj
  have hm := ok.st _ (List.getElem_mem hlt)
  have ha : ∀ p ∈ (L.take j).map pairC, p.1 ≠ keyS L[j] := by
    intro p hp
    obtain ⟨i, hi, rfl⟩ := List.mem_iff_getElem.1 hp
    have hi' : i < j ∧ i < L.length := by simp only [List.length_map, List.length_take] at hi; omega
    have := List.pairwise_iff_getElem.1 ok.nd i j (by simpa using hi'.2) (by simpa using hlt) hi'.1
    simp only [List.getElem_map] at this
    simp only [List.getElem_map, List.getElem_take]
    exact this
  have := h.tab.add hm.1 hm.2 ha hd hn hb
  constructor
  · rw [List.take_add_one, hj]
    simp only [Option.toList, List.map_append, List.map_cons, List.map_nil]
    refine this.turn ?_
    exact (List.perm_append_comm (l₁ := [pairC L[j]])).trans (List.Perm.refl _)
  · intro i hi
    unfold upd
    split
    · rw [hm.1]; decide
    · exact h.no i hi
theorem Reb.done {L : List Cell} {f : Nat → Cell} (ok : LivesOk L) (h : Reb L L.length f) {ps : List (Bs × Bs)} (hp : (L.map pairC).Perm ps) : TabK f ps.length 0 ps := by
  have h1 := h.tab
  rw [List.take_length] at h1
  have hl : ps.length ≤ 4 := by have := hp.length_eq; rw [List.length_map] at this; have := ok.n4; omega
  refine ⟨h1.turn hp, rfl, ?_, hl, by omega⟩
  rw [tombs_none h.no]; rfl
theorem Reb.room {L : List Cell} {j : Nat} {f : Nat → Cell} (ok : LivesOk L) (h : Reb L j f) : ((L.take j).map pairC).length < 8 := by
  rw [List.length_map, List.length_take]; have := ok.n4; omega
/-- add, ahead of the rebuild -/
theorem TabK.add {f : Nat → Cell} {l t : Int} {ps : List (Bs × Bs)} (h : TabK f l t ps) {key val : Bs} (k1 : 1 ≤ key.length) (k2 : key.length ≤ 2) (v3 : val.length ≤ 3) (ha : ∀ p ∈ ps, p.1 ≠ key) {d : Nat} (hd : d < 8) (hn : (f ((hN key + d) % 8)).state ≠ 1) (hb : ∀ m, m < d → (f ((hN key + m) % 8)).state = 1) :
    Tab (upd f ((hN key + d) % 8) (mkCellS key val)) ((key, val) :: ps) ∧ (tombsN (upd f ((hN key + d) % 8) (mkCellS key val)) : Int) = t - (if (f ((hN key + d) % 8)).state = 2 then 1 else 0) := by
  have ek := keyS_mk (v := val) k2
  have ev := valS_mk (k := key) v3
  have hi : (hN key + d) % 8 < 8 := Nat.mod_lt _ (by decide)
  constructor
  · have := h.tab.add (c := mkCellS key val) rfl (by simp only [mkCellS]; omega) (by rw [ek]; exact ha) hd (by rw [ek]; exact hn) (by rw [ek]; exact hb)
    rw [ek, ev] at this
    exact this
  · have := tombs_upd f _ hi (mkCellS key val)
    have e := h.tb
    simp only [show (mkCellS key val).state = 1 from rfl, show ¬ ((1 : Int) = 2) by decide, if_false] at this
    split at this
    · rename_i h2; rw [if_pos h2]; omega
    · rename_i h2; rw [if_neg h2]; omega
end Go.Tw
