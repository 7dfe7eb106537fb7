/- the hash table of package kv, as it is meant (no Go) -/
import Derived.Test.Qxb6500990aGreatStructs5
import Derived.Test.Qxb6500990aGreatKvOk
set_option linter.unusedVariables false
set_option linter.unusedSimpArgs false
namespace Go.Tw
open Go Go.Proofs Go.Proofs.Qxb6500990aGreat
def keyL (c : Cell) : Bs := [c.key 0, c.key 1]
def keyS (c : Cell) : Bs := (keyL c).take c.klen.toNat
def valL (c : Cell) : Bs := [c.val 0, c.val 1, c.val 2]
def valS (c : Cell) : Bs := (valL c).take c.vlen.toNat
def hashN (key : Bs) : Nat → Int
  | 0 => key.length
  | k + 1 => (hashN key k * 31 + ((key.getD k 0).toNat : Int)) % 65536
def hashS (key : Bs) : Int := hashN key key.length % 8
def zCell : Cell := ⟨0, 0, fun _ => 0, 0, fun _ => 0⟩
def zSess : Sess := ⟨0, 0, 0, fun _ => 0⟩
def hN (k : Bs) : Nat := (hashS k).toNat
theorem hashS_bd (k : Bs) : 0 ≤ hashS k ∧ hashS k < 8 := by unfold hashS; omega
theorem hN_lt (k : Bs) : hN k < 8 := by have := hashS_bd k; unfold hN; omega
theorem hN_eq (k : Bs) : hashS k = hN k := by have := hashS_bd k; unfold hN; omega
def Cell.pr (c : Cell) : Option (Bs × Bs) := if c.state = 1 then some (keyS c, valS c) else none
def cellsL (f : Nat → Cell) : List Cell := (List.range 8).map f
def prs (f : Nat → Cell) : List (Bs × Bs) := (cellsL f).filterMap Cell.pr
def tombsN (f : Nat → Cell) : Nat := (cellsL f).countP (fun c => c.state == 2)
theorem cellsL_upd (f : Nat → Cell) (i : Nat) (c : Cell) : cellsL (upd f i c) = (cellsL f).set i c := by
  unfold cellsL
  apply List.ext_getElem (by simp)
  intro j h1 h2
  simp only [List.getElem_map, List.getElem_range, List.getElem_set, upd]
  by_cases h : j = i
  · subst h; simp
  · rw [if_neg h, if_neg (fun e => h e.symm)]
theorem cellsL_split (f : Nat → Cell) (i : Nat) (h : i < 8) : ∃ A B, cellsL f = A ++ f i :: B ∧ ∀ c, cellsL (upd f i c) = A ++ c :: B := by
  have hl : (cellsL f).length = 8 := by simp [cellsL]
  have hi : i < (cellsL f).length := by omega
  refine ⟨(cellsL f).take i, (cellsL f).drop (i + 1), ?_, fun c => ?_⟩
  · have e : f i = (cellsL f)[i] := by simp [cellsL]
    rw [e, ← List.drop_eq_getElem_cons hi, List.take_append_drop]
  · rw [cellsL_upd, List.set_eq_take_append_cons_drop, if_pos hi]
theorem prs_upd (f : Nat → Cell) (i : Nat) (h : i < 8) : ∃ A B : List (Bs × Bs), prs f = A ++ ((f i).pr.toList ++ B) ∧ ∀ c : Cell, prs (upd f i c) = A ++ (c.pr.toList ++ B) := by
  obtain ⟨A, B, h1, h2⟩ := cellsL_split f i h
  refine ⟨A.filterMap Cell.pr, B.filterMap Cell.pr, ?_, fun c => ?_⟩
  · unfold prs; rw [h1, List.filterMap_append, List.filterMap_cons]; cases (f i).pr <;> rfl
  · unfold prs; rw [h2, List.filterMap_append, List.filterMap_cons]; cases c.pr <;> rfl
theorem tombs_upd (f : Nat → Cell) (i : Nat) (h : i < 8) (c : Cell) : tombsN (upd f i c) + (if (f i).state = 2 then 1 else 0) = tombsN f + (if c.state = 2 then 1 else 0) := by
  obtain ⟨A, B, h1, h2⟩ := cellsL_split f i h
  unfold tombsN
  rw [h1, h2]
  simp only [List.countP_append, List.countP_cons, beq_iff_eq]
  omega
theorem mem_prs {f : Nat → Cell} {p : Bs × Bs} : p ∈ prs f ↔ ∃ i, i < 8 ∧ (f i).state = 1 ∧ keyS (f i) = p.1 ∧ valS (f i) = p.2 := by
  unfold prs cellsL Cell.pr
  simp only [List.mem_filterMap, List.mem_map, List.mem_range]
  constructor
  · rintro ⟨c, ⟨i, hi, rfl⟩, h⟩
    split at h
    · injection h with h; subst h; exact ⟨i, hi, by assumption, rfl, rfl⟩
    · cases h
  · rintro ⟨i, hi, h1, h2, h3⟩
    exact ⟨f i, ⟨i, hi, rfl⟩, by rw [if_pos h1, h2, h3]⟩
theorem pr_all : ∀ (l : List Cell), (∀ c ∈ l, c.state = 1) → (l.filterMap Cell.pr).length = l.length
  | [], _ => rfl
  | c :: l, h => by
    have h1 : c.pr = some (keyS c, valS c) := by unfold Cell.pr; rw [if_pos (h c (by simp))]
    rw [List.filterMap_cons, h1]
    simp only [List.length_cons]
    rw [pr_all l (fun c hc => h c (by simp [hc]))]
/-- some cell is not live -/
theorem prs_room {f : Nat → Cell} (h : (prs f).length < 8) : ∃ i, i < 8 ∧ (f i).state ≠ 1 := by
  apply Classical.byContradiction
  intro hn
  have hall : ∀ i, i < 8 → (f i).state = 1 := fun i hi => Classical.byContradiction fun h2 => hn ⟨i, hi, h2⟩
  unfold prs at h
  rw [pr_all] at h
  · simp [cellsL] at h
  · intro c hc
    unfold cellsL at hc
    obtain ⟨i, hi, rfl⟩ := List.mem_map.1 hc
    exact hall i (List.mem_range.1 hi)
structure Tab (f : Nat → Cell) (ps : List (Bs × Bs)) : Prop where
  st : ∀ i, i < 8 → (f i).state = 0 ∨ (f i).state = 1 ∨ (f i).state = 2
  kl : ∀ i, i < 8 → (f i).state = 1 → 1 ≤ (f i).klen ∧ (f i).klen ≤ 2 ∧ 0 ≤ (f i).vlen ∧ (f i).vlen ≤ 3
  perm : (prs f).Perm ps
  nd : (ps.map (·.1)).Nodup
  walk : ∀ d, d < 8 → ∀ k, (f ((hN k + d) % 8)).state = 1 → keyS (f ((hN k + d) % 8)) = k → ∀ m, m < d → (f ((hN k + m) % 8)).state ≠ 0
theorem Tab.turn {f : Nat → Cell} {ps qs : List (Bs × Bs)} (h : Tab f ps) (e : ps.Perm qs) : Tab f qs :=
  ⟨h.st, h.kl, h.perm.trans e, (e.map _).nodup_iff.1 h.nd, h.walk⟩
theorem Tab.len {f : Nat → Cell} {ps : List (Bs × Bs)} (h : Tab f ps) : (prs f).length = ps.length := h.perm.length_eq
theorem Tab.mem {f : Nat → Cell} {ps : List (Bs × Bs)} (h : Tab f ps) {i : Nat} (hi : i < 8) (hs : (f i).state = 1) : (keyS (f i), valS (f i)) ∈ ps :=
  h.perm.mem_iff.1 (mem_prs.2 ⟨i, hi, hs, rfl, rfl⟩)
theorem Tab.at {f : Nat → Cell} {ps : List (Bs × Bs)} (h : Tab f ps) {p : Bs × Bs} (hp : p ∈ ps) : ∃ i, i < 8 ∧ (f i).state = 1 ∧ keyS (f i) = p.1 ∧ valS (f i) = p.2 :=
  mem_prs.1 (h.perm.mem_iff.2 hp)
theorem prs_congr {f g : Nat → Cell} (h : ∀ i, i < 8 → f i = g i) : cellsL f = cellsL g := by
  unfold cellsL
  apply List.map_congr_left
  intro i hi
  exact h i (List.mem_range.1 hi)
/-- the cells at 0 .. 7 tell all -/
theorem Tab.congr {f g : Nat → Cell} {ps : List (Bs × Bs)} (h : Tab f ps) (e : ∀ i, i < 8 → g i = f i) : Tab g ps := by
  have m8 : ∀ x, x % 8 < 8 := fun x => Nat.mod_lt _ (by decide)
  refine ⟨fun i hi => by rw [e i hi]; exact h.st i hi, fun i hi => by rw [e i hi]; exact h.kl i hi, ?_, h.nd, ?_⟩
  · unfold prs; rw [prs_congr e]; exact h.perm
  · intro d hd k
    rw [e _ (m8 _)]
    intro h1 h2 m hm
    rw [e _ (m8 _)]
    exact h.walk d hd k h1 h2 m hm
/-- a walk that meets an empty cell, or goes once round, without meeting the key: the key is absent -/
theorem Tab.absent {f : Nat → Cell} {ps : List (Bs × Bs)} (h : Tab f ps) {k : Bs} {n : Nat} (hn : n = 8 ∨ (f ((hN k + n) % 8)).state = 0) (hb : ∀ m, m < n → m < 8 → ¬ ((f ((hN k + m) % 8)).state = 1 ∧ keyS (f ((hN k + m) % 8)) = k)) : ∀ p ∈ ps, p.1 ≠ k := by
  rintro p hp rfl
  obtain ⟨i, hi, h1, h2, -⟩ := h.at hp
  have hlt := hN_lt p.1
  obtain ⟨d, hd, e⟩ : ∃ d, d < 8 ∧ (hN p.1 + d) % 8 = i := ⟨(i + 8 - hN p.1) % 8, by omega, by omega⟩
  subst e
  rcases Nat.lt_trichotomy d n with hl | rfl | hg
  · exact hb d hl hd ⟨h1, h2⟩
  · rcases hn with rfl | hn
    · omega
    · rw [hn] at h1; cases h1
  · rcases hn with rfl | hn
    · omega
    · exact h.walk d hd p.1 h1 h2 n hg hn
/-- live cell i becomes a tombstone -/
theorem Tab.drop {f : Nat → Cell} {ps : List (Bs × Bs)} (h : Tab f ps) {i : Nat} (hi : i < 8) (hs : (f i).state = 1) {qs : List (Bs × Bs)} (e : ps.Perm ((keyS (f i), valS (f i)) :: qs)) {c : Cell} (hc : c.state = 2) : Tab (upd f i c) qs := by
  obtain ⟨A, B, h1, h2⟩ := prs_upd f i hi
  have p1 : (f i).pr = some (keyS (f i), valS (f i)) := by unfold Cell.pr; rw [if_pos hs]
  have p2 : c.pr = none := by unfold Cell.pr; rw [if_neg (by omega)]
  have hst : ∀ j, ((upd f i c) j).state = if j = i then 2 else (f j).state := fun j => by unfold upd; split <;> simp [hc]
  have hne : ∀ j, (upd f i c j).state = 1 → j ≠ i ∧ upd f i c j = f j := by
    intro j hj
    have : j ≠ i := fun e => by subst e; rw [upd_same, hc] at hj; cases hj
    exact ⟨this, upd_ne _ _ this⟩
  refine ⟨?_, ?_, ?_, ?_, ?_⟩
  · intro j hj; rw [hst]; split
    · omega
    · exact h.st j hj
  · intro j hj h3
    obtain ⟨_, e2⟩ := hne j h3
    rw [e2] at h3 ⊢
    exact h.kl j hj h3
  · rw [h2, p2]
    have := h.perm.trans e
    rw [h1, p1] at this
    exact List.Perm.cons_inv (List.perm_middle.symm.trans this)
  · have := (e.map (·.1)).nodup_iff.1 h.nd
    exact (List.nodup_cons.1 this).2
  · intro d hd k h3 h4 m hm
    obtain ⟨_, e2⟩ := hne _ h3
    rw [e2] at h3 h4
    rw [hst]; split
    · omega
    · exact h.walk d hd k h3 h4 m hm
/-- the value of live cell i is turned -/
theorem Tab.set {f : Nat → Cell} {ps : List (Bs × Bs)} (h : Tab f ps) {i : Nat} (hi : i < 8) (hs : (f i).state = 1) {qs : List (Bs × Bs)} (e : ps.Perm ((keyS (f i), valS (f i)) :: qs)) {c : Cell} (hc : c.state = 1) (ck : keyS c = keyS (f i)) (c1 : 1 ≤ c.klen ∧ c.klen ≤ 2 ∧ 0 ≤ c.vlen ∧ c.vlen ≤ 3) : Tab (upd f i c) ((keyS c, valS c) :: qs) := by
  obtain ⟨A, B, h1, h2⟩ := prs_upd f i hi
  have p1 : (f i).pr = some (keyS (f i), valS (f i)) := by unfold Cell.pr; rw [if_pos hs]
  have p2 : c.pr = some (keyS c, valS c) := by unfold Cell.pr; rw [if_pos hc]
  have hst : ∀ j, ((upd f i c) j).state = (f j).state := fun j => by
    unfold upd; split
    · rename_i e; subst e; omega
    · rfl
  have hk : ∀ j, keyS ((upd f i c) j) = keyS (f j) := fun j => by
    unfold upd; split
    · rename_i e; subst e; exact ck
    · rfl
  refine ⟨?_, ?_, ?_, ?_, ?_⟩
  · intro j hj; rw [hst]; exact h.st j hj
  · intro j hj
    by_cases e : j = i
    · subst e; rw [upd_same]; exact fun _ => c1
    · rw [upd_ne _ _ e]; exact h.kl j hj
  · rw [h2, p2]
    have := h.perm.trans e
    rw [h1, p1] at this
    exact List.perm_middle.trans (List.Perm.cons _ (List.Perm.cons_inv (List.perm_middle.symm.trans this)))
  · have := (e.map (·.1)).nodup_iff.1 h.nd
    rw [List.map_cons, ck]
    exact this
  · intro d hd k
    rw [hst, hk]
    intro h3 h4 m hm
    rw [hst]
    exact h.walk d hd k h3 h4 m hm
/-- an absent key is laid in at the first cell of its walk that is not live -/
theorem Tab.add {f : Nat → Cell} {ps : List (Bs × Bs)} (h : Tab f ps) {c : Cell} (hc : c.state = 1) (c1 : 1 ≤ c.klen ∧ c.klen ≤ 2 ∧ 0 ≤ c.vlen ∧ c.vlen ≤ 3) (ha : ∀ p ∈ ps, p.1 ≠ keyS c) {d : Nat} (hd : d < 8) (hn : (f ((hN (keyS c) + d) % 8)).state ≠ 1) (hb : ∀ m, m < d → (f ((hN (keyS c) + m) % 8)).state = 1) : Tab (upd f ((hN (keyS c) + d) % 8) c) ((keyS c, valS c) :: ps) := by
  have hi : (hN (keyS c) + d) % 8 < 8 := Nat.mod_lt _ (by decide)
  have hlt := hN_lt (keyS c)
  generalize hI : (hN (keyS c) + d) % 8 = i at *
  obtain ⟨A, B, h1, h2⟩ := prs_upd f i hi
  have p1 : (f i).pr = none := by unfold Cell.pr; rw [if_neg hn]
  have p2 : c.pr = some (keyS c, valS c) := by unfold Cell.pr; rw [if_pos hc]
  have hst : ∀ j, (f j).state ≠ 0 → ((upd f i c) j).state ≠ 0 := fun j => by
    unfold upd; split
    · intro _; omega
    · exact id
  refine ⟨?_, ?_, ?_, ?_, ?_⟩
  · intro j hj; unfold upd; split
    · omega
    · exact h.st j hj
  · intro j hj
    by_cases e : j = i
    · subst e; rw [upd_same]; exact fun _ => c1
    · rw [upd_ne _ _ e]; exact h.kl j hj
  · rw [h2, p2]
    have := h.perm
    rw [h1, p1] at this
    exact List.perm_middle.trans (List.Perm.cons _ this)
  · rw [List.map_cons, List.nodup_cons]
    refine ⟨?_, h.nd⟩
    intro hm
    obtain ⟨p, hp, e⟩ := List.mem_map.1 hm
    exact ha p hp e
  · intro d' hd' k h3 h4 m hm
    by_cases e : (hN k + d') % 8 = i
    · rw [e, upd_same] at h4
      subst h4
      have : d' = d := by omega
      subst this
      refine hst _ ?_
      rw [hb m hm]
      decide
    · rw [upd_ne _ _ e] at h3 h4
      exact hst _ (h.walk d' hd' k h3 h4 m hm)
theorem Tab.none {f : Nat → Cell} (h : ∀ i, i < 8 → (f i).state = 0) : Tab f [] := by
  have m8 : ∀ x, x % 8 < 8 := fun x => Nat.mod_lt _ (by decide)
  refine ⟨fun i hi => .inl (h i hi), fun i hi h1 => (by rw [h i hi] at h1; cases h1), ?_, List.nodup_nil, fun d hd k h1 => (by rw [h _ (m8 _)] at h1; cases h1)⟩
  have : prs f = [] := by
    apply List.eq_nil_iff_forall_not_mem.2
    intro p hp
    obtain ⟨i, hi, h1, -⟩ := mem_prs.1 hp
    rw [h i hi] at h1; cases h1
  rw [this]
theorem tombs_none {f : Nat → Cell} (h : ∀ i, i < 8 → (f i).state ≠ 2) : tombsN f = 0 := by
  unfold tombsN cellsL
  rw [List.countP_eq_zero]
  intro c hc
  obtain ⟨i, hi, rfl⟩ := List.mem_map.1 hc
  simpa using h i (List.mem_range.1 hi)
/-- with the counts -/
structure TabK (f : Nat → Cell) (live tombs : Int) (ps : List (Bs × Bs)) : Prop where
  tab : Tab f ps
  lv : live = ps.length
  tb : tombs = tombsN f
  n4 : ps.length ≤ 4
  bd : live + tombs < 6
theorem TabK.turn {f : Nat → Cell} {l t : Int} {ps qs : List (Bs × Bs)} (h : TabK f l t ps) (e : ps.Perm qs) : TabK f l t qs :=
  ⟨h.tab.turn e, by rw [h.lv, e.length_eq], h.tb, by rw [← e.length_eq]; exact h.n4, h.bd⟩
theorem TabK.congr {f g : Nat → Cell} {l t : Int} {ps : List (Bs × Bs)} (h : TabK f l t ps) (e : ∀ i, i < 8 → g i = f i) : TabK g l t ps :=
  ⟨h.tab.congr e, h.lv, by rw [h.tb]; unfold tombsN; rw [prs_congr e], h.n4, h.bd⟩
theorem keyS_len {c : Cell} (h0 : 0 ≤ c.klen) (h2 : c.klen ≤ 2) : ((keyS c).length : Int) = c.klen := by
  unfold keyS keyL; rw [List.length_take]; simp; omega
theorem valS_len {c : Cell} (h0 : 0 ≤ c.vlen) (h2 : c.vlen ≤ 3) : ((valS c).length : Int) = c.vlen := by
  unfold valS valL; rw [List.length_take]; simp; omega
/-- a live cell of a pair -/
def mkCellS (k v : Bs) : Cell := ⟨1, k.length, fun i => k.getD i 0, v.length, fun i => v.getD i 0⟩
theorem keyS_mk {k v : Bs} (h : k.length ≤ 2) : keyS (mkCellS k v) = k := by
  match k, h with
  | [], _ => rfl
  | [a], _ => rfl
  | [a, b], _ => rfl
theorem valS_mk {k v : Bs} (h : v.length ≤ 3) : valS (mkCellS k v) = v := by
  match v, h with
  | [], _ => rfl
  | [a], _ => rfl
  | [a, b], _ => rfl
  | [a, b, c], _ => rfl
end Go.Tw
