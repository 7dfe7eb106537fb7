/- the store of package kv against the store as it is meant (no Go) -/
import Derived.Test.Qxb6500990aGreatKt3
set_option linter.unusedVariables false
set_option linter.unusedSimpArgs false
namespace Go.Tw
open Go Go.Proofs Go.Proofs.Qxb6500990aGreat
def mkSessS (q : Int) (a : Ans) : Sess := ⟨q, a.err, a.val.length, fun i => a.val.getD i 0⟩
structure KvRel (K : KvX) (A : AK) : Prop where
  t : TabK K.cells_ K.live K.tombs A.ps
  s : ∀ c, c < 3 → K.ss c = mkSessS (A.seq c) (A.ans c)
  ok : A.Ok
theorem zSess_mk : zSess = mkSessS 0 zAns := rfl
theorem KvRel.new : KvRel ⟨fun _ => zCell, 0, 0, fun _ => zSess⟩ AK.new :=
  ⟨⟨Tab.none (fun _ _ => rfl), rfl, by rw [tombs_none (fun _ _ => by show (zCell).state ≠ 2; decide)]; rfl, by decide, by decide⟩, fun _ _ => zSess_mk, AK.new_ok⟩
theorem perm_erase {α : Type} {l : List α} {i : Nat} (h : i < l.length) : (l[i] :: l.eraseIdx i).Perm l := by
  rw [List.eraseIdx_eq_take_drop_succ]
  refine List.perm_middle.symm.trans ?_
  rw [← List.drop_eq_getElem_cons h, List.take_append_drop]
theorem perm_set {α : Type} {l : List α} {i : Nat} (h : i < l.length) (x : α) : (l.set i x).Perm (x :: l.eraseIdx i) := by
  rw [List.eraseIdx_eq_take_drop_succ, List.set_eq_take_append_cons_drop, if_pos h]
  exact List.perm_middle
section
variable {K : KvX} {A : AK} {key val : Bs} {n : Nat}
theorem AK.find_absent (h : ∀ p ∈ A.ps, p.1 ≠ key) : A.find key = none := by
  unfold AK.find
  rw [List.findIdx?_eq_none_iff]
  intro p hp
  simpa using h p hp
theorem AK.Ok.at_find (ok : A.Ok) {p : Bs × Bs} (hp : p ∈ A.ps) : ∃ j, A.find p.1 = some j ∧ A.ps[j]? = some p := by
  cases hf : A.find p.1 with
  | none => exact absurd rfl (AK.find_none hf p hp)
  | some j =>
    obtain ⟨hj, e⟩ := AK.find_some hf
    refine ⟨j, rfl, ?_⟩
    obtain ⟨a, ha, rfl⟩ := List.mem_iff_getElem.1 hp
    have : a = j := by
      rcases Nat.lt_trichotomy a j with h | h | h
      · have := List.pairwise_iff_getElem.1 ok.asc a j ha hj h
        rw [e, less_irrefl] at this; cases this
      · exact h
      · have := List.pairwise_iff_getElem.1 ok.asc j a hj ha h
        rw [e, less_irrefl] at this; cases this
    subst this
    exact List.getElem?_eq_getElem ha
theorem KvRel.found (h : KvRel K A) (n8 : n < 8) (hs : (K.cells_ n).state = 1) (hk : keyS (K.cells_ n) = key) : ∃ j, A.find key = some j ∧ j < A.ps.length ∧ A.ps[j]? = some (key, valS (K.cells_ n)) ∧ A.val j = valS (K.cells_ n) := by
  subst hk
  obtain ⟨j, h1, h2⟩ := h.ok.at_find (h.t.tab.mem n8 hs)
  refine ⟨j, h1, (List.getElem?_eq_some_iff.1 h2).1, h2, ?_⟩
  unfold AK.val
  rw [List.getD_eq_getElem?_getD, h2]
  rfl
theorem mkCell_bd (k1 : 1 ≤ key.length) (k2 : key.length ≤ 2) (v3 : val.length ≤ 3) : 1 ≤ (mkCellS key val).klen ∧ (mkCellS key val).klen ≤ 2 ∧ 0 ≤ (mkCellS key val).vlen ∧ (mkCellS key val).vlen ≤ 3 := by
  simp only [mkCellS]; omega
theorem KvRel.set (h : KvRel K A) (n8 : n < 8) (hs : (K.cells_ n).state = 1) (hk : keyS (K.cells_ n) = key) (k1 : 1 ≤ key.length) (k2 : key.length ≤ 2) (v3 : val.length ≤ 3) {j : Nat} (hj : A.find key = some j) : KvRel { K with cells_ := upd K.cells_ n (mkCellS key val) } { A with ps := A.ps.set j (key, val) } := by
  obtain ⟨j', h1, h2, h3, -⟩ := h.found n8 hs hk
  rw [hj] at h1
  cases h1
  have e3 : A.ps[j] = (keyS (K.cells_ n), valS (K.cells_ n)) := by
    have := List.getElem?_eq_getElem h2
    rw [this] at h3
    injection h3 with h3
    rw [h3, hk]
  have p0 : A.ps.Perm ((keyS (K.cells_ n), valS (K.cells_ n)) :: A.ps.eraseIdx j) := by
    rw [← e3]; exact (perm_erase h2).symm
  have ek := keyS_mk (v := val) k2
  have ev := valS_mk (k := key) v3
  have t1 := h.t.tab.set n8 hs p0 (c := mkCellS key val) rfl (by rw [ek, hk]) (mkCell_bd k1 k2 v3)
  rw [ek, ev] at t1
  have t2 := tombs_upd K.cells_ n n8 (mkCellS key val)
  simp only [hs, show (mkCellS key val).state = 1 from rfl, show ¬ ((1 : Int) = 2) by decide, if_false] at t2
  refine ⟨⟨t1.turn (perm_set h2 _).symm, ?_, ?_, ?_, h.t.bd⟩, h.s, h.ok.set hj v3⟩
  · rw [List.length_set]; exact h.t.lv
  · show K.tombs = (tombsN (upd K.cells_ n (mkCellS key val)) : Int)
    have := h.t.tb; omega
  · rw [List.length_set]; exact h.t.n4
theorem KvRel.drop (h : KvRel K A) (n8 : n < 8) (hs : (K.cells_ n).state = 1) {j : Nat} (hj : A.find (keyS (K.cells_ n)) = some j) (hok : AK.Ok { A with ps := A.ps.eraseIdx j }) {c : Cell} (hc : c.state = 2) : KvRel { K with cells_ := upd K.cells_ n c, live := K.live - 1, tombs := K.tombs + 1 } { A with ps := A.ps.eraseIdx j } := by
  obtain ⟨j', h1, h2, h3, -⟩ := h.found n8 hs rfl
  rw [hj] at h1
  cases h1
  have e3 : A.ps[j] = (keyS (K.cells_ n), valS (K.cells_ n)) := by
    have := List.getElem?_eq_getElem h2
    rw [this] at h3
    injection h3 with h3
  have p0 : A.ps.Perm ((keyS (K.cells_ n), valS (K.cells_ n)) :: A.ps.eraseIdx j) := by
    rw [← e3]; exact (perm_erase h2).symm
  have t1 := h.t.tab.drop n8 hs p0 hc
  have t2 := tombs_upd K.cells_ n n8 c
  simp only [hs, hc, show ¬ ((1 : Int) = 2) by decide, if_false, if_true] at t2
  have hl : (A.ps.eraseIdx j).length + 1 = A.ps.length := by rw [List.length_eraseIdx_of_lt h2]; omega
  refine ⟨⟨t1, ?_, ?_, ?_, ?_⟩, h.s, hok⟩
  · have := h.t.lv; simp only []; omega
  · have := h.t.tb; simp only []; omega
  · have := h.t.n4; simp only []; omega
  · have := h.t.bd; simp only []; omega
theorem AK.Ok.erase (ok : A.Ok) (j : Nat) : AK.Ok { A with ps := A.ps.eraseIdx j } := by
  refine ok.upd_ps ?_ ?_ ?_
  · exact Nat.le_trans (List.eraseIdx_sublist _ _).length_le ok.n4
  · intro p hp; exact ok.ps p ((List.eraseIdx_sublist _ _).mem hp)
  · exact ok.keys.sublist ((List.eraseIdx_sublist _ _).map _)
theorem KvRel.add (h : KvRel K A) {f' : Nat → Cell} {l' t' : Int} (hT : TabK f' l' t' ((key, val) :: A.ps)) (hf : A.find key = none) (l4 : A.ps.length < 4) (k1 : 1 ≤ key.length) (k2 : key.length ≤ 2) (v3 : val.length ≤ 3) : KvRel { K with cells_ := f', live := l', tombs := t' } (A.ins key val) := by
  refine ⟨hT.turn ?_, h.s, h.ok.ins hf l4 k1 k2 v3⟩
  unfold AK.ins
  simp only []
  refine List.Perm.symm (List.perm_middle.trans ?_)
  rw [List.take_append_drop]
theorem KvRel.sess (h : KvRel K A) {c : Nat} {q : Int} {a : Ans} (q0 : 0 ≤ q) (q1 : q ≤ maxT) (e0 : 0 ≤ a.err) (e1 : a.err < 16) (a3 : a.val.length ≤ 3) : KvRel { K with ss := upd K.ss c (mkSessS q a) } { A with seq := upd A.seq c q, ans := upd A.ans c a } := by
  refine ⟨h.t, fun d hd => ?_, ⟨h.ok.n4, h.ok.ps, h.ok.asc, ?_, ?_, ?_, ?_, ?_⟩⟩
  · simp only [upd]; split
    · rfl
    · exact h.s d hd
  all_goals
    intro d
    simp only [upd]
    split
    · assumption
    · first | exact h.ok.s0 d | exact h.ok.s1 d | exact h.ok.e0 d | exact h.ok.e1 d | exact h.ok.a3 d
end
end Go.Tw
