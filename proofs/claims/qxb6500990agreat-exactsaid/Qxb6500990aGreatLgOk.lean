/- the log's bounds stay -/
import Derived.Test.Qxb6500990aGreatLgm4
set_option linter.unusedVariables false
set_option linter.unusedSimpArgs false
namespace Go.Tw
open Go Go.Proofs Go.Proofs.Qxb6500990aGreat
theorem entOK_iff {e : Entry} : entOK e = true ↔ (0 ≤ e.term ∧ e.term ≤ maxT ∧ e.data.length ≤ 24) := by unfold entOK; simp
theorem AL.setTerm_ok {a : AL} (h : a.now.Ok) (t v : Int) : (a.setTerm t v).2.now.Ok := by
  unfold AL.setTerm
  split
  · rename_i c; exact ⟨c.1, c.2.1, c.2.2.1, c.2.2.2, h.b0, h.bt0, h.bt1, h.sn, h.n6, h.lm, h.en⟩
  · exact h
theorem AL.append_ok {a : AL} (h : a.now.Ok) (e : Entry) : (a.append e).2.now.Ok := by
  unfold AL.append
  split
  · rename_i c
    have ce := entOK_iff.1 c
    split
    · exact h
    · rename_i d
      have d1 : ¬ 6 ≤ a.now.ents.length := fun x => d (.inl x)
      have d2 : ¬ maxT ≤ a.now.last := fun x => d (.inr x)
      unfold Lg.last at d2
      refine ⟨h.t0, h.t1, h.v0, h.v1, h.b0, h.bt0, h.bt1, h.sn, by simp [AL.to]; omega, by simp [AL.to]; omega, ?_⟩
      intro x hx
      simp only [AL.to, List.mem_append, List.mem_singleton] at hx
      rcases hx with hx | rfl
      · exact h.en x hx
      · exact ce
  · exact h
theorem AL.trunc_ok {a : AL} (h : a.now.Ok) (i : Int) : (a.trunc i).2.now.Ok := by
  unfold AL.trunc
  split
  · exact h
  · exact AL.popN_ok h _
theorem Lg.at_ok {s : Lg} (h : s.Ok) (i : Int) : 0 ≤ (s.at_ i).1.term ∧ (s.at_ i).1.term ≤ maxT ∧ (s.at_ i).1.data.length ≤ 24 := by
  unfold Lg.at_
  have z : 0 ≤ zEnt.term ∧ zEnt.term ≤ maxT ∧ zEnt.data.length ≤ 24 := by unfold zEnt maxT; simp
  split
  · exact z
  · split
    · exact z
    · simp only [Lg.ent, List.getD_eq_getElem?_getD]
      cases hx : s.ents[(i - s.base - 1).toNat]? with
      | none => exact z
      | some e => exact h.en e (List.mem_of_getElem? hx)
theorem Lg.termAt_ok {s : Lg} (h : s.Ok) (i : Int) : 0 ≤ (s.termAt i).1 ∧ (s.termAt i).1 ≤ maxT := by
  unfold Lg.termAt
  split
  · exact ⟨h.bt0, h.bt1⟩
  · have := Lg.at_ok h i; exact ⟨this.1, this.2.1⟩
theorem AL.rebase_ok {a : AL} (h : a.now.Ok) {idx t : Int} {sn : Bs} (h1 : a.now.base ≤ idx) (h2 : idx ≤ a.now.last) (t0 : 0 ≤ t) (t1 : t ≤ maxT) (hs : sn.length ≤ 128) : (a.rebase idx t sn).now.Ok := by
  have n6 := h.n6
  have lm := h.lm
  have b0 := h.b0
  unfold Lg.last at h2
  refine ⟨h.t0, h.t1, h.v0, h.v1, ?_, t0, t1, hs, ?_, ?_, ?_⟩
  · show 0 ≤ idx; omega
  · simp [AL.rebase, AL.to]; omega
  · simp [AL.rebase, AL.to]; omega
  · intro e he
    exact h.en e (List.mem_of_mem_drop he)
theorem AL.compact_ok {a : AL} (h : a.now.Ok) (u : Int) (sn : Bs) : (a.compact u sn).2.now.Ok := by
  unfold AL.compact
  split
  · exact h
  · split
    · exact h
    · split
      · exact h
      · have := Lg.termAt_ok h u
        exact AL.rebase_ok h (by omega) (by omega) this.1 this.2 (by omega)
theorem AL.install_ok {a : AL} (h : a.now.Ok) (idx t : Int) (sn : Bs) : (a.install idx t sn).2.now.Ok := by
  unfold AL.install
  split
  · exact h
  · rename_i c
    obtain ⟨i0, i1, t0, t1⟩ := Decidable.of_not_not c
    split
    · exact h
    · split
      · exact h
      · split
        · rename_i e1 e2 e3
          have hle : idx ≤ a.now.last := by
            unfold Lg.termAt Lg.at_ at e3
            rw [if_neg (by omega), if_neg e2] at e3
            by_cases hl : a.now.last < idx
            · rw [if_pos hl] at e3; simp at e3
            · omega
          exact AL.rebase_ok h (by omega) hle t0 t1 (by omega)
        · have hp : (a.popN a.now.ents.length).now.ents = [] := by rw [AL.popN_now]; simp
          have hq := AL.popN_ok h a.now.ents.length
          refine ⟨hq.t0, hq.t1, hq.v0, hq.v1, i0, t0, t1, by show sn.length ≤ 128; omega, by show (a.popN _).now.ents.length ≤ 6; rw [hp]; simp, ?_, ?_⟩
          · show idx + ((a.popN _).now.ents.length : Int) ≤ maxT; rw [hp]; simpa using i1
          · intro e he
            have : e ∈ (a.popN a.now.ents.length).now.ents := he
            rw [hp] at this; cases this
/-- how many steps an operation makes at most -/
theorem AL.to_len (a : AL) (s : Lg) : (a.to s).hist.length = a.hist.length + 1 := by simp [AL.to]
theorem AL.setTerm_len (a : AL) (t v : Int) : (a.setTerm t v).2.hist.length ≤ a.hist.length + 1 := by
  unfold AL.setTerm; split
  · simp [AL.to]
  · simp
theorem AL.append_len (a : AL) (e : Entry) : (a.append e).2.hist.length ≤ a.hist.length + 1 := by
  unfold AL.append; split
  · split
    · simp
    · simp [AL.to]
  · simp
theorem AL.trunc_len {a : AL} (h : a.now.Ok) (i : Int) : (a.trunc i).2.hist.length ≤ a.hist.length + 6 := by
  unfold AL.trunc; split
  · simp
  · rename_i c
    simp only [AL.popN_len]
    have := h.n6
    unfold Lg.last
    omega
theorem AL.compact_len (a : AL) (u : Int) (sn : Bs) : (a.compact u sn).2.hist.length ≤ a.hist.length + 1 := by
  unfold AL.compact AL.rebase; split
  · simp
  · split
    · simp
    · split
      · simp
      · simp [AL.to]
theorem AL.install_len {a : AL} (h : a.now.Ok) (idx t : Int) (sn : Bs) : (a.install idx t sn).2.hist.length ≤ a.hist.length + 7 := by
  have := h.n6
  unfold AL.install AL.rebase; split
  · simp
  · split
    · simp
    · split
      · simp
      · split
        · simp [AL.to]
        · simp only [AL.to_len, AL.popN_len]; omega
end Go.Tw
