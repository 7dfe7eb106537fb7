/- a leader's term is at least 1 -/
import Derived.Test.Qxb6500990aGreatSy23
set_option linter.unusedVariables false
set_option linter.unusedSimpArgs false
namespace Go.Tw
open Go Go.Proofs Go.Proofs.Qxb6500990aGreat
def EM.T1 (e : EM) : Prop := e.role = 0 ∨ 1 ≤ e.term
theorem EM.T1.lead {e : EM} (h : e.T1) (hr : e.role = 2) : 1 ≤ e.term := h.elim (fun z => by omega) (fun q => q)
theorem EM.T1.new (id : Int) : (EM.new id).T1 := .inl rfl
theorem EM.T1.restore (e : EM) (t v : Int) : (e.restore t v).T1 := .inl rfl
theorem EM.T1.see {e : EM} (h : e.T1) (t : Int) : (e.see t).T1 := by
  unfold EM.see; split
  · exact .inl rfl
  · exact h
theorem EM.T1.tick {e : EM} (h : e.T1) (t0 : 0 ≤ e.term) : e.tick.2.T1 := by
  unfold EM.tick
  (repeat' split)
  · exact h
  · exact h
  · exact h
  · exact .inr (by show 1 ≤ e.term + 1; omega)
theorem EM.T1.asked {e : EM} (h : e.T1) (p t : Int) (u : Bool) : (e.asked p t u).2.T1 := by
  unfold EM.asked; simp only []
  split
  · exact h.see t
  · exact h.see t
theorem EM.T1.gotVote {e : EM} (h : e.T1) (p t : Int) (ok : Bool) : (e.gotVote p t ok).2.T1 := by
  unfold EM.gotVote
  split
  · exact .inl rfl
  · split
    · exact h
    · rename_i c
      have hr : e.role = 1 := Decidable.of_not_not (fun q => c (.inr (.inl q)))
      have ht : 1 ≤ e.term := h.elim (fun z => by omega) (fun q => q)
      simp only []
      split
      · exact .inr ht
      · exact .inr ht
theorem EM.T1.heard {e : EM} (h : e.T1) (p t : Int) : (e.heard p t).2.T1 := by
  unfold EM.heard; simp only []
  split
  · exact h.see t
  · exact .inl rfl
theorem AS.tick_T1 {A : AS} (h : A.el.T1) (t0 : 0 ≤ A.el.term) : A.tick.2.el.T1 := by
  unfold AS.tick; simp only []
  rw [(AS.persist_eq _).1]
  exact h.tick t0
theorem AS.step_T1 {A : AS} (h : A.el.T1) (m : Msg) : (A.step m).2.el.T1 := by
  unfold AS.step
  split
  · exact h
  split
  · unfold AS.voteAsked; simp only []; rw [(AS.persist_eq _).1]; exact h.asked _ _ _
  split
  · unfold AS.voteCame; simp only []
    split
    · show (AS.persist _).el.T1; rw [(AS.persist_eq _).1]; exact h.gotVote _ _ _
    · rw [(AS.persist_eq _).1]; exact h.gotVote _ _ _
  split
  · unfold AS.entriesCame; simp only []
    split
    · rw [AS.accept_el, (AS.persist_eq _).1]; exact h.heard _ _
    · rw [(AS.persist_eq _).1]; exact h.heard _ _
  split
  · unfold AS.snapCame; simp only []
    split
    · split
      · rw [(AS.persist_eq _).1]; exact h.heard _ _
      · split
        · show (AS.persist _).el.T1; rw [(AS.persist_eq _).1]; exact h.heard _ _
        · show (AS.persist _).el.T1; rw [(AS.persist_eq _).1]; exact h.heard _ _
    · rw [(AS.persist_eq _).1]; exact h.heard _ _
  · unfold AS.ackCame
    split
    · show (AS.persist _).el.T1; rw [(AS.persist_eq _).1]; exact h.see _
    · split
      · exact h
      · split
        · split
          · exact h
          · exact h
        · split
          · exact h
          · exact h
theorem AS.open_T1 (lg : AL) (el : EM) : (AS.open lg el).el.T1 := EM.T1.restore _ _ _
end Go.Tw
