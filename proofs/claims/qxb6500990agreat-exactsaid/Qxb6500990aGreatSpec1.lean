/- Plain functions: the election rule. EM is the model's own record. -/
import Derived.Test.Qxb6500990aGreatStructs
set_option linter.unusedVariables false
set_option linter.unusedSimpArgs false
namespace Go.Tw
def maxT : Int := 72057594037927936
def tmo (id : Int) : Int := 3 + 2 * id
def EM.new (id : Int) : EM := ⟨if id < 0 ∨ 3 ≤ id then 0 else id, 0, -1, 0, -1, 0, fun _ => false⟩
def EM.restore (e : EM) (t v : Int) : EM := { e with term := t, vote := v, role := 0, leader := -1, clock := 0, got := fun _ => false }
def EM.seen (e : EM) (t : Int) : EM := { e with term := t, vote := -1, role := 0, leader := -1, got := fun _ => false }
def EM.sees (e : EM) (t : Int) : Bool := decide (e.term < t ∧ t ≤ maxT)
def EM.see (e : EM) (t : Int) : EM := if e.sees t then e.seen t else e
/-- (act, state) -/
def EM.tick (e : EM) : Int × EM :=
  if e.role = 2 then (2, e) else
  if e.clock + 1 < tmo e.id then (0, { e with clock := e.clock + 1 }) else
  if maxT ≤ e.term then (0, { e with clock := 0 }) else
  (1, { e with term := e.term + 1, vote := e.id, role := 1, leader := -1, clock := 0, got := fun j => decide ((j : Int) = e.id) })
def EM.peer (e : EM) (p : Int) : Bool := decide (0 ≤ p ∧ p < 3 ∧ p ≠ e.id)
def EM.asked (e : EM) (p t : Int) (up : Bool) : Bool × EM :=
  let e' := e.see t
  if t < e'.term ∨ up = false ∨ (e'.vote ≠ -1 ∧ e'.vote ≠ p) then (false, e') else (true, { e' with vote := p, clock := 0 })
def b2i (b : Bool) : Int := if b then 1 else 0
def EM.votes (e : EM) : Int := b2i (e.got 0) + b2i (e.got 1) + b2i (e.got 2)
def EM.gotVote (e : EM) (p t : Int) (ok : Bool) : Bool × EM :=
  if e.sees t then (false, e.seen t) else
  if t < e.term ∨ e.role ≠ 1 ∨ ok = false then (false, e) else
  let e' := { e with got := upd e.got p.toNat true }
  if e'.votes < 2 then (false, e') else (true, { e' with role := 2, leader := e.id, clock := 0 })
def EM.heard (e : EM) (p t : Int) : Bool × EM :=
  let e' := e.see t
  if t < e'.term ∨ e'.role = 2 then (false, e') else (true, { e' with role := 0, leader := p, clock := 0, got := fun _ => false })

structure EM.Ok (e : EM) : Prop where
  id0 : 0 ≤ e.id
  id1 : e.id < 3
  t0 : 0 ≤ e.term
  t1 : e.term ≤ maxT
  v0 : -1 ≤ e.vote
  v1 : e.vote < 3
  r0 : 0 ≤ e.role
  r1 : e.role < 3
  l0 : -1 ≤ e.leader
  l1 : e.leader < 3
  c0 : 0 ≤ e.clock
  c1 : e.clock < tmo e.id

theorem EM.ok_new (id : Int) : (EM.new id).Ok := by
  unfold EM.new
  by_cases h : id < 0 ∨ 3 ≤ id
  · constructor <;> simp only [h, if_true, tmo, maxT] <;> omega
  · constructor <;> simp only [h, if_false, tmo, maxT] <;> omega
theorem EM.Ok.restore {e : EM} (h : e.Ok) {t v : Int} (t0 : 0 ≤ t) (t1 : t ≤ maxT) (v0 : -1 ≤ v) (v1 : v < 3) : (e.restore t v).Ok := by
  obtain ⟨i0, i1, u0, u1, _, _, r0, r1, l0, l1, c0, c1⟩ := h
  unfold EM.restore
  constructor <;> simp only [tmo, maxT] at * <;> omega
theorem EM.Ok.seen {e : EM} (h : e.Ok) {t : Int} (t0 : 0 ≤ t) (t1 : t ≤ maxT) : (e.seen t).Ok := by
  obtain ⟨i0, i1, u0, u1, _, _, r0, r1, l0, l1, c0, c1⟩ := h
  unfold EM.seen
  constructor <;> simp only [tmo, maxT] at * <;> omega
theorem EM.Ok.see {e : EM} (h : e.Ok) (t : Int) : (e.see t).Ok := by
  unfold EM.see
  split
  · rename_i hs
    simp only [EM.sees, decide_eq_true_eq] at hs
    have := h.t0
    exact h.seen (by omega) hs.2
  · exact h
theorem EM.Ok.tick {e : EM} (h : e.Ok) : e.tick.2.Ok := by
  obtain ⟨i0, i1, u0, u1, _, _, r0, r1, l0, l1, c0, c1⟩ := h
  unfold EM.tick
  (repeat' split) <;> constructor <;> simp only [tmo, maxT] at * <;> omega
theorem EM.Ok.asked {e : EM} (h : e.Ok) {p : Int} (hp : e.peer p = true) (t : Int) (up : Bool) : (e.asked p t up).2.Ok := by
  obtain ⟨i0, i1, u0, u1, _, _, r0, r1, l0, l1, c0, c1⟩ := h.see t
  simp only [EM.peer, decide_eq_true_eq] at hp
  unfold EM.asked
  simp only
  split <;> constructor <;> simp only [tmo, maxT] at * <;> omega
theorem EM.Ok.gotVote {e : EM} (h : e.Ok) (p t : Int) (ok : Bool) : (e.gotVote p t ok).2.Ok := by
  unfold EM.gotVote
  split
  · rename_i hs
    have := h.see t
    unfold EM.see at this
    rwa [if_pos hs] at this
  · obtain ⟨i0, i1, u0, u1, _, _, r0, r1, l0, l1, c0, c1⟩ := h
    simp only
    (repeat' split) <;> constructor <;> simp only [tmo, maxT] at * <;> omega
theorem EM.Ok.heard {e : EM} (h : e.Ok) {p : Int} (hp : e.peer p = true) (t : Int) : (e.heard p t).2.Ok := by
  obtain ⟨i0, i1, u0, u1, _, _, r0, r1, l0, l1, c0, c1⟩ := h.see t
  simp only [EM.peer, decide_eq_true_eq] at hp
  unfold EM.heard
  simp only
  split <;> constructor <;> simp only [tmo, maxT] at * <;> omega
end Go.Tw
