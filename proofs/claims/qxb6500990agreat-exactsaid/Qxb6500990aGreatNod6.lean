/- package nodem: after, what it needs -/
import Derived.Test.Qxb6500990aGreatNod5
set_option linter.unusedVariables false
set_option linter.unusedSimpArgs false
namespace Go.Tw
open Go Go.Proofs Go.Proofs.Qxb6500990aGreat Go.RowKit
/-- the node behind some steps from W on, and messages in blocks of their own -/
def NBm (G0 : Nat → Prop) (W : World) (b bs bl be bk : Nat) (n : AN) (ms : List Msg) (w : World) (v : Value) : Prop :=
  ∃ X, NBx G0 W X b bs bl be bk n w ∧ MsgsX X w v ms ∧ ∀ k, X k → W.heap.size ≤ k
/-- what an event gives: the answer D in blocks of its own, and the node -/
def DidN (G0 : Nat → Prop) (W : World) (b bs bl be bk : Nat) (D : Did) (n : AN) (r : Ending) (w : World) : Prop :=
  ∃ vo vr X, r = .returned (.agg (DidR.cells ⟨D.err, vo, vr⟩)) ∧ NBx G0 W X b bs bl be bk n w ∧ RowX X w 72 2 vo D.outs.length (outsC D.outs) ∧ RowX X w 77 4 vr D.reps.length (repsC D.reps) ∧ ∀ k, X k → W.heap.size ≤ k
section
variable {w w1 W : World} {F G G0 X X' : Nat → Prop} {b bs bl be bk : Nat} {n n' : AN} {vm : Value} {ms : List Msg}
theorem NBm.nb (h : NBm G0 W b bs bl be bk n ms w vm) : NB G0 W b bs bl be bk n w := by obtain ⟨X, h, _⟩ := h; exact h.nb
theorem NBm.hb (h : NBm G0 W b bs bl be bk n ms w vm) : w.At b (NoR bs bk n).cells 104 := h.nb.hb
theorem NBm.msgs (h : NBm G0 W b bs bl be bk n ms w vm) : ∃ X, MsgsX X w vm ms := by obtain ⟨X, _, h, _⟩ := h; exact ⟨X, h⟩
theorem MsgsX.form (h : ∃ X, MsgsX X w vm ms) : ∃ ad cap, vm = .slice ad ms.length cap ∧ True := by
  obtain ⟨X, ps, h1, h2, h3⟩ := h
  obtain ⟨ad, cap, h4, -⟩ := ownsRow_form h2.1
  have : ps.length = ms.length := by rw [← h1]; simp
  exact ⟨ad, cap, by rw [h4, this], trivial⟩
theorem AN.giveN_succ (k c : Nat) (n : AN) : AN.giveN (k + 1) c n = ((AN.giveN k (c + 1) (n.give c).1).1, (n.give c).2 ++ (AN.giveN k (c + 1) (n.give c).1).2) := rfl
theorem AS.compact_el (A : AS) (u : Int) (sn : Bs) : (A.compact u sn).2.el = A.el := by unfold AS.compact; split <;> rfl
theorem AS.compact_commit (A : AS) (u : Int) (sn : Bs) : (A.compact u sn).2.commit = A.commit := by unfold AS.compact; split <;> rfl
theorem AN.catchUp_sy (n : AN) : n.catchUp.sy = n.sy := by unfold AN.catchUp; split <;> rfl
theorem Af.begin (h : NBm G0 W b bs bl be bk n ms w vm) {c : Array Value} (hc : c = DidR.cells ⟨0, .slice none 0 0, .slice none 0 0⟩ := by rfl) :
    Af G0 W b bs bl be bk n (w.heap.size + 1) ⟨0, .slice none 0 0, .slice none 0 0⟩ [] [] vm ms [(w.heap.size, c, 117)] ((w.alloc (.cells c 117 (0, 0))).alloc (.cells c 117 (0, 0))) := by
  obtain ⟨X, h1, h2, h3⟩ := h
  have m : ModP (fun _ => False) w ((w.alloc (.cells c 117 (0, 0))).alloc (.cells c 117 (0, 0))) := ((ModP.refl _ _).alloc _).alloc _
  have hs := h1.nb.mod.size
  have hz : ((w.alloc (.cells c 117 (0, 0))).alloc (.cells c 117 (0, 0))).heap.size = w.heap.size + 2 := by simp only [World.alloc, Array.size_push]
  refine ⟨_, h1.out (m.mono fun _ f => f.elim) h3, by subst hc; exact at_new (by simp only [World.alloc, Array.size_push]), .inr ⟨by omega, by omega⟩, ⟨ownsRow_nil _ _ _ _, by simp [Value.ownBlock]⟩, ⟨ownsRow_nil _ _ _ _, by simp [Value.ownBlock]⟩, h2.step m (fun _ _ f => f) (fun _ a => .inl a), ?_, fun k a => a.elim (h3 k) (fun c => by have := c.1; omega)⟩
  intro e he
  simp only [List.mem_cons, List.not_mem_nil, or_false] at he
  subst he
  exact ⟨.inr ⟨by simp only []; omega, by simp only []; omega⟩, World.At.alloc World.At_alloc_new _⟩
theorem Af.repl {b5 : Nat} {D : DidR} {os : List OutM} {rs : List Reply} {ex : List (Nat × Array Value × TypeId)} {x : Nat} {c : Array Value} {T : TypeId} (h : Af G0 W b bs bl be bk n b5 D os rs vm ms ((x, c, T) :: ex) w) (n5 : x ≠ b5) (hx : ∀ e ∈ ex, e.1 ≠ x)
    (hT : T ≠ 72 ∧ T ≠ 77 ∧ T ≠ 159 ∧ T ≠ 232) (c' : Array Value) (T' : TypeId) : Af G0 W b bs bl be bk n b5 D os rs vm ms ((x, c', T') :: ex) (w.put x c' T') := by
  obtain ⟨X, h⟩ := h
  obtain ⟨xx, ax⟩ := h.he _ List.mem_cons_self
  simp only [] at xx ax
  have m : ModP (fun k => k = x) w (w.put x c' T') := (ModP.refl (fun k => k = x) w).put (.inl rfl) _ _
  have hs := h.nb.nb.mod.size
  have hX : ∀ k, X k → (X k ∨ (w.heap.size ≤ k ∧ k < (w.put x c' T').heap.size)) := fun _ a => .inl a
  refine ⟨_, h.nb.out (m.mono fun k e => by rw [e]; exact xx) h.lo, m.at h.h5 (Ne.symm n5), hX _ h.x5, ⟨ownsRow_frame h.ho.1 m ?_, fun g hg => hX g (h.ho.2 g hg)⟩, ⟨ownsRow_frame h.hr.1 m ?_, fun g hg => hX g (h.hr.2 g hg)⟩, ?_, ?_, fun k a => a.elim (h.lo k) (fun c => by have := c.1; omega)⟩
  · intro g hg e; exact row_ne_at h.ho.1 ax hT.1 (e ▸ hg)
  · intro g hg e; exact row_ne_at h.hr.1 ax hT.2.1 (e ▸ hg)
  · obtain ⟨ps, q1, q2, q3⟩ := h.hm
    refine ⟨ps, q1, ⟨ownsRow_frame q2.1 m ?_, fun g hg => hX g (q2.2 g hg)⟩, fun p hp => ⟨ownsRow_frame (q3 p hp).1 m ?_, fun g hg => hX g ((q3 p hp).2 g hg)⟩⟩
    · intro g hg e; exact row_ne_at q2.1 ax hT.2.2.1 (e ▸ hg)
    · intro g hg e; exact row_ne_at (q3 p hp).1 ax hT.2.2.2 (e ▸ hg)
  · intro e he
    rcases List.mem_cons.1 he with rfl | he
    · exact ⟨hX _ xx, World.At_put_same ax.inB⟩
    · obtain ⟨x1, x2⟩ := h.he e (List.mem_cons_of_mem _ he)
      exact ⟨hX _ x1, m.at x2 (hx e he)⟩
theorem Af.rowR {b5 : Nat} {D : DidR} {os : List OutM} {rs : List Reply} {ex : List (Nat × Array Value × TypeId)} (h : Af G0 W b bs bl be bk n b5 D os rs vm ms ex w) : w.ownsRow 0 77 4 D.reps rs.length (repsC rs) := by obtain ⟨X, h⟩ := h; exact h.hr.1
theorem Af.rowO {b5 : Nat} {D : DidR} {os : List OutM} {rs : List Reply} {ex : List (Nat × Array Value × TypeId)} (h : Af G0 W b bs bl be bk n b5 D os rs vm ms ex w) : w.ownsRow 0 72 2 D.outs os.length (outsC os) := by obtain ⟨X, h⟩ := h; exact h.ho.1
theorem Af.msgs {b5 : Nat} {D : DidR} {os : List OutM} {rs : List Reply} {ex : List (Nat × Array Value × TypeId)} (h : Af G0 W b bs bl be bk n b5 D os rs vm ms ex w) : ∃ X, MsgsX X w vm ms := by obtain ⟨X, h⟩ := h; exact ⟨X, h.hm⟩
theorem msgR_size (m : Msg) (v : Value) : (m.r v).cells.toList.length = 10 := rfl
theorem msgsC_get : ∀ (ps : List (Msg × Value)) (i : Nat) (p : Msg × Value), ps[i]? = some p → ∀ j, j < 10 → (msgsC ps)[i * 10 + j]? = (p.1.r p.2).cells[j]?
  | [], i, p, h, _, _ => by simp at h
  | q :: ps, 0, p, h, j, hj => by
    simp at h; subst h
    simp only [msgsC, List.flatMap_cons, Nat.zero_mul, Nat.zero_add]
    rw [List.getElem?_append_left (by rw [msgR_size]; exact hj)]
    exact Array.getElem?_toList
  | q :: ps, i + 1, p, h, j, hj => by
    have h1 := msgsC_get ps i p (by simpa using h) j hj
    simp only [msgsC, List.flatMap_cons] at *
    rw [List.getElem?_append_right (by rw [msgR_size]; omega), msgR_size, show (i + 1) * 10 + j - 10 = i * 10 + j by omega]
    exact h1
theorem MsgsX.get {ad : Option Addr} {cap i : Nat} (h : MsgsX X w (.slice ad ms.length cap) ms) (hi : i < ms.length) : ∃ g v, ad = some ⟨g, 0, none⟩ ∧ w.inB g ∧ (∀ j, j < 10 → w.cell? ⟨g, i * 10 + j, none⟩ = ((ms[i]).r v).cells[j]?) ∧ EntsAt 0 w v (ms[i]).ents := by
  obtain ⟨ps, h1, h2, h3⟩ := h
  have hl : ps.length = ms.length := by rw [← h1]; simp
  have hp : ps[i]? = some (ps[i]'(by omega)) := List.getElem?_eq_getElem (by omega)
  have hm : (ps[i]'(by omega)).1 = ms[i] := by
    have : ms[i]? = some (ps[i]'(by omega)).1 := by have h9 := congrArg (fun l => l[i]?) h1; simp only [List.getElem?_map, hp] at h9; exact h9.symm
    rw [List.getElem?_eq_getElem hi] at this
    exact (Option.some.inj this).symm
  obtain ⟨ad', cap', e1, e2⟩ := ownsRow_form h2.1
  have ead : ad = ad' := by injection e1
  subst ead
  have hc := fun j hj => msgsC_get ps i _ hp j hj
  rw [hm] at hc
  have hz : ∀ j, j < 10 → ∃ u, ((ms[i]).r (ps[i]'(by omega)).2).cells[j]? = some u := fun j hj => ⟨_, Array.getElem?_eq_getElem (by exact hj)⟩
  obtain ⟨u0, hu0⟩ := hz 0 (by omega)
  obtain ⟨g, hg, ig, _⟩ := e2 (i * 10 + 0) u0 ((hc 0 (by omega)).trans hu0)
  refine ⟨g, (ps[i]'(by omega)).2, hg, ig, fun j hj => ?_, ?_⟩
  · obtain ⟨u, hu⟩ := hz j hj
    obtain ⟨g', hg', _, hcell⟩ := e2 (i * 10 + j) u ((hc j hj).trans hu)
    have : g = g' := by rw [hg] at hg'; simpa using hg'
    subst this
    rw [hcell, hu]
  · have := (h3 _ (List.getElem_mem (by omega : i < ps.length))).1
    rw [hm] at this
    exact this
end
end Go.Tw
