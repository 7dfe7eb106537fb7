/- a cell of a kept view is written -/
import Derived.Test.Qxb6500990aGreatEx17
set_option linter.unusedVariables false
set_option linter.unusedSimpArgs false
namespace Go.Tw
open Go Go.Proofs Go.Proofs.Qxb6500990aGreat Go.RowKit
section
variable {B bw S j : Nat} {w w' : World} {own : Own} {c : Conf} {vb vo vr vv : Value} {F : Nat → Prop}
theorem WI.setView (h : WI B w bw own c vb vo vr vv S) {x x' : VC} (hx : c.vs[j]? = some x) (e1 : x'.br = x.br) (e2 : x'.bs = x.bs) (es : x'.nv.sync = vp x'.bs) (m : ModP F w w') (hF : ∀ k, F k → own k = .v j ∨ own k = .vs j ∨ own k = .rv ∨ own k = .no)
    (a : w'.At x.br (NodeV.cells { x'.nv with sync := ptr x'.at_ }) 62) (a' : w'.At x.bs x'.sv.cells 64) (hrow : w'.ownsRow B 66 34 vv c.vs.length ((c.vs.set j x').flatMap VC.cells)) : WI B w' bw own { c with vs := c.vs.set j x' } vb vo vr vv S := by
  have sm : Same w own own := .refl _ _
  have ok := h.vs j x hx
  have fr : ∀ t : Tag, t ≠ .v j → t ≠ .vs j → t ≠ .rv → t ≠ .no → ∀ k, F k → own k ≠ t := fun t n1 n2 n3 n4 k f e => by
    rcases hF k f with q | q | q | q
    · exact n1 (e.symm.trans q)
    · exact n2 (e.symm.trans q)
    · exact n3 (e.symm.trans q)
    · exact n4 (e.symm.trans q)
  refine ⟨m.at h.hw (fun f => fr .law nofun nofun nofun nofun bw f h.tw), h.tw, h.rb.frame m (fr _ nofun nofun nofun nofun) sm, h.ro.frame m (fr _ nofun nofun nofun nofun) sm, h.rr.frame m (fr _ nofun nofun nofun nofun) sm, ⟨?_, h.rv.2⟩, fun k hk => ⟨(h.lo k hk).1, Nat.lt_of_lt_of_le (h.lo k hk).2 m.size⟩, h.kb, fun i b hb => (h.bs i b hb).frame m (fun k f => ⟨fr (.br i) nofun nofun nofun nofun k f, fr (.bm i) nofun nofun nofun nofun k f⟩) sm (Nat.le_refl _), fun i y hy => (h.os i y hy).frame m (fun k f => ⟨fr (.o i) nofun nofun nofun nofun k f, fr (.ow i) nofun nofun nofun nofun k f⟩) sm, fun i y hy => (h.rs i y hy).frame m (fun k f => ⟨fr (.r i) nofun nofun nofun nofun k f, fr (.rw i) nofun nofun nofun nofun k f⟩) sm, fun i y hy => ?_, ?_, h.sz⟩
  · show w'.ownsRow B 66 34 vv (c.vs.set j x').length ((c.vs.set j x').flatMap VC.cells)
    rw [List.length_set]; exact hrow
  · have hy' : (c.vs.set j x')[i]? = some y := hy
    rw [List.getElem?_set] at hy'
    by_cases e : j = i
    · subst e
      have hlt := (List.getElem?_eq_some_iff.1 hx).1
      simp [hlt] at hy'
      subst hy'
      exact ⟨by rw [e1]; exact a, by rw [e1]; exact ok.t, by rw [e2]; exact a', by rw [e2]; exact ok.t', es⟩
    · rw [if_neg e] at hy'
      refine (h.vs i y hy').frame m (fun k f => ⟨fr (.v i) (fun q => ?_) nofun nofun nofun k f, fr (.vs i) nofun (fun q => ?_) nofun nofun k f⟩) sm
      · injection q with q; exact e q.symm
      · injection q with q; exact e q.symm
  · have := h.ln
    show c.bs.length ≤ S ∧ c.os.length ≤ S ∧ c.rs.length ≤ S ∧ (c.vs.set j x').length ≤ S
    rw [List.length_set]; exact this
/-- one cell of a row is written -/
theorem ownsRow_set {e s n o : Nat} {v : Value} {xs : List Value} {g : Nat} {cur : Array Value} {u : Value} (h : w.ownsRow B e s v n xs) (hv : v.ownBlock = some g) (hc : w.At g cur e) (m : w'.At g (cur.setIfInBounds o u) e) : w'.ownsRow B e s v n (xs.set o u) := by
  refine ⟨by rw [List.length_set]; exact h.1, ?_⟩
  rcases id h.2 with ⟨hv0, h0⟩ | ⟨g', cap, cur', hv0, h3, h4, h5⟩
  · rw [hv0] at hv; cases hv
  · right
    rw [hv0] at hv
    have hg : g' = g := by simpa [Value.ownBlock] using hv
    subst hg
    have e4 : cur' = cur := by
      have a0 : w.heap[g']? = some (.cells cur e (0, 0)) := hc
      rw [h4] at a0
      simpa using a0
    subst e4
    refine ⟨g', cap, cur'.setIfInBounds o u, hv0, h3, m, ?_⟩
    refine ⟨h5.1, h5.2.1, by simpa using h5.2.2.1, ?_⟩
    rw [Array.toList_setIfInBounds, List.take_set, h5.2.2.2]
end
end Go.Tw
