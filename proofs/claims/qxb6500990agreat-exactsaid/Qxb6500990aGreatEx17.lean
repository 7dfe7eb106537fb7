/- a cell of a kept list is written -/
import Derived.Test.Qxb6500990aGreatEx14
set_option linter.unusedVariables false
set_option linter.unusedSimpArgs false
namespace Go.Tw
open Go Go.Proofs Go.Proofs.Qxb6500990aGreat Go.RowKit
theorem outsC_set {l : List OutM} {i : Nat} (h : i < l.length) (t : Int) (r : Bs) : ((outsC l).toArray.setIfInBounds (i * 2) (.int .i64 t)).setIfInBounds (i * 2 + 1) (.string (ByteArray.mk r.toArray)) = (outsC (l.set i ⟨t, r⟩)).toArray := by
  have e1 := flat_set (fun r : OutM => r.cells.toList) 2 (fun _ => rfl) l i _ ⟨t, l[i].raw⟩ 0 (.int .i64 t) (List.getElem?_eq_getElem h) (by omega) rfl
  have h2 : (l.set i ⟨t, l[i].raw⟩)[i]? = some ⟨t, l[i].raw⟩ := by simp [h]
  have e2 := flat_set (fun r : OutM => r.cells.toList) 2 (fun _ => rfl) (l.set i ⟨t, l[i].raw⟩) i _ ⟨t, r⟩ 1 (.string (ByteArray.mk r.toArray)) h2 (by omega) rfl
  rw [List.set_set] at e2
  simp only [List.setIfInBounds_toArray]
  unfold outsC
  rw [Nat.add_zero] at e1
  rw [e1, e2]
theorem repsC_set {l : List Reply} {i : Nat} (h : i < l.length) (x : Reply) : ((((repsC l).toArray.setIfInBounds (i * 4) (.int .i64 x.client)).setIfInBounds (i * 4 + 1) (.int .i64 x.seq)).setIfInBounds (i * 4 + 2) (.int .i64 x.ans.err)).setIfInBounds (i * 4 + 3) (.string (ByteArray.mk x.ans.val.toArray)) = (repsC (l.set i x)).toArray := by
  obtain ⟨xc, xs, ⟨xe, xv⟩⟩ := x
  have e1 := flat_set (fun r : Reply => r.cells.toList) 4 (fun _ => rfl) l i _ ⟨xc, l[i].seq, ⟨l[i].ans.err, l[i].ans.val⟩⟩ 0 (.int .i64 xc) (List.getElem?_eq_getElem h) (by omega) rfl
  have h2 : ∀ y : Reply, (l.set i y)[i]? = some y := fun y => by simp [h]
  have e2 := flat_set (fun r : Reply => r.cells.toList) 4 (fun _ => rfl) (l.set i ⟨xc, l[i].seq, ⟨l[i].ans.err, l[i].ans.val⟩⟩) i _ ⟨xc, xs, ⟨l[i].ans.err, l[i].ans.val⟩⟩ 1 (.int .i64 xs) (h2 _) (by omega) rfl
  have e3 := flat_set (fun r : Reply => r.cells.toList) 4 (fun _ => rfl) (l.set i ⟨xc, xs, ⟨l[i].ans.err, l[i].ans.val⟩⟩) i _ ⟨xc, xs, ⟨xe, l[i].ans.val⟩⟩ 2 (.int .i64 xe) (h2 _) (by omega) rfl
  have e4 := flat_set (fun r : Reply => r.cells.toList) 4 (fun _ => rfl) (l.set i ⟨xc, xs, ⟨xe, l[i].ans.val⟩⟩) i _ ⟨xc, xs, ⟨xe, xv⟩⟩ 3 (.string (ByteArray.mk xv.toArray)) (h2 _) (by omega) rfl
  rw [List.set_set] at e2 e3 e4
  simp only [List.setIfInBounds_toArray]
  unfold repsC
  rw [Nat.add_zero] at e1
  rw [e1, e2, e3, e4]
theorem set_flatO {α : Type} {l : List (LC α)} {i : Nat} {b b' : LC α} (h : l[i]? = some b) (he : b'.cells = b.cells) : (l.set i b').flatMap LC.cells = l.flatMap LC.cells := by
  rw [List.flatMap_def, List.flatMap_def]
  congr 1
  apply List.ext_getElem?
  intro j
  simp only [List.getElem?_map, List.getElem?_set]
  by_cases e : i = j
  · subst e
    have hl := (List.getElem?_eq_some_iff.1 h).1
    simp only [if_true, hl, Option.map_some, h, he]
  · simp [e]
section
variable {B bw S i j : Nat} {w w' : World} {own : Own} {c : Conf} {vb vo vr vv : Value} {F : Nat → Prop}
theorem WI.setOut (h : WI B w bw own c vb vo vr vv S) {x : LC OutM} (hx : c.os[j]? = some x) {ys : List OutM} (hl : ys.length = x.xs.length) (m : ModP F w w') (hF : ∀ k, F k → own k = .o j ∨ own k = .ow j ∨ own k = .no)
    (a : w'.At x.g (outsC ys).toArray 72) (a' : w'.At x.h (outsC ys).toArray 72) : WI B w' bw own { c with os := c.os.set j ⟨x.g, x.h, ys⟩ } vb vo vr vv S := by
  have sm : Same w own own := .refl _ _
  have ok := h.os j x hx
  have fr : ∀ t : Tag, t ≠ .o j → t ≠ .ow j → t ≠ .no → ∀ k, F k → own k ≠ t := fun t n1 n2 n3 k f e => by
    rcases hF k f with q | q | q
    · exact n1 (e.symm.trans q)
    · exact n2 (e.symm.trans q)
    · exact n3 (e.symm.trans q)
  have hc : (LC.mk x.g x.h ys).cells = x.cells := by unfold LC.cells; simp only [hl]
  refine ⟨m.at h.hw (fun f => fr .law nofun nofun nofun bw f h.tw), h.tw, h.rb.frame m (fr _ nofun nofun nofun) sm, ?_, h.rr.frame m (fr _ nofun nofun nofun) sm, h.rv.frame m (fr _ nofun nofun nofun) sm, fun k hk => ⟨(h.lo k hk).1, Nat.lt_of_lt_of_le (h.lo k hk).2 m.size⟩, h.kb, fun i b hb => (h.bs i b hb).frame m (fun k f => ⟨fr (.br i) nofun nofun nofun k f, fr (.bm i) nofun nofun nofun k f⟩) sm (Nat.le_refl _), fun i y hy => ?_, fun i y hy => (h.rs i y hy).frame m (fun k f => ⟨fr (.r i) nofun nofun nofun k f, fr (.rw i) nofun nofun nofun k f⟩) sm, fun i y hy => (h.vs i y hy).frame m (fun k f => ⟨fr (.v i) nofun nofun nofun k f, fr (.vs i) nofun nofun nofun k f⟩) sm, ?_, h.sz⟩
  · show RowOk B w' own .ro 52 2 vo (c.os.set j ⟨x.g, x.h, ys⟩).length ((c.os.set j ⟨x.g, x.h, ys⟩).flatMap LC.cells)
    rw [List.length_set, set_flatO hx hc]
    exact h.ro.frame m (fr _ nofun nofun nofun) sm
  · have hy' : (c.os.set j ⟨x.g, x.h, ys⟩)[i]? = some y := hy
    rw [List.getElem?_set] at hy'
    by_cases e : j = i
    · subst e
      have hlt := (List.getElem?_eq_some_iff.1 hx).1
      simp [hlt] at hy'
      subst hy'
      exact ⟨a, ok.t, a', ok.t', by show ys.length ≤ 1000; rw [hl]; exact ok.l, by show 0 < ys.length; rw [hl]; exact ok.p⟩
    · rw [if_neg e] at hy'
      refine (h.os i y hy').frame m (fun k f => ⟨fr (.o i) (fun q => ?_) nofun nofun k f, fr (.ow i) nofun (fun q => ?_) nofun k f⟩) sm
      · injection q with q; exact e q.symm
      · injection q with q; exact e q.symm
  · have := h.ln
    show c.bs.length ≤ S ∧ (c.os.set j ⟨x.g, x.h, ys⟩).length ≤ S ∧ c.rs.length ≤ S ∧ c.vs.length ≤ S
    rw [List.length_set]; exact this
theorem WI.setRep (h : WI B w bw own c vb vo vr vv S) {x : LC Reply} (hx : c.rs[j]? = some x) {ys : List Reply} (hl : ys.length = x.xs.length) (m : ModP F w w') (hF : ∀ k, F k → own k = .r j ∨ own k = .rw j ∨ own k = .no)
    (a : w'.At x.g (repsC ys).toArray 77) (a' : w'.At x.h (repsC ys).toArray 77) : WI B w' bw own { c with rs := c.rs.set j ⟨x.g, x.h, ys⟩ } vb vo vr vv S := by
  have sm : Same w own own := .refl _ _
  have ok := h.rs j x hx
  have fr : ∀ t : Tag, t ≠ .r j → t ≠ .rw j → t ≠ .no → ∀ k, F k → own k ≠ t := fun t n1 n2 n3 k f e => by
    rcases hF k f with q | q | q
    · exact n1 (e.symm.trans q)
    · exact n2 (e.symm.trans q)
    · exact n3 (e.symm.trans q)
  have hc : (LC.mk x.g x.h ys).cells = x.cells := by unfold LC.cells; simp only [hl]
  refine ⟨m.at h.hw (fun f => fr .law nofun nofun nofun bw f h.tw), h.tw, h.rb.frame m (fr _ nofun nofun nofun) sm, h.ro.frame m (fr _ nofun nofun nofun) sm, ?_, h.rv.frame m (fr _ nofun nofun nofun) sm, fun k hk => ⟨(h.lo k hk).1, Nat.lt_of_lt_of_le (h.lo k hk).2 m.size⟩, h.kb, fun i b hb => (h.bs i b hb).frame m (fun k f => ⟨fr (.br i) nofun nofun nofun k f, fr (.bm i) nofun nofun nofun k f⟩) sm (Nat.le_refl _), fun i y hy => (h.os i y hy).frame m (fun k f => ⟨fr (.o i) nofun nofun nofun k f, fr (.ow i) nofun nofun nofun k f⟩) sm, fun i y hy => ?_, fun i y hy => (h.vs i y hy).frame m (fun k f => ⟨fr (.v i) nofun nofun nofun k f, fr (.vs i) nofun nofun nofun k f⟩) sm, ?_, h.sz⟩
  · show RowOk B w' own .rr 56 2 vr (c.rs.set j ⟨x.g, x.h, ys⟩).length ((c.rs.set j ⟨x.g, x.h, ys⟩).flatMap LC.cells)
    rw [List.length_set, set_flatO hx hc]
    exact h.rr.frame m (fr _ nofun nofun nofun) sm
  · have hy' : (c.rs.set j ⟨x.g, x.h, ys⟩)[i]? = some y := hy
    rw [List.getElem?_set] at hy'
    by_cases e : j = i
    · subst e
      have hlt := (List.getElem?_eq_some_iff.1 hx).1
      simp [hlt] at hy'
      subst hy'
      exact ⟨a, ok.t, a', ok.t', by show ys.length ≤ 1000; rw [hl]; exact ok.l, by show 0 < ys.length; rw [hl]; exact ok.p⟩
    · rw [if_neg e] at hy'
      refine (h.rs i y hy').frame m (fun k f => ⟨fr (.r i) (fun q => ?_) nofun nofun k f, fr (.rw i) nofun (fun q => ?_) nofun k f⟩) sm
      · injection q with q; exact e q.symm
      · injection q with q; exact e q.symm
  · have := h.ln
    show c.bs.length ≤ S ∧ c.os.length ≤ S ∧ (c.rs.set j ⟨x.g, x.h, ys⟩).length ≤ S ∧ c.vs.length ≤ S
    rw [List.length_set]; exact this
end
end Go.Tw
