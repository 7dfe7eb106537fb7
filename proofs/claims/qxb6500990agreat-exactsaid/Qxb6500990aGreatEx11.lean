/- a step of one base; Mark -/
import Derived.Test.Qxb6500990aGreatEx9
set_option linter.unusedVariables false
set_option linter.unusedSimpArgs false
namespace Go.Tw
open Go Go.Proofs Go.Proofs.Qxb6500990aGreat Go.RowKit
open Classical in
/-- the new blocks of base i -/
noncomputable def tagO (own : Own) (Gr Gm : Nat → Prop) (i : Nat) : Own := fun k => if own k = .no then (if Gr k then .br i else if Gm k then .bm i else .no) else own k
theorem tagO_same {own : Own} {Gr Gm : Nat → Prop} {i : Nat} {w : World} : Same w own (tagO own Gr Gm i) := fun k hk => by unfold tagO; rw [if_neg hk]
theorem tagO_out {own : Own} {Gr Gm : Nat → Prop} {i k : Nat} (h1 : ¬ Gr k) (h2 : ¬ Gm k) : tagO own Gr Gm i k = own k := by
  unfold tagO
  by_cases e : own k = .no
  · rw [if_pos e, if_neg h1, if_neg h2, e]
  · rw [if_neg e]
theorem set_flat {l : List BC} {i : Nat} {b b' : BC} (h : l[i]? = some b) (he : b'.cells = b.cells) : (l.set i b').flatMap BC.cells = l.flatMap BC.cells := by
  rw [List.flatMap_def, List.flatMap_def]
  congr 1
  apply List.ext_getElem?
  intro j
  simp only [List.getElem?_map, List.getElem?_set]
  by_cases e : i = j
  · subst e
    have hl := (List.getElem?_eq_some_iff.1 h).1
    simp only [if_true, hl, Option.map_some, h, he]
  · simp [e]
section
variable {B bw S S' i : Nat} {w w' : World} {own : Own} {c : Conf} {vb vo vr vv : Value} {F G1 G2 : Nat → Prop} {b b' : BC}
theorem WI.baseStep (h : WI B w bw own c vb vo vr vv S) (hb : c.bs[i]? = some b) (m : ModP F w w') (hF : ∀ k, F k → own k = .br i ∨ own k = .bm i) (r1 : ∃ R, RNp w' G1 b'.q b'.n R) (g1 : ∀ k, G1 k → own k = .br i ∨ w.heap.size ≤ k)
    (r2 : NMp w' G2 b'.p.b b'.p.bs b'.p.bl b'.p.be b'.p.bk b'.n) (g2 : ∀ k, G2 k → own k = .bm i ∨ w.heap.size ≤ k) (ap : ∀ k, G1 k → ¬ G2 k) (gd : b'.n.Gd) (eid : b'.n.sy.el.id = (EM.new b'.id).id) (hh : b'.n.sy.lg.hist.length ≤ 21)
    (nb : b'.q.s.N + b'.n.sy.lg.hist.length ≤ 100 * S') (hc : b'.cells = b.cells) (hS : S ≤ S') (hz : S' ≤ 1073741824) :
    WI B w' bw (tagO own G1 G2 i) { c with bs := c.bs.set i b' } vb vo vr vv S' := by
  obtain ⟨R, r1⟩ := r1
  have hno : ∀ k, w.heap.size ≤ k → own k = .no := fun k hk => by
    rcases e : own k with _ | _ | _ | _ | _ | _ | _ | _ | _ | _ | _ | _ | _ | _
    · rfl
    all_goals (have := (h.lo k (by rw [e]; exact nofun)).2; omega)
  have lB : B ≤ w.heap.size := by have := h.lo bw (by rw [h.tw]; exact nofun); omega
  have sm : Same w own (tagO own G1 G2 i) := tagO_same
  have t1 : ∀ k, G1 k → tagO own G1 G2 i k = .br i := fun k hk => by
    rcases g1 k hk with q | q
    · rw [sm k (by rw [q]; exact nofun)]; exact q
    · unfold tagO; rw [if_pos (hno k q), if_pos hk]
  have t2 : ∀ k, G2 k → tagO own G1 G2 i k = .bm i := fun k hk => by
    rcases g2 k hk with q | q
    · rw [sm k (by rw [q]; exact nofun)]; exact q
    · unfold tagO; rw [if_pos (hno k q), if_neg (fun q2 => ap k q2 hk), if_pos hk]
  have fr : ∀ t : Tag, t ≠ .br i → t ≠ .bm i → ∀ k, F k → own k ≠ t := fun t n1 n2 k f e => by
    rcases hF k f with q | q
    · exact n1 (e.symm.trans q)
    · exact n2 (e.symm.trans q)
  refine ⟨m.at h.hw (fun f => fr .law nofun nofun bw f h.tw), by rw [sm _ (by rw [h.tw]; exact nofun)]; exact h.tw, ?_, h.ro.frame m (fr _ nofun nofun) sm, h.rr.frame m (fr _ nofun nofun) sm, h.rv.frame m (fr _ nofun nofun) sm, fun k hk => ?_, ?_, fun j x hx => ?_, fun j x hx => (h.os j x hx).frame m (fun k f => ⟨fr (.o j) nofun nofun k f, fr (.ow j) nofun nofun k f⟩) sm, fun j x hx => (h.rs j x hx).frame m (fun k f => ⟨fr (.r j) nofun nofun k f, fr (.rw j) nofun nofun k f⟩) sm, fun j x hx => (h.vs j x hx).frame m (fun k f => ⟨fr (.v j) nofun nofun k f, fr (.vs j) nofun nofun k f⟩) sm, ?_, hz⟩
  · show RowOk B w' _ .rb 41 4 vb (c.bs.set i b').length ((c.bs.set i b').flatMap BC.cells)
    rw [List.length_set, set_flat hb hc]
    exact h.rb.frame m (fr _ nofun nofun) sm
  · by_cases k1 : G1 k
    · rcases g1 k k1 with q | q
      · exact ⟨(h.lo k (by rw [q]; exact nofun)).1, r1.wi k k1⟩
      · exact ⟨Nat.le_trans lB q, r1.wi k k1⟩
    · by_cases k2 : G2 k
      · rcases g2 k k2 with q | q
        · exact ⟨(h.lo k (by rw [q]; exact nofun)).1, r2.wi k k2⟩
        · exact ⟨Nat.le_trans lB q, r2.wi k k2⟩
      · rw [tagO_out k1 k2] at hk
        exact ⟨(h.lo k hk).1, Nat.lt_of_lt_of_le (h.lo k hk).2 m.size⟩
  · show c.bs.set i b' ≠ [] → 0 ≤ c.k ∧ c.k < (c.bs.set i b').length
    rw [List.length_set]
    exact fun _ => h.kb (fun e => by rw [e] at hb; simp at hb)
  · have hx' : (c.bs.set i b')[j]? = some x := hx
    rw [List.getElem?_set] at hx'
    by_cases e : i = j
    · subst e
      have hl := (List.getElem?_eq_some_iff.1 hb).1
      simp [hl] at hx'
      subst hx'
      exact ⟨⟨G1, R, r1, t1⟩, ⟨G2, r2, t2⟩, gd, eid, hh, nb⟩
    · rw [if_neg e] at hx'
      refine (h.bs j x hx').frame m (fun k f => ⟨fr (.br j) (fun q => ?_) nofun k f, fr (.bm j) nofun (fun q => ?_) k f⟩) sm hS
      · injection q with q; exact e q.symm
      · injection q with q; exact e q.symm
  · have := h.ln
    show (c.bs.set i b').length ≤ S' ∧ c.os.length ≤ S' ∧ c.rs.length ≤ S' ∧ c.vs.length ≤ S'
    rw [List.length_set]; omega
end
end Go.Tw
namespace Go.Proofs.Qxb6500990aGreat
open Go Go.RowKit Go.Tw
section
variable {W : World} {G : Nat → Prop} {q : NoP} {n : AN} {R : List Reply}
/-- Mark of the disk below a node -/
theorem c15n (h : RNp W G q n R) (hN : q.s.N + n.sy.lg.hist.length ≤ 1125899906842624) :
    Calls Tryz.prog 15 #[vp q.s.bd] W fun r w' => r = .returned (.tuple #[]) ∧ RNp w' (trimG G W w') (q.re (q.s.N + n.sy.lg.hist.length) 0) n.mark R ∧ ModP G W w' := by
  obtain ⟨Fd, D, dk, fsub, tie, put⟩ := h.disk
  refine (k15 dk).mono ?_
  rintro r w' ⟨rfl, d1, m1⟩
  refine ⟨rfl, ?_, m1.mono fsub⟩
  exact put w' _ _ n.sy.lg.now.al _ 0 m1 d1.trim (fun k hk => hk.1) (fun k hk => hk.2) rfl rfl (tie.mark hN)
end
end Go.Proofs.Qxb6500990aGreat
