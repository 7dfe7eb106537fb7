/- one base more -/
import Derived.Test.Qxb6500990aGreatEx14
import Derived.Test.Qxb6500990aGreatGd0
set_option linter.unusedVariables false
set_option linter.unusedSimpArgs false
namespace Go.Tw
open Go Go.Proofs Go.Proofs.Qxb6500990aGreat Go.RowKit
theorem rk28 : RowK 28 41 4 32 := ⟨by kernel_rfl, ⟨(Tryz.prog.info? 41).getD default, ((Tryz.prog.info? 41).getD default).zero.getD default, by kernel_rfl, by kernel_rfl, by kernel_rfl, by kernel_rfl, by kernel_rfl⟩, by decide⟩
section
variable {B bw S S' : Nat} {w w' : World} {own : Own} {c : Conf} {vb vo vr vv vb' : Value} {F G1 G2 : Nat → Prop} {b : BC}
theorem WI.addBase (h : WI B w bw own c vb vo vr vv S) (m : ModP F w w') (hF : ∀ k, F k → own k = .no ∨ own k = .law ∨ own k = .rb) (hS : S ≤ S') (hz : S' ≤ 1073741824) (hl : c.bs.length + 1 ≤ S') {k' : Int} (hk0 : 0 ≤ k') (hk1 : k' < c.bs.length + 1)
    (hw : w'.At bw (WorldR.cells ⟨vb', k', c.ra, c.rb, c.old, vo, vr, vv, false⟩) 33) (hrow : w'.ownsRow B 41 4 vb' (c.bs.length + 1) (c.bs.flatMap BC.cells ++ BC.cells b))
    (hnew : ∀ k, vb'.ownBlock = some k → vb.ownBlock = some k ∨ w.heap.size ≤ k) (ng : ∀ k, vb'.ownBlock = some k → ¬ G1 k ∧ ¬ G2 k)
    (r1 : ∃ R, RNp w' G1 b.q b.n R) (g1 : ∀ k, G1 k → w.heap.size ≤ k) (r2 : NMp w' G2 b.p.b b.p.bs b.p.bl b.p.be b.p.bk b.n) (g2 : ∀ k, G2 k → w.heap.size ≤ k) (ap : ∀ k, G1 k → ¬ G2 k)
    (gd : b.n.Gd) (eid : b.n.sy.el.id = (EM.new b.id).id) (hh : b.n.sy.lg.hist.length ≤ 21) (nb : b.q.s.N + b.n.sy.lg.hist.length ≤ 100 * S') :
    ∃ own', WI B w' bw own' { c with bs := c.bs ++ [b], k := k' } vb' vo vr vv S' := by
  obtain ⟨R, r1⟩ := r1
  have hno : ∀ k, w.heap.size ≤ k → own k = .no := fun k hk => by
    rcases e : own k with _ | _ | _ | _ | _ | _ | _ | _ | _ | _ | _ | _ | _ | _
    · rfl
    all_goals (have := (h.lo k (by rw [e]; exact nofun)).2; omega)
  have lB : B ≤ w.heap.size := by have := h.lo bw (by rw [h.tw]; exact nofun); omega
  have s1 : Same w own (growO own vb' .rb) := growO_same (v := vb) h.rb.2 (fun k hk => (hnew k hk).imp id (hno k))
  have s2 : Same w (growO own vb' .rb) (tagO (growO own vb' .rb) G1 G2 c.bs.length) := tagO_same
  have sm : Same w own (tagO (growO own vb' .rb) G1 G2 c.bs.length) := s1.trans (w1 := w) s2
  have n1 : ∀ k, G1 k → growO own vb' .rb k = .no := fun k hk => by rw [growO_ne (fun e => (ng k e).1 hk)]; exact hno k (g1 k hk)
  have n2 : ∀ k, G2 k → growO own vb' .rb k = .no := fun k hk => by rw [growO_ne (fun e => (ng k e).2 hk)]; exact hno k (g2 k hk)
  have t1 : ∀ k, G1 k → tagO (growO own vb' .rb) G1 G2 c.bs.length k = .br c.bs.length := fun k hk => by unfold tagO; rw [if_pos (n1 k hk), if_pos hk]
  have t2 : ∀ k, G2 k → tagO (growO own vb' .rb) G1 G2 c.bs.length k = .bm c.bs.length := fun k hk => by unfold tagO; rw [if_pos (n2 k hk), if_neg (fun q => ap k q hk), if_pos hk]
  obtain ⟨p1, p2, p3, p4⟩ := h.parts (own' := tagO (growO own vb' .rb) G1 G2 c.bs.length) m (fun k f => by rcases hF k f with e | e | e <;> rw [e] <;> trivial) sm hS
  have fr : ∀ t : Tag, t ≠ .no → t ≠ .law → t ≠ .rb → ∀ k, F k → own k ≠ t := fun t a1 a2 a3 k f e => by
    rcases hF k f with q | q | q
    · exact a1 (e.symm.trans q)
    · exact a2 (e.symm.trans q)
    · exact a3 (e.symm.trans q)
  refine ⟨tagO (growO own vb' .rb) G1 G2 c.bs.length, ⟨hw, by rw [sm _ (by rw [h.tw]; exact nofun)]; exact h.tw, ⟨?_, fun k hk => ?_⟩, h.ro.frame m (fr _ nofun nofun nofun) sm, h.rr.frame m (fr _ nofun nofun nofun) sm, h.rv.frame m (fr _ nofun nofun nofun) sm, fun k hk => ?_, fun _ => ?_, fun i x hx => ?_, p2, p3, p4, ?_, hz⟩⟩
  · show w'.ownsRow B 41 4 vb' (c.bs ++ [b]).length ((c.bs ++ [b]).flatMap BC.cells)
    rw [List.length_append, List.flatMap_append]
    simpa using hrow
  · rw [tagO_out (ng k hk).1 (ng k hk).2]; exact growO_eq hk
  · by_cases k1 : G1 k
    · exact ⟨Nat.le_trans lB (g1 k k1), r1.wi k k1⟩
    · by_cases k2 : G2 k
      · exact ⟨Nat.le_trans lB (g2 k k2), r2.wi k k2⟩
      · rw [tagO_out k1 k2] at hk
        by_cases k3 : vb'.ownBlock = some k
        · have := ownsRow_block hrow k3; exact ⟨this.2, this.1⟩
        · rw [growO_ne k3] at hk
          exact ⟨(h.lo k hk).1, Nat.lt_of_lt_of_le (h.lo k hk).2 m.size⟩
  · show 0 ≤ k' ∧ k' < (c.bs ++ [b]).length
    rw [List.length_append]
    simp only [List.length_cons, List.length_nil]
    omega
  · rcases getElem?_snoc hx with q | ⟨rfl, rfl⟩
    · exact p1 i x q
    · exact ⟨⟨G1, R, r1, t1⟩, ⟨G2, r2, t2⟩, gd, eid, hh, nb⟩
  · have := h.ln
    show (c.bs ++ [b]).length ≤ S' ∧ c.os.length ≤ S' ∧ c.rs.length ≤ S' ∧ c.vs.length ≤ S'
    rw [List.length_append]
    simp only [List.length_cons, List.length_nil]
    omega
end
end Go.Tw
