/- a base is made anew in its place -/
import Derived.Test.Qxb6500990aGreatEx18
import Derived.Test.Qxb6500990aGreatEx11
set_option linter.unusedVariables false
set_option linter.unusedSimpArgs false
namespace Go.Tw
open Go Go.Proofs Go.Proofs.Qxb6500990aGreat Go.RowKit
theorem base_flat {l : List BC} {i : Nat} {b b' : BC} (h : l[i]? = some b) :
    ((((l.flatMap BC.cells).set (i * 4) (.int .i64 b'.id)).set (i * 4 + 1) (vp b'.q.s.bd)).set (i * 4 + 2) (vp b'.q.b)).set (i * 4 + 3) (vp b'.p.b) = (l.set i b').flatMap BC.cells := by
  have hlt := (List.getElem?_eq_some_iff.1 h).1
  have h2 : ∀ y : BC, (l.set i y)[i]? = some y := fun y => by simp [hlt]
  have e1 := flat_set BC.cells 4 (fun _ => rfl) l i b { b with id := b'.id } 0 (.int .i64 b'.id) h (by omega) rfl
  have e2 := flat_set BC.cells 4 (fun _ => rfl) (l.set i { b with id := b'.id }) i _ { b with id := b'.id, q := { b.q with s := { b.q.s with bd := b'.q.s.bd } } } 1 (vp b'.q.s.bd) (h2 _) (by omega) rfl
  have e3 := flat_set BC.cells 4 (fun _ => rfl) (l.set i { b with id := b'.id, q := { b.q with s := { b.q.s with bd := b'.q.s.bd } } }) i _ { b with id := b'.id, q := { b.q with b := b'.q.b, s := { b.q.s with bd := b'.q.s.bd } } } 2 (vp b'.q.b) (h2 _) (by omega) rfl
  have e4 := flat_set BC.cells 4 (fun _ => rfl) (l.set i { b with id := b'.id, q := { b.q with b := b'.q.b, s := { b.q.s with bd := b'.q.s.bd } } }) i _ { b with id := b'.id, q := { b.q with b := b'.q.b, s := { b.q.s with bd := b'.q.s.bd } }, p := { b.p with b := b'.p.b } } 3 (vp b'.p.b) (h2 _) (by omega) rfl
  rw [List.set_set] at e2 e3 e4
  rw [Nat.add_zero] at e1
  rw [e1, e2, e3, e4]
  have e5 := set_flat (b' := b') (h2 { b with id := b'.id, q := { b.q with b := b'.q.b, s := { b.q.s with bd := b'.q.s.bd } }, p := { b.p with b := b'.p.b } }) rfl
  rw [List.set_set] at e5
  exact e5.symm
section
variable {B bw S S' i g : Nat} {w w' : World} {own : Own} {c : Conf} {vb vo vr vv : Value} {G1 G2 : Nat → Prop} {b b' : BC} {cur : Array Value}
theorem ownsRow_base {e s n o : Nat} {v : Value} {xs : List Value} {b : BaseR} (h : w.ownsRow B e s v n xs) (hv : v.ownBlock = some g) (hc : w.At g cur e) (m : w'.At g (baseC cur o b) e) : w'.ownsRow B e s v n ((((xs.set o (.int .i64 b.id)).set (o + 1) b.d).set (o + 2) b.x).set (o + 3) b.m) := by
  refine ⟨by simp only [List.length_set]; exact h.1, ?_⟩
  rcases id h.2 with ⟨hv0, h0⟩ | ⟨g', cap, cur', hv0, h3, h4, h5⟩
  · rw [hv0] at hv; cases hv
  · right
    rw [hv0] at hv
    have hg : g' = g := by simpa [Value.ownBlock] using hv
    subst hg
    have e4 : cur' = cur := by
      have a0 : w.heap[g']? = some (.cells cur e (0, 0)) := hc
      rw [h4] at a0
      simpa using a0
    subst e4
    refine ⟨g', cap, baseC cur' o b, hv0, h3, m, ?_⟩
    refine ⟨h5.1, h5.2.1, by rw [baseC_size]; exact h5.2.2.1, ?_⟩
    unfold baseC
    simp only [Array.toList_setIfInBounds, List.take_set, h5.2.2.2]
theorem WI.rebase (h : WI B w bw own c vb vo vr vv S) (hb : c.bs[i]? = some b) (hg : vb.ownBlock = some g) (ac : w.At g cur 41) (m : ModP (fun x => x = g) w w') (ag : w'.At g (baseC cur (i * 4) ⟨b'.id, vp b'.q.s.bd, vp b'.q.b, vp b'.p.b⟩) 41)
    (r1 : ∃ R, RNp w' G1 b'.q b'.n R) (g1 : ∀ k, G1 k → w.heap.size ≤ k) (r2 : NMp w' G2 b'.p.b b'.p.bs b'.p.bl b'.p.be b'.p.bk b'.n) (g2 : ∀ k, G2 k → w.heap.size ≤ k) (ap : ∀ k, G1 k → ¬ G2 k) (gd : b'.n.Gd) (eid : b'.n.sy.el.id = (EM.new b'.id).id) (hh : b'.n.sy.lg.hist.length ≤ 21)
    (nb : b'.q.s.N + b'.n.sy.lg.hist.length ≤ 100 * S') (hS : S ≤ S') (hz : S' ≤ 1073741824) :
    WI B w' bw (tagO own G1 G2 i) { c with bs := c.bs.set i b' } vb vo vr vv S' := by
  obtain ⟨R, r1⟩ := r1
  have hno : ∀ k, w.heap.size ≤ k → own k = .no := fun k hk => by
    rcases e : own k with _ | _ | _ | _ | _ | _ | _ | _ | _ | _ | _ | _ | _ | _
    · rfl
    all_goals (have := (h.lo k (by rw [e]; exact nofun)).2; omega)
  have lB : B ≤ w.heap.size := by have := h.lo bw (by rw [h.tw]; exact nofun); omega
  have sm : Same w own (tagO own G1 G2 i) := tagO_same
  have og := h.rb.2 g hg
  have t1 : ∀ k, G1 k → tagO own G1 G2 i k = .br i := fun k hk => by unfold tagO; rw [if_pos (hno k (g1 k hk)), if_pos hk]
  have t2 : ∀ k, G2 k → tagO own G1 G2 i k = .bm i := fun k hk => by unfold tagO; rw [if_pos (hno k (g2 k hk)), if_neg (fun q2 => ap k q2 hk), if_pos hk]
  have fr : ∀ t : Tag, t ≠ .rb → ∀ k, k = g → own k ≠ t := fun t n1 k f e => by rw [f, og] at e; exact n1 e.symm
  refine ⟨m.at h.hw (fun f => fr .law nofun bw f h.tw), by rw [sm _ (by rw [h.tw]; exact nofun)]; exact h.tw, ⟨?_, fun k hk => ?_⟩, h.ro.frame m (fr _ nofun) sm, h.rr.frame m (fr _ nofun) sm, h.rv.frame m (fr _ nofun) sm, fun k hk => ?_, ?_, fun j x hx => ?_, fun j x hx => (h.os j x hx).frame m (fun k f => ⟨fr (.o j) nofun k f, fr (.ow j) nofun k f⟩) sm, fun j x hx => (h.rs j x hx).frame m (fun k f => ⟨fr (.r j) nofun k f, fr (.rw j) nofun k f⟩) sm, fun j x hx => (h.vs j x hx).frame m (fun k f => ⟨fr (.v j) nofun k f, fr (.vs j) nofun k f⟩) sm, ?_, hz⟩
  · show w'.ownsRow B 41 4 vb (c.bs.set i b').length ((c.bs.set i b').flatMap BC.cells)
    rw [List.length_set, ← base_flat hb]
    exact ownsRow_base h.rb.1 hg ac ag
  · rw [sm k (by rw [h.rb.2 k hk]; exact nofun)]; exact h.rb.2 k hk
  · by_cases k1 : G1 k
    · exact ⟨Nat.le_trans lB (g1 k k1), r1.wi k k1⟩
    · by_cases k2 : G2 k
      · exact ⟨Nat.le_trans lB (g2 k k2), r2.wi k k2⟩
      · rw [tagO_out k1 k2] at hk
        exact ⟨(h.lo k hk).1, Nat.lt_of_lt_of_le (h.lo k hk).2 m.size⟩
  · show c.bs.set i b' ≠ [] → 0 ≤ c.k ∧ c.k < (c.bs.set i b').length
    rw [List.length_set]
    exact fun _ => h.kb (fun e => by rw [e] at hb; simp at hb)
  · have hx' : (c.bs.set i b')[j]? = some x := hx
    rw [List.getElem?_set] at hx'
    by_cases e : i = j
    · subst e
      have hl := (List.getElem?_eq_some_iff.1 hb).1
      simp [hl] at hx'
      subst hx'
      exact ⟨⟨G1, R, r1, t1⟩, ⟨G2, r2, t2⟩, gd, eid, hh, nb⟩
    · rw [if_neg e] at hx'
      exact (h.bs j x hx').frame m (fun k f => ⟨fr (.br j) nofun k f, fr (.bm j) nofun k f⟩) sm hS
  · have := h.ln
    show (c.bs.set i b').length ≤ S' ∧ c.os.length ≤ S' ∧ c.rs.length ≤ S' ∧ c.vs.length ≤ S'
    rw [List.length_set]; omega
/-- the cells of the base that is named -/
theorem WI.base (h : WI B w bw own c vb vo vr vv S) (hn : c.bs ≠ []) : ∃ (i g cap : Nat) (cur : Array Value) (b : BC), c.k = i ∧ i < c.bs.length ∧ c.bs[i]? = some b ∧ vb = .slice (some ⟨g, 0, none⟩) c.bs.length cap ∧ vb.ownBlock = some g ∧ w.At g cur 41 ∧ cur = baseC cur (i * 4) ⟨b.id, vp b.q.s.bd, vp b.q.b, vp b.p.b⟩ ∧ i * 4 + 3 < cur.size := by
  obtain ⟨k0, k1⟩ := h.kb hn
  have hlt : c.k.toNat < c.bs.length := by omega
  obtain ⟨b, hb⟩ : ∃ b, c.bs[c.k.toNat]? = some b := ⟨_, List.getElem?_eq_getElem hlt⟩
  obtain ⟨g, cap, cur, hv, ac, hcur⟩ := row_arr h.rb.1 (by omega)
  have hx := flat_get BC.cells 4 (fun _ => rfl) c.bs _ b hb
  have u0 : cur[c.k.toNat * 4]? = some (.int .i64 b.id) := hcur _ _ (hx 0 (by omega))
  have u1 : cur[c.k.toNat * 4 + 1]? = some (vp b.q.s.bd) := hcur _ _ (hx 1 (by omega))
  have u2 : cur[c.k.toNat * 4 + 2]? = some (vp b.q.b) := hcur _ _ (hx 2 (by omega))
  have u3 : cur[c.k.toNat * 4 + 3]? = some (vp b.p.b) := hcur _ _ (hx 3 (by omega))
  exact ⟨c.k.toNat, g, cap, cur, b, by omega, hlt, hb, hv, by rw [hv]; rfl, ac, baseC_self u0 u1 u2 u3, (Array.getElem?_eq_some_iff.1 u3).1⟩
end
end Go.Tw
