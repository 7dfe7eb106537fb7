/- one cell of a kept view -/
import Derived.Test.Qxb6500990aGreatEx19
import Derived.Test.Qxb6500990aGreatPk
set_option linter.unusedVariables false
set_option linter.unusedSimpArgs false
namespace Go.Tw
open Go Go.Proofs Go.Proofs.Qxb6500990aGreat Go.RowKit
/-- x' is x with u in its cell off (of its outer record, or of the inner one) -/
structure SetV (x x' : VC) (p : Bool) (off : Nat) (u : Value) : Prop where
  br : x'.br = x.br
  bs : x'.bs = x.bs
  at_ : x'.at_ = x.at_
  sy : x'.nv.sync = x.nv.sync
  hn : p = true → (∀ s, NodeV.cells { x'.nv with sync := s } = (NodeV.cells { x.nv with sync := s }).setIfInBounds off u) ∧ x'.sv = x.sv ∧ off < 11
  hs : p = false → x'.nv = x.nv ∧ x'.sv.cells = x.sv.cells.setIfInBounds off u ∧ off < 20
theorem SetV.ofN {x : VC} {nv' : NodeV} {off : Nat} {u : Value} (hs : nv'.sync = x.nv.sync) (h : ∀ s, NodeV.cells { nv' with sync := s } = (NodeV.cells { x.nv with sync := s }).setIfInBounds off u) (ho : off < 11) : SetV x { x with nv := nv' } true off u :=
  ⟨rfl, rfl, rfl, hs, fun _ => ⟨h, rfl, ho⟩, nofun⟩
theorem SetV.ofS {x : VC} {sv' : SyncV} {off : Nat} {u : Value} (h : sv'.cells = x.sv.cells.setIfInBounds off u) (ho : off < 20) : SetV x { x with sv := sv' } false off u :=
  ⟨rfl, rfl, rfl, rfl, nofun, fun _ => ⟨rfl, h, ho⟩⟩
theorem SetV.cells {x x' : VC} {p : Bool} {off : Nat} {u : Value} (h : SetV x x' p off u) : x'.cells = x.cells.set ((if p then 3 else 14) + off) u := by
  obtain ⟨br, bs, at_, nv, sv⟩ := x
  obtain ⟨br', bs', at_', nv', sv'⟩ := x'
  obtain ⟨h1, h2, h3, h4, h5, h6⟩ := h
  simp only [] at h1 h2 h3 h4 h5 h6
  subst h1 h2 h3
  cases p
  · obtain ⟨e1, e2, e3⟩ := h6 rfl
    subst e1
    show _ = List.set _ (14 + off) u
    unfold VC.cells
    simp only []
    rw [e2, Array.toList_setIfInBounds, List.set_append_right _ _ (by simp [NodeV.cells])]
    congr 2
    simp [NodeV.cells]
  · obtain ⟨e1, e2, e3⟩ := h5 rfl
    subst e2
    have e1 := e1 nv.sync
    have e4 : ({ nv' with sync := nv.sync } : NodeV) = nv' := by rw [← h4]
    rw [e4] at e1
    show _ = List.set _ (3 + off) u
    unfold VC.cells
    simp only []
    rw [e1, Array.toList_setIfInBounds, List.set_append_left _ _ (by simp [NodeV.cells]; omega), List.set_append_right _ _ (by simp)]
    congr 3
    simp
theorem numV (x : VC) (n v : Int) : ∃ x', SetV x x' (numF n).1 (numF n).2 (.int .i64 v) := by
  have h16 := pickF_lt n (n := 16) (by omega)
  have h3 := pickF_lt (Int.tdiv n 16) (n := 3) (by omega)
  unfold numF
  simp only []
  generalize pickF (Int.tdiv n 16) 3 = k at *
  generalize pickF n 16 = p at *
  have hp : p = 0 ∨ p = 1 ∨ p = 2 ∨ p = 3 ∨ p = 4 ∨ p = 5 ∨ p = 6 ∨ p = 7 ∨ p = 8 ∨ p = 9 ∨ p = 10 ∨ p = 11 ∨ p = 12 ∨ p = 13 ∨ (p = 14 ∨ p = 15) := by omega
  rcases hp with rfl | rfl | rfl | rfl | rfl | rfl | rfl | rfl | rfl | rfl | rfl | rfl | rfl | rfl | hp
  · exact ⟨_, .ofN (off := 1) (nv' := { x.nv with applied := v }) rfl (fun s => (NodeV.s1 { x.nv with sync := s } v).symm) (by omega)⟩
  · exact ⟨_, .ofS (off := 0) (SyncV.s0 x.sv v).symm (by omega)⟩
  · exact ⟨_, .ofS (off := 1) (SyncV.s1 x.sv v).symm (by omega)⟩
  · exact ⟨_, .ofS (off := 2) (SyncV.s2 x.sv v).symm (by omega)⟩
  · exact ⟨_, .ofS (off := 3) (SyncV.s3 x.sv v).symm (by omega)⟩
  · exact ⟨_, .ofS (off := 4) (SyncV.s4 x.sv v).symm (by omega)⟩
  · exact ⟨_, .ofS (off := 5) (SyncV.s5 x.sv v).symm (by omega)⟩
  · exact ⟨_, .ofS (off := 9) (SyncV.s9 x.sv v).symm (by omega)⟩
  · exact ⟨_, .ofS (off := 10) (SyncV.s10 x.sv v).symm (by omega)⟩
  · exact ⟨_, .ofS (off := 11) (SyncV.s11 x.sv v).symm (by omega)⟩
  · exact ⟨_, .ofS (off := 12) (SyncV.s12 x.sv v).symm (by omega)⟩
  · exact ⟨_, .ofS (off := 14 + k) (SyncV.si_next_0 x.sv k h3 v).symm (by omega)⟩
  · exact ⟨_, .ofS (off := 17 + k) (SyncV.si_mtch_0 x.sv k h3 v).symm (by omega)⟩
  · exact ⟨_, .ofN (off := 5 + k) (nv' := { x.nv with seq := upd x.nv.seq k v }) rfl (fun s => (NodeV.si_seq_0 { x.nv with sync := s } k h3 v).symm) (by omega)⟩
  · have e : (if p = 0 then (true, 1) else if p ≤ 6 then (false, p - 1) else if p ≤ 10 then (false, p + 2) else if p = 11 then (false, 14 + k) else if p = 12 then (false, 17 + k) else if p = 13 then (true, 5 + k) else (true, 8 + k)) = (true, 8 + k) := by
      rcases hp with rfl | rfl <;> rfl
    rw [e]
    exact ⟨_, .ofN (nv' := { x.nv with idx := upd x.nv.idx k v }) rfl (fun s => (NodeV.si_idx_0 { x.nv with sync := s } k h3 v).symm) (by omega)⟩
theorem textV (x : VC) (v : Bs) : SetV x { x with sv := { x.sv with snap := v } } false 13 (.string (ByteArray.mk v.toArray)) := .ofS (SyncV.s13 x.sv v).symm (by omega)
theorem gotV (x : VC) {k : Nat} (h : k < 3) (v : Bool) : SetV x { x with sv := { x.sv with got := upd x.sv.got k v } } false (6 + k) (.bool v) := .ofS (SyncV.si_got_0 x.sv k h v).symm (by omega)
theorem usedV (x : VC) {k : Nat} (h : k < 3) (v : Bool) : SetV x { x with nv := { x.nv with used := upd x.nv.used k v } } true (2 + k) (.bool v) := .ofN rfl (fun s => (NodeV.si_used_0 { x.nv with sync := s } k h v).symm) (by omega)
section
variable {B bw S j : Nat} {w w' : World} {own : Own} {c : Conf} {vb vo vr vv : Value} {F : Nat → Prop}
theorem WI.cellV (h : WI B w bw own c vb vo vr vv S) {x x' : VC} (hx : c.vs[j]? = some x) {p : Bool} {off : Nat} {u : Value} (sv : SetV x x' p off u) {gv : Nat} (hv : vv.ownBlock = some gv) {cur : Array Value} (ac : w.At gv cur 66) (m : ModP F w w') (hF : ∀ k, F k → k = x.br ∨ k = x.bs ∨ k = gv)
    (a : w'.At x.br (if p then (NodeV.cells { x.nv with sync := ptr x.at_ }).setIfInBounds off u else NodeV.cells { x.nv with sync := ptr x.at_ }) 62) (a' : w'.At x.bs (if p then x.sv.cells else x.sv.cells.setIfInBounds off u) 64) (ag : w'.At gv (cur.setIfInBounds (j * 34 + ((if p then 3 else 14) + off)) u) 66) :
    WI B w' bw own { c with vs := c.vs.set j x' } vb vo vr vv S := by
  have ok := h.vs j x hx
  have ho : (if p then 3 else 14) + off < 34 := by
    cases p
    · have := (sv.hs rfl).2.2; simp; omega
    · have := (sv.hn rfl).2.2; simp; omega
  refine h.setView hx sv.br sv.bs (by rw [sv.sy, sv.bs]; exact ok.e) m (fun k f => ?_) ?_ ?_ ?_
  · rcases hF k f with e | e | e
    · rw [e]; exact .inl ok.t
    · rw [e]; exact .inr (.inl ok.t')
    · rw [e]; exact .inr (.inr (.inl (h.rv.2 gv hv)))
  · cases p
    · rw [(sv.hs rfl).1, sv.at_]; exact a
    · rw [(sv.hn rfl).1, sv.at_]; exact a
  · cases p
    · rw [(sv.hs rfl).2.1]; exact a'
    · rw [(sv.hn rfl).2.1]; exact a'
  · have := ownsRow_set h.rv.1 hv ac ag
    rw [flat_set VC.cells 34 VC.len c.vs j x x' _ u hx ho sv.cells] at this
    exact this
end
end Go.Tw
