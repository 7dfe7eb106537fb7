/- one more of the law's lists; copy of wide elements -/
import Derived.Test.Qxb6500990aGreatEx5
set_option linter.unusedVariables false
set_option linter.unusedSimpArgs false
namespace Go
theorem run_copy_all {P : Program} (w : World) (dT sT ty elem t : TypeId) (sz n k1 k2 : Nat) (c : Array Value) (cs : List Value) (a : Addr) (hu : P.underlying dT = some (.slice elem)) (hs : (P.info? elem).map (·.size) = some sz)
    (hc : c.size = cs.length) (hn : cs.length = n * sz) (hsrc : ∀ j v, cs[j]? = some v → (w.alloc (.cells c t)).cell? (a.add j) = some v) (h1 : ∀ v ∈ cs, v.oneCell' = true) :
    (Builtin.copy_ #[dT, sT] ty #[.slice (some ⟨w.heap.size, 0, none⟩) n k1, .slice (some a) n k2]).run P (w.alloc (.cells c t)) = .ok (goInt n) (w.alloc (.cells cs.toArray t)) := by
  have hl := run_loadCells_list (P := P) (w.alloc (.cells c t)) a cs hsrc
  have hst := run_storeCells_at P w.heap.size 0 t cs 0 c (w.alloc (.cells c t)) (heap_alloc_last w _) (by omega) h1
  have hrow : (c.toList.take (0 + 0) ++ cs ++ c.toList.drop (0 + 0 + cs.length)).toArray = cs.toArray := by
    rw [List.drop_of_length_le (by simp; omega)]; simp
  rw [hrow, World.setRow_alloc_new] at hst
  cases hq : P.info? elem with
  | none => simp [hq] at hs
  | some i =>
    have hi : i.size = sz := by simpa [hq] using hs
    simp [Builtin.copy_, run_underlying hu, Builtin.lenOf, Builtin.firstCells, sizeOf, typeInfo, hq, hi, ← hn, hl, hst]
theorem wpList_copy_all {P : Program} {w : World} {ops : Array Oper} {rest : List Oper} {o : Oper} {a : Act} {Q : Exit → Act → World → Prop} (hgd : o.guard = none) (d s : Operand) (dT : TypeId)
    (ho : o.op = .call { callee := .builtin .copy, args := #[d, s], argTypes := #[dT, dT] }) (elem t : TypeId) (sz n k1 k2 g : Nat) (c : Array Value) (cs : List Value)
    (hu : P.underlying dT = some (.slice elem)) (hsz : (P.info? elem).map (·.size) = some sz)
    (gd : Nat) (hg0 : gd = w.heap.size) (hd : a.eval d = .slice (some ⟨gd, 0, none⟩) n k1) (hs : a.eval s = .slice (some ⟨g, 0, none⟩) n k2) (hc : c.size = cs.length) (hn : cs.length = n * sz)
    (hsrc : ∀ j v, cs[j]? = some v → (w.alloc (.cells c t)).cell? ⟨g, j, none⟩ = some v) (h1 : ∀ v ∈ cs, v.oneCell' = true)
    (h : wpList P ops Q rest (a.put o.dst (goInt n)) (w.alloc (.cells cs.toArray t))) : wpList P ops Q (o :: rest) a (w.alloc (.cells c t)) := by
  subst hg0
  refine wpList_plain hgd fun K hK => ?_
  have hrun := run_copy_all (P := P) w dT dT o.type elem t sz n k1 k2 c cs ⟨g, 0, none⟩ hu hsz hc hn (fun j v hv => by rw [Addr.add_mid]; rw [Nat.zero_add]; exact hsrc j v hv) h1
  unfold Oper.wp
  simp [execOp, ho, resolve, invoke, builtin, hd, hs, hrun, Result.andThen]
  exact hK _ _ h
end Go
namespace Go.Tw
open Go Go.Proofs Go.Proofs.Qxb6500990aGreat Go.RowKit
section
variable {B bw S S' i g h' : Nat} {w w' : World} {own : Own} {c : Conf} {vb vo vr vv vo' vr' : Value} {F : Nat → Prop}
def setO (own : Own) (k : Nat) (t : Tag) : Own := fun x => if x = k then t else own x
theorem setO_same {own : Own} {k : Nat} {t : Tag} {w : World} (h : own k = .no ∨ own k = t) : Same w own (setO own k t) := fun x hx => by
  unfold setO; split
  · rename_i e; subst e; rcases h with h | h
    · exact absurd h hx
    · exact h.symm
  · rfl
theorem setO_ne {own : Own} {k x : Nat} {t : Tag} (h : x ≠ k) : setO own k t x = own x := by unfold setO; rw [if_neg h]
theorem setO_eq {own : Own} {k : Nat} {t : Tag} : setO own k t k = t := by unfold setO; rw [if_pos rfl]
theorem Same.trans {own own1 own2 : Own} {w w1 : World} (h : Same w own own1) (h' : Same w1 own1 own2) : Same w own own2 := fun k hk => by
  rw [h' k (by rw [h k hk]; exact hk), h k hk]
/-- a row that has grown by one: its block has the row's tag, old or new -/
def growO (own : Own) (v : Value) (t : Tag) : Own := match v.ownBlock with
  | some g => setO own g t
  | none => own
theorem growO_same {own : Own} {v v' : Value} {t : Tag} {w : World} (hold : ∀ g, v.ownBlock = some g → own g = t) (hnew : ∀ g, v'.ownBlock = some g → v.ownBlock = some g ∨ own g = .no) : Same w own (growO own v' t) := by
  unfold growO
  split
  · rename_i g hg
    refine setO_same ?_
    rcases hnew g hg with h | h
    · exact .inr (hold g h)
    · exact .inl h
  · exact fun _ _ => rfl
theorem growO_eq {own : Own} {v : Value} {t : Tag} {g : Nat} (h : v.ownBlock = some g) : growO own v t g = t := by unfold growO; rw [h]; exact setO_eq
theorem growO_ne {own : Own} {v : Value} {t : Tag} {g : Nat} (h : v.ownBlock ≠ some g) : growO own v t g = own g := by
  unfold growO
  cases hk : v.ownBlock with
  | none => rfl
  | some k => exact setO_ne (fun e => h (by rw [hk, e]))
theorem getElem?_snoc {α : Type} {l : List α} {x y : α} {i : Nat} (h : (l ++ [x])[i]? = some y) : l[i]? = some y ∨ (i = l.length ∧ y = x) := by
  rcases Nat.lt_trichotomy i l.length with c | c | c
  · rw [List.getElem?_append_left c] at h; exact .inl h
  · subst c; simp at h; exact .inr ⟨rfl, h.symm⟩
  · rw [List.getElem?_append_right (by omega)] at h
    have : i - l.length ≠ 0 := by omega
    simp [this] at h
theorem WI.addOut (h : WI B w bw own c vb vo vr vv S) (m : ModP F w w') (hF : ∀ k, F k → own k = .no ∨ own k = .law ∨ own k = .ro) (hS : S ≤ S') (hz : S' ≤ 1073741824) (hl : c.os.length + 1 ≤ S')
    (hw : w'.At bw (WorldR.cells ⟨vb, c.k, c.ra, c.rb, c.old, vo', vr, vv, false⟩) 33) {xs : List OutM} (hrow : w'.ownsRow B 52 2 vo' (c.os.length + 1) (c.os.flatMap LC.cells ++ LC.cells (LC.mk g h' xs)))
    (hnew : ∀ k, vo'.ownBlock = some k → vo.ownBlock = some k ∨ w.heap.size ≤ k) (a : w'.At g (outsC xs).toArray 72) (a' : w'.At h' (outsC xs).toArray 72) (tg : own g = .no) (th : own h' = .no) (ne : g ≠ h')
    (bg : B ≤ g) (bh : B ≤ h') (l1 : xs.length ≤ 1000) (l0 : 0 < xs.length) : ∃ own', WI B w' bw own' { c with os := c.os ++ [⟨g, h', xs⟩] } vb vo' vr vv S' ∧ ∀ k, k ≠ g → k ≠ h' → k < w.heap.size → own' k = own k := by
  have no_of : ∀ k, w.heap.size ≤ k → own k = .no := fun k hk => by
    rcases e : own k with _ | _ | _ | _ | _ | _ | _ | _ | _ | _ | _ | _ | _ | _
    · rfl
    all_goals (have := (h.lo k (by rw [e]; exact nofun)).2; omega)
  have nb : ∀ k, vo'.ownBlock = some k → k ≠ g ∧ k ≠ h' := fun k hk => by
    rcases id hrow.2 with ⟨hv, h0⟩ | ⟨g', cap, cur, hv, h3, h4, h5⟩
    · omega
    · rw [hv] at hk
      have : g' = k := by simpa [Value.ownBlock] using hk
      subst this
      have a0 : w'.At g' cur 52 := h4
      exact ⟨At.neT a0 a (by decide), At.neT a0 a' (by decide)⟩
  have s1 : Same w own (growO own vo' .ro) := growO_same (v := vo) h.ro.2 (fun k hk => (hnew k hk).imp id (no_of k))
  have e1 : growO own vo' .ro g = .no := by rw [growO_ne (fun e => (nb g e).1 rfl)]; exact tg
  have s2 : Same w (growO own vo' .ro) (setO (growO own vo' .ro) g (.o c.os.length)) := setO_same (.inl e1)
  have e2 : setO (growO own vo' .ro) g (.o c.os.length) h' = .no := by rw [setO_ne (Ne.symm ne), growO_ne (fun e => (nb h' e).2 rfl)]; exact th
  have s3 : Same w (setO (growO own vo' .ro) g (.o c.os.length)) (setO (setO (growO own vo' .ro) g (.o c.os.length)) h' (.ow c.os.length)) := setO_same (.inl e2)
  have sm : Same w own (setO (setO (growO own vo' .ro) g (.o c.os.length)) h' (.ow c.os.length)) := (s1.trans (w1 := w) s2).trans (w1 := w) s3
  have eg : setO (setO (growO own vo' .ro) g (.o c.os.length)) h' (.ow c.os.length) g = .o c.os.length := by rw [setO_ne ne, setO_eq]
  obtain ⟨p1, p2, p3, p4⟩ := h.parts (own' := setO (setO (growO own vo' .ro) g (.o c.os.length)) h' (.ow c.os.length)) m (fun k f => by rcases hF k f with e | e | e <;> rw [e] <;> trivial) sm hS
  refine ⟨setO (setO (growO own vo' .ro) g (.o c.os.length)) h' (.ow c.os.length), ⟨hw, by rw [sm _ (by rw [h.tw]; exact nofun)]; exact h.tw, h.rb.frame m (fun k f e => by rcases hF k f with q | q | q <;> rw [q] at e <;> cases e) sm, ⟨?_, fun k hk => ?_⟩, h.rr.frame m (fun k f e => by rcases hF k f with q | q | q <;> rw [q] at e <;> cases e) sm, h.rv.frame m (fun k f e => by rcases hF k f with q | q | q <;> rw [q] at e <;> cases e) sm, fun k hk => ?_, h.kb, p1, fun i x hx => ?_, p3, p4, ?_, hz⟩, fun k k1 k2 k3 => ?_⟩
  · show w'.ownsRow B 52 2 vo' (c.os ++ [LC.mk g h' xs]).length ((c.os ++ [LC.mk g h' xs]).flatMap LC.cells)
    rw [List.length_append, List.flatMap_append]
    simpa using hrow
  · rw [setO_ne (nb k hk).2, setO_ne (nb k hk).1]; exact growO_eq hk
  · by_cases k1 : k = h'
    · subst k1; exact ⟨bh, a'.inB⟩
    · rw [setO_ne k1] at hk
      by_cases k2 : k = g
      · subst k2; exact ⟨bg, a.inB⟩
      · rw [setO_ne k2] at hk
        by_cases k3 : vo'.ownBlock = some k
        · have := ownsRow_block hrow k3; exact ⟨this.2, this.1⟩
        · rw [growO_ne k3] at hk
          exact ⟨(h.lo k hk).1, Nat.lt_of_lt_of_le (h.lo k hk).2 m.size⟩
  · rcases getElem?_snoc hx with q | ⟨rfl, rfl⟩
    · exact p2 i x q
    · exact ⟨a, eg, a', setO_eq, l1, l0⟩
  · have := h.ln
    show c.bs.length ≤ S' ∧ (c.os ++ [LC.mk g h' xs]).length ≤ S' ∧ c.rs.length ≤ S' ∧ c.vs.length ≤ S'
    rw [List.length_append]
    simp only [List.length_cons, List.length_nil]
    omega
  · rw [setO_ne k2, setO_ne k1]
    by_cases k4 : vo'.ownBlock = some k
    · rcases hnew k k4 with q | q
      · rw [growO_eq k4, h.ro.2 k q]
      · omega
    · exact growO_ne k4
theorem WI.addRep (h : WI B w bw own c vb vo vr vv S) (m : ModP F w w') (hF : ∀ k, F k → own k = .no ∨ own k = .law ∨ own k = .rr) (hS : S ≤ S') (hz : S' ≤ 1073741824) (hl : c.rs.length + 1 ≤ S')
    (hw : w'.At bw (WorldR.cells ⟨vb, c.k, c.ra, c.rb, c.old, vo, vr', vv, false⟩) 33) {xs : List Reply} (hrow : w'.ownsRow B 56 2 vr' (c.rs.length + 1) (c.rs.flatMap LC.cells ++ LC.cells (LC.mk g h' xs)))
    (hnew : ∀ k, vr'.ownBlock = some k → vr.ownBlock = some k ∨ w.heap.size ≤ k) (a : w'.At g (repsC xs).toArray 77) (a' : w'.At h' (repsC xs).toArray 77) (tg : own g = .no) (th : own h' = .no) (ne : g ≠ h')
    (bg : B ≤ g) (bh : B ≤ h') (l1 : xs.length ≤ 1000) (l0 : 0 < xs.length) : ∃ own', WI B w' bw own' { c with rs := c.rs ++ [⟨g, h', xs⟩] } vb vo vr' vv S' ∧ ∀ k, k ≠ g → k ≠ h' → k < w.heap.size → own' k = own k := by
  have no_of : ∀ k, w.heap.size ≤ k → own k = .no := fun k hk => by
    rcases e : own k with _ | _ | _ | _ | _ | _ | _ | _ | _ | _ | _ | _ | _ | _
    · rfl
    all_goals (have := (h.lo k (by rw [e]; exact nofun)).2; omega)
  have nb : ∀ k, vr'.ownBlock = some k → k ≠ g ∧ k ≠ h' := fun k hk => by
    rcases id hrow.2 with ⟨hv, h0⟩ | ⟨g', cap, cur, hv, h3, h4, h5⟩
    · omega
    · rw [hv] at hk
      have : g' = k := by simpa [Value.ownBlock] using hk
      subst this
      have a0 : w'.At g' cur 56 := h4
      exact ⟨At.neT a0 a (by decide), At.neT a0 a' (by decide)⟩
  have s1 : Same w own (growO own vr' .rr) := growO_same (v := vr) h.rr.2 (fun k hk => (hnew k hk).imp id (no_of k))
  have e1 : growO own vr' .rr g = .no := by rw [growO_ne (fun e => (nb g e).1 rfl)]; exact tg
  have s2 : Same w (growO own vr' .rr) (setO (growO own vr' .rr) g (.r c.rs.length)) := setO_same (.inl e1)
  have e2 : setO (growO own vr' .rr) g (.r c.rs.length) h' = .no := by rw [setO_ne (Ne.symm ne), growO_ne (fun e => (nb h' e).2 rfl)]; exact th
  have s3 : Same w (setO (growO own vr' .rr) g (.r c.rs.length)) (setO (setO (growO own vr' .rr) g (.r c.rs.length)) h' (.rw c.rs.length)) := setO_same (.inl e2)
  have sm : Same w own (setO (setO (growO own vr' .rr) g (.r c.rs.length)) h' (.rw c.rs.length)) := (s1.trans (w1 := w) s2).trans (w1 := w) s3
  have eg : setO (setO (growO own vr' .rr) g (.r c.rs.length)) h' (.rw c.rs.length) g = .r c.rs.length := by rw [setO_ne ne, setO_eq]
  obtain ⟨p1, p2, p3, p4⟩ := h.parts (own' := setO (setO (growO own vr' .rr) g (.r c.rs.length)) h' (.rw c.rs.length)) m (fun k f => by rcases hF k f with e | e | e <;> rw [e] <;> trivial) sm hS
  refine ⟨setO (setO (growO own vr' .rr) g (.r c.rs.length)) h' (.rw c.rs.length), ⟨hw, by rw [sm _ (by rw [h.tw]; exact nofun)]; exact h.tw, h.rb.frame m (fun k f e => by rcases hF k f with q | q | q <;> rw [q] at e <;> cases e) sm, h.ro.frame m (fun k f e => by rcases hF k f with q | q | q <;> rw [q] at e <;> cases e) sm, ⟨?_, fun k hk => ?_⟩, h.rv.frame m (fun k f e => by rcases hF k f with q | q | q <;> rw [q] at e <;> cases e) sm, fun k hk => ?_, h.kb, p1, p2, fun i x hx => ?_, p4, ?_, hz⟩, fun k k1 k2 k3 => ?_⟩
  · show w'.ownsRow B 56 2 vr' (c.rs ++ [LC.mk g h' xs]).length ((c.rs ++ [LC.mk g h' xs]).flatMap LC.cells)
    rw [List.length_append, List.flatMap_append]
    simpa using hrow
  · rw [setO_ne (nb k hk).2, setO_ne (nb k hk).1]; exact growO_eq hk
  · by_cases k1 : k = h'
    · subst k1; exact ⟨bh, a'.inB⟩
    · rw [setO_ne k1] at hk
      by_cases k2 : k = g
      · subst k2; exact ⟨bg, a.inB⟩
      · rw [setO_ne k2] at hk
        by_cases k3 : vr'.ownBlock = some k
        · have := ownsRow_block hrow k3; exact ⟨this.2, this.1⟩
        · rw [growO_ne k3] at hk
          exact ⟨(h.lo k hk).1, Nat.lt_of_lt_of_le (h.lo k hk).2 m.size⟩
  · rcases getElem?_snoc hx with q | ⟨rfl, rfl⟩
    · exact p3 i x q
    · exact ⟨a, eg, a', setO_eq, l1, l0⟩
  · have := h.ln
    show c.bs.length ≤ S' ∧ c.os.length ≤ S' ∧ (c.rs ++ [LC.mk g h' xs]).length ≤ S' ∧ c.vs.length ≤ S'
    rw [List.length_append]
    simp only [List.length_cons, List.length_nil]
    omega
  · rw [setO_ne k2, setO_ne k1]
    by_cases k4 : vr'.ownBlock = some k
    · rcases hnew k k4 with q | q
      · rw [growO_eq k4, h.rr.2 k q]
      · omega
    · exact growO_ne k4
end
end Go.Tw
