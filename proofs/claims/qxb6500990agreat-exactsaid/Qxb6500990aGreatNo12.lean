/- package node: did, what it needs -/
import Derived.Test.Qxb6500990aGreatNo11
import Derived.Test.Qxb6500990aGreatNod6
import Derived.Test.Qxb6500990aGreatSy6
set_option linter.unusedVariables false
set_option linter.unusedSimpArgs false
namespace Go.Tw
open Go Go.Proofs Go.Proofs.Qxb6500990aGreat Go.RowKit
/-- n elements, one behind the other -/
def rowL {α : Type} (cl : α → List Value) (f : Nat → α) (n : Nat) : List Value := (List.range n).flatMap fun i => cl (f i)
section
variable {α : Type} {cl : α → List Value} {s : Nat} (hs : ∀ a, (cl a).length = s) (f : Nat → α)
theorem rowL_succ (n : Nat) : rowL cl f (n + 1) = rowL cl f n ++ cl (f n) := by unfold rowL; rw [List.range_succ, List.flatMap_append]; simp
theorem rowL_len (hs : ∀ a, (cl a).length = s) (f : Nat → α) : ∀ n, (rowL cl f n).length = n * s
  | 0 => by simp [rowL]
  | n + 1 => by rw [rowL_succ, List.length_append, rowL_len hs f n, hs, Nat.succ_mul]
theorem rowL_get (hs : ∀ a, (cl a).length = s) (f : Nat → α) {i j : Nat} (hj : j < s) : ∀ n, i < n → (rowL cl f n)[i * s + j]? = (cl (f i))[j]?
  | 0, h => by omega
  | n + 1, h => by
    rw [rowL_succ]
    by_cases e : i = n
    · subst e
      rw [List.getElem?_append_right (by rw [rowL_len hs]; omega), rowL_len hs]
      congr 1; omega
    · have : i * s + j < n * s := by
        have : (i + 1) * s ≤ n * s := Nat.mul_le_mul_right s (by omega)
        rw [Nat.succ_mul] at this; omega
      rw [List.getElem?_append_left (by rw [rowL_len hs]; exact this)]
      exact rowL_get hs f hj n (by omega)
theorem rowL_congr {g : Nat → α} : ∀ n, (∀ i, i < n → f i = g i) → rowL cl f n = rowL cl g n
  | 0, _ => rfl
  | n + 1, h => by rw [rowL_succ, rowL_succ, rowL_congr n (fun i hi => h i (by omega)), h n (by omega)]
theorem rowL_set (hs : ∀ a, (cl a).length = s) (f : Nat → α) {i j : Nat} (hj : j < s) {v : Value} {a : α} (ha : cl a = (cl (f i)).set j v) : ∀ n, i < n → (rowL cl f n).set (i * s + j) v = rowL cl (upd f i a) n
  | 0, h => by omega
  | n + 1, h => by
    rw [rowL_succ, rowL_succ]
    by_cases e : i = n
    · subst e
      rw [List.set_append, if_neg (by rw [rowL_len hs]; omega), rowL_len hs, upd_same, ha]
      rw [rowL_congr (cl := cl) f i (g := upd f i a) (fun k hk => (upd_ne _ _ (by omega)).symm)]
      congr 2; omega
    · have : i * s + j < n * s := by
        have : (i + 1) * s ≤ n * s := Nat.mul_le_mul_right s (by omega)
        rw [Nat.succ_mul] at this; omega
      rw [List.set_append, if_pos (by rw [rowL_len hs]; exact this), rowL_set hs f hj ha n (by omega), upd_ne _ _ (fun x => e x.symm)]
end
theorem rowL_list {α : Type} {cl : α → List Value} {f : Nat → α} : ∀ (l : List α), (∀ i (h : i < l.length), f i = l[i]) → rowL cl f l.length = l.flatMap cl := by
  intro l h
  unfold rowL
  rw [← List.flatMap_map]
  congr 1
  apply List.ext_getElem (by simp)
  intro i h1 h2
  simp only [List.getElem_map, List.getElem_range]
  exact h i h2
def zReply : Reply := ⟨0, 0, ⟨0, []⟩⟩
def zOut : OutM := ⟨0, []⟩
def repC (f : Nat → Reply) (n : Nat) : Array Value := (rowL (fun r : Reply => r.cells.toList) f n).toArray
def outC (f : Nat → OutM) (n : Nat) : Array Value := (rowL (fun r : OutM => r.cells.toList) f n).toArray
section
variable (f : Nat → Reply) (g : Nat → OutM) (n i : Nat) (h : i < n)
include h
theorem repC_g0 : (repC f n)[i * 4]? = some (.int .i64 (f i).client) := by
  have := rowL_get (cl := fun r : Reply => r.cells.toList) (s := 4) (fun _ => rfl) f (i := i) (j := 0) (by omega) n h
  simp only [repC, List.getElem?_toArray]; exact this
theorem repC_g1 : (repC f n)[i * 4 + 1]? = some (.int .i64 (f i).seq) := by
  have := rowL_get (cl := fun r : Reply => r.cells.toList) (s := 4) (fun _ => rfl) f (i := i) (j := 1) (by omega) n h
  simp only [repC, List.getElem?_toArray]; exact this
theorem repC_g2 : (repC f n)[i * 4 + 2]? = some (.int .i64 (f i).ans.err) := by
  have := rowL_get (cl := fun r : Reply => r.cells.toList) (s := 4) (fun _ => rfl) f (i := i) (j := 2) (by omega) n h
  simp only [repC, List.getElem?_toArray]; exact this
theorem repC_g3 : (repC f n)[i * 4 + 3]? = some (vs (f i).ans.val) := by
  have := rowL_get (cl := fun r : Reply => r.cells.toList) (s := 4) (fun _ => rfl) f (i := i) (j := 3) (by omega) n h
  simp only [repC, List.getElem?_toArray]; exact this
theorem repC_s0 (v : Int) : (repC f n).setIfInBounds (i * 4) (.int .i64 v) = repC (upd f i { f i with client := v }) n := by
  have := rowL_set (cl := fun r : Reply => r.cells.toList) (s := 4) (fun _ => rfl) f (i := i) (j := 0) (by omega) (v := .int .i64 v) (a := { f i with client := v }) rfl n h
  simp only [repC, List.setIfInBounds_toArray]; exact congrArg _ this
theorem repC_s1 (v : Int) : (repC f n).setIfInBounds (i * 4 + 1) (.int .i64 v) = repC (upd f i { f i with seq := v }) n := by
  have := rowL_set (cl := fun r : Reply => r.cells.toList) (s := 4) (fun _ => rfl) f (i := i) (j := 1) (by omega) (v := .int .i64 v) (a := { f i with seq := v }) rfl n h
  simp only [repC, List.setIfInBounds_toArray]; exact congrArg _ this
theorem repC_s2 (v : Int) : (repC f n).setIfInBounds (i * 4 + 2) (.int .i64 v) = repC (upd f i { f i with ans := { (f i).ans with err := v } }) n := by
  have := rowL_set (cl := fun r : Reply => r.cells.toList) (s := 4) (fun _ => rfl) f (i := i) (j := 2) (by omega) (v := .int .i64 v) (a := { f i with ans := { (f i).ans with err := v } }) rfl n h
  simp only [repC, List.setIfInBounds_toArray]; exact congrArg _ this
theorem repC_s3 (v : Bs) : (repC f n).setIfInBounds (i * 4 + 3) (.string (ByteArray.mk v.toArray)) = repC (upd f i { f i with ans := { (f i).ans with val := v } }) n := by
  have := rowL_set (cl := fun r : Reply => r.cells.toList) (s := 4) (fun _ => rfl) f (i := i) (j := 3) (by omega) (v := vs v) (a := { f i with ans := { (f i).ans with val := v } }) rfl n h
  simp only [repC, List.setIfInBounds_toArray]; exact congrArg _ this
theorem outC_g0 : (outC g n)[i * 2]? = some (.int .i64 (g i).to) := by
  have := rowL_get (cl := fun r : OutM => r.cells.toList) (s := 2) (fun _ => rfl) g (i := i) (j := 0) (by omega) n h
  simp only [outC, List.getElem?_toArray]; exact this
theorem outC_g1 : (outC g n)[i * 2 + 1]? = some (vs (g i).raw) := by
  have := rowL_get (cl := fun r : OutM => r.cells.toList) (s := 2) (fun _ => rfl) g (i := i) (j := 1) (by omega) n h
  simp only [outC, List.getElem?_toArray]; exact this
theorem outC_s0 (v : Int) : (outC g n).setIfInBounds (i * 2) (.int .i64 v) = outC (upd g i { g i with to := v }) n := by
  have := rowL_set (cl := fun r : OutM => r.cells.toList) (s := 2) (fun _ => rfl) g (i := i) (j := 0) (by omega) (v := .int .i64 v) (a := { g i with to := v }) rfl n h
  simp only [outC, List.setIfInBounds_toArray]; exact congrArg _ this
theorem outC_s1 (v : Bs) : (outC g n).setIfInBounds (i * 2 + 1) (.string (ByteArray.mk v.toArray)) = outC (upd g i { g i with raw := v }) n := by
  have := rowL_set (cl := fun r : OutM => r.cells.toList) (s := 2) (fun _ => rfl) g (i := i) (j := 1) (by omega) (v := vs v) (a := { g i with raw := v }) rfl n h
  simp only [outC, List.setIfInBounds_toArray]; exact congrArg _ this
end
theorem repC_list {f : Nat → Reply} (l : List Reply) (h : ∀ i (h : i < l.length), f i = l[i]) : repC f l.length = (repsC l).toArray := by
  unfold repC repsC; rw [rowL_list l h]
theorem outC_list {f : Nat → OutM} (l : List OutM) (h : ∀ i (h : i < l.length), f i = l[i]) : outC f l.length = (outsC l).toArray := by
  unfold outC outsC; rw [rowL_list l h]
theorem inf77 : ∃ i, Tryz.prog.info? 77 = some i ∧ i.zero = some (.agg (Reply.cells zReply)) ∧ i.size = 4 ∧ i.bytes = 40 :=
  ⟨(Tryz.prog.info? 77).getD default, by kernel_rfl, by kernel_rfl, by kernel_rfl, by kernel_rfl⟩
theorem inf72 : ∃ i, Tryz.prog.info? 72 = some i ∧ i.zero = some (.agg (OutM.cells zOut)) ∧ i.size = 2 ∧ i.bytes = 24 :=
  ⟨(Tryz.prog.info? 72).getD default, by kernel_rfl, by kernel_rfl, by kernel_rfl, by kernel_rfl⟩
theorem mk54 (w : World) (n : Nat) (h1 : n ≤ 3) : (Instr.makeSlice 54 (.int .i64 n) (.int .i64 n)).run Tryz.prog w = .ok (.slice (some ⟨w.heap.size, 0, none⟩) n n) (w.alloc (.cells (repC (fun _ => zReply) n) 77)) := by
  obtain ⟨i, hi, hz, hsz, hby⟩ := inf77
  have hm : madeCells (Value.agg (Reply.cells zReply)).cells ((n : Int).toNat * 4) = repC (fun _ => zReply) n := by
    obtain rfl | rfl | rfl | rfl : n = 0 ∨ n = 1 ∨ n = 2 ∨ n = 3 := by omega
    all_goals kernel_rfl
  rw [run_make w 54 77 i (.agg (Reply.cells zReply)) Tryz.underlying54 hi hz .i64 .i64 n n (by omega) (by omega) (by rw [hby]; omega) (by omega), hsz, hm]
  rfl
theorem mk50 (w : World) (n : Nat) (h1 : n ≤ 3) : (Instr.makeSlice 50 (.int .i64 n) (.int .i64 n)).run Tryz.prog w = .ok (.slice (some ⟨w.heap.size, 0, none⟩) n n) (w.alloc (.cells (outC (fun _ => zOut) n) 72)) := by
  obtain ⟨i, hi, hz, hsz, hby⟩ := inf72
  have hm : madeCells (Value.agg (OutM.cells zOut)).cells ((n : Int).toNat * 2) = outC (fun _ => zOut) n := by
    obtain rfl | rfl | rfl | rfl : n = 0 ∨ n = 1 ∨ n = 2 ∨ n = 3 := by omega
    all_goals kernel_rfl
  rw [run_make w 50 72 i (.agg (OutM.cells zOut)) Tryz.underlying50 hi hz .i64 .i64 n n (by omega) (by omega) (by rw [hby]; omega) (by omega), hsz, hm]
  rfl
/-- a list of the exact length, in a block of its own, made since B -/
def DRow (B : Nat) (X : Nat → Prop) (w : World) (T : Nat) (v : Value) (n : Nat) (xs : List Value) : Prop := (n = 0 ∧ v = .slice none 0 0) ∨ (0 < n ∧ ∃ g, v = .slice (some ⟨g, 0, none⟩) n n ∧ w.At g xs.toArray T ∧ X g ∧ B ≤ g)
theorem RN.aside2 {w w1 W : World} {G0 X Y Z : Nat → Prop} {q : NoP} {n : AN} {R : List Reply} (h : RN G0 W X q n R w) (m : ModP Z w w1) (hZX : ∀ k, Z k → X k) (hZW : ∀ k, Z k → W.heap.size ≤ k) (hY : ∀ k, Y k → X k ∨ (w.heap.size ≤ k ∧ k < w1.heap.size)) : RN G0 W Y q n R w1 := by
  obtain ⟨G, h1, h2, h3, h4⟩ := h
  refine ⟨G, h1.frame m (fun k a b => (h4 k (hZX k b)).2 a), h2, h3.step m (fun k hk => .inr (hZW k hk)), fun k hk => ?_⟩
  rcases hY k hk with h | h
  · exact ⟨Nat.lt_of_lt_of_le (h4 k h).1 m.size, (h4 k h).2⟩
  · exact ⟨h.2, fun g => by have := h1.wi k g; omega⟩
/-- a step from a later world on, seen from the earlier one -/
theorem RN.lift {w w1 W : World} {G0 G1 X Y : Nat → Prop} {q : NoP} {n : AN} {R : List Reply} (h : RN G1 w X q n R w1) (hg : Grows G0 W G1) (hm : ModP G0 W w) (hY : ∀ k, Y k → k < w.heap.size ∧ ¬ G1 k) : RN G0 W (fun k => X k ∨ Y k) q n R w1 := by
  obtain ⟨G, h1, h2, h3, h4⟩ := h
  refine ⟨G, h1, fun k hk => (h2 k hk).elim (hg k) (fun a => .inr (Nat.le_trans hm.size a)), hm.step h3 hg, fun k hk => ?_⟩
  rcases hk with hk | hk
  · exact h4 k hk
  · refine ⟨Nat.lt_of_lt_of_le (hY k hk).1 h3.size, fun g => ?_⟩
    rcases h2 k g with a | a
    · exact (hY k hk).2 a
    · have := (hY k hk).1; omega
/-- the node while its answer is made: messages, and blocks set aside -/
def DiB (G : Nat → Prop) (W : World) (q : NoP) (n : AN) (R : List Reply) (vm : Value) (ms : List Msg) (ex : List (Nat × Array Value × TypeId)) (w : World) : Prop :=
  ∃ X : Nat → Prop, RN G W X q n R w ∧ MsgsX X w vm ms ∧ (∀ e ∈ ex, X e.1 ∧ w.At e.1 e.2.1 e.2.2) ∧ ∀ e ∈ ex, W.heap.size ≤ e.1
section
variable {G : Nat → Prop} {W w w1 : World} {q : NoP} {n : AN} {R : List Reply} {vm : Value} {ms : List Msg} {ex : List (Nat × Array Value × TypeId)} {x : Nat} {c : Array Value} {T : TypeId}
theorem DiB.fr (h : DiB G W q n R vm ms ex w) (m : ModP (fun _ => False) w w1) : DiB G W q n R vm ms ex w1 := by
  obtain ⟨X, h1, h2, h3, h4⟩ := h
  exact ⟨X, h1.fr m, h2.step m (fun _ _ f => f) (fun _ h => h), fun e he => ⟨(h3 e he).1, m.at (h3 e he).2 (fun f => f)⟩, h4⟩
theorem DiB.new (h : DiB G W q n R vm ms ex w) (c : Array Value) (T : TypeId) : DiB G W q n R vm ms ((w.heap.size, c, T) :: ex) (w.alloc (.cells c T)) := by
  obtain ⟨X, h1, h2, h3, h4⟩ := h
  have m : ModP (fun _ => False) w (w.alloc (.cells c T)) := (ModP.refl _ _).alloc _
  refine ⟨fun k => X k ∨ k = w.heap.size, h1.aside2 (Z := fun _ => False) m (fun _ f => f.elim) (fun _ f => f.elim) (fun k hk => hk.imp id (fun e => by subst e; simp)), h2.step m (fun _ _ f => f) (fun _ h => .inl h), ?_, ?_⟩
  · intro e he
    rcases List.mem_cons.1 he with rfl | he
    · exact ⟨.inr rfl, World.At_alloc_new⟩
    · exact ⟨.inl (h3 e he).1, m.at (h3 e he).2 (fun f => f)⟩
  · intro e he
    rcases List.mem_cons.1 he with rfl | he
    · exact h1.mod.size
    · exact h4 e he
theorem DiB.get (h : DiB G W q n R vm ms ex w) {e : Nat × Array Value × TypeId} (he : e ∈ ex) : w.At e.1 e.2.1 e.2.2 := by obtain ⟨X, _, _, h3, _⟩ := h; exact (h3 e he).2
theorem DiB.low (h : DiB G W q n R vm ms ex w) {e : Nat × Array Value × TypeId} (he : e ∈ ex) : W.heap.size ≤ e.1 := by obtain ⟨X, _, _, h3, h4⟩ := h; exact h4 e he
theorem DiB.perm (h : DiB G W q n R vm ms ex w) {ex' : List (Nat × Array Value × TypeId)} (he : ∀ e ∈ ex', e ∈ ex) : DiB G W q n R vm ms ex' w := by
  obtain ⟨X, h1, h2, h3, h4⟩ := h
  exact ⟨X, h1, h2, fun e hx => h3 e (he e hx), fun e hx => h4 e (he e hx)⟩
/-- one block that is set aside is laid open -/
theorem DiB.door (h : DiB G W q n R vm ms ((x, c, T) :: ex) w) (hx : ∀ e ∈ ex, e.1 ≠ x) (hT1 : T ≠ 159) (hT2 : T ≠ 232) : ∃ y : World, w = y.put x c T ∧ y.inB x ∧ (∀ z c' T', w.At z c' T' → z ≠ x → y.At z c' T') ∧ Hid (∀ c', DiB G W q n R vm ms ((x, c', T) :: ex) (y.put x c' T)) := by
  obtain ⟨X, h1, h2, h3, h4⟩ := h
  have hxx := h3 _ List.mem_cons_self
  simp only [] at hxx
  obtain ⟨y, e, i⟩ := hxx.2.door
  refine ⟨y, e, i, fun z c' T' hz hne => ?_, fun c' => ?_⟩
  · rw [e] at hz; exact (World.At_put_ne' hne).1 hz
  have m : ModP (fun k => k = x) w (y.put x c' T) := by rw [e]; exact ModP.fromPut (ModP.put (F := fun k => k = x) (ModP.refl _ _) (.inl rfl) _ _) rfl
  have hw := hxx.2
  refine ⟨X, h1.aside2 m (fun k ek => ek ▸ hxx.1) (fun k ek => ek ▸ h4 _ List.mem_cons_self) (fun k hk => .inl hk), ?_, ?_, ?_⟩
  · obtain ⟨ps, p1, p2, p3⟩ := h2
    refine ⟨ps, p1, ⟨ownsRow_frame p2.1 m (fun g hg ek => ownsRow_neT p2.1 hw hT1 hg (by rw [ek])), p2.2⟩, fun p hp => ⟨ownsRow_frame (p3 p hp).1 m (fun g hg ek => ownsRow_neT (p3 p hp).1 hw hT2 hg (by rw [ek])), (p3 p hp).2⟩⟩
  · intro e' he'
    rcases List.mem_cons.1 he' with rfl | he'
    · exact ⟨hxx.1, World.At_put_same i⟩
    · exact ⟨(h3 e' (List.mem_cons_of_mem _ he')).1, m.at (h3 e' (List.mem_cons_of_mem _ he')).2 (hx e' he')⟩
  · intro e' he'
    rcases List.mem_cons.1 he' with rfl | he'
    · exact h4 (x, c, T) List.mem_cons_self
    · exact h4 e' (List.mem_cons_of_mem _ he')
end
end Go.Tw
