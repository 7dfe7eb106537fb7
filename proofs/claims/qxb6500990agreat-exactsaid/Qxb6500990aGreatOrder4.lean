/- A drawn region whose tail is a tree: pure operations are taken as soon as they can be, else one or two operations are ready. -/
import Derived.Test.Qxb6500990aGreatOrder3
set_option linter.unusedVariables false
set_option linter.unusedSimpArgs false
namespace Go
namespace Ord
section
variable {P : Program} {ops : Array Oper} {Q : Exit → Act → World → Prop} {CA : World → Prop} {loose : Nat → Bool}
theorem first_V {i : Nat} {oi : Oper} {v : Value} (hi : ops[i]? = some oi) (hsel : ∀ (j : Nat) (o : Oper) cs b, ops[j]? = some o → o.op ≠ .select cs b)
    (hQ : ∀ c a w, Q (.panic c) (a.put oi.dst v) w → Q (.panic c) a w) (hci : loose i = true → ∀ w, CA w) :
    ∀ (f : Nat) (listed : Array Bool) (a : Act) (w : World), Closed ops listed →
      (∀ j oj, ops[j]? = some oj → j ≠ i → listed.getD j true = false → (∀ e ∈ oj.after, Region.binds .any e = true → e.on ≠ i) → oi.apart ops oj = true) →
      i ∈ Region.ready .any ops listed → YieldsIf P ops (fun _ => True) oi v a →
      wpAnyK P ops Q CA loose f (listed.setIfInBounds i true) (a.put oi.dst v) w → wpAnyK P ops Q CA loose (f + 1) listed a w := by
  intro f
  induction f with
  | zero =>
    intro listed a w _ _ hr hy H
    refine ⟨fun h => (by rw [h] at hr; cases hr), fun j hj => ?_⟩
    by_cases hji : j = i
    · subst hji; exact hy.wpOp hi trivial ⟨fun h => hci h w, H⟩
    · have := ready_mono hj hji
      rw [H.1] at this
      cases this
  | succ f ih =>
    intro listed a w hc hfree hr hy H
    refine ⟨fun h => (by rw [h] at hr; cases hr), fun j hj => ?_⟩
    by_cases hji : j = i
    · subst hji; exact hy.wpOp hi trivial ⟨fun h => hci h w, H⟩
    · have h1 := H.2 j (ready_mono hj hji)
      obtain ⟨hjun, oj, hoj, hall⟩ := mem_ready.1 hj
      have hiun := (mem_ready.1 hr).1
      have hnot : ∀ e ∈ oj.after, Region.binds .any e = true → e.on ≠ i := fun e he hb heq => by
        have h1 := hall e he hb
        rw [heq, getD_tf hiun] at h1
        cases h1
      have h2 := wpOp_putIf hoj (hfree j oj hoj hji hjun hnot) (fun cs b => hsel i oi cs b hi) (fun cs b => hsel j oj cs b hoj) hQ hy h1
      have hfree' : ∀ k ok, ops[k]? = some ok → k ≠ i → (listed.setIfInBounds j true).getD k true = false →
          (∀ e ∈ ok.after, Region.binds .any e = true → e.on ≠ i) → oi.apart ops ok = true := fun k ok hk hki hun hno => by
        refine hfree k ok hk hki ?_ hno
        by_cases hjk : j = k
        · subst hjk; exact hjun
        · rw [getD_set_ne true hjk] at hun; exact hun
      refine wpOp_mono (fun a' w' h3 => ⟨h3.2.1, ih (listed.setIfInBounds j true) a' w' (closed_set hc hj) hfree' (ready_mono hr (Ne.symm hji)) h3.1 ?_⟩) h2
      rw [Array.setIfInBounds_comm _ _ hji]
      exact h3.2.2
inductive Scr where
  | fin
  | val (i : Nat) (r : Scr)
  | one (i : Nat) (lo : Bool) (r : Scr)
  | two (i : Nat) (li : Bool) (r : Scr) (j : Nat) (lj : Bool) (s : Scr)
def Scr.sz : Scr → Nat
  | .fin => 0
  | .val _ r => r.sz + 1
  | .one _ _ r => r.sz + 1
  | .two _ _ r _ _ _ => r.sz + 1
def Scr.path : Scr → List Nat
  | .fin => []
  | .val i r => i :: r.path
  | .one i _ r => i :: r.path
  | .two i _ r _ _ _ => i :: r.path
def okS (l : List Oper) (A : List Nat) (allT : Bool) : Scr → Array Bool → Bool
  | .fin, listed => (Region.ready .any l.toArray listed).isEmpty
  | .val i r, listed => (Region.ready .any l.toArray listed).contains i && Region.free .any l.toArray listed i && decide (i < l.length) && isVal (nth l i).op && (allT || !looseOf l.toArray A i) && okS l A allT r (listed.setIfInBounds i true)
  | .one i lo r, listed => decide (Region.ready .any l.toArray listed = [i]) && decide (i < l.length) && (nth l i).guard.isNone && (lo || !looseOf l.toArray A i) && okS l A allT r (listed.setIfInBounds i true)
  | .two i li r j lj s, listed => decide (Region.ready .any l.toArray listed = [i, j]) && decide (i < l.length) && (nth l i).guard.isNone && (li || !looseOf l.toArray A i) && okS l A allT r (listed.setIfInBounds i true) &&
      (decide (j < l.length) && (nth l j).guard.isNone && (lj || !looseOf l.toArray A j) && okS l A allT s (listed.setIfInBounds j true) && decide (r.sz = s.sz))
def wpS (P : Program) (l : List Oper) (Q : Exit → Act → World → Prop) (CA : World → Prop) : Scr → Act → World → Prop
  | .fin, a, w => Q .normal a w
  | .val i r, a, w => wpQuiet P l.toArray (fun _ => True) (fun a' => wpS P l Q CA r a' w) [nth l i] a
  | .one i lo r, a, w => ∀ K : Act → World → Prop, (∀ a' w', (lo = true → CA w') → wpS P l Q CA r a' w' → K a' w') → (nth l i).wp P a w K Q
  | .two i li r j lj s, a, w => (∀ K : Act → World → Prop, (∀ a' w', (li = true → CA w') → wpS P l Q CA r a' w' → K a' w') → (nth l i).wp P a w K Q) ∧
      (∀ K : Act → World → Prop, (∀ a' w', (lj = true → CA w') → wpS P l Q CA s a' w' → K a' w') → (nth l j).wp P a w K Q)
theorem wpOp_of {l : List Oper} {i : Nat} {K : Act → World → Prop} {a : Act} {w : World} (h1 : i < l.length) (h2 : (nth l i).guard.isNone = true) (h : (nth l i).wp P a w K Q) : wpOp P l.toArray Q i K a w := by
  have h3 := nth_spec l i h1
  unfold wpOp
  simp only [h3]
  have hw : Region.wanted (nth l i) (yielded l.toArray a.tmps) = true := by unfold Region.wanted; rw [Option.isNone_iff_eq_none.1 h2]
  rw [if_pos hw]
  exact .inl h
theorem wpAnyK_S {l : List Oper} {A : List Nat} {allT : Bool} (hall : allT = true → ∀ w, CA w) (hs : Region.noSelect l.toArray = true) (hQ : ∀ c a d v w, Q (.panic c) (Act.put a d v) w → Q (.panic c) a w) :
    ∀ (s : Scr) (listed : Array Bool) (a : Act) (w : World), okS l A allT s listed = true → Closed l.toArray listed → wpS P l Q CA s a w → wpAnyK P l.toArray Q CA (looseOf l.toArray A) s.sz listed a w
  | .fin, listed, a, w, hB, _, h => ⟨by simpa [okS] using hB, h⟩
  | .val i r, listed, a, w, hB, hc, h => by
    simp only [okS, Bool.and_eq_true, decide_eq_true_eq, Bool.or_eq_true, Bool.not_eq_true'] at hB
    obtain ⟨⟨⟨⟨⟨b1, b2⟩, b3⟩, b4⟩, b5⟩, b6⟩ := hB
    have hr : i ∈ Region.ready .any l.toArray listed := by simpa using b1
    have hy := yr_of_quiet (P := P) (CA := fun _ => True) (l := l) (L := fun a' => wpS P l Q CA r a' w) [i] a (by simp [b3, b4]) ⟨w, trivial⟩ (by unfold wpS at h; simpa only [pickO] using h)
    obtain ⟨o, v, ho, hv, hk⟩ := hy
    refine first_V ho (Region.noSelect_spec hs) (fun c a w h => hQ c _ _ _ w h) (fun hl => ?_) r.sz listed a w hc (Region.free_spec ho b2) hr hv (wpAnyK_S hall hs hQ r _ _ w b6 (closed_set hc hr) hk)
    rcases b5 with b5 | b5
    · exact hall b5
    · rw [b5] at hl; cases hl
  | .one i lo r, listed, a, w, hB, hc, h => by
    simp only [okS, Bool.and_eq_true, decide_eq_true_eq, Bool.or_eq_true, Bool.not_eq_true'] at hB
    obtain ⟨⟨⟨⟨b1, b2⟩, b3⟩, b4⟩, b5⟩ := hB
    refine ⟨fun h1 => (by rw [b1] at h1; cases h1), fun k hk => ?_⟩
    rw [b1] at hk
    have hik : k = i := by simpa using hk
    subst hik
    have hr : k ∈ Region.ready .any l.toArray listed := by rw [b1]; simp
    refine wpOp_of b2 b3 (h _ fun a' w' h1 h2 => ⟨fun hl => h1 ?_, wpAnyK_S hall hs hQ r _ a' w' b5 (closed_set hc hr) h2⟩)
    rcases b4 with b4 | b4
    · exact b4
    · rw [b4] at hl; cases hl
  | .two i li r j lj s, listed, a, w, hB, hc, h => by
    simp only [okS, Bool.and_eq_true, decide_eq_true_eq, Bool.or_eq_true, Bool.not_eq_true'] at hB
    obtain ⟨⟨⟨⟨⟨b1, b2⟩, b3⟩, b4⟩, b5⟩, ⟨⟨⟨c2, c3⟩, c4⟩, c5⟩, c6⟩ := hB
    refine ⟨fun h1 => (by rw [b1] at h1; cases h1), fun k hk => ?_⟩
    have hr : k ∈ Region.ready .any l.toArray listed := hk
    rw [b1] at hk
    simp only [List.mem_cons, List.not_mem_nil, or_false] at hk
    rcases hk with rfl | rfl
    · refine wpOp_of b2 b3 (h.1 _ fun a' w' h1 h2 => ⟨fun hl => h1 ?_, wpAnyK_S hall hs hQ r _ a' w' b5 (closed_set hc hr) h2⟩)
      rcases b4 with b4 | b4
      · exact b4
      · rw [b4] at hl; cases hl
    · refine wpOp_of c2 c3 (h.2 _ fun a' w' h1 h2 => ⟨fun hl => h1 ?_, ?_⟩)
      · rcases c4 with c4 | c4
        · exact c4
        · rw [c4] at hl; cases hl
      · have := wpAnyK_S hall hs hQ s _ a' w' c5 (closed_set hc hr) h2
        rw [← c6] at this
        exact this
def canonS (ops : Array Oper) (A B : List Nat) (s : Scr) : Bool :=
  let n := ops.size
  let T := s.path
  let lA := setAll n A
  Region.noSelect ops && takeB ops A (Array.replicate n false) &&
  (List.range n).all (fun j => memB A j || memB B j || memB T j) &&
  B.all (fun j => !memB A j && !memB T j && decide (j < n)) && decide B.Nodup && T.all (fun j => !memB A j && decide (j < n)) &&
  pairB ops n B && topoB ops lA [] B && T.all (fun t => B.all fun b => depB ops n t b) &&
  decide (A.length + (B.length + s.sz) = n)
theorem region_canonS {id : Nat} {a : Act} {w : World} {l : List Oper} (CA : World → Prop) (A B : List Nat) (s : Scr) (hm : P.follows .mixedOrders = true)
    (hB : canonS l.toArray A B s = true) (hQ : ∀ c a d v w, Q (.panic c) (Act.put a d v) w → Q (.panic c) a w) (hCA : CA w.drew)
    (hS : ∀ listed, listed = setAll l.toArray.size (A ++ B) → Closed l.toArray listed → ∀ a2, wpS P l Q CA s a2 w.drew → wpAnyK P l.toArray Q CA (looseOf l.toArray A) s.sz listed a2 w.drew)
    (h : yr P l.toArray CA (cr P l.toArray (fun w' => w' = w.drew) (fun a' => wpS P l Q CA s a' w.drew) B) A a) :
    (Code.region id l.toArray true).wp P Q a w := by
  generalize hops : l.toArray = ops at hB h hS ⊢
  simp only [canonS, Bool.and_eq_true, List.all_eq_true, decide_eq_true_eq, Bool.not_eq_true'] at hB
  obtain ⟨⟨⟨⟨⟨⟨⟨⟨⟨hsel, htake⟩, hcover⟩, hBin⟩, hnod⟩, hTin⟩, hpair⟩, htopo⟩, htail⟩, hlen⟩ := hB
  have h0 : Closed ops (Array.replicate ops.size false) := fun j o _ hl => by
    rcases Nat.lt_or_ge j ops.size with h' | h' <;> simp [h'] at hl
  refine wp_region_any hm (wpAny_of_K (CA := CA) (loose := looseOf ops A) _ _ _ _ ?_)
  rw [show ({ w with drawn := w.drawn + 1 } : World) = w.drew from rfl]
  suffices hh : wpAnyK P ops Q CA (looseOf ops A) (A.length + (B.length + s.sz)) (Array.replicate ops.size false) a w.drew by rwa [hlen] at hh
  refine wpAnyK_A (N := ops.size) hsel hQ hCA A _ a h0 (fun i hi j hj => ?_) htake (fun a' ha' => ?_) h
  · simp only [looseOf, Bool.not_eq_false', List.all_eq_true] at hj
    exact hj i hi
  · refine wpAnyK_B (T := s.path) (N := ops.size) (fun w' => Iff.rfl) hCA (Region.noSelect_spec hsel) (fun listed a2 hg hL => ?_) B.length B _ a' rfl ?_ ha'
    · have he : listed = setAll ops.size (A ++ B) := by
        apply Array.ext
        · rw [hg.size]; exact (setAll_size _ _ _ (by simp)).symm
        · intro k h1 h2
          have hk : k < ops.size := by rw [← hg.size]; exact h1
          have e1 : listed.getD k true = listed[k] := by simp [h1]
          have e2 : (setAll ops.size (A ++ B)).getD k true = (setAll ops.size (A ++ B))[k] := by simp [h2]
          rw [← e1, ← e2]
          unfold setAll
          rw [setAll_getD ops.size _ _ k (by simp) hk]
          have e3 : (Array.replicate ops.size false).getD k true = false := by simp [hk]
          rw [e3, Bool.or_false]
          cases hkl : listed.getD k true with
          | false =>
            rcases hg.all k hkl with h3 | h3
            · simp at h3
            · cases hm : memB (A ++ B) k with
              | false => rfl
              | true =>
                have := memB_iff.1 hm
                rcases List.mem_append.1 this with h4 | h4
                · have := (hTin k h3).1
                  rw [memB_iff.2 h4] at this; cases this
                · have := (hBin k h4).1.2
                  rw [memB_iff.2 h3] at this; cases this
          | true =>
            have hc := hcover k (List.mem_range.2 hk)
            simp only [Bool.or_eq_true] at hc
            rcases hc with (h3 | h3) | h3
            · exact (memB_iff.2 (List.mem_append_left _ (memB_iff.1 h3))).symm
            · exact (memB_iff.2 (List.mem_append_right _ (memB_iff.1 h3))).symm
            · have := hg.tun k (memB_iff.1 h3)
              rw [hkl] at this; cases this
      rw [he]
      exact hS _ rfl (by rw [← he]; exact hg.closed) a2 hL
    · have hg1 : ∀ k, k < ops.size → (A.foldl (fun s i => s.setIfInBounds i true) (Array.replicate ops.size false)).getD k true = memB A k := fun k hk => by
        rw [setAll_getD ops.size _ _ k (by simp) hk]; simp [hk]
      have hsz := setAll_size ops.size A (Array.replicate ops.size false) (by simp)
      refine ⟨hsz, closed_take (listed := #[]) A _ h0 htake, fun j hj => ?_, fun j hj => ?_, hnod, pairB_spec B hpair, fun l1 i l2 hl => ?_, fun t ht b hb => htail t ht b hb, fun t ht => ?_⟩
      · rw [hg1 j (hBin j hj).2]; exact (hBin j hj).1.1
      · have hk := getD_bounds hj
        rw [hsz] at hk
        rw [hg1 j hk] at hj
        have hc := hcover j (List.mem_range.2 hk)
        simp only [Bool.or_eq_true, hj, Bool.false_eq_true, false_or] at hc
        exact hc.imp memB_iff.1 memB_iff.1
      · obtain ⟨o, ho, hal⟩ := topoB_spec B [] htopo l1 i l2 hl
        exact ⟨o, ho, fun e he hb => (hal e he hb).imp (fun h => h) (fun h => by simpa using h)⟩
      · rw [hg1 t (hTin t ht).2]; exact (hTin t ht).1
def in3 (l : List Oper) (A B : List Nat) (s : Scr) (allT : Bool) : Bool :=
  canonS l.toArray A B s && (A.all fun i => decide (i < l.length) && isVal (nth l i).op) && (B.all fun i => decide (i < l.length)) && okS l A allT s (setAll l.toArray.size (A ++ B))
/-- A in every world of CA, B in the world at hand, then the tree s -/
theorem region3 {id : Nat} {a : Act} {w : World} {l : List Oper} (CA : World → Prop) (A B : List Nat) (s : Scr) (allT : Bool) (hall : allT = true → ∀ w, CA w) (hm : P.follows .mixedOrders = true)
    (hB : in3 l A B s allT = true) (hQ : ∀ c a d v w, Q (.panic c) (Act.put a d v) w → Q (.panic c) a w) (hCA : CA w.drew)
    (h : wpQuiet P l.toArray CA (fun a1 => wpQuiet P l.toArray (fun w' => w' = w.drew) (fun a2 => wpS P l Q CA s a2 w.drew) (pickO l B) a1) (pickO l A) a) :
    (Code.region id l.toArray true).wp P Q a w := by
  simp only [in3, Bool.and_eq_true, List.all_eq_true, decide_eq_true_eq] at hB
  obtain ⟨⟨⟨h1, h2⟩, h3⟩, h4⟩ := hB
  have hsel : Region.noSelect l.toArray = true := by
    have := h1
    simp only [canonS, Bool.and_eq_true] at this
    exact this.1.1.1.1.1.1.1.1.1
  refine region_canonS CA A B s hm h1 hQ hCA (fun listed he hc a2 h5 => wpAnyK_S hall hsel hQ s listed a2 w.drew (by rw [he]; exact h4) hc h5) ?_
  refine yr_of_quiet A a h2 ⟨w.drew, hCA⟩ (wpQuiet_mono (fun a1 ha1 => ?_) _ _ h)
  exact cr_of_quiet B a1 h3 (wpQuiet_mono (fun a2 ha2 => ha2) _ _ ha1)
end
end Ord
end Go
namespace Go
namespace Ord
section
variable {P : Program} {Q : Exit → Act → World → Prop} {CA : World → Prop} {l : List Oper} {i j : Nat} {o o' : Oper} {r s : Scr} {a : Act} {w : World}
theorem wpS_val (ho : nth l i = o) (h : wpQuiet P l.toArray (fun _ => True) (fun a' => wpS P l Q CA r a' w) [o] a) : wpS P l Q CA (.val i r) a w := by subst ho; exact h
theorem wpS_loose (ho : nth l i = o) (h : ∀ K : Act → World → Prop, (∀ a' w', CA w' → wpS P l Q CA r a' w' → K a' w') → o.wp P a w K Q) : wpS P l Q CA (.one i true r) a w := by
  subst ho; exact fun K hK => h K fun a' w' h1 h2 => hK a' w' (fun _ => h1) h2
theorem wpS_next (ho : nth l i = o) (h : ∀ K : Act → World → Prop, (∀ a' w', wpS P l Q CA r a' w' → K a' w') → o.wp P a w K Q) : wpS P l Q CA (.one i false r) a w := by
  subst ho; exact fun K hK => h K fun a' w' h2 => hK a' w' (fun h => by cases h) h2
theorem wpS_two {li lj : Bool} (h1 : wpS P l Q CA (.one i li r) a w) (h2 : wpS P l Q CA (.one j lj s) a w) : wpS P l Q CA (.two i li r j lj s) a w := ⟨h1, h2⟩
theorem wpS_fin (h : Q .normal a w) : wpS P l Q CA .fin a w := h
end
end Ord
end Go
