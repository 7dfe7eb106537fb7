/- a drawn region whose tail is a tree, guarded operations among its steps -/
import Derived.Test.Qxb6500990aGreatOrder5
set_option linter.unusedVariables false
set_option linter.unusedSimpArgs false
namespace Go
namespace Ord
section
variable {P : Program} {ops : Array Oper} {Q : Exit → Act → World → Prop} {CA : World → Prop} {loose : Nat → Bool}
def okG (l : List Oper) (A : List Nat) (allT : Bool) : Scr → Array Bool → Bool
  | .fin, listed => (Region.ready .any l.toArray listed).isEmpty
  | .val i r, listed => (Region.ready .any l.toArray listed).contains i && Region.free .any l.toArray listed i && decide (i < l.length) && isVal (nth l i).op && (allT || !looseOf l.toArray A i) && okG l A allT r (listed.setIfInBounds i true)
  | .one i lo r, listed => decide (Region.ready .any l.toArray listed = [i]) && decide (i < l.length) && (lo || !looseOf l.toArray A i) && okG l A allT r (listed.setIfInBounds i true)
  | .two i li r j lj s, listed => decide (Region.ready .any l.toArray listed = [i, j]) && decide (i < l.length) && (li || !looseOf l.toArray A i) && okG l A allT r (listed.setIfInBounds i true) &&
      (decide (j < l.length) && (lj || !looseOf l.toArray A j) && okG l A allT s (listed.setIfInBounds j true) && decide (r.sz = s.sz))
def wpG (P : Program) (l : List Oper) (Q : Exit → Act → World → Prop) (CA : World → Prop) : Scr → Act → World → Prop
  | .fin, a, w => Q .normal a w
  | .val i r, a, w => wpQuiet P l.toArray (fun _ => True) (fun a' => wpG P l Q CA r a' w) [nth l i] a
  | .one i lo r, a, w => Region.wanted (nth l i) (yielded l.toArray a.tmps) = true ∧ ∀ K : Act → World → Prop, (∀ a' w', (lo = true → CA w') → wpG P l Q CA r a' w' → K a' w') → (nth l i).wp P a w K Q
  | .two i li r j lj s, a, w => (Region.wanted (nth l i) (yielded l.toArray a.tmps) = true ∧ ∀ K : Act → World → Prop, (∀ a' w', (li = true → CA w') → wpG P l Q CA r a' w' → K a' w') → (nth l i).wp P a w K Q) ∧
      (Region.wanted (nth l j) (yielded l.toArray a.tmps) = true ∧ ∀ K : Act → World → Prop, (∀ a' w', (lj = true → CA w') → wpG P l Q CA s a' w' → K a' w') → (nth l j).wp P a w K Q)
theorem wpOp_ofG {l : List Oper} {i : Nat} {K : Act → World → Prop} {a : Act} {w : World} (h1 : i < l.length) (hw : Region.wanted (nth l i) (yielded l.toArray a.tmps) = true) (h : (nth l i).wp P a w K Q) : wpOp P l.toArray Q i K a w := by
  have h3 := nth_spec l i h1
  unfold wpOp
  simp only [h3]
  rw [if_pos hw]
  exact .inl h
theorem wpAnyK_G {l : List Oper} {A : List Nat} {allT : Bool} (hall : allT = true → ∀ w, CA w) (hs : Region.noSelect l.toArray = true) (hQ : ∀ c a d v w, Q (.panic c) (Act.put a d v) w → Q (.panic c) a w) :
    ∀ (s : Scr) (listed : Array Bool) (a : Act) (w : World), okG l A allT s listed = true → Closed l.toArray listed → wpG P l Q CA s a w → wpAnyK P l.toArray Q CA (looseOf l.toArray A) s.sz listed a w
  | .fin, listed, a, w, hB, _, h => ⟨by simpa [okG] using hB, h⟩
  | .val i r, listed, a, w, hB, hc, h => by
    simp only [okG, Bool.and_eq_true, decide_eq_true_eq, Bool.or_eq_true, Bool.not_eq_true'] at hB
    obtain ⟨⟨⟨⟨⟨b1, b2⟩, b3⟩, b4⟩, b5⟩, b6⟩ := hB
    have hr : i ∈ Region.ready .any l.toArray listed := by simpa using b1
    have hy := yr_of_quiet (P := P) (CA := fun _ => True) (l := l) (L := fun a' => wpG P l Q CA r a' w) [i] a (by simp [b3, b4]) ⟨w, trivial⟩ (by unfold wpG at h; simpa only [pickO] using h)
    obtain ⟨o, v, ho, hv, hk⟩ := hy
    refine first_V ho (Region.noSelect_spec hs) (fun c a w h => hQ c _ _ _ w h) (fun hl => ?_) r.sz listed a w hc (Region.free_spec ho b2) hr hv (wpAnyK_G hall hs hQ r _ _ w b6 (closed_set hc hr) hk)
    rcases b5 with b5 | b5
    · exact hall b5
    · rw [b5] at hl; cases hl
  | .one i lo r, listed, a, w, hB, hc, h => by
    simp only [okG, Bool.and_eq_true, decide_eq_true_eq, Bool.or_eq_true, Bool.not_eq_true'] at hB
    obtain ⟨⟨⟨b1, b2⟩, b4⟩, b5⟩ := hB
    refine ⟨fun h1 => (by rw [b1] at h1; cases h1), fun k hk => ?_⟩
    rw [b1] at hk
    have hik : k = i := by simpa using hk
    subst hik
    have hr : k ∈ Region.ready .any l.toArray listed := by rw [b1]; simp
    refine wpOp_ofG b2 h.1 (h.2 _ fun a' w' h1 h2 => ⟨fun hl => h1 ?_, wpAnyK_G hall hs hQ r _ a' w' b5 (closed_set hc hr) h2⟩)
    rcases b4 with b4 | b4
    · exact b4
    · rw [b4] at hl; cases hl
  | .two i li r j lj s, listed, a, w, hB, hc, h => by
    simp only [okG, Bool.and_eq_true, decide_eq_true_eq, Bool.or_eq_true, Bool.not_eq_true'] at hB
    obtain ⟨⟨⟨⟨b1, b2⟩, b4⟩, b5⟩, ⟨⟨c2, c4⟩, c5⟩, c6⟩ := hB
    refine ⟨fun h1 => (by rw [b1] at h1; cases h1), fun k hk => ?_⟩
    have hr : k ∈ Region.ready .any l.toArray listed := hk
    rw [b1] at hk
    simp only [List.mem_cons, List.not_mem_nil, or_false] at hk
    rcases hk with rfl | rfl
    · refine wpOp_ofG b2 h.1.1 (h.1.2 _ fun a' w' h1 h2 => ⟨fun hl => h1 ?_, wpAnyK_G hall hs hQ r _ a' w' b5 (closed_set hc hr) h2⟩)
      rcases b4 with b4 | b4
      · exact b4
      · rw [b4] at hl; cases hl
    · refine wpOp_ofG c2 h.2.1 (h.2.2 _ fun a' w' h1 h2 => ⟨fun hl => h1 ?_, ?_⟩)
      · rcases c4 with c4 | c4
        · exact c4
        · rw [c4] at hl; cases hl
      · have := wpAnyK_G hall hs hQ s _ a' w' c5 (closed_set hc hr) h2
        rw [← c6] at this
        exact this
theorem region_canonG {id : Nat} {a : Act} {w : World} {l : List Oper} (CA : World → Prop) (A B : List Nat) (s : Scr) (hm : P.follows .mixedOrders = true)
    (hB : canonS l.toArray A B s = true) (hQ : ∀ c a d v w, Q (.panic c) (Act.put a d v) w → Q (.panic c) a w) (hCA : CA w.drew)
    (hS : ∀ listed, listed = setAll l.toArray.size (A ++ B) → Closed l.toArray listed → ∀ a2, wpG P l Q CA s a2 w.drew → wpAnyK P l.toArray Q CA (looseOf l.toArray A) s.sz listed a2 w.drew)
    (h : yr P l.toArray CA (cr P l.toArray (fun w' => w' = w.drew) (fun a' => wpG P l Q CA s a' w.drew) B) A a) :
    (Code.region id l.toArray true).wp P Q a w := by
  generalize hops : l.toArray = ops at hB h hS ⊢
  simp only [canonS, Bool.and_eq_true, List.all_eq_true, decide_eq_true_eq, Bool.not_eq_true'] at hB
  obtain ⟨⟨⟨⟨⟨⟨⟨⟨⟨hsel, htake⟩, hcover⟩, hBin⟩, hnod⟩, hTin⟩, hpair⟩, htopo⟩, htail⟩, hlen⟩ := hB
  have h0 : Closed ops (Array.replicate ops.size false) := fun j o _ hl => by
    rcases Nat.lt_or_ge j ops.size with h' | h' <;> simp [h'] at hl
  refine wp_region_any hm (wpAny_of_K (CA := CA) (loose := looseOf ops A) _ _ _ _ ?_)
  rw [show ({ w with drawn := w.drawn + 1 } : World) = w.drew from rfl]
  suffices hh : wpAnyK P ops Q CA (looseOf ops A) (A.length + (B.length + s.sz)) (Array.replicate ops.size false) a w.drew by rwa [hlen] at hh
  refine wpAnyK_A (N := ops.size) hsel hQ hCA A _ a h0 (fun i hi j hj => ?_) htake (fun a' ha' => ?_) h
  · simp only [looseOf, Bool.not_eq_false', List.all_eq_true] at hj
    exact hj i hi
  · refine wpAnyK_B (T := s.path) (N := ops.size) (fun w' => Iff.rfl) hCA (Region.noSelect_spec hsel) (fun listed a2 hg hL => ?_) B.length B _ a' rfl ?_ ha'
    · have he : listed = setAll ops.size (A ++ B) := by
        apply Array.ext
        · rw [hg.size]; exact (setAll_size _ _ _ (by simp)).symm
        · intro k h1 h2
          have hk : k < ops.size := by rw [← hg.size]; exact h1
          have e1 : listed.getD k true = listed[k] := by simp [h1]
          have e2 : (setAll ops.size (A ++ B)).getD k true = (setAll ops.size (A ++ B))[k] := by simp [h2]
          rw [← e1, ← e2]
          unfold setAll
          rw [setAll_getD ops.size _ _ k (by simp) hk]
          have e3 : (Array.replicate ops.size false).getD k true = false := by simp [hk]
          rw [e3, Bool.or_false]
          cases hkl : listed.getD k true with
          | false =>
            rcases hg.all k hkl with h3 | h3
            · simp at h3
            · cases hm : memB (A ++ B) k with
              | false => rfl
              | true =>
                have := memB_iff.1 hm
                rcases List.mem_append.1 this with h4 | h4
                · have := (hTin k h3).1
                  rw [memB_iff.2 h4] at this; cases this
                · have := (hBin k h4).1.2
                  rw [memB_iff.2 h3] at this; cases this
          | true =>
            have hc := hcover k (List.mem_range.2 hk)
            simp only [Bool.or_eq_true] at hc
            rcases hc with (h3 | h3) | h3
            · exact (memB_iff.2 (List.mem_append_left _ (memB_iff.1 h3))).symm
            · exact (memB_iff.2 (List.mem_append_right _ (memB_iff.1 h3))).symm
            · have := hg.tun k (memB_iff.1 h3)
              rw [hkl] at this; cases this
      rw [he]
      exact hS _ rfl (by rw [← he]; exact hg.closed) a2 hL
    · have hg1 : ∀ k, k < ops.size → (A.foldl (fun s i => s.setIfInBounds i true) (Array.replicate ops.size false)).getD k true = memB A k := fun k hk => by
        rw [setAll_getD ops.size _ _ k (by simp) hk]; simp [hk]
      have hsz := setAll_size ops.size A (Array.replicate ops.size false) (by simp)
      refine ⟨hsz, closed_take (listed := #[]) A _ h0 htake, fun j hj => ?_, fun j hj => ?_, hnod, pairB_spec B hpair, fun l1 i l2 hl => ?_, fun t ht b hb => htail t ht b hb, fun t ht => ?_⟩
      · rw [hg1 j (hBin j hj).2]; exact (hBin j hj).1.1
      · have hk := getD_bounds hj
        rw [hsz] at hk
        rw [hg1 j hk] at hj
        have hc := hcover j (List.mem_range.2 hk)
        simp only [Bool.or_eq_true, hj, Bool.false_eq_true, false_or] at hc
        exact hc.imp memB_iff.1 memB_iff.1
      · obtain ⟨o, ho, hal⟩ := topoB_spec B [] htopo l1 i l2 hl
        exact ⟨o, ho, fun e he hb => (hal e he hb).imp (fun h => h) (fun h => by simpa using h)⟩
      · rw [hg1 t (hTin t ht).2]; exact (hTin t ht).1
def in3g (l : List Oper) (A B : List Nat) (s : Scr) (allT : Bool) : Bool :=
  canonQ l.toArray A B s && (A.all fun i => decide (i < l.length) && isVal (nth l i).op) && (B.all fun i => decide (i < l.length)) && okG l A allT s (setAll l.toArray.size (A ++ B))
/-- A in every world of CA, B in the world at hand, then the tree s -/
theorem region3g {id : Nat} {a : Act} {w : World} {l : List Oper} (CA : World → Prop) (A B : List Nat) (s : Scr) (allT : Bool) (hall : allT = true → ∀ w, CA w) (hm : P.follows .mixedOrders = true)
    (hB : in3g l A B s allT = true) (hQ : ∀ c a d v w, Q (.panic c) (Act.put a d v) w → Q (.panic c) a w) (hCA : CA w.drew)
    (h : wpQuiet P l.toArray CA (fun a1 => wpQuiet P l.toArray (fun w' => w' = w.drew) (fun a2 => wpG P l Q CA s a2 w.drew) (pickO l B) a1) (pickO l A) a) :
    (Code.region id l.toArray true).wp P Q a w := by
  simp only [in3g, Bool.and_eq_true, List.all_eq_true, decide_eq_true_eq] at hB
  obtain ⟨⟨⟨h1, h2⟩, h3⟩, h4⟩ := hB
  have hsel : Region.noSelect l.toArray = true := by
    have := h1
    simp only [canonQ, Bool.and_eq_true] at this
    exact this.1.1.1.1.1.1.1.1.1
  refine region_canonG CA A B s hm (canonQ_S h1) hQ hCA (fun listed he hc a2 h5 => wpAnyK_G hall hsel hQ s listed a2 w.drew (by rw [he]; exact h4) hc h5) ?_
  refine yr_of_quiet A a h2 ⟨w.drew, hCA⟩ (wpQuiet_mono (fun a1 ha1 => ?_) _ _ h)
  exact cr_of_quiet B a1 h3 (wpQuiet_mono (fun a2 ha2 => ha2) _ _ ha1)
end
section
variable {P : Program} {Q : Exit → Act → World → Prop} {CA : World → Prop} {l : List Oper} {i j : Nat} {o o' : Oper} {r s : Scr} {a : Act} {w : World}
theorem wpG_val (ho : nth l i = o) (h : wpQuiet P l.toArray (fun _ => True) (fun a' => wpG P l Q CA r a' w) [o] a) : wpG P l Q CA (.val i r) a w := by subst ho; exact h
theorem wpG_next (ho : nth l i = o) (hw : Region.wanted o (yielded l.toArray a.tmps) = true) (h : ∀ K : Act → World → Prop, (∀ a' w', wpG P l Q CA r a' w' → K a' w') → o.wp P a w K Q) : wpG P l Q CA (.one i false r) a w := by
  subst ho; exact ⟨hw, fun K hK => h K fun a' w' h2 => hK a' w' (fun h => by cases h) h2⟩
theorem wpG_two {li lj : Bool} (h1 : wpG P l Q CA (.one i li r) a w) (h2 : wpG P l Q CA (.one j lj s) a w) : wpG P l Q CA (.two i li r j lj s) a w := ⟨h1, h2⟩
theorem wpG_fin (h : Q .normal a w) : wpG P l Q CA .fin a w := h
end
end Ord
end Go
