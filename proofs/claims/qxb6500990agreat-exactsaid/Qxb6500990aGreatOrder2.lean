/- A drawn region whose reads are loose against what makes memory or stores elsewhere: the class of worlds in which a block (or two) hold what they hold. -/
import Derived.Test.Qxb6500990aGreatOrder
import Derived.Test.Qxb6500990aGreatHeap
set_option linter.unusedVariables false
set_option linter.unusedSimpArgs false
namespace Go

/-- the world with block b laid, wherever it ends -/
def World.force (w : World) (b : Nat) (c : Array Value) (T : TypeId) : World :=
  { w with heap := (w.heap ++ Array.replicate (b + 1 - w.heap.size) (Obj.cells #[] 0 (0, 0))).setIfInBounds b (.cells c T (0, 0)) }
section
variable {w : World} {b b' o : Nat} {c c' : Array Value} {T T' : TypeId} {v : Value}
theorem World.force_get : (w.force b c T).heap[b]? = some (.cells c T (0, 0)) := by
  unfold World.force
  exact Array.getElem?_setIfInBounds_self_of_lt (by simp; omega)
theorem World.cell?_force_same : (w.force b c T).cell? ⟨b, o, none⟩ = c[o]? := by
  unfold World.cell?
  rw [World.force_get]
  simp
theorem World.frozen?_force_same : (w.force b c T).frozen? ⟨b, o, none⟩ = false := by
  unfold World.frozen?
  rw [World.force_get]
  simp
theorem World.force_lt (h : b < w.heap.size) : w.force b c T = w.put b c T := by
  unfold World.force World.put
  rw [show b + 1 - w.heap.size = 0 by omega]
  simp
theorem World.At.force (h : w.At b c T) : w.force b c T = w := by
  rw [World.force_lt h.inB]; exact h.eq_put
theorem World.cell?_force_ne (h : b ≠ b') (hb : (w.cell? ⟨b', o, none⟩).isSome) : (w.force b c T).cell? ⟨b', o, none⟩ = w.cell? ⟨b', o, none⟩ := by
  have hlt : b' < w.heap.size := by
    rcases Nat.lt_or_ge b' w.heap.size with h' | h'
    · exact h'
    · simp [World.cell?, Array.getElem?_eq_none h'] at hb
  simp only [World.force, World.cell?]
  rw [Array.getElem?_setIfInBounds_ne h, Array.getElem?_append_left hlt]
end
/-- two blocks -/
def World.force2 (w : World) (b : Nat) (c : Array Value) (T : TypeId) (b' : Nat) (c' : Array Value) (T' : TypeId) : World := (w.force b c T).force b' c' T'
section
variable {w : World} {b b' o : Nat} {c c' : Array Value} {T T' : TypeId} {v : Value}
theorem World.cell?_force2_snd : (w.force2 b c T b' c' T').cell? ⟨b', o, none⟩ = c'[o]? := World.cell?_force_same
theorem World.cell?_force2_fst (h : b ≠ b') : (w.force2 b c T b' c' T').cell? ⟨b, o, none⟩ = c[o]? := by
  have hg : (w.force b c T).heap[b]? = some (.cells c T (0, 0)) := World.force_get
  have hlt : b < (w.force b c T).heap.size := (Array.getElem?_eq_some_iff.1 hg).1
  unfold World.force2
  have : ((w.force b c T).force b' c' T').heap[b]? = some (.cells c T (0, 0)) := by
    generalize w.force b c T = u at *
    unfold World.force
    simp only []
    rw [Array.getElem?_setIfInBounds_ne (Ne.symm h), Array.getElem?_append_left hlt]
    exact hg
  unfold World.cell?
  simp only [this]
  simp
theorem World.At.force2 (h : w.At b c T) (h' : w.At b' c' T') : w.force2 b c T b' c' T' = w := by
  unfold World.force2; rw [h.force, h'.force]
end
namespace Ord
section
variable {P : Program} {Q : Exit → Act → World → Prop} {CA : World → Prop}
/-- the tail; behind a loose operation CA is shown anew -/
def wpT (P : Program) (l : List Oper) (Q : Exit → Act → World → Prop) (CA : World → Prop) : List (Nat × Bool) → Act → World → Prop
  | [], a, w => Q .normal a w
  | (i, true) :: r, a, w => ∀ K : Act → World → Prop, (∀ a' w', CA w' → wpT P l Q CA r a' w' → K a' w') → (nth l i).wp P a w K Q
  | (i, false) :: r, a, w => ∀ K : Act → World → Prop, (∀ a' w', wpT P l Q CA r a' w' → K a' w') → (nth l i).wp P a w K Q
theorem wpT_loose {l : List Oper} {i : Nat} {o : Oper} {r : List (Nat × Bool)} {a : Act} {w : World} (ho : nth l i = o) (h : ∀ K : Act → World → Prop, (∀ a' w', CA w' → wpT P l Q CA r a' w' → K a' w') → o.wp P a w K Q) : wpT P l Q CA ((i, true) :: r) a w := by
  subst ho; exact h
theorem wpT_next {l : List Oper} {i : Nat} {o : Oper} {r : List (Nat × Bool)} {a : Act} {w : World} (ho : nth l i = o) (h : ∀ K : Act → World → Prop, (∀ a' w', wpT P l Q CA r a' w' → K a' w') → o.wp P a w K Q) : wpT P l Q CA ((i, false) :: r) a w := by
  subst ho; exact h
theorem wpT_nil {l : List Oper} {a : Act} {w : World} (h : Q .normal a w) : wpT P l Q CA [] a w := h
theorem tail_of_T {l : List Oper} {loose : Nat → Bool} : ∀ (T : List (Nat × Bool)) (a : Act) (w : World), (∀ p ∈ T, p.1 < l.length ∧ (nth l p.1).guard = none ∧ (loose p.1 = true → p.2 = true)) → wpT P l Q CA T a w → wpTail P l.toArray Q CA loose (T.map (·.1)) a w
  | [], _, _, _, h => h
  | (i, b) :: T, a, w, hT, h => by
    have h0 := hT (i, b) (List.mem_cons_self ..)
    have h1 := nth_spec l i h0.1
    have hr := fun x hx => hT x (List.mem_cons_of_mem (i, b) hx)
    simp only [List.map_cons]
    unfold wpTail wpOp
    simp only [h1]
    have hw : Region.wanted (nth l i) (yielded l.toArray a.tmps) = true := by unfold Region.wanted; rw [h0.2.1]
    rw [if_pos hw]
    left
    cases b with
    | true =>
      exact h (fun a' w' => (loose i = true → CA w') ∧ wpTail P l.toArray Q CA loose (T.map (·.1)) a' w') (fun a' w' hc hk => ⟨fun _ => hc, tail_of_T T a' w' hr hk⟩)
    | false =>
      exact h (fun a' w' => (loose i = true → CA w') ∧ wpTail P l.toArray Q CA loose (T.map (·.1)) a' w') (fun a' w' hk => ⟨fun hl => absurd (h0.2.2 hl) (by simp), tail_of_T T a' w' hr hk⟩)

def in2 (l : List Oper) (A B : List Nat) (ts : List (List (Nat × Bool))) : Bool :=
  canonB l.toArray A B (ts.map (·.map (·.1))) && (A.all fun i => decide (i < l.length) && isVal (nth l i).op) && (B.all fun i => decide (i < l.length)) &&
  (ts.all fun T => T.all fun p => decide (p.1 < l.length) && (nth l p.1).guard.isNone && (!looseOf l.toArray A p.1 || p.2))

/-- A in every world of CA, B in the world at hand, then every one of the chains ts -/
theorem region2 {id : Nat} {a : Act} {w : World} {l : List Oper} (CA : World → Prop) (A B : List Nat) (ts : List (List (Nat × Bool))) (hm : P.follows .mixedOrders = true)
    (hB : in2 l A B ts = true) (hQ : ∀ c a d v w, Q (.panic c) (Act.put a d v) w → Q (.panic c) a w) (hCA : CA w.drew)
    (h : wpQuiet P l.toArray CA (fun a1 => wpQuiet P l.toArray (fun w' => w' = w.drew) (fun a2 => ∀ T ∈ ts, wpT P l Q CA T a2 w.drew) (pickO l B) a1) (pickO l A) a) :
    (Code.region id l.toArray true).wp P Q a w := by
  simp only [in2, Bool.and_eq_true, List.all_eq_true, decide_eq_true_eq, Bool.or_eq_true, Bool.not_eq_true', Option.isNone_iff_eq_none] at hB
  obtain ⟨⟨⟨h1, h2⟩, h3⟩, h4⟩ := hB
  have hT : ∀ T ∈ ts, ∀ p ∈ T, p.1 < l.length ∧ (nth l p.1).guard = none ∧ (looseOf l.toArray A p.1 = true → p.2 = true) := fun T hT p hp => by
    have h5 := h4 T hT p hp
    refine ⟨h5.1.1, h5.1.2, fun hl => ?_⟩
    rcases h5.2 with h6 | h6
    · rw [h6] at hl; cases hl
    · exact h6
  have hb : ∀ a1, wpQuiet P l.toArray (fun w' => w' = w.drew) (fun a2 => ∀ T ∈ ts, wpT P l Q CA T a2 w.drew) (pickO l B) a1 →
      cr P l.toArray (fun w' => w' = w.drew) (fun a' => ∀ t ∈ ts.map (·.map (·.1)), wpTail P l.toArray Q CA (looseOf l.toArray A) t a' w.drew) B a1 := fun a1 ha1 => by
    refine cr_of_quiet B a1 h3 (wpQuiet_mono (fun a2 ha2 => ?_) _ _ ha1)
    intro t ht
    obtain ⟨T, hT', rfl⟩ := List.mem_map.1 ht
    exact tail_of_T T a2 w.drew (hT T hT') (ha2 T hT')
  have h6 := wpQuiet_mono (P := P) (ops := l.toArray) (C := CA) hb (pickO l A) a h
  have h7 := yr_of_quiet A a h2 ⟨w.drew, hCA⟩ h6
  refine region_canon CA A B (ts.map (·.map (·.1))) hm ?_ ?_ ?_ ?_
  · exact h1
  · exact hQ
  · exact hCA
  · exact h7
end
end Ord
end Go
