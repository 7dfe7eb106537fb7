/- A region that draws its order, walked in ONE order: first A (values that stand in every world of the class CA), then B (what leaves the world W as it is, calls too), then the tail (a chain, or one of some chains). -/
import Derived.OrdersHeld
import Derived.Deep.Quiet
import Derived.Tactics
set_option linter.unusedVariables false
set_option linter.unusedSimpArgs false
namespace Go
namespace Ord

section
variable {P : Program} {ops : Array Oper} {Q : Exit → Act → World → Prop} {C : World → Prop} {CA : World → Prop} {loose : Nat → Bool}

/-- any order from here on; behind a loose operation CA holds -/
def wpAnyK (P : Program) (ops : Array Oper) (Q : Exit → Act → World → Prop) (CA : World → Prop) (loose : Nat → Bool) : Nat → Array Bool → Act → World → Prop
  | 0, listed, a, w => Region.ready .any ops listed = [] ∧ Q .normal a w
  | f + 1, listed, a, w =>
    (Region.ready .any ops listed = [] → Q .normal a w) ∧
    ∀ i ∈ Region.ready .any ops listed, wpOp P ops Q i (fun a' w' => (loose i = true → CA w') ∧ wpAnyK P ops Q CA loose f (listed.setIfInBounds i true) a' w') a w

theorem wpAny_of_K : ∀ (f : Nat) (listed : Array Bool) (a : Act) (w : World), wpAnyK P ops Q CA loose f listed a w → wpAny P .any ops Q f listed a w
  | 0, _, _, _, h => h
  | f + 1, _, _, _, h => ⟨h.1, fun i hi => wpOp_mono (fun a' w' h' => wpAny_of_K f _ a' w' h'.2) (h.2 i hi)⟩

/-- j waits for i, by some way -/
def depB (ops : Array Oper) : Nat → Nat → Nat → Bool
  | 0, _, _ => false
  | n + 1, j, i => match ops[j]? with
    | none => false
    | some o => o.after.any fun e => Region.binds .any e && (e.on == i || depB ops n e.on i)

def Closed (ops : Array Oper) (listed : Array Bool) : Prop :=
  ∀ j o, ops[j]? = some o → listed.getD j false = true → ∀ e ∈ o.after, Region.binds .any e = true → listed.getD e.on false = true

theorem dep_listed {listed : Array Bool} (hc : Closed ops listed) : ∀ (n j i : Nat), depB ops n j i = true → listed.getD j false = true → listed.getD i false = true
  | 0, _, _, h, _ => by simp [depB] at h
  | n + 1, j, i, h, hj => by
    unfold depB at h
    split at h
    · cases h
    · rename_i o ho
      obtain ⟨e, he, hb⟩ := Array.any_eq_true'.1 h
      simp only [Bool.and_eq_true, Bool.or_eq_true, beq_iff_eq] at hb
      have h1 := hc j o ho hj e he hb.1
      rcases hb.2 with h2 | h2
      · rw [← h2]; exact h1
      · exact dep_listed hc n _ _ h2 h1

theorem dep_ready {listed : Array Bool} (hc : Closed ops listed) {n j i : Nat} (hd : depB ops n j i = true) (hr : j ∈ Region.ready .any ops listed) : listed.getD i false = true := by
  obtain ⟨_, o, ho, hall⟩ := mem_ready.1 hr
  cases n with
  | zero => simp [depB] at hd
  | succ n =>
    unfold depB at hd
    simp only [ho] at hd
    obtain ⟨e, he, hb⟩ := Array.any_eq_true'.1 hd
    simp only [Bool.and_eq_true, Bool.or_eq_true, beq_iff_eq] at hb
    have h1 := hall e he hb.1
    rcases hb.2 with h2 | h2
    · rw [← h2]; exact h1
    · exact dep_listed hc n _ _ h2 h1

theorem getD_tf {listed : Array Bool} {i : Nat} (h : listed.getD i true = false) : listed.getD i false = false := by
  rcases Nat.lt_or_ge i listed.size with h' | h'
  · simp [h'] at h ⊢; exact h
  · simp [Array.getElem?_eq_none h']

theorem closed_set {listed : Array Bool} (hc : Closed ops listed) {j : Nat} (hj : j ∈ Region.ready .any ops listed) : Closed ops (listed.setIfInBounds j true) := by
  intro k o hk hl e he hb
  by_cases hjk : j = k
  · subst hjk
    obtain ⟨_, o', ho', hall⟩ := mem_ready.1 hj
    rw [hk] at ho'
    cases ho'
    exact getD_set_true (hall e he hb)
  · rw [getD_set_ne false hjk] at hl
    exact getD_set_true (hc k o hk hl e he hb)

/-- An operation of A may be taken first. -/
theorem first_K {i : Nat} {oi : Oper} {v : Value} (hi : ops[i]? = some oi) (hsel : ∀ (j : Nat) (o : Oper) cs b, ops[j]? = some o → o.op ≠ .select cs b)
    (hQ : ∀ c a w, Q (.panic c) (a.put oi.dst v) w → Q (.panic c) a w) (N : Nat)
    (hl : ∀ j, loose j = false → depB ops N j i = true) :
    ∀ (f : Nat) (listed : Array Bool) (a : Act) (w : World), Closed ops listed →
      (∀ j oj, ops[j]? = some oj → j ≠ i → listed.getD j true = false → (∀ e ∈ oj.after, Region.binds .any e = true → e.on ≠ i) → oi.apart ops oj = true) →
      i ∈ Region.ready .any ops listed → YieldsIf P ops CA oi v a → CA w →
      wpAnyK P ops Q CA loose f (listed.setIfInBounds i true) (a.put oi.dst v) w → wpAnyK P ops Q CA loose (f + 1) listed a w := by
  intro f
  induction f with
  | zero =>
    intro listed a w _ _ hr hy hS H
    refine ⟨fun h => (by rw [h] at hr; cases hr), fun j hj => ?_⟩
    by_cases hji : j = i
    · subst hji; exact hy.wpOp hi hS ⟨fun _ => hS, H⟩
    · have := ready_mono hj hji
      rw [H.1] at this
      cases this
  | succ f ih =>
    intro listed a w hc hfree hr hy hS H
    refine ⟨fun h => (by rw [h] at hr; cases hr), fun j hj => ?_⟩
    by_cases hji : j = i
    · subst hji; exact hy.wpOp hi hS ⟨fun _ => hS, H⟩
    · have h1 := H.2 j (ready_mono hj hji)
      obtain ⟨hjun, oj, hoj, hall⟩ := mem_ready.1 hj
      have hiun := (mem_ready.1 hr).1
      have hnot : ∀ e ∈ oj.after, Region.binds .any e = true → e.on ≠ i := fun e he hb heq => by
        have h1 := hall e he hb
        rw [heq, getD_tf hiun] at h1
        cases h1
      have hloose : loose j = true := by
        cases hlj : loose j with
        | true => rfl
        | false =>
          have := dep_ready hc (hl j hlj) hj
          rw [getD_tf hiun] at this
          cases this
      have h2 := wpOp_putIf hoj (hfree j oj hoj hji hjun hnot) (fun cs b => hsel i oi cs b hi) (fun cs b => hsel j oj cs b hoj) hQ hy h1
      have hfree' : ∀ k ok, ops[k]? = some ok → k ≠ i → (listed.setIfInBounds j true).getD k true = false →
          (∀ e ∈ ok.after, Region.binds .any e = true → e.on ≠ i) → oi.apart ops ok = true := fun k ok hk hki hun hno => by
        refine hfree k ok hk hki ?_ hno
        by_cases hjk : j = k
        · subst hjk; exact hjun
        · rw [getD_set_ne true hjk] at hun; exact hun
      refine wpOp_mono (fun a' w' h3 => ⟨fun _ => h3.2.1 hloose, ih (listed.setIfInBounds j true) a' w' (closed_set hc hj) hfree' (ready_mono hr (Ne.symm hji)) h3.1 (h3.2.1 hloose) ?_⟩) h2
      rw [Array.setIfInBounds_comm _ _ hji]
      exact h3.2.2

/-- the one walk over B -/
def cr (P : Program) (ops : Array Oper) (C : World → Prop) (L : Act → Prop) : List Nat → Act → Prop
  | [], a => L a
  | i :: r, a => (∃ o, ops[i]? = some o) ∧ qOp P ops C i (cr P ops C L r) a

/-- whoever is apart from all that stand before it may come first -/
theorem cr_front {L : Act → Prop} (hsel : ∀ (j : Nat) (o : Oper) cs b, ops[j]? = some o → o.op ≠ .select cs b) {j : Nat} (l2 : List Nat) : ∀ (l1 : List Nat) (a : Act),
    (∀ i ∈ l1, ∀ oi oj, ops[i]? = some oi → ops[j]? = some oj → oi.apart ops oj = true) → cr P ops C L (l1 ++ j :: l2) a →
    ∃ oj v, ops[j]? = some oj ∧ YieldsIn P ops C oj v a ∧ cr P ops C L (l1 ++ l2) (a.put oj.dst v)
  | [], a, _, h => by
    obtain ⟨⟨oj, hoj⟩, hq⟩ := h
    obtain ⟨v, hy, hk⟩ := yieldsIn_of_qOp hoj hq
    exact ⟨oj, v, hoj, hy, hk⟩
  | i :: l1, a, hap, h => by
    obtain ⟨⟨oi, hoi⟩, hq⟩ := h
    obtain ⟨vi, hyi, hk⟩ := yieldsIn_of_qOp hoi hq
    obtain ⟨oj, vj, hoj, hyj, hkj⟩ := cr_front hsel l2 l1 _ (fun x hx => hap x (List.mem_cons_of_mem _ hx)) hk
    obtain ⟨h1, h2, h3⟩ := Oper.apart_spec (hap i (List.mem_cons_self ..) oi oj hoi hoj)
    have hj' : YieldsIn P ops C oj vj a :=
      hyj.of_same (execOp_put oj (fun cs b => hsel j oj cs b hoj) a oi.dst vi h1).symm (wanted_put oj a oi.dst vi h1).symm
    have hi' : YieldsIn P ops C oi vi (a.put oj.dst vj) :=
      hyi.of_same (execOp_put oi (fun cs b => hsel i oi cs b hoi) a oj.dst vj h3) (wanted_put oi a oj.dst vj h3)
    refine ⟨oj, vj, hoj, hj', ⟨oi, hoi⟩, hi'.qOp hoi ?_⟩
    rw [← Act.put_comm a vi vj h2]
    exact hkj

structure Good (ops : Array Oper) (T : List Nat) (N : Nat) (listed : Array Bool) (l : List Nat) : Prop where
  size : listed.size = ops.size
  closed : Closed ops listed
  un : ∀ j ∈ l, listed.getD j true = false
  all : ∀ j, listed.getD j true = false → j ∈ l ∨ j ∈ T
  nodup : l.Nodup
  apart : l.Pairwise fun i j => depB ops N j i = true ∨ ∀ oi oj, ops[i]? = some oi → ops[j]? = some oj → oi.apart ops oj = true
  topo : ∀ l1 i l2, l = l1 ++ i :: l2 → ∃ o, ops[i]? = some o ∧ ∀ e ∈ o.after, Region.binds .any e = true → listed.getD e.on false = true ∨ e.on ∈ l1
  tail : ∀ t ∈ T, ∀ b ∈ l, depB ops N t b = true
  tun : ∀ t ∈ T, listed.getD t true = false

theorem getD_set_self {listed : Array Bool} {j : Nat} (h : j < listed.size) (d : Bool) : (listed.setIfInBounds j true).getD j d = true := by
  simp [h]

theorem wpAnyK_B {T : List Nat} {N g : Nat} {L : Act → Prop} {W : World} (hW : ∀ w, C w ↔ w = W) (hCA : CA W) (hsel : ∀ (j : Nat) (o : Oper) cs b, ops[j]? = some o → o.op ≠ .select cs b)
    (hT : ∀ listed a, Good ops T N listed [] → L a → wpAnyK P ops Q CA loose g listed a W) :
    ∀ (n : Nat) (l : List Nat) (listed : Array Bool) (a : Act), l.length = n → Good ops T N listed l → cr P ops C L l a → wpAnyK P ops Q CA loose (n + g) listed a W := by
  intro n
  induction n with
  | zero =>
    intro l listed a hl hg h
    have : l = [] := List.length_eq_zero_iff.1 hl
    subst this
    simpa using hT listed a hg h
  | succ n ih =>
    intro l listed a hl hg h
    rw [show n + 1 + g = (n + g) + 1 by omega]
    have hne : Region.ready .any ops listed ≠ [] := by
      cases l with
      | nil => simp at hl
      | cons i l =>
        obtain ⟨o, ho, hall⟩ := hg.topo [] i l rfl
        have : i ∈ Region.ready .any ops listed := mem_ready.2 ⟨hg.un i (List.mem_cons_self ..), o, ho, fun e he hb => (hall e he hb).resolve_right (by simp)⟩
        exact List.ne_nil_of_mem this
    refine ⟨fun h0 => absurd h0 hne, fun j hj => ?_⟩
    obtain ⟨hjun, oj0, hoj0, hall⟩ := mem_ready.1 hj
    have hjl : j ∈ l := by
      rcases hg.all j hjun with h1 | h1
      · exact h1
      · cases l with
        | nil => simp at hl
        | cons i l =>
          have := dep_ready hg.closed (hg.tail j h1 i (List.mem_cons_self ..)) hj
          rw [getD_tf (hg.un i (List.mem_cons_self ..))] at this
          cases this
    obtain ⟨l1, l2, rfl⟩ := List.append_of_mem hjl
    have hap : ∀ i ∈ l1, ∀ oi oj, ops[i]? = some oi → ops[j]? = some oj → oi.apart ops oj = true := by
      intro i hi
      have := (List.pairwise_append.1 hg.apart).2.2 i hi j (List.mem_cons_self ..)
      rcases this with h1 | h1
      · have := dep_ready hg.closed h1 hj
        rw [getD_tf (hg.un i (by simp [hi]))] at this
        cases this
      · exact h1
    obtain ⟨oj, v, hoj, hy, hk⟩ := cr_front hsel l2 l1 a hap h
    have hjs : j < listed.size := by rw [hg.size]; exact (Array.getElem?_eq_some_iff.1 hoj).1
    have hnd := hg.nodup
    have hg' : Good ops T N (listed.setIfInBounds j true) (l1 ++ l2) := by
      have hjn : j ∉ l1 ++ l2 := by
        have := List.perm_middle.nodup_iff.1 hnd
        exact (List.nodup_cons.1 this).1
      refine ⟨by simp [hg.size], closed_set hg.closed hj, fun k hk => ?_, fun k hk => ?_, ?_, ?_, ?_, fun t ht b hb => hg.tail t ht b (by simp at hb ⊢; rcases hb with hb | hb <;> simp [hb]), fun t ht => ?_⟩
      · have hkj : j ≠ k := fun e => hjn (e ▸ hk)
        rw [getD_set_ne true hkj]
        exact hg.un k (by simp at hk ⊢; rcases hk with hb | hb <;> simp [hb])
      · by_cases hjk : j = k
        · subst hjk; rw [getD_set_self hjs] at hk; cases hk
        · rw [getD_set_ne true hjk] at hk
          rcases hg.all k hk with h1 | h1
          · simp only [List.mem_append, List.mem_cons] at h1
            rcases h1 with h1 | h1 | h1
            · exact .inl (by simp [h1])
            · exact absurd h1.symm hjk
            · exact .inl (by simp [h1])
          · exact .inr h1
      · exact (List.nodup_cons.1 (List.perm_middle.nodup_iff.1 hnd)).2
      · have := hg.apart
        rw [List.pairwise_append] at this ⊢
        exact ⟨this.1, (List.pairwise_cons.1 this.2.1).2, fun x hx y hy => this.2.2 x hx y (List.mem_cons_of_mem _ hy)⟩
      · intro m1 i m2 hm
        rcases List.append_eq_append_iff.1 hm with ⟨q, hq1, hq2⟩ | ⟨q, hq1, hq2⟩
        · -- m1 = l1 ++ q, l2 = q ++ i :: m2
          obtain ⟨o, ho, hal⟩ := hg.topo (l1 ++ j :: q) i m2 (by rw [hq2]; simp)
          refine ⟨o, ho, fun e he hb => ?_⟩
          rcases hal e he hb with h1 | h1
          · exact .inl (getD_set_true h1)
          · simp only [List.mem_append, List.mem_cons] at h1
            rcases h1 with h1 | h1 | h1
            · exact .inr (by rw [hq1]; simp [h1])
            · rw [h1]; exact .inl (getD_set_self hjs false)
            · exact .inr (by rw [hq1]; simp [h1])
        · -- l1 = m1 ++ q, i :: m2 = q ++ l2
          cases q with
          | nil =>
            simp only [List.append_nil] at hq1
            simp only [List.nil_append] at hq2
            obtain ⟨o, ho, hal⟩ := hg.topo (l1 ++ [j]) i m2 (by rw [← hq2]; simp)
            refine ⟨o, ho, fun e he hb => ?_⟩
            rcases hal e he hb with h1 | h1
            · exact .inl (getD_set_true h1)
            · simp only [List.mem_append, List.mem_singleton] at h1
              rcases h1 with h1 | h1
              · exact .inr (by rw [← hq1]; exact h1)
              · rw [h1]; exact .inl (getD_set_self hjs false)
          | cons x q =>
            simp only [List.cons_append, List.cons.injEq] at hq2
            obtain ⟨rfl, hq2⟩ := hq2
            obtain ⟨o, ho, hal⟩ := hg.topo m1 i (q ++ j :: l2) (by rw [hq1]; simp)
            exact ⟨o, ho, fun e he hb => (hal e he hb).imp getD_set_true id⟩
      · have htj : j ≠ t := fun e => by
          subst e
          have h1 := hg.tail j ht j (by simp)
          have := dep_ready hg.closed h1 hj
          rw [getD_tf hjun] at this
          cases this
        rw [getD_set_ne true htj]
        exact hg.tun t ht
    have hlen : (l1 ++ l2).length = n := by simp at hl ⊢; omega
    refine wpOp_of_qOp (C := C) (K := fun a' => a' = a.put oj.dst v) ((hW W).2 rfl) ?_ (hy.qOp hoj rfl)
    intro a' w' hw' ha'
    have := (hW w').1 hw'
    subst this
    rw [ha']
    exact ⟨fun _ => hCA, ih _ _ _ hlen hg' hk⟩

/-- the tail, one chain; behind a loose operation CA holds -/
def wpTail (P : Program) (ops : Array Oper) (Q : Exit → Act → World → Prop) (CA : World → Prop) (loose : Nat → Bool) : List Nat → Act → World → Prop
  | [], a, w => Q .normal a w
  | i :: r, a, w => wpOp P ops Q i (fun a' w' => (loose i = true → CA w') ∧ wpTail P ops Q CA loose r a' w') a w

def chainB (ops : Array Oper) : List Nat → Array Bool → Bool
  | [], listed => (Region.ready .any ops listed).isEmpty
  | k :: r, listed => decide (Region.ready .any ops listed = [k]) && chainB ops r (listed.setIfInBounds k true)

theorem wpAnyK_chain : ∀ (t : List Nat) (listed : Array Bool) (a : Act) (w : World), chainB ops t listed = true → wpTail P ops Q CA loose t a w → wpAnyK P ops Q CA loose t.length listed a w
  | [], _, _, _, hB, h => ⟨by simpa [chainB] using hB, h⟩
  | k :: r, listed, a, w, hB, h => by
    simp only [chainB, Bool.and_eq_true, decide_eq_true_eq] at hB
    refine ⟨fun h1 => (by rw [hB.1] at h1; cases h1), fun i hi => ?_⟩
    rw [hB.1] at hi
    have hik : i = k := by simpa using hi
    subst hik
    exact wpOp_mono (fun a' w' h' => ⟨h'.1, wpAnyK_chain r _ a' w' hB.2 h'.2⟩) h

/-- some chains, told apart by their first operation -/
def altsB (ops : Array Oper) (ts : List (List Nat)) (g : Nat) (listed : Array Bool) : Bool :=
  decide (ts.map (·.head?) = (Region.ready .any ops listed).map some) && ts.all fun t => decide (t.length = g) && match t with
    | [] => false
    | k :: r => chainB ops r (listed.setIfInBounds k true)

theorem wpAnyK_alts {ts : List (List Nat)} {g : Nat} {listed : Array Bool} {a : Act} {w : World} (hB : altsB ops ts g listed = true) (hne : ts ≠ [])
    (h : ∀ t ∈ ts, wpTail P ops Q CA loose t a w) : wpAnyK P ops Q CA loose g listed a w := by
  simp only [altsB, Bool.and_eq_true, decide_eq_true_eq, List.all_eq_true] at hB
  obtain ⟨h1, h2⟩ := hB
  have hr : Region.ready .any ops listed ≠ [] := fun e => by
    rw [e] at h1
    simp at h1
    exact hne h1
  obtain ⟨t0, ht0⟩ := List.exists_mem_of_ne_nil _ hne
  cases g with
  | zero =>
    have := (h2 t0 ht0).1
    have h3 := (h2 t0 ht0).2
    rw [List.length_eq_zero_iff] at this
    rw [this] at h3
    simp at h3
  | succ g =>
    refine ⟨fun e => absurd e hr, fun i hi => ?_⟩
    have : some i ∈ (Region.ready .any ops listed).map some := List.mem_map_of_mem hi
    rw [← h1] at this
    obtain ⟨t, ht, hti⟩ := List.mem_map.1 this
    have h3 := h2 t ht
    cases t with
    | nil => simp at hti
    | cons k r =>
      simp at hti
      subst hti
      have hlen : r.length = g := by simpa using h3.1
      have := h _ ht
      unfold wpTail at this
      refine wpOp_mono (fun a' w' h' => ⟨h'.1, ?_⟩) this
      rw [← hlen]
      exact wpAnyK_chain r _ a' w' h3.2 h'.2

def setAll (n : Nat) (l : List Nat) : Array Bool := l.foldl (fun s i => s.setIfInBounds i true) (Array.replicate n false)

/-- A, taken one by one -/
def takeB (ops : Array Oper) : List Nat → Array Bool → Bool
  | [], _ => true
  | i :: r, listed => (Region.ready .any ops listed).contains i && Region.free .any ops listed i && takeB ops r (listed.setIfInBounds i true)

/-- values alone, in every world of CA -/
def yr (P : Program) (ops : Array Oper) (CA : World → Prop) (L : Act → Prop) : List Nat → Act → Prop
  | [], a => L a
  | i :: r, a => ∃ o v, ops[i]? = some o ∧ YieldsIf P ops CA o v a ∧ yr P ops CA L r (a.put o.dst v)

theorem wpAnyK_A {N g : Nat} {W : World} (hs : Region.noSelect ops = true) (hQ : ∀ c a d v w, Q (.panic c) (Act.put a d v) w → Q (.panic c) a w) (hCA : CA W) {L : Act → Prop} : ∀ (A : List Nat) (listed : Array Bool) (a : Act), Closed ops listed →
    (∀ i ∈ A, ∀ j, loose j = false → depB ops N j i = true) → takeB ops A listed = true →
    (∀ a', L a' → wpAnyK P ops Q CA loose g (A.foldl (fun s i => s.setIfInBounds i true) listed) a' W) → yr P ops CA L A a → wpAnyK P ops Q CA loose (A.length + g) listed a W
  | [], listed, a, _, _, _, hL, h => by simpa using hL a h
  | i :: A, listed, a, hc, hd, hB, hL, h => by
    obtain ⟨o, v, ho, hy, h⟩ := h
    simp only [takeB, Bool.and_eq_true] at hB
    have hr : i ∈ Region.ready .any ops listed := by simpa using hB.1.1
    rw [List.length_cons, show A.length + 1 + g = (A.length + g) + 1 by omega]
    refine first_K ho (Region.noSelect_spec hs) (fun c a w h => hQ c _ _ _ w h) N (hd i (List.mem_cons_self ..)) _ listed a W hc (Region.free_spec ho hB.1.2) hr hy hCA ?_
    exact wpAnyK_A hs hQ hCA A _ _ (closed_set hc hr) (fun x hx => hd x (List.mem_cons_of_mem _ hx)) hB.2 hL h

def memB (l : List Nat) (i : Nat) : Bool := l.any (· == i)
theorem memB_iff {l : List Nat} {i : Nat} : memB l i = true ↔ i ∈ l := by simp [memB]

def topoB (ops : Array Oper) (listed : Array Bool) : List Nat → List Nat → Bool
  | _, [] => true
  | pre, i :: r => (match ops[i]? with
    | none => false
    | some o => o.after.all fun e => !Region.binds .any e || listed.getD e.on false || memB pre e.on) && topoB ops listed (pre ++ [i]) r

theorem topoB_spec {listed : Array Bool} : ∀ (l pre : List Nat), topoB ops listed pre l = true → ∀ l1 i l2, l = l1 ++ i :: l2 → ∃ o, ops[i]? = some o ∧ ∀ e ∈ o.after, Region.binds .any e = true → listed.getD e.on false = true ∨ e.on ∈ pre ++ l1
  | [], pre, _, l1, i, l2, hl => by simp at hl
  | x :: r, pre, h, l1, i, l2, hl => by
    simp only [topoB, Bool.and_eq_true] at h
    cases l1 with
    | nil =>
      simp only [List.nil_append, List.cons.injEq] at hl
      obtain ⟨rfl, _⟩ := hl
      cases ho : ops[x]? with
      | none => simp [ho] at h
      | some o =>
        refine ⟨o, rfl, fun e he hb => ?_⟩
        have h1 := h.1
        simp only [ho] at h1
        have h2 := Array.all_eq_true_iff_forall_mem.1 h1 e he
        simp only [Bool.or_eq_true, Bool.not_eq_true', hb, Bool.true_eq_false, false_or] at h2
        rcases h2 with h2 | h2
        · exact .inl h2
        · exact .inr (by simpa using memB_iff.1 h2)
    | cons y l1 =>
      simp only [List.cons_append, List.cons.injEq] at hl
      obtain ⟨rfl, hl⟩ := hl
      obtain ⟨o, ho, hal⟩ := topoB_spec r (pre ++ [x]) h.2 l1 i l2 hl
      exact ⟨o, ho, fun e he hb => (hal e he hb).imp id (fun h => by simpa using h)⟩

def pairB (ops : Array Oper) (N : Nat) : List Nat → Bool
  | [] => true
  | i :: r => (r.all fun j => depB ops N j i || match ops[i]?, ops[j]? with
    | some oi, some oj => oi.apart ops oj
    | _, _ => true) && pairB ops N r

theorem pairB_spec {N : Nat} : ∀ (l : List Nat), pairB ops N l = true → l.Pairwise fun i j => depB ops N j i = true ∨ ∀ oi oj, ops[i]? = some oi → ops[j]? = some oj → oi.apart ops oj = true
  | [], _ => List.Pairwise.nil
  | i :: r, h => by
    simp only [pairB, Bool.and_eq_true, List.all_eq_true] at h
    refine List.Pairwise.cons (fun j hj => ?_) (pairB_spec r h.2)
    have := h.1 j hj
    simp only [Bool.or_eq_true] at this
    rcases this with h1 | h1
    · exact .inl h1
    · right
      intro oi oj hoi hoj
      simpa [hoi, hoj] using h1

/-- which operations are loose: those that do not wait for all of A -/
def looseOf (ops : Array Oper) (A : List Nat) (j : Nat) : Bool := !(A.all fun i => depB ops ops.size j i)

/-- the whole look at a region: A, then B, then one of the chains ts -/
def canonB (ops : Array Oper) (A B : List Nat) (ts : List (List Nat)) : Bool :=
  let n := ops.size
  let T := ts.getD 0 []
  let lA := setAll n A
  let lAB := setAll n (A ++ B)
  Region.noSelect ops && takeB ops A (Array.replicate n false) &&
  (List.range n).all (fun j => memB A j || memB B j || memB T j) &&
  B.all (fun j => !memB A j && !memB T j && decide (j < n)) && decide B.Nodup && T.all (fun j => !memB A j && decide (j < n)) &&
  pairB ops n B && topoB ops lA [] B && T.all (fun t => B.all fun b => depB ops n t b) &&
  altsB ops ts T.length lAB && !ts.isEmpty && decide (A.length + (B.length + T.length) = n)

theorem setAll_getD (n : Nat) : ∀ (l : List Nat) (s : Array Bool) (k : Nat), s.size = n → k < n → (l.foldl (fun s i => s.setIfInBounds i true) s).getD k true = (memB l k || s.getD k true)
  | [], s, k, _, _ => by simp [memB]
  | i :: l, s, k, hs, hk => by
    rw [List.foldl_cons, setAll_getD n l _ k (by simp [hs]) hk]
    by_cases hik : i = k
    · subst hik
      rw [getD_set_self (by omega)]
      simp [memB]
    · rw [getD_set_ne true hik]
      have : (i == k) = false := by simp [hik]
      simp [memB, this]

theorem setAll_size (n : Nat) : ∀ (l : List Nat) (s : Array Bool), s.size = n → (l.foldl (fun s i => s.setIfInBounds i true) s).size = n
  | [], _, h => h
  | i :: l, s, h => by rw [List.foldl_cons]; exact setAll_size n l _ (by simp [h])

theorem closed_take {listed : Array Bool} : ∀ (A : List Nat) (listed : Array Bool), Closed ops listed → takeB ops A listed = true → Closed ops (A.foldl (fun s i => s.setIfInBounds i true) listed)
  | [], _, h, _ => h
  | i :: A, l, h, hB => by
    simp only [takeB, Bool.and_eq_true] at hB
    rw [List.foldl_cons]
    exact closed_take (listed := listed) A _ (closed_set h (by simpa using hB.1.1)) hB.2

theorem getD_bounds {s : Array Bool} {k : Nat} (h : s.getD k true = false) : k < s.size := by
  rcases Nat.lt_or_ge k s.size with h' | h'
  · exact h'
  · simp [Array.getElem?_eq_none h'] at h

theorem region_canon {id : Nat} {a : Act} {w : World} {l : List Oper} (CA : World → Prop) (A B : List Nat) (ts : List (List Nat)) (hm : P.follows .mixedOrders = true)
    (hB : canonB l.toArray A B ts = true) (hQ : ∀ c a d v w, Q (.panic c) (Act.put a d v) w → Q (.panic c) a w) (hCA : CA w.drew)
    (h : yr P l.toArray CA (cr P l.toArray (fun w' => w' = w.drew) (fun a' => ∀ t ∈ ts, wpTail P l.toArray Q CA (looseOf l.toArray A) t a' w.drew) B) A a) :
    (Code.region id l.toArray true).wp P Q a w := by
  generalize hops : l.toArray = ops at *
  simp only [canonB, Bool.and_eq_true, List.all_eq_true, decide_eq_true_eq, Bool.not_eq_true'] at hB
  obtain ⟨⟨⟨⟨⟨⟨⟨⟨⟨⟨⟨hsel, htake⟩, hcover⟩, hBin⟩, hnod⟩, hTin⟩, hpair⟩, htopo⟩, htail⟩, halts⟩, hne⟩, hlen⟩ := hB
  have h0 : Closed ops (Array.replicate ops.size false) := fun j o _ hl => by
    rcases Nat.lt_or_ge j ops.size with h' | h' <;> simp [h'] at hl
  refine wp_region_any hm (wpAny_of_K (CA := CA) (loose := looseOf ops A) _ _ _ _ ?_)
  rw [show ({ w with drawn := w.drawn + 1 } : World) = w.drew from rfl]
  suffices hh : wpAnyK P ops Q CA (looseOf ops A) (A.length + (B.length + (ts.getD 0 []).length)) (Array.replicate ops.size false) a w.drew by rwa [hlen] at hh
  refine wpAnyK_A (N := ops.size) hsel hQ hCA A _ a h0 (fun i hi j hj => ?_) htake (fun a' ha' => ?_) h
  · simp only [looseOf, Bool.not_eq_false', List.all_eq_true] at hj
    exact hj i hi
  · refine wpAnyK_B (T := ts.getD 0 []) (N := ops.size) (fun w' => Iff.rfl) hCA (Region.noSelect_spec hsel) (fun listed a2 hg hL => ?_) B.length B _ a' rfl ?_ ha'
    · have he : listed = setAll ops.size (A ++ B) := by
        apply Array.ext
        · rw [hg.size]; exact (setAll_size _ _ _ (by simp)).symm
        · intro k h1 h2
          have hk : k < ops.size := by rw [← hg.size]; exact h1
          have e1 : listed.getD k true = listed[k] := by simp [h1]
          have e2 : (setAll ops.size (A ++ B)).getD k true = (setAll ops.size (A ++ B))[k] := by simp [h2]
          rw [← e1, ← e2]
          unfold setAll
          rw [setAll_getD ops.size _ _ k (by simp) hk]
          have e3 : (Array.replicate ops.size false).getD k true = false := by simp [hk]
          rw [e3, Bool.or_false]
          cases hkl : listed.getD k true with
          | false =>
            rcases hg.all k hkl with h3 | h3
            · simp at h3
            · cases hm : memB (A ++ B) k with
              | false => rfl
              | true =>
                have := memB_iff.1 hm
                rcases List.mem_append.1 this with h4 | h4
                · have := (hTin k h3).1
                  rw [memB_iff.2 h4] at this; cases this
                · have := (hBin k h4).1.2
                  rw [memB_iff.2 h3] at this; cases this
          | true =>
            have hc := hcover k (List.mem_range.2 hk)
            simp only [Bool.or_eq_true] at hc
            rcases hc with (h3 | h3) | h3
            · exact (memB_iff.2 (List.mem_append_left _ (memB_iff.1 h3))).symm
            · exact (memB_iff.2 (List.mem_append_right _ (memB_iff.1 h3))).symm
            · have := hg.tun k (memB_iff.1 h3)
              rw [hkl] at this; cases this
      rw [he]
      exact wpAnyK_alts halts (by intro e; rw [e] at hne; simp at hne) hL
    · have hg1 : ∀ k, k < ops.size → (A.foldl (fun s i => s.setIfInBounds i true) (Array.replicate ops.size false)).getD k true = memB A k := fun k hk => by
        rw [setAll_getD ops.size _ _ k (by simp) hk]; simp [hk]
      have hsz := setAll_size ops.size A (Array.replicate ops.size false) (by simp)
      refine ⟨hsz, closed_take (listed := #[]) A _ h0 htake, fun j hj => ?_, fun j hj => ?_, hnod, pairB_spec B hpair, fun l1 i l2 hl => ?_, fun t ht b hb => htail t ht b hb, fun t ht => ?_⟩
      · rw [hg1 j (hBin j hj).2]; exact (hBin j hj).1.1
      · have hk := getD_bounds hj
        rw [hsz] at hk
        rw [hg1 j hk] at hj
        have hc := hcover j (List.mem_range.2 hk)
        simp only [Bool.or_eq_true, hj, Bool.false_eq_true, false_or] at hc
        exact hc.imp memB_iff.1 memB_iff.1
      · obtain ⟨o, ho, hal⟩ := topoB_spec B [] htopo l1 i l2 hl
        exact ⟨o, ho, fun e he hb => (hal e he hb).imp (fun h => h) (fun h => by simpa using h)⟩
      · rw [hg1 t (hTin t ht).2]; exact (hTin t ht).1

/-- operations that hand back a value -/
def isVal : Op → Bool
  | .move _ | .assign _ | .pick .. | .build .. | .load .. | .nilCheck _ | .binOp .. | .unOp .. | .convert .. | .slice .. | .fieldAddr .. | .field .. | .indexAddr .. | .index .. | .extract .. => true
  | .call { callee := .builtin .len, .. } | .call { callee := .builtin .cap, .. } => true
  | _ => false

theorem val_run {s : Sem Value} {w w' : World} {n : Next} (h : ((do pure (.value (← s)) : Sem Next)).run P w = .ok n w') : ∃ v, n = .value v := by
  simp only [Sem.run_bind] at h
  cases hs : s.run P w with
  | ok a w1 => rw [hs] at h; simp [Result.andThen] at h; exact ⟨a, h.1.symm⟩
  | halt x w1 => rw [hs] at h; simp [Result.andThen] at h

theorem bind_run {α : Type} {s : Sem α} {f : α → Sem Next} {w w' : World} {n : Next} (h : (s >>= f).run P w = .ok n w')
    (hf : ∀ x w1 w2 n, (f x).run P w1 = .ok n w2 → ∃ v, n = .value v) : ∃ v, n = .value v := by
  simp only [Sem.run_bind] at h
  cases hs : s.run P w with
  | ok a w1 => rw [hs] at h; exact hf a w1 w' n h
  | halt x w1 => rw [hs] at h; simp [Result.andThen] at h

theorem isVal_run {ρ : Operand → Value} {o : Oper} (hv : isVal o.op = true) {w w' : World} {n : Next} (h : (execOp ρ o).run P w = .ok n w') : ∃ v, n = .value v := by
  unfold execOp at h
  cases ho : o.op <;> rw [ho] at hv h <;> simp only [isVal, Bool.false_eq_true] at hv <;> dsimp only at h
  case move => simp at h; exact ⟨_, h.1.symm⟩
  case assign => simp at h; exact ⟨_, h.1.symm⟩
  case pick c a b => exact val_run (s := do pure (if ← asBool (ρ c) then ρ a else ρ b)) (by simpa [Sem.run_bind] using h)
  case nilCheck x =>
    split at h
    · simp [runtimePanic] at h
    · simp [runtimePanic] at h
    · simp [runtimePanic] at h
    · split at h
      · simp [runtimePanic] at h
      · refine bind_run h fun p w1 w2 n1 h1 => bind_run h1 fun q w3 w4 n2 h2 => ?_
        split at h2
        · refine bind_run h2 fun _ w5 w6 n3 h3 => ?_
          simp at h3; exact ⟨_, h3.1.symm⟩
        · simp at h2; exact ⟨_, h2.1.symm⟩
      · simp at h; exact ⟨_, h.1.symm⟩
    · simp at h; exact ⟨_, h.1.symm⟩
  case call c =>
    obtain ⟨callee, args, argTypes⟩ := c
    cases callee with
    | value f => simp at hv
    | invoke r m => simp at hv
    | builtin b =>
      cases b <;> simp only [Bool.false_eq_true] at hv
      case cap => exact val_run (s := Builtin.cap_ argTypes o.type (args.map ρ)) (by simpa [resolve, invoke, builtin] using h)
      case len => exact val_run (s := Builtin.len_ argTypes o.type (args.map ρ)) (by simpa [resolve, invoke, builtin] using h)
  all_goals exact val_run h

def nth : List Oper → Nat → Oper
  | [], _ => default
  | o :: _, 0 => o
  | _ :: l, n + 1 => nth l n
def pickO (l : List Oper) : List Nat → List Oper
  | [] => []
  | i :: r => nth l i :: pickO l r
theorem nth_spec : ∀ (l : List Oper) (i : Nat), i < l.length → l.toArray[i]? = some (nth l i)
  | [], i, h => by simp at h
  | o :: l, 0, _ => by simp [nth]
  | o :: l, n + 1, h => by
    have := nth_spec l n (by simpa using h)
    simpa [nth] using this

theorem yr_of_quiet {l : List Oper} {L : Act → Prop} : ∀ (A : List Nat) (a : Act), (∀ i ∈ A, i < l.length ∧ isVal (nth l i).op = true) → (∃ w, CA w) → wpQuiet P l.toArray CA L (pickO l A) a → yr P l.toArray CA L A a
  | [], _, _, _, h => h
  | i :: A, a, hA, hw, h => by
    have h1 := hA i (List.mem_cons_self ..)
    have hr := fun x hx => hA x (List.mem_cons_of_mem i hx)
    unfold pickO wpQuiet at h
    by_cases hwt : Region.wanted (nth l i) (yielded l.toArray a.tmps) = true
    · rw [if_pos hwt] at h
      obtain ⟨v, hq, hn⟩ := h
      refine ⟨nth l i, v, nth_spec l i h1.1, .inl ⟨hwt, fun w hw => ?_⟩, yr_of_quiet A _ hr hw hn⟩
      have := hq w hw
      unfold Oper.quietAt at this
      cases hrun : (execOp a.eval (nth l i)).run P w with
      | halt x w1 => rw [hrun] at this; exact this.elim
      | ok n w1 =>
        obtain ⟨u, rfl⟩ := isVal_run h1.2 hrun
        rw [hrun] at this
        obtain ⟨e1, e2⟩ := this
        rw [e1, e2]
    · rw [if_neg hwt] at h
      exact ⟨nth l i, undef, nth_spec l i h1.1, .inr ⟨by simpa using hwt, rfl⟩, yr_of_quiet A _ hr hw h⟩

theorem cr_of_quiet {l : List Oper} {L : Act → Prop} : ∀ (B : List Nat) (a : Act), (∀ i ∈ B, i < l.length) → wpQuiet P l.toArray C L (pickO l B) a → cr P l.toArray C L B a
  | [], _, _, h => h
  | i :: B, a, hB, h => by
    have h1 := nth_spec l i (hB i (List.mem_cons_self ..))
    refine ⟨⟨_, h1⟩, ?_⟩
    unfold qOp
    simp only [h1]
    unfold pickO wpQuiet at h
    by_cases hwt : Region.wanted (nth l i) (yielded l.toArray a.tmps) = true
    · rw [if_pos hwt] at h ⊢
      exact Oper.quiet_mono (fun a' h' => cr_of_quiet B a' (fun x hx => hB x (List.mem_cons_of_mem i hx)) h') h
    · rw [if_neg hwt] at h ⊢
      exact cr_of_quiet B _ (fun x hx => hB x (List.mem_cons_of_mem i hx)) h

theorem wpQuiet_mono {L L' : Act → Prop} (hL : ∀ a, L a → L' a) : ∀ (l : List Oper) (a : Act), wpQuiet P ops C L l a → wpQuiet P ops C L' l a
  | [], a, h => hL a h
  | o :: l, a, h => by
    unfold wpQuiet at *
    split
    · rename_i hw; rw [if_pos hw] at h; exact Oper.quiet_mono (fun a' => wpQuiet_mono hL l a') h
    · rename_i hw; rw [if_neg hw] at h; exact wpQuiet_mono hL l _ h

theorem tail_of_list {l : List Oper} : ∀ (T : List Nat) (a : Act) (w : World), (∀ i ∈ T, i < l.length) → wpList P l.toArray Q (pickO l T) a w → wpTail P l.toArray Q (fun _ => True) loose T a w
  | [], _, _, _, h => h
  | i :: T, a, w, hT, h => by
    have h1 := nth_spec l i (hT i (List.mem_cons_self ..))
    unfold wpTail wpOp
    simp only [h1]
    unfold pickO wpList at h
    have hk : ∀ a w, wpList P l.toArray Q (pickO l T) a w → (loose i = true → True) ∧ wpTail P l.toArray Q (fun _ => True) loose T a w :=
      fun a w h => ⟨fun _ => trivial, tail_of_list T a w (fun x hx => hT x (List.mem_cons_of_mem i hx)) h⟩
    split
    · rename_i hw; rw [if_pos hw] at h; exact h.imp (Oper.wp_mono hk) id
    · rename_i hw; rw [if_neg hw] at h; exact hk _ _ h

/-- at most n rounds -/
def loopN (P : Program) (c : Code) (Q : Exit → Act → World → Prop) : Nat → Act → World → Prop
  | 0, _, _ => False
  | n + 1, a, w => c.wp P (Exit.then (loopN P c Q n) Q) a w
theorem loopN_succ {c : Code} {n : Nat} {a : Act} {w : World} (h : c.wp P (Exit.then (loopN P c Q n) Q) a w) : loopN P c Q (n + 1) a w := h
theorem wp_loop_n {c : Code} {a : Act} {w : World} (n : Nat) (h : loopN P c Q n a w) : (Code.loop c).wp P Q a w := by
  intro b k cs
  have key : ∀ n a w, loopN P c Q n a w →
      ∃ e a' w', Q e a' w' ∧ Arrives P (lone (b.at a (.code c :: .inLoop c :: k)) cs w) b k cs e a' w' := by
    intro n
    induction n with
    | zero => intro a w h; exact h.elim
    | succ n ih =>
      intro a w h
      obtain ⟨e, a1, w1, hq, harr⟩ := h b (.inLoop c :: k) cs
      cases e with
      | normal =>
        obtain ⟨e2, a2, w2, hq2, harr2⟩ := ih a1 w1 hq
        exact ⟨e2, a2, w2, hq2, .of_steps (Steps.trans harr (.one step_inLoop)) harr2⟩
      | exit id => exact ⟨_, a1, w1, hq, .pass (x := .inLoop c) rfl (fun _ _ => .inl (by simp)) harr⟩
      | goto l => exact ⟨_, a1, w1, hq, .pass (x := .inLoop c) rfl (fun _ _ => .inl (by simp)) harr⟩
      | ret => exact ⟨_, a1, w1, hq, .pass (x := .inLoop c) rfl (fun _ _ => .inl (by simp)) harr⟩
      | panic ch => exact ⟨_, a1, w1, hq, .pass (x := .inLoop c) rfl (fun _ _ => .inl (by simp)) harr⟩
      | outgrown => exact ⟨_, a1, w1, hq, .pass (x := .inLoop c) rfl (fun _ _ => .inl (by simp)) harr⟩
  obtain ⟨e, a', w', hq, harr⟩ := key n a w h
  exact ⟨e, a', w', hq, .of_steps (.one step_loop) harr⟩

def inB (l : List Oper) (A B T : List Nat) : Bool :=
  canonB l.toArray A B [T] && (A.all fun i => decide (i < l.length) && isVal (nth l i).op) && (B.all fun i => decide (i < l.length)) && (T.all fun i => decide (i < l.length))

/-- THE REGION IN ONE ORDER: A (pure), B (reads), T (a chain). -/
theorem region1 {id : Nat} {a : Act} {w : World} {l : List Oper} (A B T : List Nat) (hm : P.follows .mixedOrders = true)
    (hB : inB l A B T = true) (hQ : ∀ c a d v w, Q (.panic c) (Act.put a d v) w → Q (.panic c) a w)
    (h : wpQuiet P l.toArray (fun _ => True) (fun a1 => wpQuiet P l.toArray (fun w' => w' = w.drew) (fun a2 => wpList P l.toArray Q (pickO l T) a2 w.drew) (pickO l B) a1) (pickO l A) a) :
    (Code.region id l.toArray true).wp P Q a w := by
  simp only [inB, Bool.and_eq_true, List.all_eq_true, decide_eq_true_eq] at hB
  obtain ⟨⟨⟨h1, h2⟩, h3⟩, h4⟩ := hB
  refine region_canon (fun _ => True) A B [T] hm h1 hQ trivial (yr_of_quiet A a h2 ⟨w, trivial⟩ (wpQuiet_mono (fun a1 ha1 => ?_) _ _ h))
  refine cr_of_quiet B a1 h3 (wpQuiet_mono (fun a2 ha2 => ?_) _ _ ha1)
  intro t ht
  have : t = T := by simpa using ht
  subst this
  exact tail_of_list t a2 _ h4 ha2
end
end Ord
end Go
