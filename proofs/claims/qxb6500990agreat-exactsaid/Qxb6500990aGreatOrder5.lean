/- the look at a region, quick where the operations are apart -/
import Derived.Test.Qxb6500990aGreatOrder4
set_option linter.unusedVariables false
set_option linter.unusedSimpArgs false
namespace Go
namespace Ord
def nearB (ops : Array Oper) (j i : Nat) : Bool := match ops[j]? with
  | none => false
  | some o => o.after.any fun e => Region.binds .any e && e.on == i
def pairQ (ops : Array Oper) (N : Nat) : List Nat → Bool
  | [] => true
  | i :: r => (r.all fun j => (match ops[i]?, ops[j]? with
    | some oi, some oj => oi.apart ops oj
    | _, _ => true) || (nearB ops j i || depB ops N j i)) && pairQ ops N r
theorem near_dep {ops : Array Oper} {N j i : Nat} (h : nearB ops j i = true) (hN : 0 < N) : depB ops N j i = true := by
  obtain ⟨n, rfl⟩ : ∃ n, N = n + 1 := ⟨N - 1, by omega⟩
  unfold nearB at h
  unfold depB
  cases ho : ops[j]? with
  | none => rw [ho] at h; simp at h
  | some o =>
    rw [ho] at h
    simp only [Array.any_eq_true, Bool.and_eq_true, Bool.or_eq_true] at h ⊢
    obtain ⟨k, hk, h1, h2⟩ := h
    exact ⟨k, hk, h1, .inl h2⟩
theorem pairQ_B {ops : Array Oper} {N : Nat} (hN : 0 < N) : ∀ l, pairQ ops N l = true → pairB ops N l = true
  | [], _ => rfl
  | i :: r, h => by
    simp only [pairQ, Bool.and_eq_true, List.all_eq_true] at h
    simp only [pairB, Bool.and_eq_true, List.all_eq_true]
    refine ⟨fun j hj => ?_, pairQ_B hN r h.2⟩
    have := h.1 j hj
    rw [Bool.or_eq_true] at this ⊢
    rcases this with h1 | h1
    · exact .inr h1
    · rw [Bool.or_eq_true] at h1
      exact .inl (h1.elim (fun h => near_dep h hN) id)
def canonQ (ops : Array Oper) (A B : List Nat) (s : Scr) : Bool :=
  let n := ops.size
  let T := s.path
  let lA := setAll n A
  Region.noSelect ops && takeB ops A (Array.replicate n false) &&
  (List.range n).all (fun j => memB A j || memB B j || memB T j) &&
  B.all (fun j => !memB A j && !memB T j && decide (j < n)) && decide B.Nodup && T.all (fun j => !memB A j && decide (j < n)) &&
  (decide (0 < n) && pairQ ops n B) && topoB ops lA [] B && T.all (fun t => B.all fun b => depB ops n t b) &&
  decide (A.length + (B.length + s.sz) = n)
theorem canonQ_S {ops : Array Oper} {A B : List Nat} {s : Scr} (h : canonQ ops A B s = true) : canonS ops A B s = true := by
  simp only [canonQ, Bool.and_eq_true, decide_eq_true_eq] at h
  simp only [canonS, Bool.and_eq_true, decide_eq_true_eq]
  obtain ⟨⟨⟨⟨⟨⟨⟨⟨⟨h1, h2⟩, h3⟩, h4⟩, h5⟩, h6⟩, h7⟩, h8⟩, h9⟩, h10⟩ := h
  exact ⟨⟨⟨⟨⟨⟨⟨⟨⟨h1, h2⟩, h3⟩, h4⟩, h5⟩, h6⟩, pairQ_B h7.1 _ h7.2⟩, h8⟩, h9⟩, h10⟩
def in3q (l : List Oper) (A B : List Nat) (s : Scr) (allT : Bool) : Bool :=
  canonQ l.toArray A B s && (A.all fun i => decide (i < l.length) && isVal (nth l i).op) && (B.all fun i => decide (i < l.length)) && okS l A allT s (setAll l.toArray.size (A ++ B))
theorem in3q_3 {l : List Oper} {A B : List Nat} {s : Scr} {allT : Bool} (h : in3q l A B s allT = true) : in3 l A B s allT = true := by
  unfold in3q at h
  unfold in3
  rw [Bool.and_eq_true, Bool.and_eq_true, Bool.and_eq_true] at h ⊢
  exact ⟨⟨⟨canonQ_S h.1.1.1, h.1.1.2⟩, h.1.2⟩, h.2⟩
end Ord
end Go
