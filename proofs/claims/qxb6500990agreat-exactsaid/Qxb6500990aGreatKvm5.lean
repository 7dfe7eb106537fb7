/- package kvm: Snapshot, Restore -/
import Derived.Test.Qxb6500990aGreatKvm3
import Derived.Test.Qxb6500990aGreatLgm3
set_option linter.unusedVariables false
set_option linter.unusedSimpArgs false
namespace Go.Tw
open Go Go.Proofs Go.Proofs.Qxb6500990aGreat
def strB (s : Bs) : List Int := (s.length : Int) :: bi s
def pairB (p : Bs × Bs) : List Int := strB p.1 ++ strB p.2
def AK.sessB (k : AK) (c : Nat) : List Int := be8 (k.seq c) ++ [(k.ans c).err] ++ strB (k.ans c).val
def AK.sessN (k : AK) : Nat → List Int
  | 0 => []
  | c + 1 => k.sessN c ++ k.sessB c
def AK.snap (k : AK) : Bs := ib ((k.ps.length : Int) :: k.ps.flatMap pairB ++ k.sessN 3)
structure AK.Ok (k : AK) : Prop where
  n4 : k.ps.length ≤ 4
  ps : ∀ p ∈ k.ps, 1 ≤ p.1.length ∧ p.1.length ≤ 2 ∧ p.2.length ≤ 3
  asc : k.ps.Pairwise (fun p q => Op.bytesLess p.1 q.1 = true)
  s0 : ∀ c, 0 ≤ k.seq c
  s1 : ∀ c, k.seq c ≤ maxT
  e0 : ∀ c, 0 ≤ (k.ans c).err
  e1 : ∀ c, (k.ans c).err < 16
  a3 : ∀ c, (k.ans c).val.length ≤ 3
def rPairs (s : Bs) : Nat → Option (List (Bs × Bs) × Int)
  | 0 => some ([], 1)
  | i + 1 => match rPairs s i with
    | none => none
    | some (ps, p) =>
      if (takeS s (takeS s p 1 2).2 0 3).2 < 0 ∨ (0 < i ∧ Op.bytesLess (ps.getD (i - 1) ([], [])).1 (takeS s p 1 2).1 = false) then none
      else some (ps ++ [((takeS s p 1 2).1, (takeS s (takeS s p 1 2).2 0 3).1)], (takeS s (takeS s p 1 2).2 0 3).2)
def rSess (s : Bs) (p0 : Int) : Nat → Option (List (Int × Ans) × Int)
  | 0 => some ([], p0)
  | c + 1 => match rSess s p0 c with
    | none => none
    | some (ss, p) =>
      if getU64 s p < 0 ∨ (s.length : Int) ≤ p + 8 ∨ 16 ≤ byt s (p + 8).toNat ∨ (takeS s (p + 9) 0 3).2 < 0 then none
      else some (ss ++ [(getU64 s p, ⟨byt s (p + 8).toNat, (takeS s (p + 9) 0 3).1⟩)], (takeS s (p + 9) 0 3).2)
def ofSess (ps : List (Bs × Bs)) (ss : List (Int × Ans)) : AK := ⟨ps, fun c => (ss.getD c (0, zAns)).1, fun c => (ss.getD c (0, zAns)).2⟩
def restoreO (s : Bs) : Option AK := if s.length < 1 ∨ 4 < byt s 0 then none else match rPairs s (byt s 0).toNat with
  | none => none
  | some (ps, p) => match rSess s p 3 with
    | none => none
    | some (ss, q) => if q = s.length then some (ofSess ps ss) else none
def AK.restore (k : AK) (s : Bs) : Int × AK := match restoreO s with
  | none => (15, k)
  | some k' => (0, k')
theorem takeS_bd (l : Bs) (p lo hi : Int) (hp : -1 ≤ p) : -1 ≤ (takeS l p lo hi).2 ∧ (takeS l p lo hi).2 ≤ l.length := by
  unfold takeS
  split
  · constructor <;> simp <;> omega
  · simp only []
    split
    · constructor <;> simp <;> omega
    · simp only []; omega
theorem rPairs_none {s : Bs} : ∀ (n i : Nat), i ≤ n → rPairs s i = none → rPairs s n = none
  | 0, i, h, hi => by have : i = 0 := by omega
                      subst this; exact hi
  | n + 1, i, h, hi => by
    by_cases e : i = n + 1
    · subst e; exact hi
    · unfold rPairs; rw [rPairs_none n i (by omega) hi]
theorem rSess_none {s : Bs} {p : Int} : ∀ (n i : Nat), i ≤ n → rSess s p i = none → rSess s p n = none
  | 0, i, h, hi => by have : i = 0 := by omega
                      subst this; exact hi
  | n + 1, i, h, hi => by
    by_cases e : i = n + 1
    · subst e; exact hi
    · unfold rSess; rw [rSess_none n i (by omega) hi]
theorem rPairs_len {s : Bs} (h1 : 1 ≤ s.length) : ∀ (i : Nat) (ps : List (Bs × Bs)) (p : Int), rPairs s i = some (ps, p) → ps.length = i ∧ -1 ≤ p ∧ p ≤ s.length
  | 0, ps, p, h => by simp [rPairs] at h; obtain ⟨rfl, rfl⟩ := h; simp; omega
  | i + 1, ps, p, h => by
    unfold rPairs at h
    cases h2 : rPairs s i with
    | none => rw [h2] at h; cases h
    | some x =>
      obtain ⟨ps', p'⟩ := x
      obtain ⟨l1, l2, l3⟩ := rPairs_len h1 i ps' p' h2
      rw [h2] at h
      simp only [] at h
      split at h
      · cases h
      · injection h with h; injection h with ha hb
        subst ha; subst hb
        refine ⟨by simp [l1], takeS_bd _ _ _ _ (takeS_bd _ _ _ _ l2).1⟩
theorem rSess_len {s : Bs} {p0 : Int} (h0 : -1 ≤ p0) (h1 : p0 ≤ s.length) : ∀ (i : Nat) (ss : List (Int × Ans)) (p : Int), rSess s p0 i = some (ss, p) → ss.length = i ∧ -1 ≤ p ∧ p ≤ s.length
  | 0, ss, p, h => by simp [rSess] at h; obtain ⟨rfl, rfl⟩ := h; simp; omega
  | i + 1, ss, p, h => by
    unfold rSess at h
    cases h2 : rSess s p0 i with
    | none => rw [h2] at h; cases h
    | some x =>
      obtain ⟨ss', p'⟩ := x
      obtain ⟨l1, l2, l3⟩ := rSess_len h0 h1 i ss' p' h2
      rw [h2] at h
      simp only [] at h
      split at h
      · cases h
      · injection h with h; injection h with ha hb
        subst ha; subst hb
        refine ⟨by simp [l1], takeS_bd _ _ _ _ (by omega)⟩
def keyF (ps : List (Bs × Bs)) : Nat → Bs := fun j => (ps.getD j ([], [])).1
def valF (ps : List (Bs × Bs)) : Nat → Bs := fun j => (ps.getD j ([], [])).2
def seqF (ss : List (Int × Ans)) : Nat → Int := fun j => (ss.getD j (0, zAns)).1
def ansF (ss : List (Int × Ans)) : Nat → Ans := fun j => (ss.getD j (0, zAns)).2
theorem getD_snoc {α : Type} (l : List α) (x d : α) (j : Nat) : (l ++ [x]).getD j d = if j = l.length then x else l.getD j d := by
  simp only [List.getD_eq_getElem?_getD]
  by_cases h : j = l.length
  · subst h; simp
  · rw [if_neg h]
    rcases Nat.lt_or_ge j l.length with h' | h'
    · rw [List.getElem?_append_left h']
    · rw [List.getElem?_eq_none (by simp; omega), List.getElem?_eq_none h']
theorem keyF_snoc (ps : List (Bs × Bs)) (k v : Bs) : keyF (ps ++ [(k, v)]) = upd (keyF ps) ps.length k := by funext j; simp only [keyF, upd, getD_snoc]; split <;> rfl
theorem valF_snoc (ps : List (Bs × Bs)) (k v : Bs) : valF (ps ++ [(k, v)]) = upd (valF ps) ps.length v := by funext j; simp only [valF, upd, getD_snoc]; split <;> rfl
theorem seqF_snoc (ss : List (Int × Ans)) (x : Int) (a : Ans) : seqF (ss ++ [(x, a)]) = upd (seqF ss) ss.length x := by funext j; simp only [seqF, upd, getD_snoc]; split <;> rfl
theorem ansF_snoc (ss : List (Int × Ans)) (x : Int) (a : Ans) : ansF (ss ++ [(x, a)]) = upd (ansF ss) ss.length a := by funext j; simp only [ansF, upd, getD_snoc]; split <;> rfl
end Go.Tw
