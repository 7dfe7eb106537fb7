/- package node: decode against the format's paper (no Go) -/
import Derived.Test.Qxb6500990aGreatNo4
set_option linter.unusedVariables false
set_option linter.unusedSimpArgs false
namespace Go.Tw
open Go Go.Proofs Go.Proofs.Qxb6500990aGreat
section
variable {l : Bs} {e p : Nat}
theorem oneD_in (h : p < e) : oneD l e p false = (byt l p, p + 1, false) := by unfold oneD; rw [if_neg (by simp; omega)]
theorem numD_bad : numD l e p true = (0, p, true) := by unfold numD; rw [if_pos (.inl rfl)]
theorem numD_in (h : p + 8 ≤ e) : numD l e p false = if maxT < beN l p 8 then (0, p + 8, true) else (beN l p 8, p + 8, false) := by unfold numD; rw [if_neg (by simp; omega)]
theorem oneD_bad : oneD l e p true = (0, p, true) := by unfold oneD; rw [if_pos (.inl rfl)]
theorem getU64_in (h : p + 8 ≤ l.length) : getU64 l p = if maxT < beN l p 8 then -1 else beN l p 8 := by
  unfold getU64; rw [if_neg (by omega)]; simp
/-- one number of the head -/
theorem numD_step (h : p + 8 ≤ e) (hl : e ≤ l.length) {v : Int} {p' : Nat} {f : Bool} (hN : numD l e p false = (v, p', f)) : (f = true ∧ getU64 l p < 0) ∨ (f = false ∧ v = getU64 l p ∧ p' = p + 8 ∧ 0 ≤ getU64 l p) := by
  rw [numD_in h] at hN
  rw [getU64_in (by omega)]
  have := (beN_bd l p 8).1
  split at hN
  · rename_i hm
    rw [if_pos hm]
    injection hN with a b; injection b with b c
    exact .inl ⟨c.symm, by omega⟩
  · rename_i hm
    rw [if_neg hm]
    injection hN with a b; injection b with b c
    exact .inr ⟨c.symm, a.symm, b.symm, by omega⟩
theorem head_law (he : 38 ≤ e) (hl : e ≤ l.length) {k fr to okv te ix lt cm cn : Int} {p1 p2 p3 p4 p5 p6 p7 p8 p9 : Nat} {f1 f2 f3 f4 f5 f6 f7 f8 f9 : Bool}
    (E0 : oneD l e 0 false = (k, p1, f1)) (E1 : oneD l e p1 f1 = (fr, p2, f2)) (E2 : oneD l e p2 f2 = (to, p3, f3)) (E3 : oneD l e p3 f3 = (okv, p4, f4))
    (N0 : numD l e p4 f4 = (te, p5, f5)) (N1 : numD l e p5 f5 = (ix, p6, f6)) (N2 : numD l e p6 f6 = (lt, p7, f7)) (N3 : numD l e p7 f7 = (cm, p8, f8)) (E4 : oneD l e p8 f8 = (cn, p9, f9)) :
    (k = byt l 0 ∧ fr = byt l 1 ∧ to = byt l 2 ∧ okv = byt l 3) ∧
    ((f9 = true ∧ (getU64 l 4 < 0 ∨ getU64 l 12 < 0 ∨ getU64 l 20 < 0 ∨ getU64 l 28 < 0)) ∨
     (f9 = false ∧ te = getU64 l 4 ∧ ix = getU64 l 12 ∧ lt = getU64 l 20 ∧ cm = getU64 l 28 ∧ cn = byt l 36 ∧ p9 = 37 ∧ (0 ≤ getU64 l 4 ∧ 0 ≤ getU64 l 12 ∧ 0 ≤ getU64 l 20 ∧ 0 ≤ getU64 l 28))) := by
  rw [oneD_in (by omega)] at E0
  injection E0 with a b; injection b with b c; subst a b c
  rw [oneD_in (by omega)] at E1
  injection E1 with a b; injection b with b c; subst a b c
  rw [oneD_in (by omega)] at E2
  injection E2 with a b; injection b with b c; subst a b c
  rw [oneD_in (by omega)] at E3
  injection E3 with a b; injection b with b c; subst a b c
  refine ⟨⟨rfl, rfl, rfl, rfl⟩, ?_⟩
  have dead : ∀ {q : Nat} {v : Int} {p' : Nat} {f : Bool}, numD l e q true = (v, p', f) → f = true := by
    intro q v p' f h; rw [numD_bad] at h; injection h with a b; injection b with b c; exact c.symm
  have dead1 : ∀ {q : Nat} {v : Int} {p' : Nat} {f : Bool}, oneD l e q true = (v, p', f) → f = true := by
    intro q v p' f h; rw [oneD_bad] at h; injection h with a b; injection b with b c; exact c.symm
  rcases numD_step (by omega) hl N0 with ⟨rfl, h0⟩ | ⟨rfl, h0, rfl, g0⟩
  · obtain rfl := dead N1; obtain rfl := dead N2; obtain rfl := dead N3; obtain rfl := dead1 E4
    exact .inl ⟨rfl, .inl h0⟩
  rcases numD_step (by omega) hl N1 with ⟨rfl, h1⟩ | ⟨rfl, h1, rfl, g1⟩
  · obtain rfl := dead N2; obtain rfl := dead N3; obtain rfl := dead1 E4
    exact .inl ⟨rfl, .inr (.inl h1)⟩
  rcases numD_step (by omega) hl N2 with ⟨rfl, h2⟩ | ⟨rfl, h2, rfl, g2⟩
  · obtain rfl := dead N3; obtain rfl := dead1 E4
    exact .inl ⟨rfl, .inr (.inr (.inl h2))⟩
  rcases numD_step (by omega) hl N3 with ⟨rfl, h3⟩ | ⟨rfl, h3, rfl, g3⟩
  · obtain rfl := dead1 E4
    exact .inl ⟨rfl, .inr (.inr (.inr h3))⟩
  rw [oneD_in (by omega)] at E4
  injection E4 with a b; injection b with b c; subst a b c
  exact .inr ⟨rfl, h0, h1, h2, h3, rfl, rfl, g0, g1, g2, g3⟩
theorem decB_none (h : ∀ es p, msgOK (decM l es p) = false) : decB l = none := by
  unfold decB
  split
  · rfl
  · split
    · rfl
    · cases entsD l (l.length - 2) (l.getD 36 0).toNat with
      | none => rfl
      | some s =>
        simp only [Option.bind_some]
        unfold decE
        split
        · rfl
        · split
          · rfl
          · rw [if_neg (by rw [h]; decide)]
theorem decM_ok {es : List Entry} {p : Nat} (h : msgOK (decM l es p) = true) : MsgOk (decM l es p) := msgOK_iff.1 h
theorem head_none (h : getU64 l 4 < 0 ∨ getU64 l 12 < 0 ∨ getU64 l 20 < 0 ∨ getU64 l 28 < 0) : decB l = none := by
  refine decB_none fun es p => ?_
  cases hm : msgOK (decM l es p) with
  | false => rfl
  | true =>
    have ok := decM_ok hm
    have a := ok.t0
    have b := ok.i0
    have c := ok.l0
    have d := ok.c0
    simp only [decM, headD] at a b c d
    rcases h with h | h | h | h
    · exact absurd a (by omega)
    · exact absurd b (by omega)
    · exact absurd c (by omega)
    · exact absurd d (by omega)
theorem cond_none (h : byt l 0 < 1 ∨ 5 < byt l 0 ∨ 3 ≤ byt l 1 ∨ 3 ≤ byt l 2 ∨ 1 < byt l 3 ∨ 2 < byt l 36) : decB l = none := by
  by_cases h3 : 1 < byt l 3
  · unfold decB; rw [if_pos h3]
  by_cases h36 : 2 < byt l 36
  · unfold decB; rw [if_neg h3, if_pos h36]
  refine decB_none fun es p => ?_
  cases hm : msgOK (decM l es p) with
  | false => rfl
  | true =>
    have ok := decM_ok hm
    have a := ok.k0
    have b := ok.k1
    have c := ok.f1
    have d := ok.o1
    simp only [decM, headD] at a b c d
    omega
end
/-- k entries are read well -/
structure EntSt (l : Bs) (e k : Nat) (es : List Entry) (p : Nat) : Prop where
  r : entsD l e k = some (es, p)
  ok : ∀ x ∈ es, entOK x = true
  p0 : 37 ≤ p
  p1 : p ≤ e
section
variable {l : Bs} {e k p : Nat} {es : List Entry}
theorem EntSt.start (he : 38 ≤ e) : EntSt l e 0 [] 37 := ⟨rfl, by simp, by omega, by omega⟩
theorem EntSt.len (h : EntSt l e k es p) (he : 37 ≤ e) : es.length = k := (entsD_len he k es p h.r).1
theorem decB_count (h3 : ¬ 1 < byt l 3) (h36 : ¬ 2 < byt l 36) : decB l = (entsD l (l.length - 2) (l.getD 36 0).toNat).bind (decE l) := by
  unfold decB; rw [if_neg h3, if_neg h36]
theorem entsD_mem {n : Nat} : ∀ {m : Nat} {xs ys : List Entry} {p q : Nat}, entsD l e n = some (xs, p) → n ≤ m → entsD l e m = some (ys, q) → ∀ x ∈ xs, x ∈ ys
  | 0, xs, ys, p, q, h1, h2, h3 => by have : n = 0 := by omega
                                      subst this; rw [h1] at h3; injection h3 with h3; injection h3 with h3; subst h3; exact fun x hx => hx
  | m + 1, xs, ys, p, q, h1, h2, h3 => by
    by_cases e1 : n = m + 1
    · subst e1; rw [h1] at h3; injection h3 with h3; injection h3 with h3; subst h3; exact fun x hx => hx
    · simp only [entsD] at h3
      cases h4 : entsD l e m with
      | none => rw [h4] at h3; cases h3
      | some s =>
        obtain ⟨zs, r⟩ := s
        rw [h4] at h3
        simp only [Option.bind_some] at h3
        cases h5 : entD l e r with
        | none => rw [h5] at h3; cases h3
        | some t =>
          rw [h5] at h3
          simp only [Option.bind_some] at h3
          injection h3 with h3; injection h3 with h3
          subst h3
          intro x hx
          exact List.mem_append_left _ (entsD_mem h1 (by omega) h4 x hx)
/-- an entry that is not well read: there is no message -/
theorem ent_none (h3 : ¬ 1 < byt l 3) (h36 : ¬ 2 < byt l 36) (he : e = l.length - 2) (hk : k < (l.getD 36 0).toNat) (h : EntSt l e k es p) (hb : ∀ t, entD l e p = some t → entOK t.1 = false) : decB l = none := by
  rw [decB_count h3 h36]
  have hs : entsD l e (k + 1) = (entD l e p).bind fun t => some (es ++ [t.1], t.2) := by simp only [entsD, h.r, Option.bind_some]
  cases ht : entD l e p with
  | none =>
    rw [ht] at hs
    rw [← he, entsD_none (k + 1) _ hk hs]; rfl
  | some t =>
    rw [ht] at hs
    simp only [Option.bind_some] at hs
    have hbad := hb t ht
    cases hm : entsD l (l.length - 2) (l.getD 36 0).toNat with
    | none => rfl
    | some s =>
      obtain ⟨ys, q⟩ := s
      simp only [Option.bind_some]
      rw [← he] at hm
      have hin := entsD_mem hs hk hm t.1 (by simp)
      unfold decE
      split
      · rfl
      · split
        · rfl
        · rw [if_neg]
          intro ho
          have ok := decM_ok ho
          have := ok.e t.1 hin
          simp only [entOK, decide_eq_false_iff_not] at hbad
          exact hbad this
/-- one entry is read -/
theorem EntSt.step (h : EntSt l e k es p) (hl : e ≤ l.length) {t : Int} {x : Bs} {p1 p2 : Nat} {f1 f2 : Bool} (N : numD l e p false = (t, p1, f1)) (T : textD l e 24 p1 f1 = (x, p2, f2)) :
    (f2 = false ∧ EntSt l e (k + 1) (es ++ [⟨t, x⟩]) p2) ∨ (f2 = true ∧ ∀ y, entD l e p = some y → entOK y.1 = false) := by
  have hbt0 := byt_bd l (p + 8)
  have g8 : (l.getD (p + 8) 0).toNat = (byt l (p + 8)).toNat := by unfold byt; omega
  unfold entD
  rw [g8]
  by_cases h8 : e < p + 8
  · right
    have hN : numD l e p false = (0, p, true) := by unfold numD; rw [if_pos (.inr h8)]
    rw [hN] at N
    injection N with a b; injection b with b c; subst a b c
    unfold textD at T
    rw [oneD_bad, if_pos (.inl rfl)] at T
    injection T with a b; injection b with b c; subst a b c
    refine ⟨rfl, fun y hy => ?_⟩
    rw [if_pos (by omega)] at hy; cases hy
  rcases numD_step (by omega) hl N with ⟨rfl, hg⟩ | ⟨rfl, rfl, rfl, hg⟩
  · right
    unfold textD at T
    rw [oneD_bad, if_pos (.inl rfl)] at T
    injection T with a b; injection b with b c; subst a b c
    refine ⟨rfl, fun y hy => ?_⟩
    split at hy
    · cases hy
    · split at hy
      · cases hy
      · injection hy with hy; subst hy
        simp only [entOK, decide_eq_false_iff_not]
        rintro ⟨a, -⟩
        omega
  · by_cases h9 : e ≤ p + 8
    · right
      unfold textD at T
      have : oneD l e (p + 8) false = (0, p + 8, true) := by unfold oneD; rw [if_pos (.inr h9)]
      rw [this, if_pos (.inl rfl)] at T
      injection T with a b; injection b with b c; subst a b c
      refine ⟨rfl, fun y hy => ?_⟩
      rw [if_pos (by omega)] at hy; cases hy
    · unfold textD at T
      rw [oneD_in (by omega)] at T
      simp only [] at T
      rw [if_neg (show ¬ e < p + 9 by omega)]
      by_cases hc : e < p + 9 + (byt l (p + 8)).toNat
      · right
        rw [if_pos (by simp; omega)] at T
        injection T with a b; injection b with b c; subst a b c
        refine ⟨rfl, fun y hy => ?_⟩
        rw [if_pos hc] at hy; cases hy
      · rw [if_neg hc]
        by_cases h24 : 24 < byt l (p + 8)
        · right
          rw [if_pos (.inr (.inl h24))] at T
          injection T with a b; injection b with b c; subst a b c
          refine ⟨rfl, fun y hy => ?_⟩
          injection hy with hy; subst hy
          simp only [entOK, decide_eq_false_iff_not, List.length_take, List.length_drop]
          rintro ⟨-, -, a⟩
          omega
        · left
          rw [if_neg (by simp; omega)] at T
          injection T with a b; injection b with b c; subst a b c
          have gb := getU64_bd l p
          refine ⟨rfl, ?_, ?_, by have := h.p0; omega, by omega⟩
          · simp only [entsD, h.r, Option.bind_some]
            unfold entD
            rw [g8, if_neg (show ¬ e < p + 9 by omega), if_neg hc]
            rfl
          · intro x hx
            rcases List.mem_append.1 hx with hx | hx
            · exact h.ok x hx
            · simp at hx; subst hx
              simp only [entOK, decide_eq_true_eq, List.length_take, List.length_drop]
              refine ⟨hg, gb, ?_⟩
              omega
/-- the end: the last text, and nothing is left -/
theorem dec_end (hk : ¬ (byt l 0 < 1 ∨ 5 < byt l 0 ∨ 3 ≤ byt l 1 ∨ 3 ≤ byt l 2 ∨ 1 < byt l 3 ∨ 2 < byt l 36)) (hg : 0 ≤ getU64 l 4 ∧ 0 ≤ getU64 l 12 ∧ 0 ≤ getU64 l 20 ∧ 0 ≤ getU64 l 28) (he : e = l.length - 2) (he2 : 38 ≤ e) (h : EntSt l e (l.getD 36 0).toNat es p) {x : Bs} {p' : Nat} {f : Bool} (T : textD l e 128 p false = (x, p', f)) :
    (f = false ∧ p' = e → decB l = some { headD l with ents := es, data := x }) ∧ (f = true ∨ p' ≠ e → decB l = none) := by
  rw [decB_count (by omega) (by omega), ← he, h.r]
  simp only [Option.bind_some]
  unfold decE
  rw [← he]
  have hbt0 := byt_bd l p
  have hbt := byt_lt l p
  have gp : (l.getD p 0).toNat = (byt l p).toNat := by unfold byt; omega
  have p1 := h.p1
  unfold textD at T
  by_cases hp : e ≤ p
  · have : oneD l e p false = (0, p, true) := by unfold oneD; rw [if_pos (.inr hp)]
    rw [this, if_pos (.inl rfl)] at T
    injection T with a b; injection b with b c; subst a b c
    exact ⟨fun h => by simp at h, fun _ => by rw [if_pos hp]⟩
  · rw [oneD_in (by omega)] at T
    simp only [] at T
    rw [if_neg hp]
    simp only [gp]
    by_cases hb : 128 < byt l p ∨ (e : Int) < ((p + 1 : Nat) : Int) + byt l p
    · rw [if_pos (.inr hb)] at T
      injection T with a b; injection b with b c; subst a b c
      refine ⟨fun h => by simp at h, fun _ => ?_⟩
      split
      · rfl
      · rename_i hne
        rw [if_neg]
        intro ho
        have ok := decM_ok ho
        have := ok.d
        simp only [decM, List.length_take, List.length_drop] at this
        omega
    · rw [if_neg (by simp; omega)] at T
      injection T with a b; injection b with b c; subst a b c
      by_cases hq : p + 1 + (byt l p).toNat = e
      · refine ⟨fun _ => ?_, fun h => by simp at h; omega⟩
        rw [if_neg (fun h => h hq)]
        have hm : decM l es p = { headD l with ents := es, data := (l.drop (p + 1)).take (byt l p).toNat } := by
          unfold decM
          rw [show l.length - 2 - (p + 1) = (byt l p).toNat by omega]
        rw [hm, if_pos]
        rw [msgOK_iff]
        have g4 := getU64_bd l 4
        have g12 := getU64_bd l 12
        have g20 := getU64_bd l 20
        have g28 := getU64_bd l 28
        have b1 := byt_bd l 1
        have b2 := byt_bd l 2
        have hlen := h.len (by omega)
        have b36 : ((l.getD 36 0).toNat : Int) = byt l 36 := rfl
        refine ⟨?_, ?_, b1, ?_, b2, ?_, hg.1, g4, hg.2.1, g12, hg.2.2.1, g20, hg.2.2.2, g28, ?_, ?_, ?_⟩
        all_goals simp only [headD]
        · omega
        · omega
        · omega
        · omega
        · omega
        · simp only [List.length_take, List.length_drop]; omega
        · intro y hy
          have := h.ok y hy
          simpa [entOK] using this
      · exact ⟨fun h => absurd h.2 (by omega), fun _ => by rw [if_pos hq]⟩
end
end Go.Tw
