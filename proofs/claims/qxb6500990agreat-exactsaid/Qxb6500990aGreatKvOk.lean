/- the key-value store as it is meant: its bounds stay -/
import Derived.Test.Qxb6500990aGreatKvm5
import Derived.Test.Qxb6500990aGreatKvm4
set_option linter.unusedVariables false
set_option linter.unusedSimpArgs false
namespace Go.Tw
open Go Go.Proofs Go.Proofs.Qxb6500990aGreat
theorem less_irrefl : ∀ x : Bs, Op.bytesLess x x = false
  | [] => rfl
  | a :: x => by simp [Op.bytesLess, less_irrefl x]
theorem less_trans : ∀ {x y z : Bs}, Op.bytesLess x y = true → Op.bytesLess y z = true → Op.bytesLess x z = true
  | _, [], _, h, _ => by simp [Op.bytesLess] at h
  | _, _ :: _, [], _, h => by simp [Op.bytesLess] at h
  | [], _ :: _, _ :: _, _, _ => by simp [Op.bytesLess]
  | a :: x, b :: y, c :: z, h1, h2 => by
    simp only [Op.bytesLess, Bool.or_eq_true, decide_eq_true_eq, Bool.and_eq_true, beq_iff_eq] at *
    rcases h1 with h1 | ⟨rfl, h1⟩
    · rcases h2 with h2 | ⟨rfl, h2⟩
      · exact .inl (UInt8.lt_trans h1 h2)
      · exact .inl h1
    · rcases h2 with h2 | ⟨rfl, h2⟩
      · exact .inl h2
      · exact .inr ⟨rfl, less_trans h1 h2⟩
theorem less_total : ∀ {x y : Bs}, Op.bytesLess x y = false → x ≠ y → Op.bytesLess y x = true
  | [], [], _, h => absurd rfl h
  | [], _ :: _, h, _ => by simp [Op.bytesLess] at h
  | _ :: _, [], _, _ => by simp [Op.bytesLess]
  | a :: x, b :: y, h, hn => by
    simp only [Op.bytesLess, Bool.or_eq_false_iff, decide_eq_false_iff_not, Bool.and_eq_false_iff, beq_eq_false_iff_ne, Bool.or_eq_true, decide_eq_true_eq, Bool.and_eq_true, beq_iff_eq] at *
    obtain ⟨h1, h2⟩ := h
    by_cases e : a = b
    · subst e
      refine .inr ⟨rfl, less_total (h2.resolve_left (fun h => h rfl)) (fun e => hn (by rw [e]))⟩
    · left
      have : ¬ a.toNat < b.toNat := h1
      have e' : a.toNat ≠ b.toNat := fun e2 => e (UInt8.toNat_inj.1 e2)
      show b.toNat < a.toNat
      omega
theorem AK.new_ok : AK.new.Ok := by constructor <;> simp [AK.new, maxT]
theorem AK.Ok.upd_ps {k : AK} (h : k.Ok) {ps : List (Bs × Bs)} (n4 : ps.length ≤ 4) (hp : ∀ p ∈ ps, 1 ≤ p.1.length ∧ p.1.length ≤ 2 ∧ p.2.length ≤ 3) (asc : (ps.map (·.1)).Pairwise (fun p q => Op.bytesLess p q = true)) : AK.Ok { k with ps := ps } :=
  ⟨n4, hp, List.pairwise_map.1 asc, h.s0, h.s1, h.e0, h.e1, h.a3⟩
theorem AK.Ok.keys {k : AK} (h : k.Ok) : (k.ps.map (·.1)).Pairwise (fun p q => Op.bytesLess p q = true) := List.pairwise_map.2 h.asc
theorem AK.find_some {k : AK} {key : Bs} {i : Nat} (h : k.find key = some i) : ∃ hi : i < k.ps.length, k.ps[i].1 = key := by
  unfold AK.find at h
  obtain ⟨hi, h1, -⟩ := List.findIdx?_eq_some_iff_getElem.1 h
  exact ⟨hi, by simpa using h1⟩
theorem AK.find_none {k : AK} {key : Bs} (h : k.find key = none) : ∀ p ∈ k.ps, p.1 ≠ key := by
  unfold AK.find at h
  intro p hp
  have := List.findIdx?_eq_none_iff.1 h p hp
  simpa using this
theorem AK.Ok.set {k : AK} (h : k.Ok) {key val : Bs} {i : Nat} (hf : k.find key = some i) (hv : val.length ≤ 3) : AK.Ok { k with ps := k.ps.set i (key, val) } := by
  obtain ⟨hi, he⟩ := AK.find_some hf
  refine h.upd_ps (by simpa using h.n4) ?_ ?_
  · intro p hp
    rcases List.mem_or_eq_of_mem_set hp with hp | rfl
    · exact h.ps p hp
    · have := h.ps k.ps[i] (List.getElem_mem hi)
      rw [he] at this
      exact ⟨this.1, this.2.1, hv⟩
  · have : (k.ps.set i (key, val)).map (·.1) = k.ps.map (·.1) := by
      rw [List.map_set]
      apply List.ext_getElem (by simp)
      intro j h1 h2
      rw [List.getElem_set]
      split
      · rename_i e; subst e; simp [he]
      · rfl
    rw [this]
    exact h.keys
theorem insP_spec (f : Nat → Bs) (key : Bs) : ∀ n, (∀ i, insP f key n ≤ i → i < n → Op.bytesLess key (f i) = true) ∧ (0 < insP f key n → Op.bytesLess key (f (insP f key n - 1)) = false)
  | 0 => by simp [insP]
  | n + 1 => by
    obtain ⟨h1, h2⟩ := insP_spec f key n
    unfold insP
    split
    · rename_i hl
      refine ⟨fun i hi hn => ?_, h2⟩
      by_cases e : i = n
      · subst e; exact hl
      · exact h1 i hi (by omega)
    · rename_i hl
      exact ⟨fun i hi hn => by omega, fun _ => by simpa using hl⟩
theorem AK.Ok.ins {k : AK} (h : k.Ok) {key val : Bs} (hf : k.find key = none) (l4 : k.ps.length < 4) (k1 : 1 ≤ key.length) (k2 : key.length ≤ 2) (hv : val.length ≤ 3) : (k.ins key val).Ok := by
  have hj := insP_le k.key key k.ps.length
  obtain ⟨s1, s2⟩ := insP_spec k.key key k.ps.length
  unfold AK.ins
  generalize insP k.key key k.ps.length = j at *
  have hget : ∀ i (hi : i < k.ps.length), k.key i = (k.ps[i]).1 := fun i hi => by simp [AK.key, List.getD_eq_getElem?_getD, List.getElem?_eq_getElem hi]
  have hk := h.keys
  refine h.upd_ps (by simp; omega) ?_ ?_
  · intro p hp
    rcases List.mem_append.1 hp with hp | hp
    · exact h.ps p (List.mem_of_mem_take hp)
    · rcases List.mem_cons.1 hp with rfl | hp
      · exact ⟨k1, k2, hv⟩
      · exact h.ps p (List.mem_of_mem_drop hp)
  · rw [List.map_append, List.map_cons, List.map_take, List.map_drop]
    rw [List.pairwise_append]
    have hup : ∀ x ∈ (k.ps.map (·.1)).drop j, Op.bytesLess key x = true := by
      intro x hx
      obtain ⟨i, hi, rfl⟩ := List.mem_iff_getElem.1 hx
      simp only [List.length_drop, List.length_map] at hi
      rw [List.getElem_drop, List.getElem_map]
      have := s1 (j + i) (by omega) (by omega)
      rwa [hget _ (by omega)] at this
    have hlo : ∀ x ∈ (k.ps.map (·.1)).take j, Op.bytesLess x key = true := by
      intro x hx
      obtain ⟨i, hi, rfl⟩ := List.mem_iff_getElem.1 hx
      simp only [List.length_take, List.length_map] at hi
      rw [List.getElem_take, List.getElem_map]
      have hj0 : 0 < j := by omega
      have h9 := s2 hj0
      rw [hget _ (by omega)] at h9
      have hne : key ≠ (k.ps[j - 1]'(by omega)).1 := fun e => AK.find_none hf _ (List.getElem_mem (by omega)) e.symm
      have hlt := less_total h9 hne
      by_cases e : i = j - 1
      · subst e; exact hlt
      · have := List.pairwise_iff_getElem.1 hk i (j - 1) (by simp; omega) (by simp; omega) (by omega)
        simp only [List.getElem_map] at this
        exact less_trans this hlt
    refine ⟨hk.sublist (List.take_sublist _ _), List.pairwise_cons.2 ⟨hup, hk.sublist (List.drop_sublist _ _)⟩, ?_⟩
    intro x hx y hy
    rcases List.mem_cons.1 hy with rfl | hy
    · exact hlo x hx
    · exact less_trans (hlo x hx) (hup y hy)
theorem AK.Ok.put {k : AK} (h : k.Ok) {key val : Bs} (k1 : 1 ≤ key.length) (k2 : key.length ≤ 2) (hv : val.length ≤ 3) : (k.put key val).2.Ok := by
  unfold AK.put
  cases hf : k.find key with
  | some i => exact h.set hf hv
  | none =>
    simp only []
    split
    · exact h
    · exact h.ins hf (by omega) k1 k2 hv
theorem AK.Ok.val_len {k : AK} (h : k.Ok) (i : Nat) : (k.val i).length ≤ 3 := by
  unfold AK.val
  rw [List.getD_eq_getElem?_getD]
  cases hi : k.ps[i]? with
  | none => simp
  | some p => exact (h.ps p (List.mem_of_getElem? hi)).2.2
theorem AK.put_err (k : AK) (key val : Bs) : (k.put key val).1 = 0 ∨ (k.put key val).1 = 6 := by
  unfold AK.put
  split
  · exact .inl rfl
  · split
    · exact .inr rfl
    · exact .inl rfl
theorem AK.Ok.run {k : AK} (h : k.Ok) {c : Cmd} (hc : cmdOK c = true) : (k.run c).2.Ok ∧ 0 ≤ (k.run c).1.err ∧ (k.run c).1.err < 16 ∧ (k.run c).1.val.length ≤ 3 := by
  obtain ⟨o0, o1, c0, c1, q0, q1, k1, k2, v3, d3⟩ := cmdOK_bounds hc
  unfold AK.run
  split
  · have := k.put_err c.key c.val
    exact ⟨h.put k1 k2 v3, by simp only []; omega, by simp only []; omega, by simp⟩
  · cases hf : k.find c.key with
    | none => exact ⟨h, by simp, by simp, by simp⟩
    | some i =>
      simp only []
      split
      · exact ⟨h, by simp, by simp, h.val_len i⟩
      · split
        · refine ⟨?_, by simp, by simp, h.val_len i⟩
          refine h.upd_ps ?_ (fun p hp => h.ps p (List.mem_of_mem_eraseIdx hp)) ?_
          · have := List.length_eraseIdx_le k.ps i; have := h.n4; omega
          · exact h.keys.sublist ((List.eraseIdx_sublist _ _).map _)
        · split
          · exact ⟨h, by simp, by simp, h.val_len i⟩
          · exact ⟨h.set hf v3, by simp, by simp, by simp⟩
theorem AK.Ok.apply {k : AK} (h : k.Ok) (l : Bs) : (k.apply l).2.Ok ∧ 0 ≤ (k.apply l).1.err ∧ (k.apply l).1.err < 16 ∧ (k.apply l).1.val.length ≤ 3 := by
  unfold AK.apply
  cases hd : decCmd l with
  | none => exact ⟨h, by simp, by simp, by simp⟩
  | some c =>
    have hc := decCmd_ok hd
    obtain ⟨o0, o1, c0, c1, q0, q1, k1, k2, v3, d3⟩ := cmdOK_bounds hc
    obtain ⟨r1, r2, r3, r4⟩ := h.run hc
    simp only []
    split
    · exact ⟨h, by simp, by simp, by simp⟩
    · split
      · exact ⟨h, h.e0 _, h.e1 _, h.a3 _⟩
      · refine ⟨⟨r1.n4, r1.ps, r1.asc, fun j => ?_, fun j => ?_, fun j => ?_, fun j => ?_, fun j => ?_⟩, r2, r3, r4⟩
        · show 0 ≤ upd _ _ _ j
          unfold upd; split
          · omega
          · exact r1.s0 j
        · show upd _ _ _ j ≤ _
          unfold upd; split
          · omega
          · exact r1.s1 j
        · show 0 ≤ (upd _ _ _ j : Ans).err
          unfold upd; split
          · exact r2
          · exact r1.e0 j
        · show (upd _ _ _ j : Ans).err < 16
          unfold upd; split
          · exact r3
          · exact r1.e1 j
        · show (upd _ _ _ j : Ans).val.length ≤ 3
          unfold upd; split
          · exact r4
          · exact r1.a3 j
theorem takeS_val (l : Bs) (p lo hi : Int) (h : 0 ≤ (takeS l p lo hi).2) (h0 : 0 ≤ lo) : lo ≤ (takeS l p lo hi).1.length ∧ ((takeS l p lo hi).1.length : Int) ≤ hi := by
  unfold takeS at *
  split at h
  · simp at h
  · rename_i h1
    rw [if_neg h1]
    simp only [] at *
    split at h
    · simp at h
    · rename_i h2
      rw [if_neg h2]
      simp only [List.length_take, List.length_drop]
      omega
theorem rPairs_ok {s : Bs} : ∀ (i : Nat) (ps : List (Bs × Bs)) (p : Int), rPairs s i = some (ps, p) → ps.length = i ∧ (∀ q ∈ ps, 1 ≤ q.1.length ∧ q.1.length ≤ 2 ∧ q.2.length ≤ 3) ∧ (ps.map (·.1)).Pairwise (fun p q => Op.bytesLess p q = true)
  | 0, ps, p, h => by simp [rPairs] at h; obtain ⟨rfl, rfl⟩ := h; simp
  | i + 1, ps, p, h => by
    unfold rPairs at h
    cases h2 : rPairs s i with
    | none => rw [h2] at h; cases h
    | some x =>
      obtain ⟨ps', p'⟩ := x
      obtain ⟨l1, l2, l3⟩ := rPairs_ok i ps' p' h2
      rw [h2] at h
      simp only [] at h
      split at h
      · cases h
      · rename_i hn
        injection h with h; injection h with ha hb
        subst ha; subst hb
        have hp2 : 0 ≤ (takeS s (takeS s p' 1 2).2 0 3).2 := by
          rcases Int.lt_or_le (takeS s (takeS s p' 1 2).2 0 3).2 0 with h | h
          · exact absurd (.inl h) hn
          · exact h
        have hv := takeS_val _ _ _ _ hp2 (by omega)
        have hp1 : 0 ≤ (takeS s p' 1 2).2 := by
          rcases Int.lt_or_le (takeS s p' 1 2).2 0 with h | h
          · have : (takeS s (takeS s p' 1 2).2 0 3).2 = -1 := by
              generalize (takeS s p' 1 2).2 = q at *
              unfold takeS; rw [if_pos (.inl h)]
            omega
          · exact h
        have hk := takeS_val _ _ _ _ hp1 (by omega)
        refine ⟨by simp [l1], ?_, ?_⟩
        · intro q hq
          rcases List.mem_append.1 hq with hq | hq
          · exact l2 q hq
          · simp only [List.mem_cons, List.not_mem_nil, or_false] at hq
            subst hq
            simp only []
            omega
        · rw [List.map_append, List.pairwise_append]
          refine ⟨l3, by simp, ?_⟩
          intro x hx y hy
          simp only [List.map_cons, List.map_nil, List.mem_cons, List.not_mem_nil, or_false] at hy
          subst hy
          have hi : 0 < i := by
            rcases Nat.eq_zero_or_pos i with rfl | h
            · have : ps' = [] := List.length_eq_zero_iff.1 l1
              subst this; simp at hx
            · exact h
          have hlast : Op.bytesLess (ps'.getD (i - 1) ([], [])).1 (takeS s p' 1 2).1 = true := by
            rcases hb : Op.bytesLess (ps'.getD (i - 1) ([], [])).1 (takeS s p' 1 2).1 with _ | _
            · exact absurd (.inr ⟨hi, hb⟩) hn
            · rfl
          have hge : (ps'.getD (i - 1) ([], [])).1 = (ps'.map (·.1))[i - 1]'(by simp; omega) := by
            rw [List.getElem_map, List.getD_eq_getElem?_getD, List.getElem?_eq_getElem (by omega)]; rfl
          obtain ⟨j, hj, rfl⟩ := List.mem_iff_getElem.1 hx
          rw [hge] at hlast
          by_cases e : j = i - 1
          · subst e; exact hlast
          · exact less_trans (List.pairwise_iff_getElem.1 l3 j (i - 1) hj (by simp; omega) (by simp at hj; omega)) hlast
theorem getU64_bd (s : Bs) (p : Int) : getU64 s p ≤ maxT := by
  unfold getU64
  split
  · unfold maxT; omega
  · split
    · unfold maxT; omega
    · omega
theorem byt_bd (s : Bs) (i : Nat) : 0 ≤ byt s i := by unfold byt; omega
theorem rSess_ok {s : Bs} {p0 : Int} : ∀ (i : Nat) (ss : List (Int × Ans)) (p : Int), rSess s p0 i = some (ss, p) → ∀ x ∈ ss, 0 ≤ x.1 ∧ x.1 ≤ maxT ∧ 0 ≤ x.2.err ∧ x.2.err < 16 ∧ x.2.val.length ≤ 3
  | 0, ss, p, h => by simp [rSess] at h; obtain ⟨rfl, rfl⟩ := h; simp
  | i + 1, ss, p, h => by
    unfold rSess at h
    cases h2 : rSess s p0 i with
    | none => rw [h2] at h; cases h
    | some x =>
      obtain ⟨ss', p'⟩ := x
      have l2 := rSess_ok i ss' p' h2
      rw [h2] at h
      simp only [] at h
      split at h
      · cases h
      · rename_i hn
        injection h with h; injection h with ha hb
        subst ha; subst hb
        intro x hx
        rcases List.mem_append.1 hx with hx | hx
        · exact l2 x hx
        · simp only [List.mem_cons, List.not_mem_nil, or_false] at hx
          subst hx
          have h1 : 0 ≤ getU64 s p' := by
            rcases Int.lt_or_le (getU64 s p') 0 with h | h
            · exact absurd (.inl h) hn
            · exact h
          have h3 : byt s (p' + 8).toNat < 16 := by
            rcases Int.lt_or_le (byt s (p' + 8).toNat) 16 with h | h
            · exact h
            · exact absurd (.inr (.inr (.inl h))) hn
          have h4 : 0 ≤ (takeS s (p' + 9) 0 3).2 := by
            rcases Int.lt_or_le (takeS s (p' + 9) 0 3).2 0 with h | h
            · exact absurd (.inr (.inr (.inr h))) hn
            · exact h
          have h5 := takeS_val _ _ _ _ h4 (by omega)
          have h6 := getU64_bd s p'
          have h7 := byt_bd s (p' + 8).toNat
          exact ⟨h1, h6, h7, h3, by simp only []; omega⟩
theorem restoreO_ok {s : Bs} {k : AK} (h : restoreO s = some k) : k.Ok := by
  unfold restoreO at h
  split at h
  · cases h
  · rename_i hn
    cases h2 : rPairs s (byt s 0).toNat with
    | none => rw [h2] at h; cases h
    | some x =>
      obtain ⟨ps, p⟩ := x
      rw [h2] at h
      simp only [] at h
      obtain ⟨l1, l2, l3⟩ := rPairs_ok _ _ _ h2
      cases h3 : rSess s p 3 with
      | none => rw [h3] at h; cases h
      | some y =>
        obtain ⟨ss, q⟩ := y
        rw [h3] at h
        simp only [] at h
        split at h
        · injection h with h
          subst h
          have l4 := rSess_ok _ _ _ h3
          have hz : ∀ c, 0 ≤ (ss.getD c (0, zAns)).1 ∧ (ss.getD c (0, zAns)).1 ≤ maxT ∧ 0 ≤ (ss.getD c (0, zAns)).2.err ∧ (ss.getD c (0, zAns)).2.err < 16 ∧ (ss.getD c (0, zAns)).2.val.length ≤ 3 := by
            intro c
            rw [List.getD_eq_getElem?_getD]
            cases hc : ss[c]? with
            | none => simp [zAns, maxT]
            | some v => exact l4 v (List.mem_of_getElem? hc)
          have hb4 : (byt s 0).toNat ≤ 4 := by
            have : ¬ 4 < byt s 0 := fun h => hn (.inr h)
            omega
          exact ⟨by show ps.length ≤ 4; omega, l2, List.pairwise_map.1 l3, fun c => (hz c).1, fun c => (hz c).2.1, fun c => (hz c).2.2.1, fun c => (hz c).2.2.2.1, fun c => (hz c).2.2.2.2⟩
        · cases h
theorem AK.Ok.restore {k : AK} (h : k.Ok) (s : Bs) : (k.restore s).2.Ok := by
  unfold AK.restore
  cases hr : restoreO s with
  | none => exact h
  | some k' => exact restoreO_ok hr
end Go.Tw
