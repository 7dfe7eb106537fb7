/- what Check asks for: the node's own invariant, kept by every event -/
import Derived.Test.Qxb6500990aGreatNod4
set_option linter.unusedVariables false
set_option linter.unusedSimpArgs false
namespace Go.Tw
open Go Go.Proofs Go.Proofs.Qxb6500990aGreat
structure AS.In (A : AS) : Prop where
  b : A.lg.now.base ≤ A.commit
  l : A.commit ≤ A.lg.now.last
theorem Lg.base_last (l : Lg) : l.base ≤ l.last := by unfold Lg.last; omega
theorem setTerm_log (a : AL) (t v : Int) : (a.setTerm t v).2.now.base = a.now.base ∧ (a.setTerm t v).2.now.last = a.now.last := by
  unfold AL.setTerm; split <;> exact ⟨rfl, rfl⟩
theorem AS.persist_log (A : AS) : A.persist.lg.now.base = A.lg.now.base ∧ A.persist.lg.now.last = A.lg.now.last ∧ A.persist.commit = A.commit ∧ A.persist.el = A.el := by
  unfold AS.persist
  split
  · exact ⟨rfl, rfl, rfl, rfl⟩
  · exact ⟨(setTerm_log _ _ _).1, (setTerm_log _ _ _).2, rfl, rfl⟩
theorem append_log (a : AL) (e : Entry) : (a.append e).2.now.base = a.now.base ∧ a.now.last ≤ (a.append e).2.now.last := by
  by_cases h : (a.append e).1 = 0
  · have := append_last h; exact ⟨this.1, by omega⟩
  · rw [append_err h]; exact ⟨rfl, Int.le_refl _⟩
theorem accF_log (c : Int) : ∀ (es : List Entry) (i : Int) (lg : AL) (m : Int), lg.now.base < i → i ≤ lg.now.last + 1 → c ≤ lg.now.last → m ≤ i - 1 →
    (accF c es i (lg, m)).1.now.base = lg.now.base ∧ c ≤ (accF c es i (lg, m)).1.now.last ∧ (accF c es i (lg, m)).2 ≤ (accF c es i (lg, m)).1.now.last
  | [], i, lg, m, h0, h1, h2, h3 => ⟨rfl, h2, by show m ≤ lg.now.last; omega⟩
  | e :: es, i, lg, m, h0, h1, h2, h3 => by
    obtain ⟨lg1, hlg⟩ : ∃ x, (if i ≤ lg.now.last then (lg.trunc i).2 else lg) = x := ⟨_, rfl⟩
    have hp : lg1.now.base = lg.now.base ∧ lg1.now.last = i - 1 := by
      rw [← hlg]
      split
      · rename_i h9
        exact trunc_last h0 h9
      · exact ⟨rfl, by omega⟩
    obtain ⟨p2, p3⟩ := hp
    have hu : accF c (e :: es) i (lg, m) = if i ≤ lg.now.last ∧ (lg.now.termAt i).1 = e.term then accF c es (i + 1) (lg, i) else if i ≤ lg.now.last ∧ i ≤ c then (lg, m) else if (lg1.append e).1 ≠ 0 then (lg1, m) else accF c es (i + 1) ((lg1.append e).2, i) := by
      rw [← hlg]; rfl
    rw [hu]
    split
    · exact accF_log c es (i + 1) lg i (by omega) (by omega) h2 (by omega)
    · split
      · exact ⟨rfl, h2, by show m ≤ lg.now.last; omega⟩
      · rename_i hc1 hc2
        have hci : c ≤ i - 1 := by
          by_cases h9 : i ≤ lg.now.last
          · have : ¬ i ≤ c := fun q => hc2 ⟨h9, q⟩
            omega
          · omega
        split
        · exact ⟨p2, by show c ≤ lg1.now.last; omega, by show m ≤ lg1.now.last; omega⟩
        · rename_i ha
          have ha0 : (lg1.append e).1 = 0 := Decidable.of_not_not ha
          obtain ⟨q1, q2⟩ := append_last ha0
          have := accF_log c es (i + 1) (lg1.append e).2 i (by omega) (by omega) (by omega) (by omega)
          exact ⟨by rw [this.1, q1, p2], this.2⟩
theorem install_log (a : AL) (i t : Int) (sn : Bs) : ((a.install i t sn).1 = 0 → (a.install i t sn).2.now.base = i) ∧ ((a.install i t sn).1 ≠ 0 → (a.install i t sn).2 = a) := by
  unfold AL.install
  split
  · exact ⟨fun h => absurd h (by simp), fun _ => rfl⟩
  · split
    · exact ⟨fun h => absurd h (by simp), fun _ => rfl⟩
    · split
      · exact ⟨fun h => absurd h (by simp), fun _ => rfl⟩
      · split
        · exact ⟨fun _ => rfl, fun h => absurd rfl h⟩
        · exact ⟨fun _ => rfl, fun h => absurd rfl h⟩
theorem compact_log {a : AL} {u : Int} {sn : Bs} : (a.compact u sn).2.now.last = a.now.last ∧ ((a.compact u sn).2.now.base = a.now.base ∨ (a.compact u sn).2.now.base = u) := by
  unfold AL.compact
  split
  · exact ⟨rfl, .inl rfl⟩
  · split
    · exact ⟨rfl, .inl rfl⟩
    · split
      · exact ⟨rfl, .inl rfl⟩
      · rename_i h1 h2 h3
        refine ⟨?_, .inr rfl⟩
        simp only [AL.rebase, AL.to, Lg.last, List.length_drop]
        unfold Lg.last at h3
        omega
/-- A' is A some steps on: the log has not shrunk below the commit -/
structure AS.Up (A A' : AS) : Prop where
  i : A'.In
  c : A.commit ≤ A'.commit
  l : A'.el.role = 2 → A.lg.now.last ≤ A'.lg.now.last
theorem AS.In.up {A A' : AS} (h : A.In) (hb : A'.lg.now.base = A.lg.now.base) (hl : A.lg.now.last ≤ A'.lg.now.last) (hc : A'.commit = A.commit) : AS.Up A A' :=
  ⟨⟨by rw [hb, hc]; exact h.b, by rw [hc]; exact Int.le_trans h.l hl⟩, by rw [hc]; exact Int.le_refl _, fun _ => hl⟩
theorem AS.In.persist_el {A : AS} (h : A.In) (e : EM) : AS.Up A (AS.persist { A with el := e }) := by
  obtain ⟨p1, p2, p3, _⟩ := AS.persist_log { A with el := e }
  exact h.up p1 (by rw [p2]; exact Int.le_refl _) p3
theorem AS.In.accept {A : AS} (h : A.In) (m : Msg) : (A.accept m).2.In ∧ A.commit ≤ (A.accept m).2.commit := by
  unfold AS.accept
  split
  · exact ⟨h, Int.le_refl _⟩
  · split
    · exact ⟨h, Int.le_refl _⟩
    · split
      · exact ⟨h, Int.le_refl _⟩
      · have := accF_log A.commit m.ents (m.index + 1) A.lg m.index (by omega) (by omega) h.l (by omega)
        obtain ⟨a1, a2, a3⟩ := this
        unfold AS.acc
        have hb := h.b
        refine ⟨⟨?_, ?_⟩, ?_⟩
        · show (accF A.commit m.ents (m.index + 1) (A.lg, m.index)).1.now.base ≤ max A.commit _
          rw [a1]; omega
        · show max A.commit _ ≤ (accF A.commit m.ents (m.index + 1) (A.lg, m.index)).1.now.last
          omega
        · show A.commit ≤ max A.commit _
          omega
theorem EM.heard_role {e : EM} {p t : Int} (h : (e.heard p t).1 = true) : (e.heard p t).2.role = 0 := by
  unfold EM.heard at *
  simp only [] at *
  split at h
  · simp at h
  · rename_i c; rw [if_neg c]
theorem AS.In.step {A : AS} (h : A.In) (m : Msg) : AS.Up A (A.step m).2 := by
  unfold AS.step
  split
  · exact h.up rfl (Int.le_refl _) rfl
  split
  · exact h.persist_el _
  split
  · unfold AS.voteCame; simp only []
    have hu := h.persist_el (A.el.gotVote m.frm m.term m.ok).2
    have hll : A.lg.now.last ≤ (AS.persist { A with el := (A.el.gotVote m.frm m.term m.ok).2 }).lg.now.last := by
      rw [(AS.persist_log { A with el := (A.el.gotVote m.frm m.term m.ok).2 }).2.1]; exact Int.le_refl _
    split
    · generalize AS.persist _ = A1 at *
      have := append_log A1.lg ⟨A1.el.term, []⟩
      have q1 := hu.i.b
      have q2 := hu.i.l
      refine ⟨⟨?_, ?_⟩, hu.c, fun _ => ?_⟩
      · show (A1.lg.append _).2.now.base ≤ A1.commit; rw [this.1]; exact q1
      · show A1.commit ≤ (A1.lg.append _).2.now.last; omega
      · show A.lg.now.last ≤ (A1.lg.append _).2.now.last; omega
    · exact hu
  split
  · unfold AS.entriesCame; simp only []
    have hu := h.persist_el (A.el.heard m.frm m.term).2
    have he := (AS.persist_log { A with el := (A.el.heard m.frm m.term).2 }).2.2.2
    split
    · rename_i hh
      have ha := hu.i.accept m
      refine ⟨ha.1, Int.le_trans hu.c ha.2, fun hr => ?_⟩
      rw [AS.accept_el, he] at hr
      have := EM.heard_role hh
      simp only [] at hr
      omega
    · exact hu
  split
  · unfold AS.snapCame; simp only []
    have hu := h.persist_el (A.el.heard m.frm m.term).2
    have he := (AS.persist_log { A with el := (A.el.heard m.frm m.term).2 }).2.2.2
    split
    · rename_i hh
      have hz := EM.heard_role hh
      generalize AS.persist _ = A1 at *
      have hn : A1.el.role ≠ 2 := by rw [he]; show (A.el.heard m.frm m.term).2.role ≠ 2; omega
      split
      · exact hu
      · rename_i hc
        have hi := install_log A1.lg m.index m.logTerm m.data
        split
        · rename_i h0
          have hb := hi.1 h0
          refine ⟨⟨?_, ?_⟩, ?_, fun hr => absurd hr hn⟩
          · show (A1.lg.install _ _ _).2.now.base ≤ m.index; rw [hb]; exact Int.le_refl _
          · show m.index ≤ (A1.lg.install _ _ _).2.now.last
            have := Lg.base_last (A1.lg.install m.index m.logTerm m.data).2.now
            omega
          · show A.commit ≤ m.index
            have := hu.c
            omega
        · rename_i h0
          have hb := hi.2 h0
          refine ⟨⟨?_, ?_⟩, hu.c, fun hr => absurd hr hn⟩
          · show (A1.lg.install _ _ _).2.now.base ≤ A1.commit; rw [hb]; exact hu.i.b
          · show A1.commit ≤ (A1.lg.install _ _ _).2.now.last; rw [hb]; exact hu.i.l
    · exact hu
  · unfold AS.ackCame
    have hs : ∀ A' : AS, A'.lg = A.lg → A'.commit = A.commit → AS.Up A A' := fun A' e1 e2 => h.up (by rw [e1]) (by rw [e1]; exact Int.le_refl _) e2
    have hk : ∀ p i, AS.Up A (A.acked p i) := fun p i => by
      have := AS.advF_bd { A with mtch := upd A.mtch p i, next := if A.next p ≤ i then upd A.next p (i + 1) else A.next } (A.lg.now.last - A.commit).toNat
      simp only [] at this
      have h1 := h.b
      have h2 := h.l
      refine ⟨⟨?_, ?_⟩, this.1, fun _ => Int.le_refl _⟩
      · show A.lg.now.base ≤ AS.advF _ (A.lg.now.last - A.commit).toNat; omega
      · show AS.advF _ (A.lg.now.last - A.commit).toNat ≤ A.lg.now.last; omega
    split
    · exact h.persist_el _
    · split
      · exact hs _ rfl rfl
      · split
        · split
          · exact hk _ _
          · exact hs _ rfl rfl
        · split
          · exact hs _ rfl rfl
          · exact hs _ rfl rfl
theorem AS.In.tick {A : AS} (h : A.In) : AS.Up A A.tick.2 := h.persist_el _
theorem AS.In.propose {A : AS} (h : A.In) (d : Bs) : AS.Up A (A.propose d).2 ∧ ((A.propose d).1.2 = 0 → (A.propose d).1.1 = (A.propose d).2.lg.now.last ∧ A.lg.now.last < (A.propose d).1.1) := by
  unfold AS.propose
  split
  · exact ⟨h.up rfl (Int.le_refl _) rfl, fun e => absurd e (by simp)⟩
  · split
    · exact ⟨h.up rfl (Int.le_refl _) rfl, fun e => absurd e (by simp)⟩
    · split
      · exact ⟨h.up rfl (Int.le_refl _) rfl, fun e => absurd e (by simp)⟩
      · rename_i ha
        have ha0 := Decidable.of_not_not ha
        have := append_last ha0
        exact ⟨h.up this.1 (by show _ ≤ (A.lg.append _).2.now.last; omega) rfl, fun _ => ⟨rfl, by show _ < (A.lg.append _).2.now.last; omega⟩⟩
theorem propose_err {A : AS} {d : Bs} (h : (A.propose d).1.2 ≠ 0) : (A.propose d).2 = A := by
  unfold AS.propose at *
  split
  · rfl
  · rename_i h1
    rw [if_neg h1] at h
    split
    · rfl
    · rename_i h2
      rw [if_neg h2] at h
      split
      · rfl
      · rename_i h3
        rw [if_neg h3] at h
        exact absurd rfl h
theorem AS.In.compact {A : AS} (h : A.In) (u : Int) (sn : Bs) : (A.compact u sn).2.In ∧ (A.compact u sn).2.lg.now.last = A.lg.now.last ∧ ((A.compact u sn).2.lg.now.base = A.lg.now.base ∨ (A.compact u sn).2.lg.now.base = u) := by
  unfold AS.compact
  split
  · exact ⟨h, rfl, .inl rfl⟩
  · rename_i hc
    obtain ⟨c1, c2⟩ := compact_log (a := A.lg) (u := u) (sn := sn)
    have h1 := h.b
    have h2 := h.l
    refine ⟨⟨?_, ?_⟩, c1, c2⟩
    · show (A.lg.compact u sn).2.now.base ≤ A.commit; omega
    · show A.commit ≤ (A.lg.compact u sn).2.now.last; omega
theorem AS.In.open (lg : AL) (e : EM) : (AS.open lg e).In := ⟨Int.le_refl _, Lg.base_last _⟩
/-- the node -/
structure AN.In (n : AN) : Prop where
  s : n.sy.In
  b : n.sy.lg.now.base ≤ n.applied
  c : n.applied ≤ n.sy.commit
  u : ∀ c, c < 3 → n.used c = true → n.sy.el.role = 2 ∧ n.applied < n.idx c ∧ n.idx c ≤ n.sy.lg.now.last ∧ 1 ≤ n.seq c ∧ n.seq c ≤ maxT
  z : ∀ c, c < 3 → n.used c = false → n.seq c = 0 ∧ n.idx c = 0
/-- in the midst of an event -/
structure AN.Md (n : AN) : Prop where
  s : n.sy.In
  c : n.applied ≤ n.sy.commit
  u : ∀ c, c < 3 → n.used c = true → (n.sy.el.role = 2 → n.idx c ≤ n.sy.lg.now.last) ∧ 1 ≤ n.seq c ∧ n.seq c ≤ maxT
  z : ∀ c, c < 3 → n.used c = false → n.seq c = 0 ∧ n.idx c = 0
theorem AN.Md.clear {n : AN} (h : n.Md) (c : Nat) : (n.clear c).Md := by
  refine ⟨h.s, h.c, fun k hk hu => ?_, fun k hk hu => ?_⟩
  · simp only [AN.clear, upd] at hu ⊢
    by_cases e : k = c
    · simp [e] at hu
    · simp only [e, if_false] at hu ⊢; exact h.u k hk hu
  · simp only [AN.clear, upd] at hu ⊢
    by_cases e : k = c
    · simp [e]
    · simp only [e, if_false] at hu ⊢; exact h.z k hk hu
theorem AN.Md.catchUp {n : AN} (h : n.Md) : n.catchUp.Md ∧ n.catchUp.sy.lg.now.base ≤ n.catchUp.applied := by
  unfold AN.catchUp
  split
  · exact ⟨⟨h.s, h.s.b, h.u, h.z⟩, Int.le_refl _⟩
  · exact ⟨h, by omega⟩
theorem AN.Md.compact {n : AN} (h : n.Md) (hb : n.sy.lg.now.base ≤ n.applied) : n.compact.Md ∧ n.compact.sy.lg.now.base ≤ n.compact.applied := by
  unfold AN.compact
  split
  · obtain ⟨c1, c2, c3⟩ := h.s.compact n.applied n.kv.snap
    have hel : (n.sy.compact n.applied n.kv.snap).2.el = n.sy.el := by unfold AS.compact; split <;> rfl
    have hco : (n.sy.compact n.applied n.kv.snap).2.commit = n.sy.commit := by unfold AS.compact; split <;> rfl
    refine ⟨⟨c1, by show n.applied ≤ _; rw [hco]; exact h.c, fun k hk hu => ?_, h.z⟩, ?_⟩
    · have := h.u k hk hu
      refine ⟨fun hr => ?_, this.2⟩
      show n.idx k ≤ (n.sy.compact n.applied n.kv.snap).2.lg.now.last
      rw [c2]
      refine this.1 ?_
      rw [← hel]; exact hr
    · show (n.sy.compact n.applied n.kv.snap).2.lg.now.base ≤ n.applied
      omega
  · exact ⟨h, hb⟩
theorem AN.Md.with_kv {n : AN} (h : n.Md) (k : AK) : AN.Md { n with kv := k } := ⟨h.s, h.c, h.u, h.z⟩
theorem AN.Md.run {n : AN} (h : n.Md) (d : Bs) : (n.run d).1.Md := by
  unfold AN.run
  split
  · exact (h.with_kv _).clear _
  · exact h.with_kv _
theorem AN.Md.apply1 {n : AN} (h : n.Md) (hc : n.applied < n.sy.commit) : n.apply1.1.Md := by
  have h1 : n.next.Md := ⟨h.s, by show n.applied + 1 ≤ n.sy.commit; omega, h.u, h.z⟩
  unfold AN.apply1
  split
  · exact h1
  · exact h1.run _
theorem AN.Md.applyN : ∀ (k : Nat) {n : AN}, n.Md → n.applied + k ≤ n.sy.commit → (AN.applyN k n).1.Md ∧ (AN.applyN k n).1.applied = n.applied + k ∧ (AN.applyN k n).1.sy = n.sy
  | 0, n, h, _ => ⟨h, by show n.applied = _; omega, rfl⟩
  | k + 1, n, h, hc => by
    obtain ⟨e1, e2⟩ := AN.apply1_sy n
    have := AN.Md.applyN k (h.apply1 (by omega)) (by rw [e1, e2]; omega)
    obtain ⟨a, b, c⟩ := this
    exact ⟨a, by show (AN.applyN k n.apply1.1).1.applied = _; rw [b, e2]; omega, by show (AN.applyN k n.apply1.1).1.sy = _; rw [c, e1]⟩
theorem AN.Md.apply {n : AN} (h : n.Md) : n.apply.1.Md ∧ n.apply.1.applied = n.sy.commit ∧ n.apply.1.sy = n.sy := by
  have hc := h.c
  have := AN.Md.applyN (n.sy.commit - n.applied).toNat h (by omega)
  unfold AN.apply
  exact ⟨this.1, by rw [this.2.1]; omega, this.2.2⟩
theorem AN.Md.give {n : AN} (h : n.Md) (c : Nat) : (n.give c).1.Md := by
  unfold AN.give; split
  · exact h.clear c
  · exact h
theorem AN.give_eq (n : AN) (c : Nat) : (n.give c).1.sy = n.sy ∧ (n.give c).1.applied = n.applied ∧ (∀ k, (n.give c).1.used k = true → n.used k = true ∧ (n.give c).1.idx k = n.idx k) ∧ ¬ (n.give c).1.lost c := by
  unfold AN.give
  split
  · refine ⟨rfl, rfl, fun k hu => ?_, fun hl => ?_⟩
    · simp only [AN.clear, upd] at hu ⊢
      by_cases e : k = c
      · simp [e] at hu
      · simp only [e, if_false] at hu ⊢; exact ⟨hu, trivial⟩
    · have := hl.1
      simp [AN.clear, upd] at this
  · rename_i hl
    exact ⟨rfl, rfl, fun k hu => ⟨hu, rfl⟩, hl⟩
theorem AN.Md.giveN : ∀ (k c : Nat) {n : AN}, n.Md → (∀ j, j < c → ¬ n.lost j) → (AN.giveN k c n).1.Md ∧ (AN.giveN k c n).1.sy = n.sy ∧ (AN.giveN k c n).1.applied = n.applied ∧ ∀ j, j < c + k → ¬ (AN.giveN k c n).1.lost j
  | 0, c, n, h, hl => ⟨h, rfl, rfl, fun j hj => hl j hj⟩
  | k + 1, c, n, h, hl => by
    obtain ⟨e1, e2, e3, e4⟩ := AN.give_eq n c
    have hl' : ∀ j, j < c + 1 → ¬ (n.give c).1.lost j := fun j hj => by
      by_cases e : j = c
      · rw [e]; exact e4
      · intro hq
        refine hl j (by omega) ?_
        unfold AN.lost at *
        obtain ⟨q1, q2⟩ := e3 j hq.1
        rw [e1, e2, q2] at hq
        exact ⟨q1, hq.2⟩
    have := AN.Md.giveN k (c + 1) (h.give c) hl'
    obtain ⟨a1, a2, a3, a4⟩ := this
    exact ⟨a1, by show (AN.giveN k (c + 1) (n.give c).1).1.sy = _; rw [a2, e1], by show (AN.giveN k (c + 1) (n.give c).1).1.applied = _; rw [a3, e2], fun j hj => a4 j (by omega)⟩
theorem AN.Md.after {n : AN} (h : n.Md) (ms : List Msg) : (n.after ms).2.In := by
  obtain ⟨h1, b1⟩ := h.catchUp
  obtain ⟨h2, b2⟩ := h1.compact b1
  obtain ⟨h3, a3, s3⟩ := h2.apply
  obtain ⟨h4, s4, a4, l4⟩ := AN.Md.giveN 3 0 h3 (fun j hj => absurd hj (by omega))
  have hb := h2.s.b
  show (AN.giveN 3 0 n.catchUp.compact.apply.1).1.In
  refine ⟨h4.s, by rw [s4, a4, a3, s3]; exact hb, by rw [s4, a4, a3, s3]; exact Int.le_refl _, fun c hc hu => ?_, h4.z⟩
  have hl := l4 c (by omega)
  unfold AN.lost at hl
  have hr : (AN.giveN 3 0 n.catchUp.compact.apply.1).1.sy.el.role = 2 := Decidable.of_not_not fun q => hl ⟨hu, .inl q⟩
  have hi : ¬ (AN.giveN 3 0 n.catchUp.compact.apply.1).1.idx c ≤ (AN.giveN 3 0 n.catchUp.compact.apply.1).1.applied := fun q => hl ⟨hu, .inr q⟩
  have := h4.u c hc hu
  exact ⟨hr, by omega, this.1 hr, this.2⟩
theorem AN.In.core {n : AN} (h : n.In) {A : AS} (hu : AS.Up n.sy A) : AN.Md { n with sy := A } :=
  ⟨hu.i, Int.le_trans h.c hu.c, fun c hc q => ⟨fun hr => Int.le_trans (h.u c hc q).2.2.1 (hu.l hr), (h.u c hc q).2.2.2⟩, h.z⟩
theorem AN.In.tick {n : AN} (h : n.In) : n.tick.2.In := (h.core h.s.tick).after _
theorem AN.In.receive {n : AN} (h : n.In) (raw : Bs) : (n.receive raw).2.In := by
  unfold AN.receive
  split
  · exact h
  · split
    · exact h
    · exact (h.core (h.s.step _)).after _
theorem AN.In.call {n : AN} (h : n.In) (c : Cmd) : (n.call c).2.In := by
  unfold AN.call
  split
  · exact h
  · rename_i hc
    split
    · exact h
    · rename_i hr
      split
      · exact h
      · rename_i hu
        obtain ⟨p1, p2⟩ := h.s.propose (encCmd c)
        split
        · rename_i he
          have e1 : (n.sy.propose (encCmd c)).2 = n.sy := propose_err he
          show AN.In { n with sy := (n.sy.propose (encCmd c)).2 }
          rw [e1]; exact h
        · rename_i he
          have he0 := Decidable.of_not_not he
          obtain ⟨q1, q2⟩ := p2 he0
          have hcm : cmdOK c = true := by
            rcases hb : cmdOK c with _ | _
            · exact absurd hb hc
            · rfl
          obtain ⟨_, _, _, _, s0, s1, _⟩ := cmdOK_bounds hcm
          have hm := h.core p1
          refine AN.Md.after (n := { n with sy := (n.sy.propose (encCmd c)).2, used := upd n.used c.client.toNat true, seq := upd n.seq c.client.toNat c.seq, idx := upd n.idx c.client.toNat (n.sy.propose (encCmd c)).1.1 }) ⟨hm.s, hm.c, fun k hk hu => ?_, fun k hk hu => ?_⟩ _
          · simp only [upd] at hu ⊢
            by_cases e : k = c.client.toNat
            · simp only [e, if_true]; exact ⟨fun _ => by rw [q1]; exact Int.le_refl _, s0, s1⟩
            · simp only [e, if_false] at hu ⊢; exact hm.u k hk hu
          · simp only [upd] at hu ⊢
            by_cases e : k = c.client.toNat
            · simp [e] at hu
            · simp only [e, if_false] at hu ⊢; exact hm.z k hk hu
theorem AN.In.open (A : AS) (h : A.In) (hb : 0 ≤ A.commit) : (AN.open A).In := by
  have h1 : AN.Md ⟨A, AK.new, 0, fun _ => false, fun _ => 0, fun _ => 0⟩ := ⟨h, hb, fun _ _ q => absurd q (by simp), fun _ _ _ => ⟨rfl, rfl⟩⟩
  obtain ⟨h2, h3⟩ := h1.catchUp
  have hu : (AN.open A).used = fun _ => false := by unfold AN.open AN.catchUp; split <;> rfl
  refine ⟨h2.s, h3, h2.c, fun c hc q => ?_, h2.z⟩
  rw [hu] at q; simp at q
end Go.Tw
