/- the node as it is meant: bounds stay; what is sent fits -/
import Derived.Test.Qxb6500990aGreatNod3
import Derived.Test.Qxb6500990aGreatKvOk
set_option linter.unusedVariables false
set_option linter.unusedSimpArgs false
namespace Go.Tw
open Go Go.Proofs Go.Proofs.Qxb6500990aGreat Go.RowKit
theorem AS.Ok.send {A : AS} (h : A.Ok) {p : Nat} (hp : p < 3) : MsgOk (A.send p) := by
  obtain ⟨⟨t0, t1, v0, v1, b0, bt0, bt1, sn, n6, lm, en⟩, ⟨i0, i1, u0, u1, _, _, _, _, _, _, _, _⟩, c0, c1, n1, m0, m1⟩ := h
  have hok : A.lg.now.Ok := ⟨t0, t1, v0, v1, b0, bt0, bt1, sn, n6, lm, en⟩
  unfold AS.send
  split
  · constructor <;> simp only [List.length_nil, List.not_mem_nil] <;> first | omega | (intro x hx; exact hx.elim) | (unfold maxT; omega) | skip
  · rename_i hn
    have ht := Lg.termAt_ok hok (A.next p - 1)
    have hnp := n1 p
    have hl : (A.lg.now.batch (A.next p)).length ≤ 2 := by unfold Lg.batch; rw [Lg.batchN_len]; unfold Lg.cnt; omega
    constructor <;> simp only [List.length_nil] <;> first | omega | skip
    intro x hx
    unfold Lg.batch Lg.batchN at hx
    obtain ⟨j, _, rfl⟩ := List.mem_map.1 hx
    exact Lg.at_ok hok _
theorem AS.Ok.sendAll {A : AS} (h : A.Ok) : ∀ m ∈ A.sendAll, MsgOk m := by
  intro m hm
  unfold AS.sendAll AS.sendN at hm
  obtain ⟨p, hp, rfl⟩ := List.mem_map.1 hm
  have := List.mem_range.1 (List.mem_filter.1 hp).1
  exact h.send this
theorem AS.Ok.reply {A : AS} (h : A.Ok) {k p i : Int} (ok : Bool) (k0 : 1 ≤ k) (k1 : k ≤ 5) (p0 : 0 ≤ p) (p1 : p < 3) (i0 : 0 ≤ i) (i1 : i ≤ maxT) : MsgOk (A.reply k p ok i) := by
  obtain ⟨_, ⟨e0, e1, u0, u1, _, _, _, _, _, _, _, _⟩, c0, c1, n1, m0, m1⟩ := h
  unfold AS.reply
  constructor <;> simp only [List.length_nil, List.not_mem_nil] <;> first | omega | (intro x hx; exact hx.elim) | (unfold maxT; omega) | skip
theorem AS.Ok.vote {A : AS} (h : A.Ok) : ∀ m ∈ A.voteN 3, MsgOk m := by
  intro m hm
  unfold AS.voteN at hm
  obtain ⟨p, hp, rfl⟩ := List.mem_map.1 hm
  have hp3 := List.mem_range.1 (List.mem_filter.1 hp).1
  have l0 := h.lg.last0
  have l1 := h.lg.last1
  have ht := Lg.termAt_ok h.lg A.lg.now.last
  obtain ⟨_, ⟨e0, e1, u0, u1, _, _, _, _, _, _, _, _⟩, c0, c1, n1, m0, m1⟩ := h
  constructor <;> simp only [List.length_nil, List.not_mem_nil] <;> first | omega | (intro x hx; exact hx.elim) | (unfold maxT; omega) | skip
theorem AS.Ok.tick {A : AS} (h : A.Ok) : A.tick.2.Ok := (h.with_el h.el.tick).persist
theorem AS.tick_len (A : AS) : A.tick.2.lg.hist.length ≤ A.lg.hist.length + 1 := AS.persist_len _
theorem AS.Ok.tick_msgs {A : AS} (h : A.Ok) : ∀ m ∈ A.tick.1, MsgOk m := by
  have h1 : (AS.persist { A with el := A.el.tick.2 }).Ok := (h.with_el h.el.tick).persist
  unfold AS.tick
  simp only []
  split
  · exact h1.sendAll
  · split
    · exact h1.vote
    · intro m hm; simp at hm
theorem AS.tick_cnt (A : AS) : A.tick.1.length ≤ 3 := by
  unfold AS.tick
  simp only []
  split
  · exact AS.sendN_len _ 3
  · split
    · exact AS.voteN_len _ 3
    · simp
theorem trunc_last {a : AL} {i : Int} (h : a.now.base < i) (h2 : i ≤ a.now.last) : (a.trunc i).2.now.base = a.now.base ∧ (a.trunc i).2.now.last = i - 1 := by
  unfold AL.trunc
  rw [if_neg (by omega)]
  simp only []
  unfold Lg.last at *
  rw [AL.popN_now]
  simp only [List.length_take]
  refine ⟨trivial, ?_⟩
  omega
theorem append_last {a : AL} {e : Entry} (h : (a.append e).1 = 0) : (a.append e).2.now.base = a.now.base ∧ (a.append e).2.now.last = a.now.last + 1 := by
  unfold AL.append at *
  split at h
  · rename_i h1
    rw [if_pos h1]
    split at h
    · simp at h
    · rename_i h2
      rw [if_neg h2]
      refine ⟨rfl, ?_⟩
      simp only [AL.to, Lg.last, List.length_append, List.length_cons, List.length_nil]
      omega
  · simp at h
theorem accF_m (c : Int) : ∀ (es : List Entry) (i : Int) (lg : AL) (m : Int), lg.now.Ok → 0 ≤ m → m ≤ maxT → lg.now.base < i → i ≤ lg.now.last + 1 → 0 ≤ (accF c es i (lg, m)).2 ∧ (accF c es i (lg, m)).2 ≤ maxT
  | [], _, _, _, _, h0, h1, _, _ => ⟨h0, h1⟩
  | e :: es, i, lg, m, hl, h0, h1, hb, hi => by
    have b0 := hl.b0
    have l1 := hl.last1
    obtain ⟨lg1, hlg⟩ : ∃ x, (if i ≤ lg.now.last then (lg.trunc i).2 else lg) = x := ⟨_, rfl⟩
    have hp : lg1.now.Ok ∧ lg1.now.base = lg.now.base ∧ lg1.now.last = i - 1 := by
      rw [← hlg]
      split
      · rename_i h9
        exact ⟨AL.trunc_ok hl i, trunc_last hb h9⟩
      · exact ⟨hl, rfl, by omega⟩
    obtain ⟨p1, p2, p3⟩ := hp
    have hu : accF c (e :: es) i (lg, m) = if i ≤ lg.now.last ∧ (lg.now.termAt i).1 = e.term then accF c es (i + 1) (lg, i) else if i ≤ lg.now.last ∧ i ≤ c then (lg, m) else if (lg1.append e).1 ≠ 0 then (lg1, m) else accF c es (i + 1) ((lg1.append e).2, i) := by
      rw [← hlg]; rfl
    rw [hu]
    split
    · rename_i hc
      exact accF_m c es (i + 1) lg i hl (by omega) (by omega) (by omega) (by omega)
    · split
      · exact ⟨h0, h1⟩
      · split
        · exact ⟨h0, h1⟩
        · rename_i hq hc ha
          have ha0 : (lg1.append e).1 = 0 := Decidable.of_not_not ha
          obtain ⟨q1, q2⟩ := append_last ha0
          have q3 := (AL.append_ok p1 e).last1
          exact accF_m c es (i + 1) (lg1.append e).2 i (AL.append_ok p1 e) (by omega) (by omega) (by omega) (by omega)
theorem AS.Ok.accept_idx {A : AS} (h : A.Ok) {m : Msg} (i0 : 0 ≤ m.index) (i1 : m.index ≤ maxT) : 0 ≤ (A.accept m).1.2 ∧ (A.accept m).1.2 ≤ maxT := by
  have b0 := h.lg.b0
  have l0 := h.lg.last0
  have l1 := h.lg.last1
  have bl : A.lg.now.base ≤ A.lg.now.last := by unfold Lg.last; omega
  unfold AS.accept
  split
  · simp only []; omega
  · split
    · simp only []; omega
    · split
      · simp only []; split <;> omega
      · exact accF_m A.commit m.ents (m.index + 1) A.lg m.index h.lg i0 i1 (by omega) (by omega)
theorem AS.Ok.step_msgs {A : AS} (h : A.Ok) (m : Msg) : ∀ x ∈ (A.step m).1, MsgOk x := by
  have one : ∀ {y : Msg}, MsgOk y → ∀ x ∈ [y], MsgOk x := fun hy x hx => by rw [List.mem_singleton.1 hx]; exact hy
  have non : ∀ x ∈ ([] : List Msg), MsgOk x := fun x hx => by simp at hx
  unfold AS.step
  split
  · exact non
  · rename_i hg
    have hm : msgOK m = true := by
      rcases hb : msgOK m with _ | _
      · exact absurd (.inl hb) hg
      · rfl
    have hf : m.frm ≠ A.el.id := fun e => hg (.inr (.inr e))
    have mo := msgOK_iff.1 hm
    have hp := peer_of mo.f0 mo.f1 hf
    have mt0 : (0 : Int) ≤ maxT := by unfold maxT; omega
    have hf3 : m.frm.toNat < 3 := by have := mo.f0; have := mo.f1; omega
    split
    · exact one ((h.with_el (h.el.asked hp _ _)).persist.reply _ (by omega) (by omega) mo.f0 mo.f1 (by omega) mt0)
    · split
      · unfold AS.voteCame; simp only []
        split
        · exact (h.with_el (h.el.gotVote _ _ _)).persist.lead.sendAll
        · exact non
      · split
        · unfold AS.entriesCame; simp only []
          have h1 := (h.with_el (h.el.heard hp m.term)).persist
          have h2 := h1.accept_idx mo.i0 mo.i1
          split
          · exact one ((h1.accept m mo.c1).reply _ (by omega) (by omega) mo.f0 mo.f1 h2.1 h2.2)
          · exact one (h1.reply _ (by omega) (by omega) mo.f0 mo.f1 (by omega) mt0)
        · split
          · unfold AS.snapCame; simp only []
            have h1 := (h.with_el (h.el.heard hp m.term)).persist
            generalize AS.persist { A with el := (A.el.heard m.frm m.term).2 } = A1 at *
            split
            · split
              · exact one (h1.reply _ (by omega) (by omega) mo.f0 mo.f1 h1.c0 h1.c1)
              · split
                · exact one (h1.reply _ (by omega) (by omega) mo.f0 mo.f1 mo.i0 mo.i1)
                · exact one (h1.reply _ (by omega) (by omega) mo.f0 mo.f1 (by omega) mt0)
            · exact one (h1.reply _ (by omega) (by omega) mo.f0 mo.f1 (by omega) mt0)
          · unfold AS.ackCame
            split
            · exact non
            · split
              · exact non
              · split
                · split
                  · simp only []
                    split
                    · exact one ((h.acked _ mo.i0 mo.i1).send hf3)
                    · exact non
                  · exact non
                · split
                  · refine one (AS.Ok.send (A := { A with next := upd A.next m.frm.toNat (A.back m.frm.toNat m.index) }) ⟨h.lg, h.el, h.c0, h.c1, fun q => ?_, h.m0, h.m1⟩ hf3)
                    show upd A.next _ _ q ≤ _
                    have := h.m1 m.frm.toNat
                    have := mo.i1
                    unfold upd AS.back
                    split
                    · split <;> omega
                    · exact h.n1 q
                  · exact non
theorem AS.step_cnt (A : AS) (m : Msg) : (A.step m).1.length ≤ 3 := by
  unfold AS.step
  split
  · simp
  · split
    · simp [AS.voteAsked]
    · split
      · unfold AS.voteCame; simp only []
        split
        · exact AS.sendN_len _ 3
        · simp
      · split
        · unfold AS.entriesCame; simp only []
          split <;> simp
        · split
          · unfold AS.snapCame; simp only []
            split
            · split
              · simp
              · split <;> simp
            · simp
          · unfold AS.ackCame
            split
            · simp
            · split
              · simp
              · split
                · split
                  · simp only []; split <;> simp
                  · simp
                · split <;> simp
/-- what holds of a node between events -/
structure AN.Ok (n : AN) : Prop where
  sy : n.sy.Ok
  kv : n.kv.Ok
  a0 : 0 ≤ n.applied
  a1 : n.applied ≤ maxT
def AN.cnt (n : AN) : Nat := (n.used 0).toNat + (n.used 1).toNat + (n.used 2).toNat
theorem AN.cnt_le (n : AN) : n.cnt ≤ 3 := by unfold AN.cnt; have := Bool.toNat_le (n.used 0); have := Bool.toNat_le (n.used 1); have := Bool.toNat_le (n.used 2); omega
theorem AN.cnt_clear {n : AN} {c : Nat} (h : c < 3) (hu : n.used c = true) : (n.clear c).cnt + 1 = n.cnt := by
  unfold AN.cnt AN.clear upd
  simp only []
  have : c = 0 ∨ c = 1 ∨ c = 2 := by omega
  rcases this with rfl | rfl | rfl <;> simp [hu] <;> omega
theorem AN.Ok.clear {n : AN} (h : n.Ok) (c : Nat) : (n.clear c).Ok := ⟨h.sy, h.kv, h.a0, h.a1⟩
theorem AN.Ok.catchUp {n : AN} (h : n.Ok) : n.catchUp.Ok := by
  unfold AN.catchUp
  split
  · have := h.sy.lg.last1
    have := h.sy.lg.b0
    exact ⟨h.sy, h.kv.restore _, this, by show n.sy.lg.now.base ≤ maxT; unfold Lg.last at *; omega⟩
  · exact h
theorem AS.Ok.compact {A : AS} (h : A.Ok) (u : Int) (sn : Bs) : (A.compact u sn).2.Ok := by
  unfold AS.compact
  split
  · exact h
  · exact h.with_lg (AL.compact_ok h.lg u sn)
theorem AN.Ok.compact {n : AN} (h : n.Ok) : n.compact.Ok := by
  unfold AN.compact
  split
  · exact ⟨h.sy.compact _ _, h.kv, h.a0, h.a1⟩
  · exact h
theorem AN.answers_some {n : AN} {d : Bs} {c : Cmd} (h : n.answers d = some c) : decCmd d = some c ∧ n.used c.client.toNat = true ∧ n.seq c.client.toNat = c.seq ∧ c.client.toNat < 3 ∧ 0 ≤ c.client := by
  unfold AN.answers at h
  cases hd : decCmd d with
  | none => rw [hd] at h; cases h
  | some c' =>
    rw [hd] at h
    simp only [] at h
    split at h
    · rename_i hc
      injection h with h
      subst h
      obtain ⟨o0, o1, c0, c1, _⟩ := cmdOK_bounds (decCmd_ok hd)
      exact ⟨rfl, hc.1, hc.2, by omega, c0⟩
    · cases h
theorem AN.run_cnt (n : AN) (d : Bs) : (n.run d).1.cnt + (n.run d).2.length = n.cnt := by
  unfold AN.run
  cases h : n.answers d with
  | none => rfl
  | some c =>
    obtain ⟨_, h2, _, h4, _⟩ := AN.answers_some h
    exact AN.cnt_clear (n := { n with kv := (n.kv.apply d).2 }) h4 h2
theorem AN.Ok.run {n : AN} (h : n.Ok) (d : Bs) : (n.run d).1.Ok := by
  unfold AN.run
  split
  · exact AN.Ok.clear (n := { n with kv := (n.kv.apply d).2 }) ⟨h.sy, (h.kv.apply d).1, h.a0, h.a1⟩ _
  · exact ⟨h.sy, (h.kv.apply d).1, h.a0, h.a1⟩
theorem AN.run_sy (n : AN) (d : Bs) : (n.run d).1.sy = n.sy ∧ (n.run d).1.applied = n.applied := by
  unfold AN.run
  split <;> exact ⟨rfl, rfl⟩
theorem AN.apply1_cnt (n : AN) : n.apply1.1.cnt + n.apply1.2.length = n.cnt := by
  unfold AN.apply1
  split
  · rfl
  · exact AN.run_cnt _ _
theorem AN.apply1_sy (n : AN) : n.apply1.1.sy = n.sy ∧ n.apply1.1.applied = n.applied + 1 := by
  unfold AN.apply1
  split
  · exact ⟨rfl, rfl⟩
  · exact AN.run_sy _ _
theorem AN.Ok.apply1 {n : AN} (h : n.Ok) (h1 : n.applied < n.sy.commit) : n.apply1.1.Ok := by
  have hx : n.next.Ok := ⟨h.sy, h.kv, by have := h.a0; show 0 ≤ n.applied + 1; omega, by have := h.sy.c1; show n.applied + 1 ≤ maxT; omega⟩
  unfold AN.apply1
  split
  · exact hx
  · exact hx.run _
theorem AN.give_cnt (n : AN) {c : Nat} (hc : c < 3) : (n.give c).1.cnt + (n.give c).2.length = n.cnt := by
  unfold AN.give
  split
  · rename_i h
    simpa using AN.cnt_clear hc h.1
  · rfl
theorem AN.Ok.give {n : AN} (h : n.Ok) (c : Nat) : (n.give c).1.Ok := by
  unfold AN.give
  split
  · exact h.clear c
  · exact h
theorem AN.Ok.applyN : ∀ (k : Nat) {n : AN}, n.Ok → n.applied + k ≤ n.sy.commit → (AN.applyN k n).1.Ok
  | 0, _, h, _ => h
  | k + 1, n, h, hk => by
    unfold AN.applyN
    obtain ⟨e1, e2⟩ := n.apply1_sy
    exact AN.Ok.applyN k (h.apply1 (by omega)) (by rw [e1, e2]; omega)
theorem AN.Ok.apply {n : AN} (h : n.Ok) : n.apply.1.Ok := by
  unfold AN.apply
  by_cases hc : n.applied ≤ n.sy.commit
  · exact AN.Ok.applyN _ h (by omega)
  · have : (n.sy.commit - n.applied).toNat = 0 := by omega
    rw [this]; exact h
theorem AN.Ok.giveN : ∀ (k c : Nat) {n : AN}, n.Ok → (AN.giveN k c n).1.Ok
  | 0, _, _, h => h
  | k + 1, c, _, h => AN.Ok.giveN k (c + 1) (h.give c)
theorem AN.Ok.after {n : AN} (h : n.Ok) (ms : List Msg) : (n.after ms).2.Ok := AN.Ok.giveN 3 0 h.catchUp.compact.apply
theorem AN.Ok.with_sy {n : AN} (h : n.Ok) {A : AS} (hA : A.Ok) : AN.Ok { n with sy := A } := ⟨hA, h.kv, h.a0, h.a1⟩
theorem AN.Ok.tick {n : AN} (h : n.Ok) : n.tick.2.Ok := (h.with_sy h.sy.tick).after _
theorem AN.Ok.receive {n : AN} (h : n.Ok) (raw : Bs) : (n.receive raw).2.Ok := by
  unfold AN.receive
  split
  · exact h
  · split
    · exact h
    · exact (h.with_sy (h.sy.step _)).after _
theorem AS.Ok.propose {A : AS} (h : A.Ok) (d : Bs) : (A.propose d).2.Ok := by
  unfold AS.propose
  split
  · exact h
  · split
    · exact h
    · split
      · exact h
      · exact h.with_lg (AL.append_ok h.lg _)
theorem AN.Ok.call {n : AN} (h : n.Ok) (c : Cmd) : (n.call c).2.Ok := by
  unfold AN.call
  have hp := h.with_sy (h.sy.propose (encCmd c))
  split
  · exact h
  · split
    · exact h
    · split
      · exact h
      · split
        · exact hp
        · exact AN.Ok.after (n := { n with sy := (n.sy.propose (encCmd c)).2, used := upd n.used c.client.toNat true, seq := upd n.seq c.client.toNat c.seq, idx := upd n.idx c.client.toNat (n.sy.propose (encCmd c)).1.1 }) ⟨hp.sy, hp.kv, hp.a0, hp.a1⟩ _
end Go.Tw
