/- every state that the log has gone through is sound; how many steps an event takes -/
import Derived.Test.Qxb6500990aGreatInv
import Derived.Test.Qxb6500990aGreatLa5
set_option linter.unusedVariables false
set_option linter.unusedSimpArgs false
namespace Go.Tw
open Go Go.Proofs Go.Proofs.Qxb6500990aGreat
/-- b is a, some sound steps on -/
def AL.Ex (a b : AL) : Prop := b.mark = a.mark ∧ ∃ l : List Lg, b.hist = a.hist ++ l ∧ ∀ s ∈ l, s.Ok
theorem AL.Ex.refl (a : AL) : AL.Ex a a := ⟨rfl, [], by simp, by simp⟩
theorem AL.Ex.trans {a b c : AL} (h : AL.Ex a b) (h' : AL.Ex b c) : AL.Ex a c := by
  obtain ⟨e1, l, e2, e3⟩ := h
  obtain ⟨f1, k, f2, f3⟩ := h'
  refine ⟨by rw [f1, e1], l ++ k, by rw [f2, e2, List.append_assoc], fun s hs => ?_⟩
  rcases List.mem_append.1 hs with h | h
  · exact e3 s h
  · exact f3 s h
theorem AL.Ex.to (a : AL) {s : Lg} (h : s.Ok) : AL.Ex a (a.to s) := ⟨rfl, [s], rfl, by simpa using h⟩
theorem AL.setTerm_ex {a : AL} (h : a.now.Ok) (t v : Int) : AL.Ex a (a.setTerm t v).2 := by
  have := AL.setTerm_ok h t v
  unfold AL.setTerm at *
  split
  · rename_i c; rw [if_pos c] at this; exact .to a this
  · exact .refl a
theorem AL.append_ex {a : AL} (h : a.now.Ok) (e : Entry) : AL.Ex a (a.append e).2 := by
  have := AL.append_ok h e
  unfold AL.append at *
  split
  · rename_i c
    rw [if_pos c] at this
    split
    · exact .refl a
    · rename_i c2; rw [if_neg c2] at this; exact .to a this
  · exact .refl a
theorem Lg.Ok.pop {s : Lg} (h : s.Ok) : Lg.Ok { s with ents := s.ents.dropLast } := by
  obtain ⟨t0, t1, v0, v1, b0, bt0, bt1, sn, n6, lm, en⟩ := h
  refine ⟨t0, t1, v0, v1, b0, bt0, bt1, sn, ?_, ?_, fun e he => en e ((List.dropLast_sublist _).subset he)⟩
  · show s.ents.dropLast.length ≤ 6; simp; omega
  · have : s.ents.dropLast.length ≤ s.ents.length := by simp
    show s.base + (s.ents.dropLast.length : Int) ≤ maxT
    omega
theorem AL.pop_ex {a : AL} (h : a.now.Ok) : AL.Ex a a.pop := .to a h.pop
theorem AL.popN_ex : ∀ (n : Nat) {a : AL}, a.now.Ok → AL.Ex a (a.popN n) ∧ (a.popN n).now.Ok
  | 0, a, h => ⟨.refl a, h⟩
  | n + 1, a, h => by
    have := AL.popN_ex n (a := a.pop) h.pop
    exact ⟨(AL.pop_ex h).trans this.1, this.2⟩
theorem AL.trunc_ex {a : AL} (h : a.now.Ok) (i : Int) : AL.Ex a (a.trunc i).2 := by
  unfold AL.trunc; split
  · exact .refl a
  · exact (AL.popN_ex _ h).1
theorem AL.compact_ex {a : AL} (h : a.now.Ok) (u : Int) (sn : Bs) : AL.Ex a (a.compact u sn).2 := by
  have := AL.compact_ok h u sn
  unfold AL.compact at *
  split
  · exact .refl a
  · rename_i c1
    rw [if_neg c1] at this
    split
    · exact .refl a
    · rename_i c2
      rw [if_neg c2] at this
      split
      · exact .refl a
      · rename_i c3
        rw [if_neg c3] at this
        exact .to a this
theorem AL.install_ex {a : AL} (h : a.now.Ok) (i t : Int) (sn : Bs) : AL.Ex a (a.install i t sn).2 := by
  have := AL.install_ok h i t sn
  unfold AL.install at *
  split
  · exact .refl a
  · rename_i c1
    rw [if_neg c1] at this
    split
    · exact .refl a
    · rename_i c2
      rw [if_neg c2] at this
      split
      · exact .refl a
      · rename_i c3
        rw [if_neg c3] at this
        split
        · rename_i c4
          rw [if_pos c4] at this
          exact .to a this
        · rename_i c4
          rw [if_neg c4] at this
          exact (AL.popN_ex _ h).1.trans (.to _ this)
theorem accF_ex (c : Int) : ∀ (es : List Entry) (i : Int) (lg : AL) (m : Int), lg.now.Ok → AL.Ex lg (accF c es i (lg, m)).1
  | [], _, lg, _, _ => .refl lg
  | e :: es, i, lg, m, hl => by
    obtain ⟨lg1, hlg⟩ : ∃ x, (if i ≤ lg.now.last then (lg.trunc i).2 else lg) = x := ⟨_, rfl⟩
    have hp : lg1.now.Ok ∧ AL.Ex lg lg1 := by
      rw [← hlg]
      split
      · exact ⟨AL.trunc_ok hl i, AL.trunc_ex hl i⟩
      · exact ⟨hl, .refl _⟩
    have hu : accF c (e :: es) i (lg, m) = if i ≤ lg.now.last ∧ (lg.now.termAt i).1 = e.term then accF c es (i + 1) (lg, i) else if i ≤ lg.now.last ∧ i ≤ c then (lg, m) else if (lg1.append e).1 ≠ 0 then (lg1, m) else accF c es (i + 1) ((lg1.append e).2, i) := by
      rw [← hlg]; rfl
    rw [hu]
    split
    · exact accF_ex c es (i + 1) lg i hl
    · split
      · exact .refl _
      · split
        · exact hp.2
        · exact (hp.2.trans (AL.append_ex hp.1 e)).trans (accF_ex c es (i + 1) _ i (AL.append_ok hp.1 e))
theorem AS.persist_ex {A : AS} (h : A.lg.now.Ok) : AL.Ex A.lg A.persist.lg := by
  unfold AS.persist; split
  · exact .refl _
  · exact AL.setTerm_ex h _ _
theorem AS.step_ex {A : AS} (h : A.lg.now.Ok) (m : Msg) : AL.Ex A.lg (A.step m).2.lg := by
  have pe : ∀ e, AL.Ex A.lg (AS.persist { A with el := e }).lg := fun e => AS.persist_ex (A := { A with el := e }) h
  have pk : ∀ e, (AS.persist { A with el := e }).lg.now.Ok := fun e => AS.persist_ok (A := { A with el := e }) h
  unfold AS.step
  split
  · exact .refl _
  split
  · exact pe _
  split
  · unfold AS.voteCame; simp only []
    split
    · exact (pe _).trans (AL.append_ex (pk _) _)
    · exact pe _
  split
  · unfold AS.entriesCame; simp only []
    have h1 := pe (A.el.heard m.frm m.term).2
    have h2 := pk (A.el.heard m.frm m.term).2
    split
    · generalize AS.persist _ = A1 at *
      unfold AS.accept
      split
      · exact h1
      · split
        · exact h1
        · split
          · exact h1
          · exact h1.trans (accF_ex _ _ _ _ _ h2)
    · exact h1
  split
  · unfold AS.snapCame; simp only []
    have h1 := pe (A.el.heard m.frm m.term).2
    have h2 := pk (A.el.heard m.frm m.term).2
    split
    · generalize AS.persist _ = A1 at *
      split
      · exact h1
      · split
        · exact h1.trans (AL.install_ex h2 _ _ _)
        · exact h1.trans (AL.install_ex h2 _ _ _)
    · exact h1
  · unfold AS.ackCame
    split
    · exact pe _
    · split
      · exact .refl _
      · split
        · split
          · exact .refl _
          · exact .refl _
        · split
          · exact .refl _
          · exact .refl _
theorem AS.tick_ex {A : AS} (h : A.lg.now.Ok) : AL.Ex A.lg A.tick.2.lg := AS.persist_ex (A := { A with el := A.el.tick.2 }) h
theorem AS.propose_ex {A : AS} (h : A.lg.now.Ok) (d : Bs) : AL.Ex A.lg (A.propose d).2.lg ∧ (A.propose d).2.el = A.el ∧ (A.propose d).2.lg.hist.length ≤ A.lg.hist.length + 1 := by
  unfold AS.propose
  split
  · exact ⟨.refl _, rfl, by simp⟩
  · split
    · exact ⟨.refl _, rfl, by simp⟩
    · split
      · exact ⟨.refl _, rfl, by simp⟩
      · exact ⟨AL.append_ex h _, rfl, AL.append_len _ _⟩
theorem AN.after_ex {n : AN} (h : n.Ok) (ms : List Msg) : AL.Ex n.sy.lg (n.after ms).2.sy.lg ∧ (n.after ms).2.sy.el = n.sy.el ∧ (n.after ms).2.sy.lg.hist.length ≤ n.sy.lg.hist.length + 1 := by
  have e1 : (n.after ms).2.sy = n.catchUp.compact.sy := by
    show (AN.giveN 3 0 n.catchUp.compact.apply.1).1.sy = _
    have g : ∀ k c (x : AN), (AN.giveN k c x).1.sy = x.sy := by
      intro k
      induction k with
      | zero => intro c x; rfl
      | succ k ih => intro c x; show (AN.giveN k (c + 1) (x.give c).1).1.sy = _; rw [ih, (AN.give_eq x c).1]
    rw [g]
    exact AN.applyN_sy _ _
  have e2 : n.catchUp.sy = n.sy := AN.catchUp_sy n
  rw [e1]
  unfold AN.compact
  split
  · rw [← e2]
    have hk := h.catchUp.sy.lg
    generalize n.catchUp = x at *
    show AL.Ex x.sy.lg (x.sy.compact x.applied x.kv.snap).2.lg ∧ (x.sy.compact x.applied x.kv.snap).2.el = _ ∧ (x.sy.compact x.applied x.kv.snap).2.lg.hist.length ≤ _
    unfold AS.compact
    split
    · exact ⟨.refl _, rfl, by simp⟩
    · exact ⟨AL.compact_ex hk _ _, rfl, AL.compact_len _ _ _⟩
  · rw [e2]; exact ⟨.refl _, rfl, by omega⟩
/-- what holds of a node between events -/
structure AN.Gd (n : AN) : Prop where
  ok : n.Ok
  inn : n.In
  t1 : n.sy.el.T1
  mrk : n.sy.lg.mark.Ok
  hs : ∀ s ∈ n.sy.lg.hist, s.Ok
theorem AN.event_ex {n : AN} (h : n.Gd) (o : OpR) : (n.event o).2.Gd ∧ (n.event o).2.sy.el.id = n.sy.el.id ∧ (n.event o).2.sy.lg.hist.length ≤ n.sy.lg.hist.length + 21 := by
  have key : ∀ (n1 n2 : AN), n2.Ok → n2.In → n2.sy.el.T1 → AL.Ex n.sy.lg n2.sy.lg → n2.Gd := by
    intro n1 n2 a b c ⟨d1, l, d2, d3⟩
    refine ⟨a, b, c, by rw [d1]; exact h.mrk, fun s hs => ?_⟩
    rw [d2] at hs
    rcases List.mem_append.1 hs with q | q
    · exact h.hs s q
    · exact d3 s q
  unfold AN.event
  split
  · obtain ⟨a1, a2, a3⟩ := AN.after_ex (n := { n with sy := n.sy.tick.2 }) (h.ok.with_sy h.ok.sy.tick) n.sy.tick.1
    have e : n.tick = AN.after { n with sy := n.sy.tick.2 } n.sy.tick.1 := rfl
    rw [e]
    refine ⟨key n _ h.ok.tick h.inn.tick ?_ ((AS.tick_ex h.ok.sy.lg).trans a1), ?_, ?_⟩
    · rw [a2]; exact AS.tick_T1 h.t1 h.ok.sy.el.t0
    · rw [a2]; exact AS.tick_el _
    · have := AS.tick_len n.sy; simp only [] at a3; omega
  · split
    · unfold AN.receive
      split
      · exact ⟨h, rfl, by simp⟩
      · rename_i m hm
        split
        · exact ⟨h, rfl, by simp⟩
        · rename_i hno
          obtain ⟨a1, a2, a3⟩ := AN.after_ex (n := { n with sy := (n.sy.step m).2 }) (h.ok.with_sy (h.ok.sy.step m)) (n.sy.step m).1
          have hok := h.ok.receive o.s
          have hin := h.inn.receive o.s
          unfold AN.receive at hok hin
          simp only [hm, if_neg hno] at hok hin
          refine ⟨key n _ hok hin ?_ ((AS.step_ex h.ok.sy.lg m).trans a1), ?_, ?_⟩
          · rw [a2]; exact AS.step_T1 h.t1 m
          · rw [a2]; exact AS.step_id _ _
          · have := AS.step_len h.ok.sy m; simp only [] at a3; omega
    · generalize cmdOf o = c
      have hok := h.ok.call c
      have hin := h.inn.call c
      unfold AN.call at *
      split
      · exact ⟨h, rfl, by simp⟩
      · rename_i c1
        rw [if_neg c1] at hok hin
        split
        · exact ⟨h, rfl, by simp⟩
        · rename_i c2
          rw [if_neg c2] at hok hin
          split
          · exact ⟨h, rfl, by simp⟩
          · rename_i c3
            rw [if_neg c3] at hok hin
            obtain ⟨p1, p2, p3⟩ := AS.propose_ex h.ok.sy.lg (encCmd c)
            split
            · rename_i c4
              rw [if_pos c4] at hok hin
              refine ⟨key n _ hok hin ?_ p1, ?_, ?_⟩
              · show (n.sy.propose (encCmd c)).2.el.T1; rw [p2]; exact h.t1
              · show (n.sy.propose (encCmd c)).2.el.id = _; rw [p2]
              · show (n.sy.propose (encCmd c)).2.lg.hist.length ≤ _; omega
            · rename_i c4
              rw [if_neg c4] at hok hin
              have hp := h.ok.with_sy (h.ok.sy.propose (encCmd c))
              obtain ⟨a1, a2, a3⟩ := AN.after_ex (n := { n with sy := (n.sy.propose (encCmd c)).2, used := upd n.used c.client.toNat true, seq := upd n.seq c.client.toNat c.seq, idx := upd n.idx c.client.toNat (n.sy.propose (encCmd c)).1.1 }) ⟨hp.sy, hp.kv, hp.a0, hp.a1⟩ []
              refine ⟨key n _ hok hin ?_ (p1.trans a1), ?_, ?_⟩
              · rw [a2]; show (n.sy.propose (encCmd c)).2.el.T1; rw [p2]; exact h.t1
              · rw [a2]; show (n.sy.propose (encCmd c)).2.el.id = _; rw [p2]
              · simp only [] at a3; omega
theorem AN.Gd.mark {n : AN} (h : n.Gd) : n.mark.Gd :=
  ⟨⟨⟨h.ok.sy.lg, h.ok.sy.el, h.ok.sy.c0, h.ok.sy.c1, h.ok.sy.n1, h.ok.sy.m0, h.ok.sy.m1⟩, h.ok.kv, h.ok.a0, h.ok.a1⟩, ⟨⟨h.inn.s.b, h.inn.s.l⟩, h.inn.b, h.inn.c, h.inn.u, h.inn.z⟩, h.t1, h.ok.sy.lg, by simp [AN.mark, AS.mark, Lg.al]⟩
theorem AS.open_ok {s : Lg} (h : s.Ok) (id : Int) : (AS.open s.al (EM.new id)).Ok := by
  have oe := EM.ok_new id
  have l1 := h.lm
  refine ⟨h, ⟨oe.id0, oe.id1, h.t0, h.t1, h.v0, h.v1, by show (0:Int) ≤ 0; omega, by show (0:Int) < 3; omega, by show (-1:Int) ≤ -1; omega, by show (-1:Int) < 3; omega, by show (0:Int) ≤ 0; omega, ?_⟩, h.b0, ?_, fun _ => ?_, fun _ => Int.le_refl 0, fun _ => ?_⟩
  · have := oe.id0; show (0:Int) < 3 + 2 * (EM.new id).id; omega
  · show s.base ≤ maxT; omega
  · show (0:Int) ≤ maxT + 1; unfold maxT; omega
  · show (0:Int) ≤ maxT; unfold maxT; omega
theorem AN.Gd.open {s : Lg} (h : s.Ok) (id : Int) : (AN.open (AS.open s.al (EM.new id))).Gd := by
  have hk := AS.open_ok h id
  have hsy : (AN.open (AS.open s.al (EM.new id))).sy = AS.open s.al (EM.new id) := AN.catchUp_sy _
  refine ⟨?_, AN.In.open _ (AS.In.open _ _) h.b0, by rw [hsy]; exact EM.T1.restore _ _ _, by rw [hsy]; exact h, by rw [hsy]; simp [AS.open, Lg.al]⟩
  exact AN.Ok.catchUp ⟨hk, AK.new_ok, by show (0:Int) ≤ 0; omega, by show (0:Int) ≤ maxT; unfold maxT; omega⟩
theorem AN.open_rows (A : AS) : (AN.open A).used = (fun _ => false) ∧ (AN.open A).seq = (fun _ => 0) ∧ (AN.open A).idx = (fun _ => 0) := by
  unfold AN.open AN.catchUp; split <;> exact ⟨rfl, rfl, rfl⟩
theorem AL.state_ok {a : AL} (hm : a.mark.Ok) (hh : ∀ s ∈ a.hist, s.Ok) (k : Int) : (a.state k).Ok := by
  unfold AL.state
  split
  · exact hm
  · rename_i n hn
    have : n < a.hist.length := by omega
    have e : a.hist.getD n a.mark = a.hist[n] := by simp [List.getD, this]
    rw [e]
    exact hh _ (List.getElem_mem this)
theorem EM.new_new (id : Int) : EM.new (EM.new id).id = EM.new id := by
  have := EM.ok_new id
  unfold EM.new at *
  have h0 := this.id0
  have h1 := this.id1
  simp only [] at *
  rw [if_neg (by omega)]
theorem AN.Gd.atk {n : AN} (h : n.Gd) (k : Int) : (n.atk k).Gd := AN.Gd.open (AL.state_ok h.mrk h.hs k) _
end Go.Tw
