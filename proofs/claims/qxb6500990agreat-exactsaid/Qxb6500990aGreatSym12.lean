/- the protocol core's Step as it is meant; the core beside the message at hand and the answer -/
import Derived.Test.Qxb6500990aGreatSym10
set_option linter.unusedVariables false
set_option linter.unusedSimpArgs false
namespace Go.Tw
open Go Go.Proofs Go.Proofs.Qxb6500990aGreat Go.RowKit
def AS.reply (A : AS) (k p : Int) (ok : Bool) (i : Int) : Msg := ⟨k, A.el.id, p, A.el.term, i, 0, 0, ok, [], []⟩
def AS.upto (A : AS) (m : Msg) : Bool := decide ((A.lg.now.termAt A.lg.now.last).1 < m.logTerm ∨ (m.logTerm = (A.lg.now.termAt A.lg.now.last).1 ∧ A.lg.now.last ≤ m.index))
def AS.voteAsked (A : AS) (m : Msg) : List Msg × AS :=
  let A1 := AS.persist { A with el := (A.el.asked m.frm m.term (A.upto m)).2 }
  ([A1.reply 2 m.frm (A.el.asked m.frm m.term (A.upto m)).1 0], A1)
/-- the book opened anew, the no-op appended -/
def AS.lead (A : AS) : AS := { A with next := fun _ => A.lg.now.last + 1, mtch := fun _ => 0, lg := (A.lg.append ⟨A.el.term, []⟩).2 }
def AS.voteCame (A : AS) (m : Msg) : List Msg × AS :=
  let A1 := AS.persist { A with el := (A.el.gotVote m.frm m.term m.ok).2 }
  if (A.el.gotVote m.frm m.term m.ok).1 = true then (A1.lead.sendAll, A1.lead) else ([], A1)
def AS.entriesCame (A : AS) (m : Msg) : List Msg × AS :=
  let A1 := AS.persist { A with el := (A.el.heard m.frm m.term).2 }
  if (A.el.heard m.frm m.term).1 = true then ([(A1.accept m).2.reply 4 m.frm (A1.accept m).1.1 (A1.accept m).1.2], (A1.accept m).2) else ([A1.reply 4 m.frm false 0], A1)
def AS.snapCame (A : AS) (m : Msg) : List Msg × AS :=
  let A1 := AS.persist { A with el := (A.el.heard m.frm m.term).2 }
  if (A.el.heard m.frm m.term).1 = true then
    (if m.index ≤ A1.commit then ([A1.reply 4 m.frm true A1.commit], A1)
     else if (A1.lg.install m.index m.logTerm m.data).1 = 0 then ([A1.reply 4 m.frm true m.index], { A1 with lg := (A1.lg.install m.index m.logTerm m.data).2, commit := m.index })
     else ([A1.reply 4 m.frm false 0], { A1 with lg := (A1.lg.install m.index m.logTerm m.data).2 }))
  else ([A1.reply 4 m.frm false 0], A1)
/-- peer p holds up to i -/
def AS.acked (A : AS) (p : Nat) (i : Int) : AS := AS.advance { A with mtch := upd A.mtch p i, next := if A.next p ≤ i then upd A.next p (i + 1) else A.next }
def AS.back (A : AS) (p : Nat) (i : Int) : Int := if i + 1 ≤ A.mtch p then A.mtch p + 1 else i + 1
def AS.ackCame (A : AS) (m : Msg) : List Msg × AS :=
  if A.el.sees m.term = true then ([], AS.persist { A with el := A.el.see m.term })
  else if A.el.role ≠ 2 ∨ m.term ≠ A.el.term then ([], A)
  else if m.ok = true then
    (if A.mtch m.frm.toNat < m.index ∧ m.index ≤ A.lg.now.last then
      (if (A.acked m.frm.toNat m.index).next m.frm.toNat ≤ A.lg.now.last then [(A.acked m.frm.toNat m.index).send m.frm.toNat] else [], A.acked m.frm.toNat m.index)
     else ([], A))
  else if A.back m.frm.toNat m.index < A.next m.frm.toNat then
    ([AS.send { A with next := upd A.next m.frm.toNat (A.back m.frm.toNat m.index) } m.frm.toNat], { A with next := upd A.next m.frm.toNat (A.back m.frm.toNat m.index) })
  else ([], A)
def AS.step (A : AS) (m : Msg) : List Msg × AS :=
  if msgOK m = false ∨ m.to ≠ A.el.id ∨ m.frm = A.el.id then ([], A)
  else if m.kind = 1 then A.voteAsked m
  else if m.kind = 2 then A.voteCame m
  else if m.kind = 3 then A.entriesCame m
  else if m.kind = 5 then A.snapCame m
  else A.ackCame m
theorem EM.see_id (e : EM) (t : Int) : (e.see t).id = e.id := by unfold EM.see; split <;> rfl
theorem EM.asked_id (e : EM) (p t : Int) (u : Bool) : (e.asked p t u).2.id = e.id := by unfold EM.asked; simp only []; split <;> exact e.see_id t
theorem EM.gotVote_id (e : EM) (p t : Int) (u : Bool) : (e.gotVote p t u).2.id = e.id := by unfold EM.gotVote; simp only []; (repeat' split) <;> rfl
theorem EM.heard_id (e : EM) (p t : Int) : (e.heard p t).2.id = e.id := by unfold EM.heard; simp only []; split <;> exact e.see_id t
theorem AS.persist_id (A : AS) : A.persist.el.id = A.el.id := by rw [A.persist_eq.1]
theorem AS.accept_el (A : AS) (m : Msg) : (A.accept m).2.el = A.el := by unfold AS.accept; (repeat' split) <;> rfl
/-- what holds between events -/
structure AS.Ok (A : AS) : Prop where
  lg : A.lg.now.Ok
  el : A.el.Ok
  c0 : 0 ≤ A.commit
  c1 : A.commit ≤ maxT
  n1 : ∀ p, A.next p ≤ maxT + 1
  m0 : ∀ p, 0 ≤ A.mtch p
  m1 : ∀ p, A.mtch p ≤ maxT
theorem Lg.Ok.last0 {l : Lg} (h : l.Ok) : 0 ≤ l.last := by have := h.b0; unfold Lg.last; omega
theorem Lg.Ok.last1 {l : Lg} (h : l.Ok) : l.last ≤ maxT := by have := h.lm; unfold Lg.last; omega
theorem AS.Ok.persist {A : AS} (h : A.Ok) : A.persist.Ok := by
  obtain ⟨e1, e2, e3, e4⟩ := A.persist_eq
  exact ⟨A.persist_ok h.lg, e1 ▸ h.el, e2 ▸ h.c0, e2 ▸ h.c1, e3 ▸ h.n1, e4 ▸ h.m0, e4 ▸ h.m1⟩
theorem AS.Ok.with_el {A : AS} (h : A.Ok) {e : EM} (he : e.Ok) : AS.Ok { A with el := e } := ⟨h.lg, he, h.c0, h.c1, h.n1, h.m0, h.m1⟩
theorem AS.Ok.with_lg {A : AS} (h : A.Ok) {l : AL} (hl : l.now.Ok) : AS.Ok { A with lg := l } := ⟨hl, h.el, h.c0, h.c1, h.n1, h.m0, h.m1⟩
theorem AS.Ok.lead {A : AS} (h : A.Ok) : A.lead.Ok :=
  ⟨AL.append_ok h.lg _, h.el, h.c0, h.c1, fun _ => by have := h.lg.last1; show A.lg.now.last + 1 ≤ _; omega, fun _ => Int.le_refl 0, fun _ => by show (0 : Int) ≤ maxT; unfold maxT; omega⟩
theorem AS.advF_bd (A : AS) (k : Nat) : A.commit ≤ A.advF k ∧ A.advF k ≤ A.commit + k := by
  induction k with
  | zero => simp [AS.advF]
  | succ k ih => unfold AS.advF; split <;> omega
theorem AS.Ok.advance {A : AS} (h : A.Ok) : A.advance.Ok := by
  have h1 := A.advF_bd (A.lg.now.last - A.commit).toNat
  have h2 := h.lg.last1
  have h3 := h.c0
  have h4 := h.c1
  exact ⟨h.lg, h.el, by show 0 ≤ A.advF _; omega, by show A.advF _ ≤ _; omega, h.n1, h.m0, h.m1⟩
theorem AS.Ok.acked {A : AS} (h : A.Ok) (p : Nat) {i : Int} (i0 : 0 ≤ i) (i1 : i ≤ maxT) : (A.acked p i).Ok := by
  refine AS.Ok.advance ⟨h.lg, h.el, h.c0, h.c1, fun q => ?_, fun q => ?_, fun q => ?_⟩
  · show (if A.next p ≤ i then upd A.next p (i + 1) else A.next) q ≤ _
    split
    · unfold upd; split
      · omega
      · exact h.n1 q
    · exact h.n1 q
  · show 0 ≤ upd A.mtch p i q
    unfold upd; split
    · exact i0
    · exact h.m0 q
  · show upd A.mtch p i q ≤ _
    unfold upd; split
    · exact i1
    · exact h.m1 q
theorem AS.Ok.accept {A : AS} (h : A.Ok) (m : Msg) (c1 : m.commit ≤ maxT) : (A.accept m).2.Ok := by
  unfold AS.accept
  split
  · exact h
  · split
    · exact h
    · split
      · exact h
      · have h3 := h.c0
        have h4 := h.c1
        exact ⟨accF_ok _ _ _ _ h.lg, h.el, by simp only []; omega, by simp only []; omega, h.n1, h.m0, h.m1⟩
theorem c194 {W : World} {B : Nat} {v : Value} {m : Msg} (hv : EntsAt B W v m.ents) : Calls Tryz.prog 194 #[.agg (m.r v).cells] W fun r w' => r = .returned (.bool (msgOK m)) ∧ ∃ x, w' = W.alloc x := by
  rcases hb : hdOK m with _ | _
  · have : msgOK m = false := by rw [msgOK_eq, hb]; rfl
    rw [this]
    exact c194_bad hv hb
  · exact c194_good hv hb
theorem peer_of {A : AS} {m : Msg} (h0 : 0 ≤ m.frm) (h1 : m.frm < 3) (h2 : m.frm ≠ A.el.id) : A.el.peer m.frm = true := by unfold EM.peer; simp [h0, h1, h2]
theorem AS.Ok.step {A : AS} (h : A.Ok) (m : Msg) : (A.step m).2.Ok := by
  unfold AS.step
  split
  · exact h
  · rename_i hg
    have hm : msgOK m = true := by
      rcases hb : msgOK m with _ | _
      · exact absurd (.inl hb) hg
      · rfl
    have hf : m.frm ≠ A.el.id := fun e => hg (.inr (.inr e))
    unfold msgOK at hm
    simp only [Bool.and_eq_true, decide_eq_true_eq] at hm
    obtain ⟨⟨⟨_, _, f0, f1, _, _⟩, ⟨t0, t1, i0, i1⟩, ⟨_, _, c0, c1⟩, _⟩, _⟩ := hm
    have hp := peer_of f0 f1 hf
    split
    · exact (h.with_el (h.el.asked hp _ _)).persist
    · split
      · unfold AS.voteCame; simp only []
        split
        · exact (h.with_el (h.el.gotVote _ _ _)).persist.lead
        · exact (h.with_el (h.el.gotVote _ _ _)).persist
      · split
        · unfold AS.entriesCame; simp only []
          split
          · exact (h.with_el (h.el.heard hp _)).persist.accept m c1
          · exact (h.with_el (h.el.heard hp _)).persist
        · split
          · unfold AS.snapCame; simp only []
            have h1 := (h.with_el (h.el.heard hp m.term)).persist
            generalize AS.persist { A with el := (A.el.heard m.frm m.term).2 } = A1 at *
            have h2 := h1.with_lg (AL.install_ok h1.lg m.index m.logTerm m.data)
            split
            · split
              · exact h1
              · split
                · exact ⟨h2.lg, h2.el, i0, i1, h2.n1, h2.m0, h2.m1⟩
                · exact h2
            · exact h1
          · unfold AS.ackCame
            split
            · exact (h.with_el (h.el.see _)).persist
            · split
              · exact h
              · split
                · split
                  · exact h.acked _ i0 i1
                  · exact h
                · split
                  · refine ⟨h.lg, h.el, h.c0, h.c1, fun q => ?_, h.m0, h.m1⟩
                    show upd A.next _ _ q ≤ _
                    have := h.m1 m.frm.toNat
                    unfold upd AS.back
                    split
                    · split <;> omega
                    · exact h.n1 q
                  · exact h
theorem AS.accept_len {A : AS} (h : A.lg.now.Ok) (m : Msg) : (A.accept m).2.lg.hist.length ≤ A.lg.hist.length + 7 * m.ents.length := by
  unfold AS.accept
  split
  · simp
  · split
    · simp
    · split
      · simp
      · exact accF_len A.commit m.ents (m.index + 1) (A.lg, m.index) h
/-- steps that an event may take -/
theorem AS.step_len {A : AS} (h : A.Ok) (m : Msg) : (A.step m).2.lg.hist.length ≤ A.lg.hist.length + 20 := by
  unfold AS.step
  split
  · simp only []; omega
  · rename_i hg
    have hm : msgOK m = true := by
      rcases hb : msgOK m with _ | _
      · exact absurd (.inl hb) hg
      · rfl
    have hf : m.frm ≠ A.el.id := fun e => hg (.inr (.inr e))
    unfold msgOK at hm
    simp only [Bool.and_eq_true, decide_eq_true_eq] at hm
    obtain ⟨⟨⟨_, _, f0, f1, _, _⟩, ⟨t0, t1, i0, i1⟩, ⟨_, _, c0, c1⟩, el2, _⟩, _⟩ := hm
    have hp := peer_of f0 f1 hf
    have pl := fun e => AS.persist_len { A with el := e }
    simp only [] at pl
    split
    · have := pl (A.el.asked m.frm m.term (A.upto m)).2
      unfold AS.voteAsked; simp only []; omega
    · split
      · have := pl (A.el.gotVote m.frm m.term m.ok).2
        unfold AS.voteCame; simp only []
        generalize AS.persist { A with el := (A.el.gotVote m.frm m.term m.ok).2 } = A1 at *
        split
        · have := AL.append_len A1.lg ⟨A1.el.term, []⟩
          simp only [AS.lead]; omega
        · simp only []; omega
      · split
        · have := pl (A.el.heard m.frm m.term).2
          have ho := (h.with_el (h.el.heard hp m.term)).persist
          unfold AS.entriesCame; simp only []
          generalize AS.persist { A with el := (A.el.heard m.frm m.term).2 } = A1 at *
          split
          · have := AS.accept_len ho.lg m
            simp only []; omega
          · simp only []; omega
        · split
          · have := pl (A.el.heard m.frm m.term).2
            unfold AS.snapCame; simp only []
            have ho := (h.with_el (h.el.heard hp m.term)).persist
            generalize AS.persist { A with el := (A.el.heard m.frm m.term).2 } = A1 at *
            have := AL.install_len ho.lg m.index m.logTerm m.data
            split
            · split
              · simp only []; omega
              · split <;> simp only [] <;> omega
            · simp only []; omega
          · unfold AS.ackCame
            split
            · have := pl (A.el.see m.term); simp only []; omega
            · split
              · simp only []; omega
              · split
                · split
                  · simp only [AS.acked, AS.advance]; omega
                  · simp only []; omega
                · split <;> simp only [] <;> omega
section
variable {w w1 W : World} {G0 X : Nat → Prop} {b bl be bx br : Nat} {A A' : AS} {M R : MsgR}
theorem ents_out {G G0 : Nat → Prop} {W : World} {B : Nat} {v : Value} {es : List Entry} (hv : EntsAt B W v es) (hn : ∀ g, v.ownBlock = some g → ¬ G0 g) (hg : Grows G0 W G) : ∀ g, v.ownBlock = some g → ¬ G g := by
  intro g h hG
  rcases hg g hG with h1 | h1
  · exact hn g h h1
  · have := (ownsRow_block hv h).1
    omega
/-- an operation of the core, beside what is set aside -/
theorem SBx.call (h : SBx G0 W X b bl be A w) {f : Nat} {args : Array Value} {P : Ending → Prop} (hc : ∀ G, Grows G0 W G → SB G w b bl be A w → Calls Tryz.prog f args w fun r w' => P r ∧ SB G w b bl be A' w') :
    Calls Tryz.prog f args w fun r w' => P r ∧ SBx G0 W X b bl be A' w' ∧ ∀ x c T, X x → w.At x c T → w'.At x c T := by
  obtain ⟨G, h1, h2, h3, h4⟩ := h
  refine (hc G h2 (SB.start h1)).mono ?_
  rintro r w' ⟨hr, G', k1, k2, k3⟩
  refine ⟨hr, ⟨G', k1, fun k hk => (k2 k hk).elim (h2 k) (fun a => .inr (Nat.le_trans h3.size a)), h3.step k3 h2, fun k hk => ⟨Nat.lt_of_lt_of_le (h4 k hk).1 k3.size, fun g => ?_⟩⟩, fun x c T hx ha => k3.at ha (h4 x hx).2⟩
  rcases k2 k g with a | a
  · exact (h4 k hk).2 a
  · have := (h4 k hk).1; omega
/-- the core, the message M in block bx, the answer R in block br -/
structure StX (G0 : Nat → Prop) (W : World) (b bl be : Nat) (A : AS) (bx : Nat) (M : MsgR) (br : Nat) (R : MsgR) (w : World) : Prop where
  sx : SBx G0 W (fun k => k = bx ∨ k = br) b bl be A w
  hx : w.At bx M.cells 159
  hr : w.At br R.cells 159
  nx : bx ≠ br
  lx : W.heap.size ≤ bx
  lr : W.heap.size ≤ br
theorem StX.call (h : StX G0 W b bl be A bx M br R w) {f : Nat} {args : Array Value} {P : Ending → Prop} (hc : ∀ G, Grows G0 W G → SB G w b bl be A w → Calls Tryz.prog f args w fun r w' => P r ∧ SB G w b bl be A' w') :
    Calls Tryz.prog f args w fun r w' => P r ∧ StX G0 W b bl be A' bx M br R w' := by
  refine (h.sx.call hc).mono ?_
  rintro r w' ⟨hr, h1, h2⟩
  exact ⟨hr, h1, h2 _ _ _ (.inl rfl) h.hx, h2 _ _ _ (.inr rfl) h.hr, h.nx, h.lx, h.lr⟩
theorem StX.fr (h : StX G0 W b bl be A bx M br R w) (m : ModP (fun _ => False) w w1) : StX G0 W b bl be A bx M br R w1 :=
  ⟨h.sx.fr m, m.at h.hx (fun x => x), m.at h.hr (fun x => x), h.nx, h.lx, h.lr⟩
theorem StX.elec (h : StX G0 W b bl be A bx M br R w) {el' : EM} (m : Dr (w.put be el'.cells 218) w1) : StX G0 W b bl be { A with el := el' } bx M br R w1 := by
  obtain ⟨h1, h2⟩ := h.sx.elec m
  exact ⟨h1, h2 _ _ _ (.inl rfl) h.hx, h2 _ _ _ (.inr rfl) h.hr, h.nx, h.lx, h.lr⟩
theorem StX.log (h : StX G0 W b bl be A bx M br R w) {f : Nat} {args : Array Value} {P : Ending → Prop} {lg' : AL}
    (hc : ∀ G1, LMK w G1 bl A.lg → Calls Tryz.prog f args w fun r w' => P r ∧ LMK w' (grow G1 w) bl lg' ∧ ModP G1 w w') :
    Calls Tryz.prog f args w fun r w' => P r ∧ StX G0 W b bl be { A with lg := lg' } bx M br R w' := by
  refine (h.sx.log hc).mono ?_
  rintro r w' ⟨hr, h1, h2⟩
  exact ⟨hr, h1, h2 _ _ _ (.inl rfl) h.hx, h2 _ _ _ (.inr rfl) h.hr, h.nx, h.lx, h.lr⟩
theorem SBx.putX (h : SBx G0 W X b bl be A w) {x : Nat} (hx : X x) (c : Array Value) (T : TypeId) (hW : W.heap.size ≤ x) : SBx G0 W X b bl be A (w.put x c T) := by
  obtain ⟨G, h1, h2, h3, h4⟩ := h
  have mp : ModP (fun k => k = x) w (w.put x c T) := (ModP.refl (fun k => k = x) w).put (.inl rfl) c T
  exact ⟨G, h1.frame mp (fun k a e => (h4 x hx).2 (e ▸ a)), h2, h3.step mp (fun k e => .inr (e ▸ hW)), fun k hk => ⟨by rw [World.size_put]; exact (h4 k hk).1, (h4 k hk).2⟩⟩
theorem StX.re (h : StX G0 W b bl be A bx M br R w) (R' : MsgR) : StX G0 W b bl be A bx M br R' (w.put br R'.cells 159) :=
  ⟨h.sx.putX (.inr rfl) _ _ h.lr, (World.At_put_ne' h.nx).2 h.hx, World.At_put_same h.hr.inB, h.nx, h.lx, h.lr⟩
theorem StX.ne (h : StX G0 W b bl be A bx M br R w) : b ≠ bx ∧ b ≠ br := ⟨At.neT h.sx.sb.hb h.hx (by decide), At.neT h.sx.sb.hb h.hr (by decide)⟩
theorem StX.own (h : StX G0 W b bl be A bx M br R w) (c : Int) (n m : Nat → Int) : StX G0 W b bl be { A with commit := c, next := n, mtch := m } bx M br R (w.put b (SyR bl be { A with commit := c, next := n, mtch := m }).cells 179) :=
  ⟨h.sx.own c n m, (World.At_put_ne' (Ne.symm h.ne.1)).2 h.hx, (World.At_put_ne' (Ne.symm h.ne.2)).2 h.hr, h.nx, h.lx, h.lr⟩
/-- the three blocks laid open -/
theorem StX.door (h : StX G0 W b bl be A bx M br R w) : ∃ y : World, w = ((y.put bx M.cells 159).put br R.cells 159).put b (SyncM.cells ⟨vp bl, vp be, A.commit, A.next, A.mtch⟩) 179 ∧ y.inB bx ∧ y.inB br ∧ y.inB b ∧ bx ≠ br ∧ b ≠ bx ∧ b ≠ br ∧
    Hid (∀ R' c n m, StX G0 W b bl be { A with commit := c, next := n, mtch := m } bx M br R' (((y.put bx M.cells 159).put br R'.cells 159).put b (SyncM.cells ⟨vp bl, vp be, c, n, m⟩) 179)) := by
  obtain ⟨y, rfl, i1, i2, i3⟩ := open3 h.hx h.hr h.sx.sb.hb h.nx (Ne.symm h.ne.1) (Ne.symm h.ne.2)
  refine ⟨y, rfl, i1, i2, i3, h.nx, h.ne.1, h.ne.2, fun R' c n m => ?_⟩
  have h1 := h.re R'
  rw [World.put_comm h.ne.2, World.put_put_same] at h1
  have h2 := h1.own c n m
  rw [World.put_put_same] at h2
  exact h2
theorem SB.stx (h : SB G0 W b bl be A w) {w2 : World} {ob ob2 : Obj} (m : ModP (fun _ => False) (w.alloc ob) w1) (m2 : ModP (fun _ => False) (w1.alloc ob2) w2) (hx : w2.At w.heap.size M.cells 159) (hr : w2.At w1.heap.size R.cells 159) : StX G0 W b bl be A w.heap.size M w1.heap.size R w2 := by
  obtain ⟨G, h1, h2, h3⟩ := h
  have z1 := m.size
  have z2 := m2.size
  simp only [World.alloc, Array.size_push] at z1 z2
  have ma : ModP (fun _ => False) w w1 := ((ModP.refl _ _).alloc ob).trans m
  have mb : ModP (fun _ => False) w w2 := ma.trans (((ModP.refl _ _).alloc ob2).trans m2)
  refine ⟨⟨G, h1.frame mb (fun _ _ f => f), h2, h3.trans (mb.mono fun _ f => f.elim), fun k hk => ⟨?_, fun g => ?_⟩⟩, hx, hr, by omega, h3.size, by have := h3.size; omega⟩
  · rcases hk with rfl | rfl <;> omega
  · have := h1.wi _ g
    rcases hk with rfl | rfl <;> omega
end
end Go.Tw
