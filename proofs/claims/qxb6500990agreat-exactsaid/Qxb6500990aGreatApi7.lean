/- package api: MsgOK -/
import Derived.Test.Qxb6500990aGreatApi6
set_option linter.unusedVariables false
set_option linter.unusedSimpArgs false
namespace Go.Tw
open Go Go.Proofs
theorem entsC_get : ∀ (es : List Entry) (k : Nat) (e : Entry), es[k]? = some e → (entsC es)[k * 2]? = some (.int .i64 e.term) ∧ (entsC es)[k * 2 + 1]? = some (.string (ByteArray.mk e.data.toArray))
  | [], k, e, h => by simp at h
  | x :: es, 0, e, h => by simp at h; subst h; simp [entsC]
  | x :: es, k + 1, e, h => by
    have := entsC_get es k e (by simpa using h)
    have h2 : (k + 1) * 2 = k * 2 + 1 + 1 := by omega
    simp only [entsC, List.flatMap_cons, List.cons_append, List.nil_append] at *
    rw [h2]
    simpa using this
theorem entsC_len (es : List Entry) : (entsC es).length = es.length * 2 := by
  induction es with
  | nil => rfl
  | cons e es ih => simp only [entsC, List.flatMap_cons, List.length_append, List.length_cons, List.length_nil] at *; omega
theorem EntsAt.form {B : Nat} {W : World} {v : Value} {es : List Entry} (h : EntsAt B W v es) : ∃ ad cap, v = .slice ad es.length cap ∧ ∀ k e, es[k]? = some e → ∃ g, ad = some ⟨g, 0, none⟩ ∧ W.inB g ∧ B ≤ g ∧
    W.cell? ⟨g, k * 2, none⟩ = some (.int .i64 e.term) ∧ W.cell? ⟨g, k * 2 + 1, none⟩ = some (.string (ByteArray.mk e.data.toArray)) := by
  rcases h.2 with ⟨rfl, h0⟩ | ⟨g, cap, cur, rfl, hB, hat, hcap, _, hsz, htake⟩
  · have : es = [] := List.length_eq_zero_iff.1 h0
    subst this
    exact ⟨none, 0, rfl, fun k e h => by simp at h⟩
  · refine ⟨some ⟨g, 0, none⟩, cap, rfl, fun k e he => ⟨g, rfl, World.At.inB (T := 232) hat, hB, ?_, ?_⟩⟩
    · have hk : k < es.length := (List.getElem?_eq_some_iff.1 he).1
      have h1 := (entsC_get es k e he).1
      rw [← htake, List.getElem?_take_of_lt (by omega)] at h1
      rw [World.At.cell (T := 232) hat]
      simpa using h1
    · have hk : k < es.length := (List.getElem?_eq_some_iff.1 he).1
      have h1 := (entsC_get es k e he).2
      rw [← htake, List.getElem?_take_of_lt (by omega)] at h1
      rw [World.At.cell (T := 232) hat]
      simpa using h1
def hdOK (m : Msg) : Bool := decide ((1 ≤ m.kind ∧ m.kind ≤ 5 ∧ 0 ≤ m.frm ∧ m.frm < 3 ∧ 0 ≤ m.to ∧ m.to < 3) ∧ (0 ≤ m.term ∧ m.term ≤ maxT ∧ 0 ≤ m.index ∧ m.index ≤ maxT) ∧ (0 ≤ m.logTerm ∧ m.logTerm ≤ maxT ∧ 0 ≤ m.commit ∧ m.commit ≤ maxT) ∧ (m.ents.length ≤ 2 ∧ m.data.length ≤ 128))
theorem msgOK_eq (m : Msg) : msgOK m = (hdOK m && m.ents.all entOK) := rfl
end Go.Tw
namespace Go.Proofs.Qxb6500990aGreat
open Go Go.RowKit Go.Tw
attribute [local go_sem] World.cell?_put_same World.cell?_put_ne World.cell?_put_ne' World.frozen?_put_same World.frozen?_put_ne World.frozen?_put_ne' World.setCell_put_same World.setCell_put_ne World.setCell_put_ne' World.inB_put World.inB_alloc World.inB_drew World.inB_drewN World.inB_new World.inB_setCell World.put_drew World.put_drewN World.q_setCell_drew World.q_setCell_drewN World.q_alloc_drew World.q_alloc_drewN World.put_put_same World.put_put_2 World.size_put World.q_cell?_alloc_old World.q_frozen?_alloc_old World.cell?_alloc_new' World.frozen?_alloc_new' World.q_setCell_alloc_old World.q_setCell_alloc_new World.q_put_alloc_old MsgR.g0 MsgR.s0 MsgR.g1 MsgR.s1 MsgR.g2 MsgR.s2 MsgR.g3 MsgR.s3 MsgR.g4 MsgR.s4 MsgR.g5 MsgR.s5 MsgR.g6 MsgR.s6 MsgR.g7 MsgR.s7 MsgR.g8 MsgR.s8 MsgR.g9 MsgR.s9
set_option maxHeartbeats 2000000
set_option maxRecDepth 100000
theorem c194_good {W : World} {B : Nat} {v : Value} {m : Msg} (hv : EntsAt B W v m.ents) (hh : hdOK m = true) :
    Calls Tryz.prog 194 #[.agg (m.r v).cells] W fun r w' => r = .returned (.bool (msgOK m)) ∧ ∃ x, w' = W.alloc x := by
  have Hm : Hid (msgOK m = m.ents.all entOK) := by unfold Hid; rw [msgOK_eq, hh]; rfl
  obtain ⟨ad, cap, rfl, hc⟩ := hv.form
  clear hv
  obtain ⟨kind, frm, to, term, index, logTerm, commit, ok, ents, data⟩ := m
  have hh' := of_decide_eq_true hh
  clear hh
  simp only [maxT] at hh'
  obtain ⟨⟨a1, a2, a3, a4, a5, a6⟩, ⟨b1, b2, b3, b4⟩, ⟨d1, d2, d3, d4⟩, e1, e2⟩ := hh'
  unfold Msg.r
  simp only [] at *
  have e1' : (ents.length : Int) ≤ 2 := by omega
  have e2' : (data.length : Int) ≤ 128 := by omega
  go_enter Tryz.func194, Tryz.ntmps194
  go_wp2_with fail
  go_loop [3] (fun i => ∃ k : Nat, k ≤ ents.length ∧ i = vi k ∧ (ents.take k).all entOK = true) (fun i => ents.length - (intOf i).toNat)
  case atStart => exact ⟨0, Nat.zero_le _, rfl, rfl⟩
  case round =>
    obtain ⟨k, hk, rfl, hall⟩ := hrel
    have Hall : Hid ((ents.take k).all entOK = true) := hall
    clear hall a1 a2 a3 a4 a5 a6 b1 b2 b3 b4 d1 d2 d3 d4 e2 e2'
    by_cases hlt : k < ents.length
    · obtain ⟨g, rfl, gi, gB, g1, g2⟩ := hc k ents[k] (List.getElem?_eq_getElem hlt)
      clear hc
      cases hx : entOK ents[k]
      · have Hf : Hid (ents.all entOK = false) := by
          unfold Hid
          rw [List.all_eq_false]
          exact ⟨ents[k], List.getElem_mem hlt, by simp [hx]⟩
        have hx' := of_decide_eq_false hx
        simp only [maxT] at hx'
        clear hx
        go_wp2_with fail
        all_goals
          go_ret
          rw [Hm.out, Hf.out]
          exact ⟨rfl, _, rfl⟩
      · have hx' := of_decide_eq_true hx
        simp only [maxT] at hx'
        obtain ⟨x1, x2, x3⟩ := hx'
        have x3' : (ents[k].data.length : Int) ≤ 24 := by omega
        have Hn : Hid ((ents.take (k + 1)).all entOK = true) := by
          unfold Hid; rw [List.take_succ_eq_append_getElem hlt, List.all_append, Hall.out]; simp [hx]
        clear hx
        go_wp2_with fail
        go_round
        case rel => exact ⟨k + 1, by omega, by go_num, Hn.out⟩
        case measure => simp [intOf]; omega
    · have Ht : Hid (ents.all entOK = true) := by unfold Hid; rw [← Hall.out, List.take_of_length_le (by omega)]
      clear hc
      go_wp2_with fail
      go_ret
      rw [Hm.out, Ht.out]
      exact ⟨rfl, _, rfl⟩

theorem c194_bad {W : World} {B : Nat} {v : Value} {m : Msg} (hv : EntsAt B W v m.ents) (hh : hdOK m = false) :
    Calls Tryz.prog 194 #[.agg (m.r v).cells] W fun r w' => r = .returned (.bool false) ∧ ∃ x, w' = W.alloc x := by
  obtain ⟨ad, cap, rfl, hc⟩ := hv.form
  clear hv hc
  obtain ⟨kind, frm, to, term, index, logTerm, commit, ok, ents, data⟩ := m
  have hh' := of_decide_eq_false hh
  clear hh
  simp only [maxT] at hh'
  unfold Msg.r
  simp only [] at *
  have H : Hid (¬((1 ≤ kind ∧ kind ≤ 5 ∧ 0 ≤ frm ∧ frm < 3 ∧ 0 ≤ to ∧ to < 3) ∧ (0 ≤ term ∧ term ≤ 72057594037927936 ∧ 0 ≤ index ∧ index ≤ 72057594037927936) ∧ (0 ≤ logTerm ∧ logTerm ≤ 72057594037927936 ∧ 0 ≤ commit ∧ commit ≤ 72057594037927936) ∧ ents.length ≤ 2 ∧ data.length ≤ 128)) := hh'
  clear hh'
  go_enter Tryz.func194, Tryz.ntmps194
  go_wp2_with fail
  all_goals first
    | (go_ret; exact ⟨rfl, _, rfl⟩)
    | (exfalso; have := H.out; omega)
end Go.Proofs.Qxb6500990aGreat
