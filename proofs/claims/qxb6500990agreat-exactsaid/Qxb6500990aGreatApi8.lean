/- package api: EncodeMsg -/
import Derived.Test.Qxb6500990aGreatApi7
set_option linter.unusedVariables false
set_option linter.unusedSimpArgs false
namespace Go.Tw
open Go Go.Proofs Go.Proofs.Qxb6500990aGreat
def entB (e : Entry) : List Int := be8 e.term ++ ((e.data.length : Int) :: bi e.data)
def entsB (es : List Entry) : List Int := es.flatMap entB
def headB (m : Msg) : List Int := [m.kind, m.frm, m.to, b2i m.ok] ++ be8 m.term ++ be8 m.index ++ be8 m.logTerm ++ be8 m.commit
def bodyB (m : Msg) : List Int := headB m ++ [(m.ents.length : Int)] ++ entsB m.ents ++ ((m.data.length : Int) :: bi m.data)
def encMsg (m : Msg) : Bs := ib (bodyB m ++ [sumF (bodyB m) / 256, sumF (bodyB m) % 256])
theorem headB_len (m : Msg) : (headB m).length = 36 := rfl
theorem entsB_len : ∀ (es : List Entry), (∀ e ∈ es, e.data.length ≤ 24) → (entsB es).length ≤ 33 * es.length
  | [], _ => Nat.le_refl _
  | e :: es, h => by
    have h1 := entsB_len es (fun x hx => h x (List.mem_cons_of_mem _ hx))
    have h2 := h e (List.mem_cons_self ..)
    simp only [entsB, List.flatMap_cons, List.length_append, entB, be8_len, List.length_cons, bi_length] at *
    omega
theorem entsB_snoc (es : List Entry) (e : Entry) : entsB (es ++ [e]) = entsB es ++ entB e := by simp [entsB]
theorem bi_range (l : Bs) : ∀ x ∈ bi l, 0 ≤ x ∧ x < 256 := by
  intro x hx
  obtain ⟨y, _, rfl⟩ := List.mem_map.1 hx
  have := y.toNat_lt
  omega
theorem be8_range {n : Int} (h0 : 0 ≤ n) (h1 : n ≤ maxT) : ∀ x ∈ be8 n, 0 ≤ x ∧ x < 256 := by
  intro x hx
  unfold maxT at h1
  simp only [be8, List.mem_cons, List.not_mem_nil, or_false] at hx
  omega
structure MsgOk (m : Msg) : Prop where
  k0 : 1 ≤ m.kind
  k1 : m.kind ≤ 5
  f0 : 0 ≤ m.frm
  f1 : m.frm < 3
  o0 : 0 ≤ m.to
  o1 : m.to < 3
  t0 : 0 ≤ m.term
  t1 : m.term ≤ maxT
  i0 : 0 ≤ m.index
  i1 : m.index ≤ maxT
  l0 : 0 ≤ m.logTerm
  l1 : m.logTerm ≤ maxT
  c0 : 0 ≤ m.commit
  c1 : m.commit ≤ maxT
  n : m.ents.length ≤ 2
  d : m.data.length ≤ 128
  e : ∀ x ∈ m.ents, 0 ≤ x.term ∧ x.term ≤ maxT ∧ x.data.length ≤ 24
theorem msgOK_iff {m : Msg} : msgOK m = true ↔ MsgOk m := by
  rw [msgOK_eq, Bool.and_eq_true]
  constructor
  · rintro ⟨h1, h2⟩
    have h1 := of_decide_eq_true h1
    obtain ⟨⟨a1, a2, a3, a4, a5, a6⟩, ⟨b1, b2, b3, b4⟩, ⟨d1, d2, d3, d4⟩, e1, e2⟩ := h1
    exact ⟨a1, a2, a3, a4, a5, a6, b1, b2, b3, b4, d1, d2, d3, d4, e1, e2, fun x hx => of_decide_eq_true (List.all_eq_true.1 h2 x hx)⟩
  · intro h
    exact ⟨decide_eq_true ⟨⟨h.k0, h.k1, h.f0, h.f1, h.o0, h.o1⟩, ⟨h.t0, h.t1, h.i0, h.i1⟩, ⟨h.l0, h.l1, h.c0, h.c1⟩, h.n, h.d⟩, List.all_eq_true.2 fun x hx => decide_eq_true (h.e x hx)⟩
theorem MsgOk.hd {m : Msg} (h : MsgOk m) : hdOK m = true := by
  have := msgOK_iff.2 h
  rw [msgOK_eq, Bool.and_eq_true] at this
  exact this.1
theorem bodyB_range {m : Msg} (h : MsgOk m) : ∀ x ∈ bodyB m, 0 ≤ x ∧ x < 256 := by
  intro x hx
  obtain ⟨k0, k1, f0, f1, o0, o1, t0, t1, i0, i1, l0, l1, c0, c1, n, d, e⟩ := h
  simp only [bodyB, headB, List.mem_append, List.mem_cons, List.not_mem_nil, or_false] at hx
  rcases hx with ((((((h | h) | h) | h) | h) | h) | h) | h | h
  · have : b2i m.ok = 0 ∨ b2i m.ok = 1 := by cases m.ok <;> simp [b2i]
    omega
  · exact be8_range t0 t1 x h
  · exact be8_range i0 i1 x h
  · exact be8_range l0 l1 x h
  · exact be8_range c0 c1 x h
  · omega
  · simp only [entsB, List.mem_flatMap] at h
    obtain ⟨y, hy, h⟩ := h
    have := e y hy
    simp only [entB, List.mem_append, List.mem_cons] at h
    rcases h with h | h | h
    · exact be8_range this.1 this.2.1 x h
    · omega
    · exact bi_range _ x h
  · omega
  · exact bi_range _ x h
theorem bodyB_len {m : Msg} (h : MsgOk m) : (bodyB m).length ≤ 232 := by
  have h1 := entsB_len m.ents (fun e he => (h.e e he).2.2)
  have h2 := h.n
  have h3 := h.d
  simp only [bodyB, List.length_append, headB_len, List.length_cons, List.length_nil, bi_length]
  omega
end Go.Tw
namespace Go.Proofs.Qxb6500990aGreat
open Go Go.RowKit Go.Tw
attribute [local go_sem] World.cell?_put_same World.cell?_put_ne World.cell?_put_ne' World.frozen?_put_same World.frozen?_put_ne World.frozen?_put_ne' World.setCell_put_same World.setCell_put_ne World.setCell_put_ne' World.inB_put World.inB_alloc World.inB_drew World.inB_drewN World.inB_new World.inB_setCell World.put_drew World.put_drewN World.q_setCell_drew World.q_setCell_drewN World.q_alloc_drew World.q_alloc_drewN World.put_put_same World.put_put_2 World.size_put World.q_cell?_alloc_old World.q_frozen?_alloc_old World.cell?_alloc_new' World.frozen?_alloc_new' World.q_setCell_alloc_old World.q_setCell_alloc_new World.q_put_alloc_old MsgR.g0 MsgR.s0 MsgR.g1 MsgR.s1 MsgR.g2 MsgR.s2 MsgR.g3 MsgR.s3 MsgR.g4 MsgR.s4 MsgR.g5 MsgR.s5 MsgR.g6 MsgR.s6 MsgR.g7 MsgR.s7 MsgR.g8 MsgR.s8 MsgR.g9 MsgR.s9
attribute [local go_sem] mk127
set_option maxHeartbeats 1000000
set_option maxRecDepth 100000
theorem b2i_bd (b : Bool) : 0 ≤ b2i b ∧ b2i b ≤ 1 := by cases b <;> decide
/-- all that a later step wants of the world u -/
structure Enc (W : World) (box x : Obj) (B : Nat) (u : World) (v : Value) (l : List Int) : Prop where
  b : BytesB B u v l
  low : Below B ((W.alloc box).alloc x) u
  sz : B ≤ u.heap.size
theorem Enc.step {W : World} {box x : Obj} {B : Nat} {u u' : World} {v v' : Value} {l l' : List Int} (h : Enc W box x B u v l) (hb : BytesB B u' v' l') (hl : Below B u u') (hz : u.heap.size ≤ u'.heap.size) : Enc W box x B u' v' l' :=
  ⟨hb, h.low.trans hl, Nat.le_trans h.sz hz⟩
theorem Enc.cell {W : World} {box x : Obj} {B : Nat} {u : World} {v : Value} {l : List Int} (h : Enc W box x B u v l) : ∀ b o, b < B → u.cell? ⟨b, o, none⟩ = ((W.alloc box).alloc x).cell? ⟨b, o, none⟩ :=
  fun b o hb => h.low.cell (p := ⟨b, o, none⟩) hb
theorem hidIt {p : Prop} (h : p) : Hid p := h
theorem ownsRow_alloc {B e s n : Nat} {w : World} {v : Value} {xs : List Value} (h : w.ownsRow B e s v n xs) (ob : Obj) : (w.alloc ob).ownsRow B e s v n xs := by
  refine ⟨h.1, ?_⟩
  rcases h.2 with h2 | ⟨g, cap, cur, hv, h3, h4, h5⟩
  · exact .inl h2
  · refine .inr ⟨g, cap, cur, hv, h3, ?_, h5⟩
    have hlt : g < w.heap.size := (Array.getElem?_eq_some_iff.1 h4).1
    simp only [World.alloc, Array.getElem?_push, Nat.ne_of_lt hlt, if_false]
    exact h4
theorem c162 {W : World} {B : Nat} {v : Value} {m : Msg} (hv : EntsAt B W v m.ents) (ok : MsgOk m) :
    Calls Tryz.prog 162 #[.agg (m.r v).cells] W fun r w' => r = .returned (vs (encMsg m)) ∧ Mod [] W w' := by
  have Hok : Hid (msgOK m = true) := msgOK_iff.2 ok
  have hcall := fun ob => c194_good (W := W.alloc ob) (v := v) (m := m) (ownsRow_alloc hv ob) ok.hd
  have Hr : Hid (∀ x ∈ bodyB m, 0 ≤ x ∧ x < 256) := bodyB_range ok
  have Hl : Hid ((bodyB m).length ≤ 232) := bodyB_len ok
  obtain ⟨k0, k1, f0, f1, o0, o1, t0, t1, i0, i1, l0, l1, c0, c1, n, d, he⟩ := ok
  obtain ⟨s0, s1⟩ := sumF_bd (bodyB m)
  obtain ⟨kind, frm, to, term, index, logTerm, commit, okb, ents, data⟩ := m
  simp only [] at *
  have n' : (ents.length : Int) ≤ 2 := by omega
  have d' : (data.length : Int) ≤ 128 := by omega
  obtain ⟨ad, cap, rfl, hc⟩ := EntsAt.form hv
  clear hv
  have hcg : ∀ k e, ents[k]? = some e → ∃ g, ad = some ⟨g, 0, none⟩ ∧ W.inB g ∧ g < W.heap.size + 1 + 1 ∧ W.cell? ⟨g, k * 2, none⟩ = some (.int .i64 e.term) ∧ W.cell? ⟨g, k * 2 + 1, none⟩ = some (vs e.data) := fun k e h => by
    obtain ⟨g, h1, h2, h3, h4, h5⟩ := hc k e h
    exact ⟨g, h1, h2, by unfold World.inB at h2; omega, h4, h5⟩
  unfold Msg.r at hcall ⊢
  have Hcall := hidIt hcall
  have Hc := hidIt hcg
  have He := hidIt he
  clear hcall hc he hcg
  cases okb
  · go_enter Tryz.func162, Tryz.ntmps162
    go_wp2_with (first
      | (go_at_call 194; refine (Hcall.out _).mono ?_; rintro _ _ ⟨rfl, x, rfl⟩; rw [Hok.out])
      | (at_builtin
         first
           | refine wp_appB (B := W.heap.size + 1 + 1) rfl _ _ rfl [kind, frm, to, 0] rfl rfl (at_new (by simp)) rfl ((BytesB.made (c := zb 64) (at_new (by simp)) (Nat.le_refl _) (zb_size _) (by unfold maxLen; omega)).alloc _) (by simp) (Nat.zero_lt_succ _) (by simp) ?_
           | refine wp_appB (B := W.heap.size + 1 + 1) rfl _ _ rfl [kind, frm, to, 1] rfl rfl (at_new (by simp)) rfl ((BytesB.made (c := zb 64) (at_new (by simp)) (Nat.le_refl _) (zb_size _) (by unfold maxLen; omega)).alloc _) (by simp) (Nat.zero_lt_succ _) (by simp) ?_
         intro v1 u1 gb gl gz
         have e1 : Enc W _ x (W.heap.size + 1 + 1) u1 v1 _ := ⟨gb, (((Below.refl _ _).alloc (by first | omega | (simp; done) | (simp; omega)) _).alloc (by first | omega | (simp; done) | (simp; omega)) _).trans gl, by simp at gz; omega⟩
         have q1 := e1.cell
         clear gb gl gz))
    refine (c140 e1.b e1.sz (by simp) t0 t1).mono ?_
    rintro _ u2 ⟨v2, rfl, gb, gl, gz⟩
    have e2 := e1.step gb gl gz
    have q2 := e2.cell
    clear gb gl gz q1 e1
    go_wp2_with fail
    refine (c140 e2.b e2.sz (by simp [be8_len]) i0 i1).mono ?_
    rintro _ u3 ⟨v3, rfl, gb, gl, gz⟩
    have e3 := e2.step gb gl gz
    have q3 := e3.cell
    clear gb gl gz q2 e2
    go_wp2_with fail
    refine (c140 e3.b e3.sz (by simp [be8_len]) l0 l1).mono ?_
    rintro _ u4 ⟨v4, rfl, gb, gl, gz⟩
    have e4 := e3.step gb gl gz
    have q4 := e4.cell
    clear gb gl gz q3 e3
    go_wp2_with fail
    refine (c140 e4.b e4.sz (by simp [be8_len]) c0 c1).mono ?_
    rintro _ u5 ⟨v5, rfl, gb, gl, gz⟩
    have e5 := e4.step gb gl gz
    have q5 := e5.cell
    clear gb gl gz q4 e4
    go_wp2_with (at_builtin
                 refine wp_appB (B := W.heap.size + 1 + 1) rfl _ _ rfl [(ents.length : Int)] rfl rfl (at_new rfl) rfl (e5.b.alloc _) (by have := e5.sz; first | (simp; done) | (simp; omega)) (Nat.zero_lt_succ _) (by simp [be8_len]) ?_
                 intro v6 u6 gb gl gz
                 have e6 := e5.step gb (((Below.refl _ _).alloc e5.sz _).trans gl) (by simp at gz; omega)
                 have q6 := e6.cell
                 clear gb gl gz q5 e5)
    have E : Enc W (.cells (MsgR.cells ⟨kind, frm, to, term, index, logTerm, commit, false, .slice ad ents.length cap, data⟩) 159) x (W.heap.size + 1 + 1) u6 v6 (headB ⟨kind, frm, to, term, index, logTerm, commit, false, ents, data⟩ ++ [(ents.length : Int)] ++ entsB (ents.take 0)) := by
      have := e6
      simpa [headB, entsB, b2i] using this
    clear e6 q6
    generalize hM : (⟨kind, frm, to, term, index, logTerm, commit, false, ents, data⟩ : Msg) = M at *
    have Hb : Hid (bodyB M = headB M ++ [(ents.length : Int)] ++ entsB ents ++ ((data.length : Int) :: bi data)) := by unfold Hid; rw [← hM]; rfl
    have HM := hidIt hM
    clear hM
    have hel := entsB_len
    go_loopw [3, 5] (fun b i u => ∃ k : Nat, k ≤ ents.length ∧ i = vi k ∧ Enc W (.cells (MsgR.cells ⟨kind, frm, to, term, index, logTerm, commit, false, .slice ad ents.length cap, data⟩) 159) x (W.heap.size + 1 + 1) u b (headB M ++ [(ents.length : Int)] ++ entsB (ents.take k))) (fun _ i _ => ents.length - (intOf i).toNat)
    case atStart => exact ⟨0, Nat.zero_le _, rfl, E⟩
    case round =>
      obtain ⟨k, hk, rfl, e7⟩ := hrel
      have q7 := e7.cell
      clear E
      have hln : (entsB (ents.take k)).length ≤ 66 := by
        have := hel (ents.take k) (fun e he => (He.out e (List.mem_of_mem_take he)).2.2)
        have : (ents.take k).length ≤ 2 := by simp; omega
        omega
      by_cases hlt : k < ents.length
      · obtain ⟨g, rfl, gi, gB, g1, g2⟩ := Hc.out k ents[k] (List.getElem?_eq_getElem hlt)
        obtain ⟨x0, x1, x2⟩ := He.out ents[k] (List.getElem_mem hlt)
        have Hs : Hid (entsB (ents.take (k + 1)) = entsB (ents.take k) ++ be8 ents[k].term ++ ((ents[k].data.length : Int) :: bi ents[k].data)) := by
          unfold Hid; rw [List.take_succ_eq_append_getElem hlt, entsB_snoc]; simp [entB]
        go_wp2_with fail
        refine (c140 e7.b e7.sz (by simp [headB_len]; omega) x0 x1).mono ?_
        rintro _ u8 ⟨v8, rfl, gb, gl, gz⟩
        have e8 := e7.step gb gl gz
        have q8 := e8.cell
        clear gb gl gz q7 e7
        go_wp2_with fail
        refine (c141 e8.b e8.sz (by simp [headB_len, be8_len]; omega) _ (by omega)).mono ?_
        rintro _ u9 ⟨v9, rfl, gb, gl, gz⟩
        have e9 := e8.step gb gl gz
        have q9 := e9.cell
        clear gb gl gz q8 e8
        go_wp2_with fail
        go_roundw
        case rel => exact ⟨k + 1, by omega, by go_num, by rw [Hs.out]; simpa using e9⟩
        case measure => simp [intOf]; omega
      · rw [List.take_of_length_le (by omega)] at e7 hln
        go_wp2_with fail
        refine (c141 e7.b e7.sz (by simp [headB_len]; omega) _ (by omega)).mono ?_
        rintro _ u8 ⟨v8, rfl, gb, gl, gz⟩
        rw [← Hb.out] at gb
        have e8 := e7.step gb gl gz
        clear gb gl gz q7 e7
        have hlen := Hl.out
        go_wp2_with fail
        refine (c204 e8.b (by omega) Hr.out).mono ?_
        rintro _ _ ⟨rfl, rfl⟩
        go_wp2_with (first
          | (at_builtin
             refine wp_appB (B := W.heap.size + 1 + 1) rfl _ _ rfl [sumF (bodyB M) / 256, sumF (bodyB M) % 256] rfl rfl (at_new rfl) rfl (e8.b.alloc _) (by have := e8.sz; first | (simp; done) | (simp; omega)) (Nat.zero_lt_succ _) (by simp; omega) ?_
             intro v9 u9 gb gl gz
             have e9 := e8.step gb (((Below.refl _ _).alloc e8.sz _).trans gl) (by simp at gz; omega)
             clear gb gl gz)
          | (refine wp_strB rfl _ rfl rfl e9.b ?_))
        go_ret
        have hm := e9.low
        have hm2 : Below W.heap.size W u9 := (((Below.refl _ _).alloc (Nat.le_refl _) _).alloc (by first | omega | (simp; done) | (simp; omega)) _).trans (hm.mono (by omega))
        have hMe := HM.out
        subst hMe
        exact ⟨rfl, ⟨hm2.os, hm2.tape, hm2.output, hm2.size, fun k hk _ => hm2.block k hk⟩⟩
  · go_enter Tryz.func162, Tryz.ntmps162
    go_wp2_with (first
      | (go_at_call 194; refine (Hcall.out _).mono ?_; rintro _ _ ⟨rfl, x, rfl⟩; rw [Hok.out])
      | (at_builtin
         first
           | refine wp_appB (B := W.heap.size + 1 + 1) rfl _ _ rfl [kind, frm, to, 0] rfl rfl (at_new (by simp)) rfl ((BytesB.made (c := zb 64) (at_new (by simp)) (Nat.le_refl _) (zb_size _) (by unfold maxLen; omega)).alloc _) (by simp) (Nat.zero_lt_succ _) (by simp) ?_
           | refine wp_appB (B := W.heap.size + 1 + 1) rfl _ _ rfl [kind, frm, to, 1] rfl rfl (at_new (by simp)) rfl ((BytesB.made (c := zb 64) (at_new (by simp)) (Nat.le_refl _) (zb_size _) (by unfold maxLen; omega)).alloc _) (by simp) (Nat.zero_lt_succ _) (by simp) ?_
         intro v1 u1 gb gl gz
         have e1 : Enc W _ x (W.heap.size + 1 + 1) u1 v1 _ := ⟨gb, (((Below.refl _ _).alloc (by first | omega | (simp; done) | (simp; omega)) _).alloc (by first | omega | (simp; done) | (simp; omega)) _).trans gl, by simp at gz; omega⟩
         have q1 := e1.cell
         clear gb gl gz))
    refine (c140 e1.b e1.sz (by simp) t0 t1).mono ?_
    rintro _ u2 ⟨v2, rfl, gb, gl, gz⟩
    have e2 := e1.step gb gl gz
    have q2 := e2.cell
    clear gb gl gz q1 e1
    go_wp2_with fail
    refine (c140 e2.b e2.sz (by simp [be8_len]) i0 i1).mono ?_
    rintro _ u3 ⟨v3, rfl, gb, gl, gz⟩
    have e3 := e2.step gb gl gz
    have q3 := e3.cell
    clear gb gl gz q2 e2
    go_wp2_with fail
    refine (c140 e3.b e3.sz (by simp [be8_len]) l0 l1).mono ?_
    rintro _ u4 ⟨v4, rfl, gb, gl, gz⟩
    have e4 := e3.step gb gl gz
    have q4 := e4.cell
    clear gb gl gz q3 e3
    go_wp2_with fail
    refine (c140 e4.b e4.sz (by simp [be8_len]) c0 c1).mono ?_
    rintro _ u5 ⟨v5, rfl, gb, gl, gz⟩
    have e5 := e4.step gb gl gz
    have q5 := e5.cell
    clear gb gl gz q4 e4
    go_wp2_with (at_builtin
                 refine wp_appB (B := W.heap.size + 1 + 1) rfl _ _ rfl [(ents.length : Int)] rfl rfl (at_new rfl) rfl (e5.b.alloc _) (by have := e5.sz; first | (simp; done) | (simp; omega)) (Nat.zero_lt_succ _) (by simp [be8_len]) ?_
                 intro v6 u6 gb gl gz
                 have e6 := e5.step gb (((Below.refl _ _).alloc e5.sz _).trans gl) (by simp at gz; omega)
                 have q6 := e6.cell
                 clear gb gl gz q5 e5)
    have E : Enc W (.cells (MsgR.cells ⟨kind, frm, to, term, index, logTerm, commit, true, .slice ad ents.length cap, data⟩) 159) x (W.heap.size + 1 + 1) u6 v6 (headB ⟨kind, frm, to, term, index, logTerm, commit, true, ents, data⟩ ++ [(ents.length : Int)] ++ entsB (ents.take 0)) := by
      have := e6
      simpa [headB, entsB, b2i] using this
    clear e6 q6
    generalize hM : (⟨kind, frm, to, term, index, logTerm, commit, true, ents, data⟩ : Msg) = M at *
    have Hb : Hid (bodyB M = headB M ++ [(ents.length : Int)] ++ entsB ents ++ ((data.length : Int) :: bi data)) := by unfold Hid; rw [← hM]; rfl
    have HM := hidIt hM
    clear hM
    have hel := entsB_len
    go_loopw [3, 5] (fun b i u => ∃ k : Nat, k ≤ ents.length ∧ i = vi k ∧ Enc W (.cells (MsgR.cells ⟨kind, frm, to, term, index, logTerm, commit, true, .slice ad ents.length cap, data⟩) 159) x (W.heap.size + 1 + 1) u b (headB M ++ [(ents.length : Int)] ++ entsB (ents.take k))) (fun _ i _ => ents.length - (intOf i).toNat)
    case atStart => exact ⟨0, Nat.zero_le _, rfl, E⟩
    case round =>
      obtain ⟨k, hk, rfl, e7⟩ := hrel
      have q7 := e7.cell
      clear E
      have hln : (entsB (ents.take k)).length ≤ 66 := by
        have := hel (ents.take k) (fun e he => (He.out e (List.mem_of_mem_take he)).2.2)
        have : (ents.take k).length ≤ 2 := by simp; omega
        omega
      by_cases hlt : k < ents.length
      · obtain ⟨g, rfl, gi, gB, g1, g2⟩ := Hc.out k ents[k] (List.getElem?_eq_getElem hlt)
        obtain ⟨x0, x1, x2⟩ := He.out ents[k] (List.getElem_mem hlt)
        have Hs : Hid (entsB (ents.take (k + 1)) = entsB (ents.take k) ++ be8 ents[k].term ++ ((ents[k].data.length : Int) :: bi ents[k].data)) := by
          unfold Hid; rw [List.take_succ_eq_append_getElem hlt, entsB_snoc]; simp [entB]
        go_wp2_with fail
        refine (c140 e7.b e7.sz (by simp [headB_len]; omega) x0 x1).mono ?_
        rintro _ u8 ⟨v8, rfl, gb, gl, gz⟩
        have e8 := e7.step gb gl gz
        have q8 := e8.cell
        clear gb gl gz q7 e7
        go_wp2_with fail
        refine (c141 e8.b e8.sz (by simp [headB_len, be8_len]; omega) _ (by omega)).mono ?_
        rintro _ u9 ⟨v9, rfl, gb, gl, gz⟩
        have e9 := e8.step gb gl gz
        have q9 := e9.cell
        clear gb gl gz q8 e8
        go_wp2_with fail
        go_roundw
        case rel => exact ⟨k + 1, by omega, by go_num, by rw [Hs.out]; simpa using e9⟩
        case measure => simp [intOf]; omega
      · rw [List.take_of_length_le (by omega)] at e7 hln
        go_wp2_with fail
        refine (c141 e7.b e7.sz (by simp [headB_len]; omega) _ (by omega)).mono ?_
        rintro _ u8 ⟨v8, rfl, gb, gl, gz⟩
        rw [← Hb.out] at gb
        have e8 := e7.step gb gl gz
        clear gb gl gz q7 e7
        have hlen := Hl.out
        go_wp2_with fail
        refine (c204 e8.b (by omega) Hr.out).mono ?_
        rintro _ _ ⟨rfl, rfl⟩
        go_wp2_with (first
          | (at_builtin
             refine wp_appB (B := W.heap.size + 1 + 1) rfl _ _ rfl [sumF (bodyB M) / 256, sumF (bodyB M) % 256] rfl rfl (at_new rfl) rfl (e8.b.alloc _) (by have := e8.sz; first | (simp; done) | (simp; omega)) (Nat.zero_lt_succ _) (by simp; omega) ?_
             intro v9 u9 gb gl gz
             have e9 := e8.step gb (((Below.refl _ _).alloc e8.sz _).trans gl) (by simp at gz; omega)
             clear gb gl gz)
          | (refine wp_strB rfl _ rfl rfl e9.b ?_))
        go_ret
        have hm := e9.low
        have hm2 : Below W.heap.size W u9 := (((Below.refl _ _).alloc (Nat.le_refl _) _).alloc (by first | omega | (simp; done) | (simp; omega)) _).trans (hm.mono (by omega))
        have hMe := HM.out
        subst hMe
        exact ⟨rfl, ⟨hm2.os, hm2.tape, hm2.output, hm2.size, fun k hk _ => hm2.block k hk⟩⟩
end Go.Proofs.Qxb6500990aGreat
