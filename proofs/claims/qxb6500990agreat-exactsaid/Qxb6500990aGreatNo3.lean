/- package node: encode -/
import Derived.Test.Qxb6500990aGreatNo2
set_option linter.unusedVariables false
set_option linter.unusedSimpArgs false
namespace Go.Tw
open Go Go.Proofs Go.Proofs.Qxb6500990aGreat Go.RowKit
theorem run_strE {w : World} {bw : Nat} {l : List Int} (h : EncAt w bw l) : (convert 127 9 (.slice (some ⟨bw, 0, none⟩) l.length 234)).run Tryz.prog w = .ok (vs (ib l)) w := by
  obtain ⟨⟨f, hat, hf⟩, hn, hb⟩ := h
  rw [run_convert_bytes_string w 127 9 5 _ _ _ Tryz.underlying127 Tryz.underlying5 Tryz.underlying9]
  rw [run_bytesToString w ⟨bw, 0, none⟩ l.length 234 l]
  · rw [show ByteArray.empty = ByteArray.mk ([] : List UInt8).toArray from rfl, foldl_push]
    rfl
  · have := run_loadCells_list (P := Tryz.prog) (w := w) ⟨bw, 0, none⟩ (l.map (Value.int .u8)) (fun j u hu => by
      have hadd : (⟨bw, 0, none⟩ : Addr).add j = ⟨bw, j, none⟩ := by unfold Addr.add; split <;> simp_all
      have hj : j < l.length := by have := (List.getElem?_eq_some_iff.1 hu).1; simpa using this
      rw [hadd, World.At.cell (T := 115) hat, encC_i _ _ _ _ (by omega), hf j hj]
      rw [List.getElem?_map, List.getElem?_eq_getElem hj] at hu
      exact hu)
    simpa using this
/-- a message is being laid: 'cur' is laid already -/
structure EnB (W : World) (bw B : Nat) (M : MsgR) (es : List Entry) (u : World) (cur : List Int) : Prop where
  en : EncAt u bw cur
  am : u.At W.heap.size M.cells 159
  ea : EntsAt B u M.ents es
  md : ModP (fun k => k = bw) W u
  lt : bw < W.heap.size
  nv : ∀ g, M.ents.ownBlock = some g → g ≠ bw
section
variable {W u u' : World} {bw B : Nat} {M : MsgR} {es : List Entry} {cur cur' : List Int}
theorem EnB.step (h : EnB W bw B M es u cur) (h1 : EncAt u' bw cur') (m : ModP (fun k => k = bw) u u') : EnB W bw B M es u' cur' :=
  ⟨h1, m.at h.am (by have := h.lt; omega), ownsRow_frame h.ea m (fun g hg e => h.nv g hg e), h.md.trans m, h.lt, h.nv⟩
theorem EnB.adr (h : EnB W bw B M es u cur) {ad : Option Addr} {cap : Nat} (hM : M.ents = .slice ad es.length cap) {k : Nat} {e : Entry} (hk : es[k]? = some e) : ∃ g, ad = some ⟨g, 0, none⟩ := by
  obtain ⟨ad', cap', e1, hc⟩ := h.ea.form
  rw [hM] at e1
  obtain ⟨g, h1, -⟩ := hc k e hk
  injection e1 with e2
  exact ⟨g, e2.trans h1⟩
theorem EnB.ent (h : EnB W bw B M es u cur) {g cap : Nat} (hM : M.ents = .slice (some ⟨g, 0, none⟩) es.length cap) {k : Nat} {e : Entry} (hk : es[k]? = some e) : u.inB g ∧ u.cell? ⟨g, k * 2, none⟩ = some (.int .i64 e.term) ∧ u.cell? ⟨g, k * 2 + 1, none⟩ = some (.string (ByteArray.mk e.data.toArray)) := by
  obtain ⟨ad', cap', e1, hc⟩ := h.ea.form
  rw [hM] at e1
  obtain ⟨g', h1, h2, -, h3, h4⟩ := hc k e hk
  injection e1 with e2
  rw [h1] at e2
  injection e2 with e3
  injection e3 with e4
  subst e4
  exact ⟨h2, h3, h4⟩
theorem eB_snoc (es : List Entry) (k : Nat) (e : Entry) (h : es[k]? = some e) : entsB (es.take (k + 1)) = entsB (es.take k) ++ be8 e.term ++ ((e.data.length : Int) :: bi e.data) := by
  unfold entsB
  rw [List.take_add_one, h]
  simp [entB]
theorem eB_len (es : List Entry) (he : ∀ x ∈ es, 0 ≤ x.term ∧ x.term ≤ maxT ∧ x.data.length ≤ 24) : ∀ k, (entsB (es.take k)).length ≤ 33 * k
  | 0 => by simp [entsB]
  | k + 1 => by
    have := eB_len es he k
    cases h : es[k]? with
    | none => rw [List.take_of_length_le (by have := List.getElem?_eq_none_iff.1 h; omega)]; rw [List.take_of_length_le (by have := List.getElem?_eq_none_iff.1 h; omega)] at this; omega
    | some e =>
      rw [eB_snoc es k e h]
      have := (he e (List.mem_of_getElem? h)).2.2
      simp only [List.length_append, List.length_cons, bi_length, be8_len]
      omega
end
end Go.Tw
namespace Go.Proofs.Qxb6500990aGreat
open Go Go.RowKit Go.Tw
attribute [local go_sem] World.cell?_put_same World.cell?_put_ne World.cell?_put_ne' World.frozen?_put_same World.frozen?_put_ne World.frozen?_put_ne' World.setCell_put_same World.setCell_put_ne World.setCell_put_ne' World.inB_put World.inB_alloc World.inB_drew World.inB_drewN World.inB_new World.inB_setCell World.put_drew World.put_drewN World.q_setCell_drew World.q_setCell_drewN World.q_alloc_drew World.q_alloc_drewN World.put_put_same World.put_put_2 World.size_put World.q_cell?_alloc_old World.q_frozen?_alloc_old World.cell?_alloc_new' World.frozen?_alloc_new' World.q_setCell_alloc_old World.q_setCell_alloc_new World.q_put_alloc_old World.cell?_force_same World.frozen?_force_same World.cell?_force2_fst World.cell?_force2_snd MsgR.g0 MsgR.s0 MsgR.g1 MsgR.s1 MsgR.g2 MsgR.s2 MsgR.g3 MsgR.s3 MsgR.g4 MsgR.s4 MsgR.g5 MsgR.s5 MsgR.g6 MsgR.s6 MsgR.g7 MsgR.s7 MsgR.g8 MsgR.s8 MsgR.g9 MsgR.s9
attribute [local go_sem] ba_get w64_byte encC_n encC_s encC_i encC_sn encC_ss
set_option maxHeartbeats 4000000
set_option maxRecDepth 100000
theorem c220 {W : World} {bw B : Nat} {v : Value} {m : Msg} (hE : EncS W bw) (hv : EntsAt B W v m.ents) (hnv : ∀ g, v.ownBlock = some g → g ≠ bw) (ok : MsgOk m) : Calls Tryz.prog 220 #[vp bw, .agg (m.r v).cells] W fun r w' => r = .returned (vs (encMsg m)) ∧ EncS w' bw ∧ ModP (fun k => k = bw) W w' := by
  have qf := hidIt (fun (ob : Obj) => c265 (ownsRow_alloc hv ob) ok)
  have Hr : Hid (∀ x ∈ bodyB m, 0 ≤ x ∧ x < 256) := bodyB_range ok
  have Hl : Hid ((bodyB m).length ≤ 232) := bodyB_len ok
  obtain ⟨f0, n0, s0, hat, hn0, hn1, hs0, hs1⟩ := hE
  have lt : bw < W.heap.size := hat.inB
  have hne : bw ≠ W.heap.size := by omega
  have st : Hid (∀ w1, ModP (fun _ => False) (W.alloc (.cells (m.r v).cells 159)) w1 → ∃ y : World, w1 = (y.put bw (encC f0 n0 s0) 115).put W.heap.size (m.r v).cells 159 ∧ y.inB bw ∧ y.inB W.heap.size ∧ ∀ f, EnB W bw B (m.r v) m.ents ((y.put bw (encC f 0 7439) 115).put W.heap.size (m.r v).cells 159) []) := by
    intro w1 m1
    have a1 := m1.at (hat.alloc _) (fun f => f)
    have a2 := m1.at (World.At_alloc_new (c := (m.r v).cells) (T := 159)) (fun f => f)
    have ev := ownsRow_frame (ownsRow_alloc hv (.cells (m.r v).cells 159)) m1 (fun _ _ f => f)
    have mw : ModP (fun k => k = bw) W w1 := ((ModP.refl _ _).alloc _).trans (m1.mono fun _ f => f.elim)
    obtain ⟨y, rfl, i1, i2⟩ := open2 a1 a2 hne
    refine ⟨y, rfl, i1, i2, fun f => ⟨⟨⟨f, (World.At_put_ne (Ne.symm hne)).2 (World.At_put_same i1), fun i hi => by simp at hi⟩, by simp, by simp⟩, World.At_put_same (World.inB_put.2 i2), ?_, ?_, lt, hnv⟩⟩
    · have h9 : ModP (fun k => k = bw ∨ k = W.heap.size) ((y.put bw (encC f0 n0 s0) 115).put W.heap.size (m.r v).cells 159) ((y.put bw (encC f 0 7439) 115).put W.heap.size (m.r v).cells 159) :=
        ModP.fromPut (ModP.fromPut (ModP.put (ModP.put (ModP.refl _ _) (.inl (.inl rfl)) _ _) (.inl (.inr rfl)) _ _) (.inl rfl)) (.inr rfl)
      refine ownsRow_frame ev h9 (fun g hg => ?_)
      have h2 := (ownsRow_block hv hg).1
      have h3 := hnv g hg
      rintro (e | e)
      · exact h3 e
      · omega
    · exact ((((mw.unput (.inr (Nat.le_refl _))).unput (.inl rfl)).put (.inl rfl) _ _).put (.inr (Nat.le_refl _)) _ _)
  have hN := hidIt ok.n
  have hD := hidIt ok.d
  have hT := hidIt (And.intro ok.t0 ok.t1)
  have hI := hidIt (And.intro ok.i0 ok.i1)
  have hL := hidIt (And.intro ok.l0 ok.l1)
  have hC := hidIt (And.intro ok.c0 ok.c1)
  have hEn := hidIt ok.e
  have k0 := ok.k0
  have k1 := ok.k1
  have f0' := ok.f0
  have f1' := ok.f1
  have o0 := ok.o0
  have o1 := ok.o1
  obtain ⟨ad, cap, rfl, -⟩ := hv.form
  obtain ⟨kind, frm, to, term, index, logTerm, commit, okb, ents, data⟩ := m
  unfold Msg.r at st qf ⊢
  simp only [] at *
  have n2 : (ents.length : Int) ≤ 2 := by have := hN.out; omega
  have N2 : ents.length ≤ 2 := hN.out
  clear hat hv ok hnv hn0 hn1 hs0 hs1
  cases okb
  ·
    go_enter Tryz.func220, Tryz.ntmps220
    go_wp2_with (first
      | (go_at_call 265; refine (qf.out _).mono ?_; rintro _ w1 ⟨rfl, m1⟩; obtain ⟨y, rfl, iy1, iy2, hy⟩ := st.out _ m1; have HC := hidIt (hy f0); have hc := HC.out.am.cell; have ib := HC.out.am.inB; clear m1 hy st)
      | (go_at_call 266; refine (c266 HC.out.en (by first | omega | (simp only [List.length_append, List.length_cons, List.length_nil, be8_len]; omega)) (by omega) (by omega)).mono ?_; rintro _ w1 ⟨rfl, h1, m1⟩; replace HC := hidIt (HC.out.step h1 m1); replace hc := HC.out.am.cell; replace ib := HC.out.am.inB; clear h1 m1)
      | (go_at_call 267; refine (c267 HC.out.en (by first | omega | (simp only [List.length_append, List.length_cons, List.length_nil, be8_len]; omega)) hT.out.1 hT.out.2).mono ?_; rintro _ w1 ⟨rfl, h1, m1⟩; replace HC := hidIt (HC.out.step h1 m1); replace hc := HC.out.am.cell; replace ib := HC.out.am.inB; clear h1 m1; clear hT)
      | (go_at_call 267; refine (c267 HC.out.en (by first | omega | (simp only [List.length_append, List.length_cons, List.length_nil, be8_len]; omega)) hI.out.1 hI.out.2).mono ?_; rintro _ w1 ⟨rfl, h1, m1⟩; replace HC := hidIt (HC.out.step h1 m1); replace hc := HC.out.am.cell; replace ib := HC.out.am.inB; clear h1 m1; clear hI)
      | (go_at_call 267; refine (c267 HC.out.en (by first | omega | (simp only [List.length_append, List.length_cons, List.length_nil, be8_len]; omega)) hL.out.1 hL.out.2).mono ?_; rintro _ w1 ⟨rfl, h1, m1⟩; replace HC := hidIt (HC.out.step h1 m1); replace hc := HC.out.am.cell; replace ib := HC.out.am.inB; clear h1 m1; clear hL)
      | (go_at_call 267; refine (c267 HC.out.en (by first | omega | (simp only [List.length_append, List.length_cons, List.length_nil, be8_len]; omega)) hC.out.1 hC.out.2).mono ?_; rintro _ w1 ⟨rfl, h1, m1⟩; replace HC := hidIt (HC.out.step h1 m1); replace hc := HC.out.am.cell; replace ib := HC.out.am.inB; clear h1 m1; clear hC))
    have e0 : Hid (headB ⟨kind, frm, to, term, index, logTerm, commit, false, ents, data⟩ ++ [(ents.length : Int)] = [] ++ [kind] ++ [frm] ++ [to] ++ [b2i false] ++ be8 term ++ be8 index ++ be8 logTerm ++ be8 commit ++ [(ents.length : Int)]) := by unfold Hid headB; simp
    simp only [b2i, if_true, if_false, Bool.false_eq_true] at e0
    have z0 : Hid (([] ++ [kind] ++ [frm] ++ [to] ++ [0] ++ be8 term ++ be8 index ++ be8 logTerm ++ be8 commit ++ [(ents.length : Int)]).length = 37) := by unfold Hid; simp [be8_len]
    generalize [] ++ [kind] ++ [frm] ++ [to] ++ [0] ++ be8 term ++ be8 index ++ be8 logTerm ++ be8 commit ++ [(ents.length : Int)] = c0 at *
    go_loopw [5] (fun kv u => ∃ k : Nat, k ≤ ents.length ∧ kv = vi k ∧ Hid (EnB W bw B ⟨kind, frm, to, term, index, logTerm, commit, false, .slice ad ents.length cap, data⟩ ents u (c0 ++ entsB (ents.take k)))) (fun kv _ => ents.length - (intOf kv).toNat)
    case atStart => exact ⟨0, by omega, rfl, by simpa [entsB] using HC⟩
    case round =>
      clear HC hc ib
      obtain ⟨k, hk, rfl, HC⟩ := hrel
      have hc := HC.out.am.cell
      have ib := HC.out.am.inB
      have ln := eB_len ents hEn.out k
      have z1 : c0.length = 37 := z0.out
      have HZ := hidIt z1
      by_cases hlt : k < ents.length
      · have hk0 := List.getElem?_eq_getElem hlt
        obtain ⟨g, rfl⟩ := HC.out.adr rfl hk0
        have hg := HC.out.ent rfl hk0
        have hcg1 := hg.2.1
        have igg := hg.1
        obtain ⟨x0, x1, x2⟩ := hEn.out _ (List.getElem_mem hlt)
        have hsn := hidIt (eB_snoc ents k _ hk0)
        have HK := hidIt hk0
        have HX := hidIt (And.intro x0 x1)
        generalize ents[k] = en at *
        clear hg hk0 x0 x1
        go_wp2_with (first
          | (go_at_call 267; refine (c267 HC.out.en (by have := HZ.out; simp only [List.length_append]; omega) HX.out.1 HX.out.2).mono ?_; rintro _ w1 ⟨rfl, h1, m1⟩; replace HC := hidIt (HC.out.step h1 m1); replace hc := HC.out.am.cell; replace ib := HC.out.am.inB; clear h1 m1; replace hcg1 := (HC.out.ent rfl HK.out).2.2; replace igg := (HC.out.ent rfl HK.out).1)
          | (go_at_call 268; refine (c268 HC.out.en en.data (by omega) (by have := HZ.out; simp only [List.length_append, be8_len]; omega)).mono ?_; rintro _ w1 ⟨rfl, h1, m1⟩; replace HC := hidIt (HC.out.step h1 m1); replace hc := HC.out.am.cell; replace ib := HC.out.am.inB; clear h1 m1))
        go_roundw
        case rel => exact ⟨k + 1, by omega, by go_num, by rw [hsn.out]; simpa [List.append_assoc] using HC⟩
        case measure => simp [intOf]; omega
      · have d9 : decide (k < ents.length) = false := by simpa using hlt
        have e1 : Hid (entsB (ents.take k) = entsB ents) := by unfold Hid; rw [List.take_of_length_le (by omega)]
        rw [e1.out] at HC ln
        have hb : Hid (bodyB ⟨kind, frm, to, term, index, logTerm, commit, false, ents, data⟩ = c0 ++ entsB ents ++ ((data.length : Int) :: bi data)) := by unfold Hid bodyB; rw [e0.out]
        have hd := hD.out
        have ex : Hid (encMsg ⟨kind, frm, to, term, index, logTerm, commit, false, ents, data⟩ = Tw.ib (bodyB ⟨kind, frm, to, term, index, logTerm, commit, false, ents, data⟩ ++ [sumF (bodyB ⟨kind, frm, to, term, index, logTerm, commit, false, ents, data⟩) / 256, sumF (bodyB ⟨kind, frm, to, term, index, logTerm, commit, false, ents, data⟩) % 256])) := rfl
        have hbl := Hl.out
        rw [hb.out] at ex hbl
        have sb := sumF_bd (c0 ++ entsB ents ++ ((data.length : Int) :: bi data))
        have q268 := hidIt (c268 HC.out.en data (by omega) (by simp only [List.length_append]; omega))
        generalize c0 ++ entsB ents ++ ((data.length : Int) :: bi data) = bd at *
        go_wp2_with (first
          | (go_at_call 268; refine q268.out.mono ?_; rintro _ w1 ⟨rfl, h1, m1⟩; replace HC := hidIt (HC.out.step h1 m1); replace hc := HC.out.am.cell; replace ib := HC.out.am.inB; clear h1 m1; obtain ⟨fx, hax, -⟩ := HC.out.en.at_; have hcw := hax.cell; have ibw := hax.inB; clear hax q268)
          | (go_at_call 266; refine (c266 HC.out.en (by first | omega | (simp only [List.length_append, List.length_cons, List.length_nil, be8_len]; omega)) (by omega) (by omega)).mono ?_; rintro _ w1 ⟨rfl, h1, m1⟩; replace HC := hidIt (HC.out.step h1 m1); replace hc := HC.out.am.cell; replace ib := HC.out.am.inB; clear h1 m1))
        have ex2 : Hid (encMsg ⟨kind, frm, to, term, index, logTerm, commit, false, ents, data⟩ = Tw.ib (bd ++ [sumF bd / 256] ++ [sumF bd % 256])) := by unfold Hid; rw [ex.out]; simp
        generalize bd ++ [sumF bd / 256] ++ [sumF bd % 256] = X at *
        have hcv := run_strE (EncAt.mod HC.out.en ((ModP.refl (fun _ => False) w1).drew) (fun f => f))
        obtain ⟨fy, hay, -⟩ := HC.out.en.at_
        have hcy := hay.cell
        have iby := hay.inB
        have nX := HC.out.en.n
        have nX2 : (X.length : Int) ≤ 234 := by omega
        clear hay hcw ibw hc ib
        refine Ord.region1 [] [0, 1, 2, 3, 4, 5, 6, 7, 8] [9] (by kernel_rfl) (by kernel_rfl) (fun _ _ d _ _ h => by cases d <;> exact h) ?_
        simp only [Ord.pickO, Ord.nth]
        refine wpQuiet_nil ?_
        repeat (go_big_quiet_step (fail))
        refine wpQuiet_nil ?_
        go_wp2_with fail
        go_ret
        rw [ex2.out]
        have := HC.out.md
        exact ⟨rfl, EncS.mod HC.out.en.s ((ModP.refl (fun _ => False) w1).drew) (fun f => f), (by repeat (first | assumption | exact ModP.refl _ _ | refine ModP.fromPut ?_ (by assumption) | apply ModP.alloc | apply ModP.drew | apply ModP.drewN | refine ModP.put ?_ (by first | (left; assumption) | (left; rfl) | (right; simp only [World.inB, World.size_put] at *; omega)) _ _))⟩
  ·
    go_enter Tryz.func220, Tryz.ntmps220
    go_wp2_with (first
      | (go_at_call 265; refine (qf.out _).mono ?_; rintro _ w1 ⟨rfl, m1⟩; obtain ⟨y, rfl, iy1, iy2, hy⟩ := st.out _ m1; have HC := hidIt (hy f0); have hc := HC.out.am.cell; have ib := HC.out.am.inB; clear m1 hy st)
      | (go_at_call 266; refine (c266 HC.out.en (by first | omega | (simp only [List.length_append, List.length_cons, List.length_nil, be8_len]; omega)) (by omega) (by omega)).mono ?_; rintro _ w1 ⟨rfl, h1, m1⟩; replace HC := hidIt (HC.out.step h1 m1); replace hc := HC.out.am.cell; replace ib := HC.out.am.inB; clear h1 m1)
      | (go_at_call 267; refine (c267 HC.out.en (by first | omega | (simp only [List.length_append, List.length_cons, List.length_nil, be8_len]; omega)) hT.out.1 hT.out.2).mono ?_; rintro _ w1 ⟨rfl, h1, m1⟩; replace HC := hidIt (HC.out.step h1 m1); replace hc := HC.out.am.cell; replace ib := HC.out.am.inB; clear h1 m1; clear hT)
      | (go_at_call 267; refine (c267 HC.out.en (by first | omega | (simp only [List.length_append, List.length_cons, List.length_nil, be8_len]; omega)) hI.out.1 hI.out.2).mono ?_; rintro _ w1 ⟨rfl, h1, m1⟩; replace HC := hidIt (HC.out.step h1 m1); replace hc := HC.out.am.cell; replace ib := HC.out.am.inB; clear h1 m1; clear hI)
      | (go_at_call 267; refine (c267 HC.out.en (by first | omega | (simp only [List.length_append, List.length_cons, List.length_nil, be8_len]; omega)) hL.out.1 hL.out.2).mono ?_; rintro _ w1 ⟨rfl, h1, m1⟩; replace HC := hidIt (HC.out.step h1 m1); replace hc := HC.out.am.cell; replace ib := HC.out.am.inB; clear h1 m1; clear hL)
      | (go_at_call 267; refine (c267 HC.out.en (by first | omega | (simp only [List.length_append, List.length_cons, List.length_nil, be8_len]; omega)) hC.out.1 hC.out.2).mono ?_; rintro _ w1 ⟨rfl, h1, m1⟩; replace HC := hidIt (HC.out.step h1 m1); replace hc := HC.out.am.cell; replace ib := HC.out.am.inB; clear h1 m1; clear hC))
    have e0 : Hid (headB ⟨kind, frm, to, term, index, logTerm, commit, true, ents, data⟩ ++ [(ents.length : Int)] = [] ++ [kind] ++ [frm] ++ [to] ++ [b2i true] ++ be8 term ++ be8 index ++ be8 logTerm ++ be8 commit ++ [(ents.length : Int)]) := by unfold Hid headB; simp
    simp only [b2i, if_true, if_false, Bool.false_eq_true] at e0
    have z0 : Hid (([] ++ [kind] ++ [frm] ++ [to] ++ [1] ++ be8 term ++ be8 index ++ be8 logTerm ++ be8 commit ++ [(ents.length : Int)]).length = 37) := by unfold Hid; simp [be8_len]
    generalize [] ++ [kind] ++ [frm] ++ [to] ++ [1] ++ be8 term ++ be8 index ++ be8 logTerm ++ be8 commit ++ [(ents.length : Int)] = c0 at *
    go_loopw [5] (fun kv u => ∃ k : Nat, k ≤ ents.length ∧ kv = vi k ∧ Hid (EnB W bw B ⟨kind, frm, to, term, index, logTerm, commit, true, .slice ad ents.length cap, data⟩ ents u (c0 ++ entsB (ents.take k)))) (fun kv _ => ents.length - (intOf kv).toNat)
    case atStart => exact ⟨0, by omega, rfl, by simpa [entsB] using HC⟩
    case round =>
      clear HC hc ib
      obtain ⟨k, hk, rfl, HC⟩ := hrel
      have hc := HC.out.am.cell
      have ib := HC.out.am.inB
      have ln := eB_len ents hEn.out k
      have z1 : c0.length = 37 := z0.out
      have HZ := hidIt z1
      by_cases hlt : k < ents.length
      · have hk0 := List.getElem?_eq_getElem hlt
        obtain ⟨g, rfl⟩ := HC.out.adr rfl hk0
        have hg := HC.out.ent rfl hk0
        have hcg1 := hg.2.1
        have igg := hg.1
        obtain ⟨x0, x1, x2⟩ := hEn.out _ (List.getElem_mem hlt)
        have hsn := hidIt (eB_snoc ents k _ hk0)
        have HK := hidIt hk0
        have HX := hidIt (And.intro x0 x1)
        generalize ents[k] = en at *
        clear hg hk0 x0 x1
        go_wp2_with (first
          | (go_at_call 267; refine (c267 HC.out.en (by have := HZ.out; simp only [List.length_append]; omega) HX.out.1 HX.out.2).mono ?_; rintro _ w1 ⟨rfl, h1, m1⟩; replace HC := hidIt (HC.out.step h1 m1); replace hc := HC.out.am.cell; replace ib := HC.out.am.inB; clear h1 m1; replace hcg1 := (HC.out.ent rfl HK.out).2.2; replace igg := (HC.out.ent rfl HK.out).1)
          | (go_at_call 268; refine (c268 HC.out.en en.data (by omega) (by have := HZ.out; simp only [List.length_append, be8_len]; omega)).mono ?_; rintro _ w1 ⟨rfl, h1, m1⟩; replace HC := hidIt (HC.out.step h1 m1); replace hc := HC.out.am.cell; replace ib := HC.out.am.inB; clear h1 m1))
        go_roundw
        case rel => exact ⟨k + 1, by omega, by go_num, by rw [hsn.out]; simpa [List.append_assoc] using HC⟩
        case measure => simp [intOf]; omega
      · have d9 : decide (k < ents.length) = false := by simpa using hlt
        have e1 : Hid (entsB (ents.take k) = entsB ents) := by unfold Hid; rw [List.take_of_length_le (by omega)]
        rw [e1.out] at HC ln
        have hb : Hid (bodyB ⟨kind, frm, to, term, index, logTerm, commit, true, ents, data⟩ = c0 ++ entsB ents ++ ((data.length : Int) :: bi data)) := by unfold Hid bodyB; rw [e0.out]
        have hd := hD.out
        have ex : Hid (encMsg ⟨kind, frm, to, term, index, logTerm, commit, true, ents, data⟩ = Tw.ib (bodyB ⟨kind, frm, to, term, index, logTerm, commit, true, ents, data⟩ ++ [sumF (bodyB ⟨kind, frm, to, term, index, logTerm, commit, true, ents, data⟩) / 256, sumF (bodyB ⟨kind, frm, to, term, index, logTerm, commit, true, ents, data⟩) % 256])) := rfl
        have hbl := Hl.out
        rw [hb.out] at ex hbl
        have sb := sumF_bd (c0 ++ entsB ents ++ ((data.length : Int) :: bi data))
        have q268 := hidIt (c268 HC.out.en data (by omega) (by simp only [List.length_append]; omega))
        generalize c0 ++ entsB ents ++ ((data.length : Int) :: bi data) = bd at *
        go_wp2_with (first
          | (go_at_call 268; refine q268.out.mono ?_; rintro _ w1 ⟨rfl, h1, m1⟩; replace HC := hidIt (HC.out.step h1 m1); replace hc := HC.out.am.cell; replace ib := HC.out.am.inB; clear h1 m1; obtain ⟨fx, hax, -⟩ := HC.out.en.at_; have hcw := hax.cell; have ibw := hax.inB; clear hax q268)
          | (go_at_call 266; refine (c266 HC.out.en (by first | omega | (simp only [List.length_append, List.length_cons, List.length_nil, be8_len]; omega)) (by omega) (by omega)).mono ?_; rintro _ w1 ⟨rfl, h1, m1⟩; replace HC := hidIt (HC.out.step h1 m1); replace hc := HC.out.am.cell; replace ib := HC.out.am.inB; clear h1 m1))
        have ex2 : Hid (encMsg ⟨kind, frm, to, term, index, logTerm, commit, true, ents, data⟩ = Tw.ib (bd ++ [sumF bd / 256] ++ [sumF bd % 256])) := by unfold Hid; rw [ex.out]; simp
        generalize bd ++ [sumF bd / 256] ++ [sumF bd % 256] = X at *
        have hcv := run_strE (EncAt.mod HC.out.en ((ModP.refl (fun _ => False) w1).drew) (fun f => f))
        obtain ⟨fy, hay, -⟩ := HC.out.en.at_
        have hcy := hay.cell
        have iby := hay.inB
        have nX := HC.out.en.n
        have nX2 : (X.length : Int) ≤ 234 := by omega
        clear hay hcw ibw hc ib
        refine Ord.region1 [] [0, 1, 2, 3, 4, 5, 6, 7, 8] [9] (by kernel_rfl) (by kernel_rfl) (fun _ _ d _ _ h => by cases d <;> exact h) ?_
        simp only [Ord.pickO, Ord.nth]
        refine wpQuiet_nil ?_
        repeat (go_big_quiet_step (fail))
        refine wpQuiet_nil ?_
        go_wp2_with fail
        go_ret
        rw [ex2.out]
        have := HC.out.md
        exact ⟨rfl, EncS.mod HC.out.en.s ((ModP.refl (fun _ => False) w1).drew) (fun f => f), (by repeat (first | assumption | exact ModP.refl _ _ | refine ModP.fromPut ?_ (by assumption) | apply ModP.alloc | apply ModP.drew | apply ModP.drewN | refine ModP.put ?_ (by first | (left; assumption) | (left; rfl) | (right; simp only [World.inB, World.size_put] at *; omega)) _ _))⟩
end Go.Proofs.Qxb6500990aGreat
