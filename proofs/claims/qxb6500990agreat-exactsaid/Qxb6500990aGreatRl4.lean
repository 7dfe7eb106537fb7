/- the real log: each change keeps the tie of model and disk -/
import Derived.Test.Qxb6500990aGreatRl3
set_option linter.unusedVariables false
set_option linter.unusedSimpArgs false
namespace Go.Tw
open Go Go.Proofs Go.Proofs.Qxb6500990aGreat
/-- in the midst of an operation -/
structure Mid (A : AL) (D : Dk) (M : Nat) : Prop where
  c : CutOk A D M
  g : Good D.now A.now M
  tip : A.state A.hist.length = A.now
section
variable {A : AL} {D : Dk} {M N r : Nat}
theorem Tie.mid (h : Tie A D N r) : Mid A D (N + A.hist.length) := ⟨h.c, h.g, h.tip⟩
theorem Mid.mono (h : Mid A D M) {M' : Nat} (hM : M ≤ M') : Mid A D M' := ⟨⟨fun k hk => by obtain ⟨j, h1, h2⟩ := h.c.cut k hk; exact ⟨j, h1, h2.mono hM⟩, h.c.foot.mono hM, h.c.all⟩, h.g.mono hM, h.tip⟩
theorem AL.to_now (s : Lg) : (A.to s).now = s := rfl
theorem AL.to_len' (s : Lg) : (A.to s).hist.length = A.hist.length + 1 := by simp [AL.to]
theorem AL.tip_to (s : Lg) : (A.to s).state (A.to s).hist.length = (A.to s).now := by
  rw [AL.to_len']; exact AL.to_tip A s
/-- one write that makes a step of the model -/
theorem Mid.step (h : Mid A D M) {s : Lg} {b : Nat} (b14 : b < 14) {x : Bs} (hx : x.length = 64) {M' : Nat} (hM : M ≤ M')
    (g1 : Good (D.now.set b (tornX x (blk D.now b))) A.now M' ∨ Good (D.now.set b (tornX x (blk D.now b))) s M') (g2 : Good (D.now.set b x) s M') : Mid (A.to s) (D.write b x) M' := by
  have hb := h.g.bl
  have c1 := h.c.to s hM
  refine ⟨?_, g2, AL.tip_to s⟩
  have t2 : (A.to s).state ((A.hist.length + 1 : Nat) : Int) = s := AL.to_tip A s
  have t1 : (A.to s).state ((A.hist.length : Nat) : Int) = A.now := by rw [AL.to_state A s (Nat.le_refl _)]; exact h.tip
  rcases g1 with g1 | g1
  · exact c1.write hb b14 hx (j1 := A.hist.length) (j2 := A.hist.length + 1) (by rw [AL.to_len']; omega) (by rw [AL.to_len']; omega) (by rw [t1]; exact g1) (by rw [t2]; exact g2)
  · exact c1.write hb b14 hx (j1 := A.hist.length + 1) (j2 := A.hist.length + 1) (by rw [AL.to_len']; omega) (by rw [AL.to_len']; omega) (by rw [t2]; exact g1) (by rw [t2]; exact g2)
/-- one write that changes nothing that can be seen -/
theorem Mid.still (h : Mid A D M) {b : Nat} (b14 : b < 14) {x : Bs} (hx : x.length = 64)
    (g1 : Good (D.now.set b (tornX x (blk D.now b))) A.now M) (g2 : Good (D.now.set b x) A.now M) : Mid A (D.write b x) M := by
  refine ⟨h.c.write h.g.bl b14 hx (j1 := A.hist.length) (j2 := A.hist.length) (Nat.le_refl _) (Nat.le_refl _) (by rw [h.tip]; exact g1) (by rw [h.tip]; exact g2), g2, h.tip⟩
end
section
variable {l : List Bs} {s : Lg} {M : Nat}
theorem metaX_len (t v : Int) : (metaX l t v).length = 64 := by unfold metaX; rw [stampX_len, encMeta_len]
theorem stM_lt (h : Good l s M) (hM : M ≤ 2251799813685248) : (stM l).num < 4611686018427387904 := by have := h.mn; omega
theorem stH_lt (h : Good l s M) (hM : M ≤ 2251799813685248) : (stH l).num < 4611686018427387904 := by have := h.hn; omega
theorem Good.meta_torn (h : Good l s M) (t v : Int) : Good (l.set (oth (stMS l)) (tornX (metaX l t v) (blk l (oth (stMS l))))) s M := by
  obtain ⟨o1, o2⟩ := oth_lt (stMS_cases l)
  have hst : stStamp l (oth (stMS l)) = (blk l (oth (stMS l))).getD 63 0 := by unfold stStamp; rw [if_pos (by omega)]
  have hlen := h.bl.len (b := oth (stMS l)) (by omega)
  have ht : wholeB (tornX (metaX l t v) (blk l (oth (stMS l)))) = false := by unfold metaX; rw [hst]; exact torn_stamp (encMeta_len _) hlen
  exact h.same (h.bl.set (tornX_len (metaX_len t v) hlen)) (h.sa.torn h.bl (by omega) ht) (stOf_meta_torn h.bl (encMeta_len _))
theorem Good.meta_full (h : Good l s M) (hM : M ≤ 2251799813685248) {t v : Int} (t0 : 0 ≤ t) (t1 : t ≤ maxT) (v0 : -1 ≤ v) (v1 : v < 3) : Good (l.set (oth (stMS l)) (metaX l t v)) { s with term := t, vote := v } (M + 1) := by
  obtain ⟨o1, o2⟩ := oth_lt (stMS_cases l)
  have n0 := stM_num0 l
  have n1 := stM_lt h hM
  have mn := h.mn
  have hn := h.hn
  have t1' := t1
  unfold maxT at t1'
  have hd := decMeta_enc (m := ⟨true, (stM l).num + 1, t, v⟩) (s := nextS (stStamp l (oth (stMS l)))) rfl (by simp only []; omega) (by simp only []; omega) t0 (by simp only []; omega) v0 (by simp only []; omega) (nextS_ne0 _)
  have hf := fits_meta (m := ⟨true, (stM l).num + 1, t, v⟩) (s := nextS (stStamp l (oth (stMS l)))) (by simp only []; omega) (by simp only []; omega) t0 (by simp only []; omega)
  have e := stOf_meta_full (d := vp 0) h.bl (encMeta_len _) hd rfl rfl
  refine Good.of (h.bl.set (metaX_len t v)) (h.sa.set h.bl (by omega) (fun _ => ⟨fun _ => hf, by omega, by omega⟩)) e (h.rc.meta _ _ _ _ _ _) (by simp only []; omega) (by show (stH l).num ≤ _; omega) ?_
  exact ⟨t0, t1, v0, v1, h.ok.b0, h.ok.bt0, h.ok.bt1, h.ok.sn, h.ok.n6, h.ok.lm, h.ok.en⟩
theorem recX_len (c : Nat) (q : Rec) : (recX l c q).length = 64 := by unfold recX; rw [stampX_len, encRec_len]
theorem delX_len (c : Nat) : (delX l c).length = 64 := by unfold delX; rw [stampX_len]; rfl
theorem torn8 (h : Good l s M) {c : Nat} (c6 : c < 6) {y : Bs} (hy : y.length = 64) : wholeB (tornX (stampX y (nextS (stStamp l (8 + c)))) (blk l (8 + c))) = false := by
  have hst : stStamp l (8 + c) = (blk l (8 + c)).getD 63 0 := by unfold stStamp; rw [if_pos (by omega)]
  rw [hst]; exact torn_stamp hy (h.bl.len (by omega))
/-- whatever makes slot c empty -/
theorem Good.emp (h : Good l s M) {c : Nat} (c6 : c < 6) {x : Bs} (hx : x.length = 64) (hz : decRecS x = none) (hf : wholeB x = true → Fits x [2, 35]) {s' : Lg} (hr : ∀ st, RecS { stOf (vp 0) l with used := upd (stUsed l) c false, recs := upd (stRec l) c zRec, stamp := st } s') (ok : s'.Ok) :
    Good (l.set (8 + c) x) s' M := by
  have e := stOf_rec (d := vp 0) h.bl c6 none hz
  exact Good.of (h.bl.set hx) (h.sa.set h.bl (by omega) (fun w => ⟨by omega, by omega, fun _ => hf w⟩)) e (hr _) h.mn h.hn ok
theorem Good.del (h : Good l s M) {c : Nat} (c6 : c < 6) {s' : Lg} (hr : ∀ st, RecS { stOf (vp 0) l with used := upd (stUsed l) c false, recs := upd (stRec l) c zRec, stamp := st } s') (ok : s'.Ok) :
    Good (l.set (8 + c) (tornX (delX l c) (blk l (8 + c)))) s' M ∧ Good (l.set (8 + c) (delX l c)) s' M := by
  have ht : wholeB (tornX (delX l c) (blk l (8 + c))) = false := by unfold delX; exact torn8 h c6 z64b_len
  exact ⟨h.emp c6 (tornX_len (delX_len c) (h.bl.len (by omega))) (decRec_torn ht) (fun w => by rw [ht] at w; cases w) hr ok, h.emp c6 (delX_len c) (by unfold delX; exact decRec_del _) (fun _ => by unfold delX; exact fits_del _) hr ok⟩
theorem Good.put_torn (h : Good l s M) {c : Nat} (c6 : c < 6) (hu : stUsed l c = false) (q : Rec) : Good (l.set (8 + c) (tornX (recX l c q) (blk l (8 + c)))) s M := by
  have ht : wholeB (tornX (recX l c q) (blk l (8 + c))) = false := by unfold recX; exact torn8 h c6 (encRec_len q)
  have hlen := h.bl.len (b := 8 + c) (by omega)
  refine h.same (h.bl.set (tornX_len (recX_len c q) hlen)) (h.sa.torn h.bl (by omega) ht) ?_
  have e := stOf_rec (d := vp 0) h.bl c6 none (decRec_torn ht)
  rw [e]
  have hsl : slotAt l c = none := by
    unfold stUsed at hu
    simp [c6] at hu
    exact hu
  have e1 : upd (stUsed l) c (none : Option Rec).isSome = stUsed l := upd_self _ _ _ (by rw [hu]; rfl)
  have e2 : upd (stRec l) c ((none : Option Rec).getD zRec) = stRec l := upd_self _ _ _ (by unfold stRec; rw [if_pos c6, hsl])
  have e3 : upd (stStamp l) (8 + c) ((tornX (recX l c q) (blk l (8 + c))).getD 63 0) = stStamp l := upd_self _ _ _ (by rw [tornX_63 (recX_len c q) hlen]; unfold stStamp; rw [if_pos (by omega)])
  rw [e1, e2, e3]
  rfl
theorem Good.put_full (h : Good l s M) {c : Nat} (c6 : c < 6) {q : Rec} (hq : q.In) {s' : Lg} (hr : ∀ st, RecS { stOf (vp 0) l with used := upd (stUsed l) c true, recs := upd (stRec l) c q, stamp := st } s') (ok : s'.Ok) : Good (l.set (8 + c) (recX l c q)) s' M := by
  have e := stOf_rec (d := vp 0) h.bl c6 (x := recX l c q) (some q) (by unfold recX; exact decRec_enc hq (nextS_ne0 _))
  exact Good.of (h.bl.set (recX_len c q)) (h.sa.set h.bl (by omega) (fun _ => ⟨by omega, by omega, fun _ => by unfold recX; exact fits_rec hq⟩)) e (hr _) h.mn h.hn ok
theorem Good.area (h : Good l s M) {k : Nat} (hk : k < 2) {x : Bs} (hx : x.length = 64) : Good (l.set (4 + snapA l * 2 + k) x) s M := by
  have := (snapA_lt l).1
  exact h.same (h.bl.set hx) (h.sa.set h.bl (by omega) (fun _ => ⟨by omega, by omega, by omega⟩)) (stOf_area h.bl hk)
end
section
variable {A : AL} {D : Dk} {M N r : Nat}
theorem Mid.snapD (h : Mid A D M) (data : Bs) : ∀ k, k ≤ 2 → Mid A (snapD D (snapA D.now) data k) M
  | 0, _ => h
  | k + 1, hk => by
    have m := Mid.snapD h data k (by omega)
    have e : snapA (Tw.snapD D (snapA D.now) data k).now = snapA D.now := snapA_eq (stOf_inj (snapD_now D h.g.bl data k (by omega)).2).2.2.2.1
    have ha := (snapA_lt D.now).1
    have hlen := m.g.bl.len (b := 4 + snapA D.now * 2 + k) (by omega)
    have g1 := m.g.area (k := k) (by omega) (x := tornX (chunkS data k) (blk (Tw.snapD D (snapA D.now) data k).now (4 + snapA D.now * 2 + k))) (tornX_len (chunkS_len _ _) hlen)
    have g2 := m.g.area (k := k) (by omega) (x := chunkS data k) (chunkS_len _ _)
    rw [e] at g1 g2
    exact m.still (by omega) (chunkS_len _ _) g1 g2
theorem headX_len (l : List Bs) (idx t : Int) (data : Bs) : (headX l idx t data).length = 64 := by unfold headX; rw [stampX_len, encHead_len]
/-- SetSnap as a step of the model -/
theorem Mid.snap (h : Mid A D M) (hM : M ≤ 2251799813685248) {idx t : Int} {data : Bs} (i0 : 0 ≤ idx) (i1 : idx ≤ maxT) (t0 : 0 ≤ t) (t1 : t ≤ maxT) (hl : data.length ≤ 128) {s' : Lg}
    (hr : ∀ (hd : Head) hs st, hd.idx = idx → hd.term = t → RecS { stOf (vp 0) D.now with h := hd, hSlot := hs, snap := data, stamp := st } s') (ok : s'.Ok) : Mid (A.to s') (snapDD D idx t data) (M + 1) := by
  have n1 := stH_lt h.g hM
  have m := h.snapD data (nCh data) (nCh_le hl)
  have e := snapDD_stOf D h.g.bl i0 i1 t0 t1 hl n1 (vp 0)
  obtain ⟨hb, h2⟩ := snapD_now D h.g.bl data (nCh data) (nCh_le hl)
  obtain ⟨q1, q2, q3, q4, q5, q6, q7⟩ := stOf_inj h2
  obtain ⟨o1, o2⟩ := oth_lt (stHS_cases D.now)
  have hmn := h.g.mn
  have hhn := h.g.hn
  unfold snapDD at e ⊢
  have hf := fits_head (s := nextS (stStamp D.now (2 + oth (stHS D.now)))) (headIn (l := D.now) (data := data) i0 i1 t0 t1 hl n1)
  generalize hD1 : Tw.snapD D (snapA D.now) data (nCh data) = D1 at *
  have hlen := hb.len (b := 2 + oth (stHS D.now)) (by omega)
  refine m.step (by omega) (headX_len _ _ _ _) (Nat.le_succ M) (.inl ?_) ?_
  · have hst : stStamp D.now (2 + oth (stHS D.now)) = (blk D1.now (2 + oth (stHS D.now))).getD 63 0 := by rw [← q1]; unfold stStamp; rw [if_pos (by omega)]
    have ht : wholeB (tornX (headX D.now idx t data) (blk D1.now (2 + oth (stHS D.now)))) = false := by unfold headX; rw [hst]; exact torn_stamp (encHead_len _) hlen
    refine (m.g.mono (Nat.le_succ M)).same (hb.set (tornX_len (headX_len _ _ _ _) hlen)) (m.g.sa.torn hb (by omega) ht) ?_
    have := stOf_head_torn (d := vp 0) hb (y := encHeadS ⟨true, (stH D.now).num + 1, idx, t, snapA D.now, data.length⟩) (encHead_len _)
    rw [q1, q5] at this
    exact this
  · refine Good.of (hb.set (headX_len _ _ _ _)) (m.g.sa.set hb (by omega) (fun _ => ⟨by omega, fun _ _ => by unfold headX; exact hf, by omega⟩)) e (hr _ _ _ rfl rfl) ?_ ?_ ok
    · show (stM D.now).num ≤ _; omega
    · show (stH D.now).num + 1 ≤ _; omega
/-- a slot without a live entry is emptied -/
theorem Mid.del (h : Mid A D M) {c : Nat} (c6 : c < 6) (hc : ∀ (i : Nat) (e : Entry), A.now.ents[i]? = some e → slN (A.now.base + 1 + i) ≠ c) : Mid A (D.write (8 + c) (delX D.now c)) M := by
  obtain ⟨g1, g2⟩ := h.g.del c6 (s' := A.now) (fun st => h.g.rc.del hc st zRec) h.g.ok
  exact h.still (by omega) (delX_len c) g1 g2
theorem del_used (D : Dk) (hb : Blocks D.now) {c : Nat} (c6 : c < 6) : stUsed (D.write (8 + c) (delX D.now c)).now = upd (stUsed D.now) c false ∧ stRec (D.write (8 + c) (delX D.now c)).now = upd (stRec D.now) c zRec := by
  have e := stOf_rec (d := vp 0) hb c6 (x := delX D.now c) none (by unfold delX; exact decRec_del _)
  have e1 : (stOf (vp 0) (D.now.set (8 + c) (delX D.now c))).used = upd (stUsed D.now) c false := by rw [e]; rfl
  have e2 : (stOf (vp 0) (D.now.set (8 + c) (delX D.now c))).recs = upd (stRec D.now) c zRec := by rw [e]; rfl
  exact ⟨e1, e2⟩
/-- SetTerm -/
theorem Tie.setTerm (h : Tie A D N r) {t v : Int} (t0 : 0 ≤ t) (t1 : t ≤ maxT) (v0 : -1 ≤ v) (v1 : v < 3) (hh : A.hist.length ≤ 480) :
    Tie (A.to { A.now with term := t, vote := v }) (D.write (oth (stMS D.now)) (metaX D.now t v)) N r := by
  obtain ⟨o1, o2⟩ := oth_lt (stMS_cases D.now)
  have hM : N + A.hist.length ≤ 2251799813685248 := by have := h.nb; omega
  have g2 := h.g.meta_full hM t0 t1 v0 v1
  have m := h.mid.step (by omega) (metaX_len t v) (Nat.le_succ _) (.inl ((h.g.meta_torn t v).mono (Nat.le_succ _))) g2
  have hl : (A.to { A.now with term := t, vote := v }).hist.length = A.hist.length + 1 := AL.to_len' _
  refine ⟨by rw [hl, ← Nat.add_assoc]; exact m.c, by rw [hl, ← Nat.add_assoc]; exact m.g, ?_, m.tip, ?_, ?_, h.nb⟩
  · have n0 := stM_num0 D.now
    have n1 := stM_lt h.g hM
    have t1' := t1
    unfold maxT at t1'
    have e := stOf_meta_full (d := vp 0) h.g.bl (y := encMetaS ⟨true, (stM D.now).num + 1, t, v⟩) (encMeta_len _) (decMeta_enc (m := ⟨true, (stM D.now).num + 1, t, v⟩) rfl (by simp only []; omega) (by simp only []; omega) t0 (by simp only []; omega) v0 (by simp only []; omega) (nextS_ne0 _)) rfl rfl
    show CleanS (stOf (vp 0) (D.now.set (oth (stMS D.now)) (metaX D.now t v))) _
    unfold metaX
    rw [e]
    exact h.cl
  · have := h.len
    rw [hl]; simp only [Dk.write, List.length_append, List.length_cons, List.length_nil]; omega
  · intro e; simp [AL.to] at e
/-- Append -/
theorem Tie.push (h : Tie A D N r) {e : Entry} (he : entOK e = true) (h6 : A.now.ents.length < 6) (hl : A.now.last < maxT) :
    stUsed D.now (slN (A.now.last + 1)) = false ∧ Tie (A.to { A.now with ents := A.now.ents ++ [e] }) (D.write (8 + slN (A.now.last + 1)) (recX D.now (slN (A.now.last + 1)) ⟨A.now.last + 1, e.term, e.data⟩)) N r := by
  have hf := h.g.rc.free h.cl h6
  have ce := entOK_iff.1 he
  have c6 := slN_lt (A.now.last + 1)
  have b0 := h.g.ok.b0
  have hl' := hl
  unfold Lg.last maxT at hl'
  have ct := ce.2.1
  unfold maxT at ct
  have hq : Rec.In ⟨A.now.last + 1, e.term, e.data⟩ := ⟨by unfold Lg.last; simp only []; omega, by unfold Lg.last; simp only []; omega, ce.1, by simp only []; omega, ce.2.2⟩
  have ok : Lg.Ok { A.now with ents := A.now.ents ++ [e] } := by
    have q := h.g.ok
    refine ⟨q.t0, q.t1, q.v0, q.v1, q.b0, q.bt0, q.bt1, q.sn, by simp; omega, by unfold Lg.last at hl; simp; omega, ?_⟩
    intro x hx
    simp only [List.mem_append, List.mem_singleton] at hx
    rcases hx with hx | rfl
    · exact q.en x hx
    · exact ce
  have g1 := h.g.put_torn c6 hf ⟨A.now.last + 1, e.term, e.data⟩
  have g2 := h.g.put_full c6 hq (s' := { A.now with ents := A.now.ents ++ [e] }) (fun st => (h.g.rc.push h.cl h6 b0 e st).1) ok
  have m := h.mid.step (by omega) (recX_len _ _) (Nat.le_succ _) (.inl (g1.mono (Nat.le_succ _))) (g2.mono (Nat.le_succ _))
  have hlen : (A.to { A.now with ents := A.now.ents ++ [e] }).hist.length = A.hist.length + 1 := AL.to_len' _
  refine ⟨hf, by rw [hlen, ← Nat.add_assoc]; exact m.c, by rw [hlen, ← Nat.add_assoc]; exact m.g, ?_, m.tip, ?_, ?_, h.nb⟩
  · have e1 := stOf_rec (d := vp 0) h.g.bl c6 (x := recX D.now (slN (A.now.last + 1)) ⟨A.now.last + 1, e.term, e.data⟩) (some ⟨A.now.last + 1, e.term, e.data⟩) (by unfold recX; exact decRec_enc hq (nextS_ne0 _))
    show CleanS (stOf (vp 0) (D.now.set _ _)) _
    rw [e1]
    exact (h.g.rc.push h.cl h6 b0 e _).2
  · have := h.len
    rw [hlen]; simp only [Dk.write, List.length_append, List.length_cons, List.length_nil]; omega
  · intro e; simp [AL.to] at e
/-- the last entry goes -/
theorem Tie.pop (h : Tie A D N r) (h0 : A.now.ents ≠ []) :
    stUsed D.now (slN A.now.last) = true ∧ Tie A.pop (D.write (8 + slN A.now.last) (delX D.now (slN A.now.last))) N r := by
  have c6 := slN_lt A.now.last
  have hp := fun st => h.g.rc.pop h.cl h0 h.g.ok.n6 st zRec
  have ok : Lg.Ok { A.now with ents := A.now.ents.dropLast } := by
    have q := h.g.ok
    have n6 := q.n6
    have lm := q.lm
    refine ⟨q.t0, q.t1, q.v0, q.v1, q.b0, q.bt0, q.bt1, q.sn, by simp; omega, by simp; omega, fun x hx => q.en x (List.dropLast_subset _ hx)⟩
  obtain ⟨g1, g2⟩ := h.g.del c6 (s' := { A.now with ents := A.now.ents.dropLast }) (fun st => (hp st).1) ok
  have m := h.mid.step (by omega) (delX_len _) (Nat.le_succ _) (.inr (g1.mono (Nat.le_succ _))) (g2.mono (Nat.le_succ _))
  have hlen : A.pop.hist.length = A.hist.length + 1 := AL.to_len' _
  refine ⟨(hp (fun _ => 0)).2, by rw [hlen, ← Nat.add_assoc]; exact m.c, by rw [hlen, ← Nat.add_assoc]; exact m.g, ?_, m.tip, ?_, ?_, h.nb⟩
  · have e1 := stOf_rec (d := vp 0) h.g.bl c6 (x := delX D.now (slN A.now.last)) none (by unfold delX; exact decRec_del _)
    show CleanS (stOf (vp 0) (D.now.set _ _)) _
    rw [e1]
    exact h.cl.del _ _ _
  · have := h.len
    rw [hlen]; simp only [Dk.write, List.length_append, List.length_cons, List.length_nil]; omega
  · intro e; simp [AL.pop, AL.to] at e
end
end Go.Tw
