/- the real log over the store: what blocks recover to, cuts -/
import Derived.Test.Qxb6500990aGreatSto2
import Derived.Test.Qxb6500990aGreatLgOk
set_option linter.unusedVariables false
set_option linter.unusedSimpArgs false
namespace Go.Tw
open Go Go.Proofs Go.Proofs.Qxb6500990aGreat
def slN (i : Int) : Nat := (i % 6).toNat
theorem slN_lt (i : Int) : slN i < 6 := by unfold slN; omega
theorem slN_eq {i j : Int} (h : slN i = slN j) (h1 : i - 6 < j) (h2 : j < i + 6) : i = j := by unfold slN at h; omega
/-- the store S recovers to the log s; rubbish at or below the base may lie there -/
structure RecS (S : StoreR) (s : Lg) : Prop where
  t : S.m.term = s.term
  v : S.m.vote = s.vote
  b : S.h.idx = s.base
  bt : S.h.term = s.baseTerm
  sn : S.snap = s.snap
  up : ∀ (i : Nat) (e : Entry), s.ents[i]? = some e → S.used (slN (s.base + 1 + i)) = true ∧ S.recs (slN (s.base + 1 + i)) = ⟨s.base + 1 + i, e.term, e.data⟩
  dn : ∀ c, c < 6 → S.used c = true → slN (S.recs c).idx = c ∧ 0 ≤ (S.recs c).idx ∧ (S.recs c).idx ≤ s.last
def CleanS (S : StoreR) (s : Lg) : Prop := ∀ c, c < 6 → S.used c = true → s.base < (S.recs c).idx
section
variable {S : StoreR} {s : Lg}
theorem RecS.free (h : RecS S s) (hc : CleanS S s) (h6 : s.ents.length < 6) : S.used (slN (s.last + 1)) = false := by
  cases hu : S.used (slN (s.last + 1)) with
  | false => rfl
  | true =>
    obtain ⟨d1, d2, d3⟩ := h.dn _ (slN_lt _) hu
    have d4 := hc _ (slN_lt _) hu
    unfold Lg.last at *
    have := slN_eq d1 (by omega) (by omega)
    omega
theorem RecS.meta (h : RecS S s) (n t v : Int) (o : Bool) (ms : Int) (st : Nat → UInt8) : RecS { S with m := ⟨o, n, t, v⟩, mSlot := ms, stamp := st } { s with term := t, vote := v } :=
  ⟨rfl, rfl, h.b, h.bt, h.sn, h.up, h.dn⟩
theorem RecS.stamp (h : RecS S s) (st : Nat → UInt8) : RecS { S with stamp := st } s := ⟨h.t, h.v, h.b, h.bt, h.sn, h.up, h.dn⟩
theorem RecS.push (h : RecS S s) (hc : CleanS S s) (h6 : s.ents.length < 6) (b0 : 0 ≤ s.base) (e : Entry) (st : Nat → UInt8) :
    RecS { S with used := upd S.used (slN (s.last + 1)) true, recs := upd S.recs (slN (s.last + 1)) ⟨s.last + 1, e.term, e.data⟩, stamp := st } { s with ents := s.ents ++ [e] } ∧
    CleanS { S with used := upd S.used (slN (s.last + 1)) true, recs := upd S.recs (slN (s.last + 1)) ⟨s.last + 1, e.term, e.data⟩, stamp := st } { s with ents := s.ents ++ [e] } := by
  refine ⟨⟨h.t, h.v, h.b, h.bt, h.sn, ?_, ?_⟩, ?_⟩
  · intro i x hx
    have hx' : (s.ents ++ [e])[i]? = some x := hx
    by_cases hi : i < s.ents.length
    · rw [List.getElem?_append_left hi] at hx'
      obtain ⟨u1, u2⟩ := h.up i x hx'
      have hne : slN (s.base + 1 + i) ≠ slN (s.last + 1) := fun q => by
        have := slN_eq q (by unfold Lg.last; omega) (by unfold Lg.last; omega)
        unfold Lg.last at this; omega
      show upd S.used _ _ _ = true ∧ upd S.recs _ _ _ = _
      rw [upd_ne _ _ hne, upd_ne _ _ hne]
      exact ⟨u1, u2⟩
    · have hi2 : i = s.ents.length := by
        have := (List.getElem?_eq_some_iff.1 hx').1
        simp at this; omega
      subst hi2
      rw [List.getElem?_append_right (Nat.le_refl _)] at hx'
      simp at hx'
      subst hx'
      have e1 : s.base + 1 + (s.ents.length : Int) = s.last + 1 := by unfold Lg.last; omega
      show upd S.used _ _ (slN (s.base + 1 + (s.ents.length : Int))) = true ∧ upd S.recs _ _ (slN (s.base + 1 + (s.ents.length : Int))) = ⟨s.base + 1 + (s.ents.length : Int), _, _⟩
      rw [e1, upd_same, upd_same]
      exact ⟨rfl, rfl⟩
  · intro c c6 hu
    have hl : Lg.last { s with ents := s.ents ++ [e] } = s.last + 1 := by unfold Lg.last; simp; omega
    show slN (upd S.recs _ _ c).idx = c ∧ 0 ≤ (upd S.recs _ _ c).idx ∧ (upd S.recs _ _ c).idx ≤ _
    rw [hl]
    by_cases ec : c = slN (s.last + 1)
    · rw [ec, upd_same]; unfold Lg.last; exact ⟨rfl, by simp only []; omega, by simp only []; omega⟩
    · have hu' : S.used c = true := by have : upd S.used _ _ c = true := hu; rwa [upd_ne _ _ ec] at this
      rw [upd_ne _ _ ec]
      obtain ⟨d1, d2, d3⟩ := h.dn c c6 hu'
      exact ⟨d1, d2, by omega⟩
  · intro c c6 hu
    show s.base < (upd S.recs _ _ c).idx
    by_cases ec : c = slN (s.last + 1)
    · rw [ec, upd_same]; unfold Lg.last; simp only []; omega
    · have hu' : S.used c = true := by have : upd S.used _ _ c = true := hu; rwa [upd_ne _ _ ec] at this
      rw [upd_ne _ _ ec]
      exact hc c c6 hu'
/-- a slot without a live entry is emptied -/
theorem RecS.del (h : RecS S s) {c : Nat} (hc : ∀ (i : Nat) (e : Entry), s.ents[i]? = some e → slN (s.base + 1 + i) ≠ c) (st : Nat → UInt8) (z : Rec) : RecS { S with used := upd S.used c false, recs := upd S.recs c z, stamp := st } s := by
  refine ⟨h.t, h.v, h.b, h.bt, h.sn, ?_, ?_⟩
  · intro i e he
    show upd S.used _ _ _ = true ∧ upd S.recs _ _ _ = _
    rw [upd_ne _ _ (hc i e he), upd_ne _ _ (hc i e he)]
    exact h.up i e he
  · intro k k6 hu
    show slN (upd S.recs _ _ k).idx = k ∧ 0 ≤ (upd S.recs _ _ k).idx ∧ (upd S.recs _ _ k).idx ≤ _
    have hu1 : upd S.used c false k = true := hu
    by_cases ek : k = c
    · rw [ek, upd_same] at hu1; cases hu1
    · rw [upd_ne _ _ ek] at hu1 ⊢
      exact h.dn k k6 hu1
theorem CleanS.del (h : CleanS S s) (c : Nat) (st : Nat → UInt8) (z : Rec) : CleanS { S with used := upd S.used c false, recs := upd S.recs c z, stamp := st } s := by
  intro k k6 hu
  have hu1 : upd S.used c false k = true := hu
  show s.base < (upd S.recs _ _ k).idx
  by_cases ek : k = c
  · rw [ek, upd_same] at hu1; cases hu1
  · rw [upd_ne _ _ ek] at hu1 ⊢
    exact h k k6 hu1
theorem RecS.pop (h : RecS S s) (hc : CleanS S s) (h0 : s.ents ≠ []) (h6 : s.ents.length ≤ 6) (st : Nat → UInt8) (z : Rec) :
    RecS { S with used := upd S.used (slN s.last) false, recs := upd S.recs (slN s.last) z, stamp := st } { s with ents := s.ents.dropLast } ∧ S.used (slN s.last) = true := by
  have hn : 0 < s.ents.length := List.length_pos_iff.2 h0
  obtain ⟨e, he⟩ : ∃ e, s.ents[s.ents.length - 1]? = some e := ⟨_, List.getElem?_eq_getElem (by omega)⟩
  have hl : s.base + 1 + ((s.ents.length - 1 : Nat) : Int) = s.last := by unfold Lg.last; omega
  have hlast := h.up _ _ he
  rw [hl] at hlast
  refine ⟨⟨h.t, h.v, h.b, h.bt, h.sn, ?_, ?_⟩, hlast.1⟩
  · intro i x hx
    have hx' : s.ents.dropLast[i]? = some x := hx
    have hi : i < s.ents.length - 1 := by have := (List.getElem?_eq_some_iff.1 hx').1; simpa using this
    have hx2 : s.ents[i]? = some x := by rw [List.getElem?_dropLast] at hx'; rw [if_pos hi] at hx'; exact hx'
    have hne : slN (s.base + 1 + i) ≠ slN s.last := fun q => by
      have := slN_eq q (by unfold Lg.last; omega) (by unfold Lg.last; omega)
      unfold Lg.last at this; omega
    show upd S.used _ _ _ = true ∧ upd S.recs _ _ _ = _
    rw [upd_ne _ _ hne, upd_ne _ _ hne]
    exact h.up i x hx2
  · intro c c6 hu
    have hu1 : upd S.used (slN s.last) false c = true := hu
    have hl2 : Lg.last { s with ents := s.ents.dropLast } = s.last - 1 := by unfold Lg.last; simp; omega
    rw [hl2]
    show slN (upd S.recs _ _ c).idx = c ∧ 0 ≤ (upd S.recs _ _ c).idx ∧ (upd S.recs _ _ c).idx ≤ _
    by_cases ek : c = slN s.last
    · rw [ek, upd_same] at hu1; cases hu1
    · rw [upd_ne _ _ ek] at hu1 ⊢
      obtain ⟨d1, d2, d3⟩ := h.dn c c6 hu1
      refine ⟨d1, d2, ?_⟩
      have : (S.recs c).idx ≠ s.last := fun q => ek (by rw [← q]; exact d1.symm)
      omega
/-- the snapshot is set -/
theorem RecS.snap (h : RecS S s) {idx term : Int} {sn : Bs} {es : List Entry} {hd : Head} (hi : hd.idx = idx) (ht : hd.term = term) (hes : ∀ (i : Nat) (e : Entry), es[i]? = some e → s.ents[(idx - s.base).toNat + i]? = some e) (hb : s.base ≤ idx) (hl : s.last ≤ idx + es.length) (hs : Int) (st : Nat → UInt8) :
    RecS { S with h := hd, hSlot := hs, snap := sn, stamp := st } { s with base := idx, baseTerm := term, snap := sn, ents := es } := by
  refine ⟨h.t, h.v, hi, ht, rfl, ?_, ?_⟩
  · intro i e he
    have := h.up _ _ (hes i e he)
    have e1 : s.base + 1 + (((idx - s.base).toNat + i : Nat) : Int) = idx + 1 + i := by omega
    rw [e1] at this
    exact this
  · intro c c6 hu
    obtain ⟨d1, d2, d3⟩ := h.dn c c6 hu
    exact ⟨d1, d2, by show _ ≤ idx + (es.length : Int); exact Int.le_trans d3 hl⟩
end
/-- l recovers to s -/
structure Good (l : List Bs) (s : Lg) (M : Nat) : Prop where
  bl : Blocks l
  sa : Sane l
  rc : RecS (stOf (vp 0) l) s
  mn : (stM l).num ≤ M
  hn : (stH l).num ≤ M
  ok : s.Ok
theorem Good.mono {l : List Bs} {s : Lg} {M M' : Nat} (h : Good l s M) (hM : M ≤ M') : Good l s M' := ⟨h.bl, h.sa, h.rc, by have := h.mn; omega, by have := h.hn; omega, h.ok⟩
theorem Good.same {l l' : List Bs} {s : Lg} {M : Nat} (h : Good l s M) (hb : Blocks l') (hs : Sane l') (he : stOf (vp 0) l' = stOf (vp 0) l) : Good l' s M := by
  refine ⟨hb, hs, by rw [he]; exact h.rc, ?_, ?_, h.ok⟩
  · have : (stOf (vp 0) l').m = (stOf (vp 0) l).m := by rw [he]
    have e : stM l' = stM l := this
    rw [e]; exact h.mn
  · have : (stOf (vp 0) l').h = (stOf (vp 0) l).h := by rw [he]
    have e : stH l' = stH l := this
    rw [e]; exact h.hn
theorem Good.of {l' : List Bs} {s' : Lg} {M : Nat} {S : StoreR} (hb : Blocks l') (hs : Sane l') (he : stOf (vp 0) l' = S) (hr : RecS S s') (mn : S.m.num ≤ M) (hn : S.h.num ≤ M) (ok : s'.Ok) : Good l' s' M := by
  subst he
  exact ⟨hb, hs, hr, mn, hn, ok⟩
theorem stOf_d {l l' : List Bs} (d d' : Value) (h : stOf d l = stOf d l') : stOf d' l = stOf d' l' := by
  have e : ∀ x : List Bs, stOf d' x = { stOf d x with d := d' } := fun _ => rfl
  rw [e, e, h]
theorem RecS.d {S : StoreR} {s : Lg} (h : RecS S s) (d : Value) : RecS { S with d := d } s := ⟨h.t, h.v, h.b, h.bt, h.sn, h.up, h.dn⟩
/-- whatever the cut, the disk recovers to a step of the model's -/
structure CutOk (A : AL) (D : Dk) (M : Nat) : Prop where
  cut : ∀ k, k ≤ D.wr.length → ∃ j : Nat, j ≤ A.hist.length ∧ Good (D.after k) (A.state j) M
  foot : Good D.mark A.mark M
  all : D.after D.wr.length = D.now
theorem AL.to_state (a : AL) (s : Lg) {j : Nat} (h : j ≤ a.hist.length) : (a.to s).state j = a.state j := by
  unfold AL.state AL.to
  simp only [List.length_append, List.length_cons, List.length_nil, Int.toNat_natCast]
  rw [Nat.min_eq_left (by omega), Nat.min_eq_left h]
  cases j with
  | zero => rfl
  | succ n => simp only [List.getD_eq_getElem?_getD]; rw [List.getElem?_append_left (by omega)]
theorem AL.to_tip (a : AL) (s : Lg) : (a.to s).state ((a.hist.length + 1 : Nat) : Int) = s := by
  unfold AL.state AL.to
  simp only [List.length_append, List.length_cons, List.length_nil, Int.toNat_natCast]
  rw [Nat.min_eq_left (by omega)]
  simp [List.getD_eq_getElem?_getD]
section
variable {A : AL} {D : Dk} {M : Nat}
theorem CutOk.to (h : CutOk A D M) (s : Lg) {M' : Nat} (hM : M ≤ M') : CutOk (A.to s) D M' := by
  refine ⟨?_, h.foot.mono hM, h.all⟩
  intro k hk
  obtain ⟨j, hj, g⟩ := h.cut k hk
  exact ⟨j, by simp [AL.to]; omega, by rw [AL.to_state A s hj]; exact g.mono hM⟩
theorem after_old (D : Dk) (b : Nat) (x : Bs) {k : Nat} (h : k ≤ D.wr.length) : (D.write b x).after k = D.after k := by
  unfold Dk.after Dk.write
  simp only []
  rw [List.append_assoc, List.take_append_of_le_length h]
theorem after_torn (D : Dk) (b : Nat) (x : Bs) (h : D.after D.wr.length = D.now) : (D.write b x).after (D.wr.length + 1) = D.now.set b (tornX x (blk D.now b)) := by
  have h1 : (D.write b x).wr[D.wr.length]? = some ⟨b, 0, x.take 32⟩ := by simp [Dk.write]
  rw [after_step _ _ _ h1, after_old D b x (Nat.le_refl _), h]
  unfold halfSet tornX blk
  simp
theorem after_full (D : Dk) (b : Nat) (x : Bs) (h : D.after D.wr.length = D.now) (hb : Blocks D.now) (b14 : b < 14) (hx : x.length = 64) : (D.write b x).after (D.wr.length + 2) = D.now.set b x := by
  have h1 : (D.write b x).wr[D.wr.length + 1]? = some ⟨b, 1, x.drop 32⟩ := by simp [Dk.write]
  rw [after_step _ _ _ h1, after_torn D b x h]
  have hl : b < D.now.length := by rw [hb.n]; exact b14
  unfold halfSet
  simp only [Int.toNat_natCast, List.set_set]
  congr 1
  rw [if_neg (by decide)]
  have e : (D.now.set b (tornX x (blk D.now b))).getD b [] = tornX x (blk D.now b) := by
    simp only [List.getD_eq_getElem?_getD]
    rw [List.getElem?_set]; simp [hl]
  rw [e]
  unfold tornX
  rw [List.take_append_of_le_length (by simp; omega), List.take_take, Nat.min_self, List.take_append_drop]
theorem CutOk.write (h : CutOk A D M) (hb : Blocks D.now) {b : Nat} (b14 : b < 14) {x : Bs} (hx : x.length = 64) {j1 j2 : Nat} (h1 : j1 ≤ A.hist.length) (h2 : j2 ≤ A.hist.length)
    (g1 : Good (D.now.set b (tornX x (blk D.now b))) (A.state j1) M) (g2 : Good (D.now.set b x) (A.state j2) M) : CutOk A (D.write b x) M := by
  have hw : (D.write b x).wr.length = D.wr.length + 2 := by simp [Dk.write]
  refine ⟨?_, h.foot, ?_⟩
  · intro k hk
    rw [hw] at hk
    by_cases c1 : k ≤ D.wr.length
    · rw [after_old D b x c1]; exact h.cut k c1
    · by_cases c2 : k = D.wr.length + 1
      · rw [c2, after_torn D b x h.all]; exact ⟨j1, h1, g1⟩
      · rw [show k = D.wr.length + 2 by omega, after_full D b x h.all hb b14 hx]; exact ⟨j2, h2, g2⟩
  · rw [hw, after_full D b x h.all hb b14 hx]; rfl
end
/-- the log A and the disk D; N: the numbers of the slots at the mark, r: the half writes of the recovery -/
structure Tie (A : AL) (D : Dk) (N r : Nat) : Prop where
  c : CutOk A D (N + A.hist.length)
  g : Good D.now A.now (N + A.hist.length)
  cl : CleanS (stOf (vp 0) D.now) A.now
  tip : A.state A.hist.length = A.now
  len : D.wr.length ≤ 12 + 18 * A.hist.length
  idle : A.hist = [] → D.wr.length = r
  nb : N ≤ 1125899906842624
theorem Tie.mark {A : AL} {D : Dk} {N r : Nat} (h : Tie A D N r) (hN : N + A.hist.length ≤ 1125899906842624) : Tie A.now.al ⟨D.now, D.now, []⟩ (N + A.hist.length) 0 := by
  refine ⟨⟨?_, h.g, rfl⟩, h.g, h.cl, rfl, by simp, fun _ => rfl, hN⟩
  intro k hk
  have : k = 0 := by simpa using hk
  subst this
  exact ⟨0, Nat.le_refl _, h.g⟩
end Go.Tw
