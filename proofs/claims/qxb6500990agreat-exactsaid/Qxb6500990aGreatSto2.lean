/- the store as it is meant: what 14 blocks say, and what a write changes -/
import Derived.Test.Qxb6500990aGreatSto
set_option linter.unusedVariables false
set_option linter.unusedSimpArgs false
namespace Go.Tw
open Go Go.Proofs Go.Proofs.Qxb6500990aGreat
def blk (l : List Bs) (b : Nat) : Bs := l.getD b []
structure Blocks (l : List Bs) : Prop where
  n : l.length = 14
  w : ∀ x ∈ l, x.length = 64
section
variable {l : List Bs} {b c : Nat} {x : Bs} {d : Value}
theorem Blocks.len (h : Blocks l) (hb : b < 14) : (blk l b).length = 64 := by
  have hl : b < l.length := by rw [h.n]; exact hb
  unfold blk
  rw [List.getD_eq_getElem?_getD, List.getElem?_eq_getElem hl]
  exact h.w _ (List.getElem_mem hl)
theorem Blocks.set (h : Blocks l) (hx : x.length = 64) : Blocks (l.set b x) := by
  refine ⟨by rw [List.length_set]; exact h.n, ?_⟩
  intro y hy
  rcases List.mem_or_eq_of_mem_set hy with h1 | h1
  · exact h.w y h1
  · rw [h1]; exact hx
theorem blk_set (h : Blocks l) (hb : b < 14) : blk (l.set b x) c = if c = b then x else blk l c := by
  have hl : b < l.length := by rw [h.n]; exact hb
  unfold blk
  simp only [List.getD_eq_getElem?_getD, List.getElem?_set]
  by_cases e : b = c
  · subst e; simp [hl]
  · simp [e, Ne.symm e]
theorem blk_ne (h : Blocks l) (hb : b < 14) (hne : c ≠ b) : blk (l.set b x) c = blk l c := by rw [blk_set h hb, if_neg hne]
theorem blk_same (h : Blocks l) (hb : b < 14) : blk (l.set b x) b = x := by rw [blk_set h hb, if_pos rfl]
structure Sane (l : List Bs) : Prop where
  m : ∀ b, b < 2 → wholeB (blk l b) = true → Fits (blk l b) [1, 9]
  h : ∀ b, b < 2 → wholeB (blk l (2 + b)) = true → Fits (blk l (2 + b)) [1, 9, 32]
  r : ∀ s, s < 6 → wholeB (blk l (8 + s)) = true → Fits (blk l (8 + s)) [2, 35]
def stStamp (l : List Bs) (b : Nat) : UInt8 := if b < 4 ∨ (8 ≤ b ∧ b < 14) then (blk l b).getD 63 0 else 0
def pickM (m0 m1 : Meta) : Bool := m0.ok && (!m1.ok || decide (m1.num < m0.num))
def stM0 (l : List Bs) : Meta := if pickM (decMetaS (blk l 0)) (decMetaS (blk l 1)) = true then decMetaS (blk l 0) else decMetaS (blk l 1)
def stMS (l : List Bs) : Int := if pickM (decMetaS (blk l 0)) (decMetaS (blk l 1)) = true then 0 else 1
def fixM (m : Meta) : Meta := if m.ok = true then m else { m with vote := -1 }
def stM (l : List Bs) : Meta := fixM (stM0 l)
def pickH (m0 m1 : Head) : Bool := m0.ok && (!m1.ok || decide (m1.num < m0.num))
def stH0 (l : List Bs) : Head := if pickH (decHeadS (blk l 2)) (decHeadS (blk l 3)) = true then decHeadS (blk l 2) else decHeadS (blk l 3)
def stHS (l : List Bs) : Int := if pickH (decHeadS (blk l 2)) (decHeadS (blk l 3)) = true then 0 else 1
def fixH (m : Head) : Head := if m.ok = true then m else { m with area := 1 }
def stH (l : List Bs) : Head := fixH (stH0 l)
def areaS (l : List Bs) (a n : Nat) : Bs := (blk l (4 + a * 2) ++ blk l (4 + a * 2 + 1)).take n
def stSnap (l : List Bs) : Bs := areaS l (stH l).area.toNat (stH l).size.toNat
def slotAt (l : List Bs) (s : Nat) : Option Rec := decRecS (blk l (8 + s))
def stUsed (l : List Bs) (s : Nat) : Bool := decide (s < 6) && (slotAt l s).isSome
def stRec (l : List Bs) (s : Nat) : Rec := if s < 6 then (slotAt l s).getD zRec else zRec
def stOf (d : Value) (l : List Bs) : StoreR := ⟨d, stStamp l, stM l, stMS l, stH l, stHS l, stSnap l, stUsed l, stRec l⟩
theorem upd_self {α : Type} (f : Nat → α) (i : Nat) (v : α) (h : v = f i) : upd f i v = f := by
  funext j; unfold upd; split
  · rename_i e; rw [e, h]
  · rfl
theorem stStamp_set (h : Blocks l) (hb : b < 4 ∨ (8 ≤ b ∧ b < 14)) : stStamp (l.set b x) = upd (stStamp l) b (x.getD 63 0) := by
  funext c
  unfold stStamp upd
  rw [blk_set h (by omega)]
  by_cases e : c = b
  · subst e; simp [hb]
  · simp [e]
theorem stStamp_area (h : Blocks l) (h4 : 4 ≤ b) (h8 : b < 8) : stStamp (l.set b x) = stStamp l := by
  funext c
  unfold stStamp
  rw [blk_set h (by omega)]
  by_cases e : c = b
  · subst e; rw [if_neg (by omega), if_neg (by omega)]
  · simp [e]
theorem stM_other (h : Blocks l) (hb : b < 14) (h2 : 2 ≤ b) : stM (l.set b x) = stM l ∧ stMS (l.set b x) = stMS l := by
  unfold stM stM0 stMS
  rw [blk_ne h hb (by omega), blk_ne h hb (by omega)]
  exact ⟨rfl, rfl⟩
theorem stH_other (h : Blocks l) (hb : b < 14) (h2 : b ≠ 2) (h3 : b ≠ 3) : stH (l.set b x) = stH l ∧ stHS (l.set b x) = stHS l := by
  unfold stH stH0 stHS
  rw [blk_ne h hb (Ne.symm h2), blk_ne h hb (Ne.symm h3)]
  exact ⟨rfl, rfl⟩
theorem areaS_other (h : Blocks l) (hb : b < 14) {a n : Nat} (h4 : b ≠ 4 + a * 2) (h5 : b ≠ 4 + a * 2 + 1) : areaS (l.set b x) a n = areaS l a n := by
  unfold areaS
  rw [blk_ne h hb (by omega), blk_ne h hb (by omega)]
theorem slotAt_other (h : Blocks l) (hb : b < 14) {s : Nat} (hs : b ≠ 8 + s) : slotAt (l.set b x) s = slotAt l s := by
  unfold slotAt
  rw [blk_set h hb, if_neg (by omega)]
theorem slotAt_set (h : Blocks l) {s t : Nat} (hs : s < 6) : slotAt (l.set (8 + s) x) t = if t = s then decRecS x else slotAt l t := by
  unfold slotAt
  rw [blk_set h (by omega)]
  by_cases e : t = s
  · subst e; simp
  · rw [if_neg (by omega), if_neg e]
theorem stUsed_other (h : Blocks l) (hb : b < 8) : stUsed (l.set b x) = stUsed l := by
  funext s; unfold stUsed; rw [slotAt_other h (by omega) (by omega)]
theorem stRec_other (h : Blocks l) (hb : b < 8) : stRec (l.set b x) = stRec l := by
  funext s; unfold stRec; rw [slotAt_other h (by omega) (by omega)]
theorem stMS_cases (l : List Bs) : stMS l = 0 ∨ stMS l = 1 := by unfold stMS; split <;> simp
theorem stHS_cases (l : List Bs) : stHS l = 0 ∨ stHS l = 1 := by unfold stHS; split <;> simp
theorem decMeta_num0 (x : Bs) : 0 ≤ (decMetaS x).num := by
  unfold decMetaS; split
  · exact (beN_bd x 1 8).1
  · simp [zMeta]
theorem decHead_num0 (x : Bs) : 0 ≤ (decHeadS x).num ∧ 0 ≤ (decHeadS x).area ∧ (decHeadS x).area ≤ 1 ∧ 0 ≤ (decHeadS x).size ∧ (decHeadS x).size ≤ 128 := by
  unfold decHeadS; split
  · rename_i c
    refine ⟨(beN_bd x 1 8).1, ?_, c.2.1, ?_, c.2.2⟩ <;> simp [byt]
  · simp [zHead]
theorem fixM_num (m : Meta) : (fixM m).num = m.num := by unfold fixM; split <;> rfl
theorem stM_num0 (l : List Bs) : 0 ≤ (stM l).num := by
  unfold stM; rw [fixM_num]; unfold stM0; split <;> exact decMeta_num0 _
theorem stH_bd (l : List Bs) : 0 ≤ (stH l).num ∧ 0 ≤ (stH l).area ∧ (stH l).area ≤ 1 ∧ 0 ≤ (stH l).size ∧ (stH l).size ≤ 128 := by
  have h : 0 ≤ (stH0 l).num ∧ 0 ≤ (stH0 l).area ∧ (stH0 l).area ≤ 1 ∧ 0 ≤ (stH0 l).size ∧ (stH0 l).size ≤ 128 := by
    unfold stH0; split <;> exact decHead_num0 _
  unfold stH fixH; split
  · exact h
  · exact ⟨h.1, by simp, by simp, h.2.2.2⟩
theorem fixH_num (m : Head) : (fixH m).num = m.num := by unfold fixH; split <;> rfl
/-- the slot of a pair that is not the current one -/
def oth (i : Int) : Nat := (1 - i).toNat
theorem oth_lt {i : Int} (h : i = 0 ∨ i = 1) : oth i < 2 ∧ 1 - i = (oth i : Int) := by unfold oth; omega
theorem stM_torn (h : Blocks l) (hx : wholeB x = false) : stM (l.set (oth (stMS l)) x) = stM l ∧ stMS (l.set (oth (stMS l)) x) = stMS l := by
  have hz := decMeta_torn hx
  unfold stM stM0 stMS
  by_cases p : pickM (decMetaS (blk l 0)) (decMetaS (blk l 1)) = true
  · have o0 : (decMetaS (blk l 0)).ok = true := by unfold pickM at p; simp at p; exact p.1
    rw [if_pos p, if_pos p, show oth 0 = 1 from rfl, blk_ne h (by omega) (by omega), blk_same h (by omega), hz]
    have p2 : pickM (decMetaS (blk l 0)) zMeta = true := by unfold pickM; simp [o0, zMeta]
    rw [if_pos p2, if_pos p2]; exact ⟨rfl, rfl⟩
  · rw [if_neg p, if_neg p, show oth 1 = 0 from rfl, blk_same h (by omega), blk_ne h (by omega) (by omega), hz]
    have p2 : ¬ pickM zMeta (decMetaS (blk l 1)) = true := by unfold pickM; simp [zMeta]
    rw [if_neg p2, if_neg p2]; exact ⟨rfl, rfl⟩
theorem stM_full (h : Blocks l) {m : Meta} (hx : decMetaS x = m) (ok : m.ok = true) (hn : m.num = (stM l).num + 1) : stM (l.set (oth (stMS l)) x) = m ∧ stMS (l.set (oth (stMS l)) x) = oth (stMS l) := by
  have hn' : m.num = (stM0 l).num + 1 := by rw [hn]; unfold stM; rw [fixM_num]
  have hf : fixM m = m := by unfold fixM; rw [if_pos ok]
  unfold stM0 at hn'
  unfold stM stM0 stMS
  by_cases p : pickM (decMetaS (blk l 0)) (decMetaS (blk l 1)) = true
  · rw [if_pos p] at hn'
    rw [if_pos p, show oth 0 = 1 from rfl, blk_ne h (by omega) (by omega), blk_same h (by omega), hx]
    have p2 : ¬ pickM (decMetaS (blk l 0)) m = true := by unfold pickM; simp [ok]; intro _; omega
    rw [if_neg p2, if_neg p2]; exact ⟨hf, rfl⟩
  · rw [if_neg p] at hn'
    rw [if_neg p, show oth 1 = 0 from rfl, blk_same h (by omega), blk_ne h (by omega) (by omega), hx]
    have p2 : pickM m (decMetaS (blk l 1)) = true := by unfold pickM; simp [ok]; right; omega
    rw [if_pos p2, if_pos p2]; exact ⟨hf, rfl⟩
theorem stH_torn (h : Blocks l) (hx : wholeB x = false) : stH (l.set (2 + oth (stHS l)) x) = stH l ∧ stHS (l.set (2 + oth (stHS l)) x) = stHS l := by
  have hz := decHead_torn hx
  unfold stH stH0 stHS
  by_cases p : pickH (decHeadS (blk l 2)) (decHeadS (blk l 3)) = true
  · have o0 : (decHeadS (blk l 2)).ok = true := by unfold pickH at p; simp at p; exact p.1
    rw [if_pos p, if_pos p, show 2 + oth 0 = 3 from rfl, blk_ne h (by omega) (by omega), blk_same h (by omega), hz]
    have p2 : pickH (decHeadS (blk l 2)) zHead = true := by unfold pickH; simp [o0, zHead]
    rw [if_pos p2, if_pos p2]; exact ⟨rfl, rfl⟩
  · rw [if_neg p, if_neg p, show 2 + oth 1 = 2 from rfl, blk_same h (by omega), blk_ne h (by omega) (by omega), hz]
    have p2 : ¬ pickH zHead (decHeadS (blk l 3)) = true := by unfold pickH; simp [zHead]
    rw [if_neg p2, if_neg p2]; exact ⟨rfl, rfl⟩
theorem stH_full (h : Blocks l) {m : Head} (hx : decHeadS x = m) (ok : m.ok = true) (hn : m.num = (stH l).num + 1) : stH (l.set (2 + oth (stHS l)) x) = m ∧ stHS (l.set (2 + oth (stHS l)) x) = oth (stHS l) := by
  have hn' : m.num = (stH0 l).num + 1 := by rw [hn]; unfold stH; rw [fixH_num]
  have hf : fixH m = m := by unfold fixH; rw [if_pos ok]
  unfold stH0 at hn'
  unfold stH stH0 stHS
  by_cases p : pickH (decHeadS (blk l 2)) (decHeadS (blk l 3)) = true
  · rw [if_pos p] at hn'
    rw [if_pos p, show 2 + oth 0 = 3 from rfl, blk_ne h (by omega) (by omega), blk_same h (by omega), hx]
    have p2 : ¬ pickH (decHeadS (blk l 2)) m = true := by unfold pickH; simp [ok]; intro _; omega
    rw [if_neg p2, if_neg p2]; exact ⟨hf, rfl⟩
  · rw [if_neg p] at hn'
    rw [if_neg p, show 2 + oth 1 = 2 from rfl, blk_same h (by omega), blk_ne h (by omega) (by omega), hx]
    have p2 : pickH m (decHeadS (blk l 3)) = true := by unfold pickH; simp [ok]; right; omega
    rw [if_pos p2, if_pos p2]; exact ⟨hf, rfl⟩
theorem stOf_eq {S : StoreR} (h0 : S.d = d) (h1 : S.stamp = stStamp l) (h2 : S.m = stM l) (h3 : S.mSlot = stMS l) (h4 : S.h = stH l) (h5 : S.hSlot = stHS l) (h6 : S.snap = stSnap l) (h7 : S.used = stUsed l) (h8 : S.recs = stRec l) : S = stOf d l := by
  cases S; simp only [] at *; subst h0 h1 h2 h3 h4 h5 h6 h7 h8; rfl
section
variable {y : Bs}
theorem last_stamp (hy : y.length = 64) (s : UInt8) : (stampX y s).getD 63 0 = s := by rw [stampX_get y s hy, if_pos (.inl rfl)]
/-- SetMeta: torn, nothing is seen -/
theorem stOf_meta_torn (h : Blocks l) (hy : y.length = 64) : stOf d (l.set (oth (stMS l)) (tornX (stampX y (nextS (stStamp l (oth (stMS l))))) (blk l (oth (stMS l))))) = stOf d l := by
  obtain ⟨o1, o2⟩ := oth_lt (stMS_cases l)
  have hst : stStamp l (oth (stMS l)) = (blk l (oth (stMS l))).getD 63 0 := by unfold stStamp; rw [if_pos (by omega)]
  have hlen := h.len (b := oth (stMS l)) (by omega)
  have ht := torn_stamp (old := blk l (oth (stMS l))) hy hlen
  obtain ⟨a1, a2⟩ := stM_torn h (x := tornX (stampX y (nextS (stStamp l (oth (stMS l))))) (blk l (oth (stMS l)))) (by rw [hst]; exact ht)
  symm
  refine stOf_eq rfl ?_ a1.symm a2.symm ?_ ?_ ?_ ?_ ?_
  · rw [stStamp_set h (by omega)]
    refine (upd_self _ _ _ ?_).symm
    rw [tornX_63 (by rw [stampX_len]; exact hy) hlen]; exact hst.symm
  · exact (stH_other h (by omega) (by omega) (by omega)).1.symm
  · exact (stH_other h (by omega) (by omega) (by omega)).2.symm
  · show stSnap l = _
    unfold stSnap; rw [(stH_other h (by omega) (by omega) (by omega)).1, areaS_other h (by omega) (by omega) (by omega)]
  · exact (stUsed_other h (by omega)).symm
  · exact (stRec_other h (by omega)).symm
theorem stOf_meta_full (h : Blocks l) {m : Meta} (hy : y.length = 64) (hx : decMetaS (stampX y (nextS (stStamp l (oth (stMS l))))) = m) (ok : m.ok = true) (hn : m.num = (stM l).num + 1) :
    stOf d (l.set (oth (stMS l)) (stampX y (nextS (stStamp l (oth (stMS l)))))) = { stOf d l with m := m, mSlot := oth (stMS l), stamp := upd (stStamp l) (oth (stMS l)) (nextS (stStamp l (oth (stMS l)))) } := by
  obtain ⟨o1, o2⟩ := oth_lt (stMS_cases l)
  obtain ⟨a1, a2⟩ := stM_full h hx ok hn
  symm
  refine stOf_eq rfl ?_ a1.symm a2.symm ?_ ?_ ?_ ?_ ?_
  · rw [stStamp_set h (by omega), last_stamp hy]
  · exact (stH_other h (by omega) (by omega) (by omega)).1.symm
  · exact (stH_other h (by omega) (by omega) (by omega)).2.symm
  · show stSnap l = _
    unfold stSnap; rw [(stH_other h (by omega) (by omega) (by omega)).1, areaS_other h (by omega) (by omega) (by omega)]
  · exact (stUsed_other h (by omega)).symm
  · exact (stRec_other h (by omega)).symm
/-- a write into the area that is not in use: nothing is seen -/
theorem stOf_area (h : Blocks l) {k : Nat} (hk : k < 2) : stOf d (l.set (4 + (1 - (stH l).area).toNat * 2 + k) x) = stOf d l := by
  obtain ⟨b1, b2, b3, b4, b5⟩ := stH_bd l
  symm
  refine stOf_eq rfl ?_ ?_ ?_ ?_ ?_ ?_ ?_ ?_
  · exact (stStamp_area h (by omega) (by omega)).symm
  · exact (stM_other h (by omega) (by omega)).1.symm
  · exact (stM_other h (by omega) (by omega)).2.symm
  · exact (stH_other h (by omega) (by omega) (by omega)).1.symm
  · exact (stH_other h (by omega) (by omega) (by omega)).2.symm
  · show stSnap l = _
    unfold stSnap; rw [(stH_other h (by omega) (by omega) (by omega)).1, areaS_other h (by omega) (by omega) (by omega)]
  · exact (stUsed_other h (by omega)).symm
  · exact (stRec_other h (by omega)).symm
theorem stOf_head_torn (h : Blocks l) (hy : y.length = 64) : stOf d (l.set (2 + oth (stHS l)) (tornX (stampX y (nextS (stStamp l (2 + oth (stHS l))))) (blk l (2 + oth (stHS l))))) = stOf d l := by
  obtain ⟨o1, o2⟩ := oth_lt (stHS_cases l)
  have hst : stStamp l (2 + oth (stHS l)) = (blk l (2 + oth (stHS l))).getD 63 0 := by unfold stStamp; rw [if_pos (by omega)]
  have hlen := h.len (b := 2 + oth (stHS l)) (by omega)
  have ht := torn_stamp (old := blk l (2 + oth (stHS l))) hy hlen
  obtain ⟨a1, a2⟩ := stH_torn h (x := tornX (stampX y (nextS (stStamp l (2 + oth (stHS l))))) (blk l (2 + oth (stHS l)))) (by rw [hst]; exact ht)
  symm
  refine stOf_eq rfl ?_ ?_ ?_ a1.symm a2.symm ?_ ?_ ?_
  · rw [stStamp_set h (by omega)]
    refine (upd_self _ _ _ ?_).symm
    rw [tornX_63 (by rw [stampX_len]; exact hy) hlen]; exact hst.symm
  · exact (stM_other h (by omega) (by omega)).1.symm
  · exact (stM_other h (by omega) (by omega)).2.symm
  · obtain ⟨b1, b2, b3, b4, b5⟩ := stH_bd l
    show stSnap l = _
    unfold stSnap; rw [a1, areaS_other h (by omega) (by omega) (by omega)]
  · exact (stUsed_other h (by omega)).symm
  · exact (stRec_other h (by omega)).symm
theorem stOf_head_full (h : Blocks l) {m : Head} (hy : y.length = 64) (hx : decHeadS (stampX y (nextS (stStamp l (2 + oth (stHS l))))) = m) (ok : m.ok = true) (hn : m.num = (stH l).num + 1) :
    stOf d (l.set (2 + oth (stHS l)) (stampX y (nextS (stStamp l (2 + oth (stHS l)))))) = { stOf d l with h := m, hSlot := oth (stHS l), snap := areaS l m.area.toNat m.size.toNat, stamp := upd (stStamp l) (2 + oth (stHS l)) (nextS (stStamp l (2 + oth (stHS l)))) } := by
  obtain ⟨o1, o2⟩ := oth_lt (stHS_cases l)
  obtain ⟨a1, a2⟩ := stH_full h hx ok hn
  symm
  refine stOf_eq rfl ?_ ?_ ?_ a1.symm a2.symm ?_ ?_ ?_
  · rw [stStamp_set h (by omega), last_stamp hy]
  · exact (stM_other h (by omega) (by omega)).1.symm
  · exact (stM_other h (by omega) (by omega)).2.symm
  · show areaS l _ _ = _
    unfold stSnap; rw [a1, areaS_other h (by omega) (by omega) (by omega)]
  · exact (stUsed_other h (by omega)).symm
  · exact (stRec_other h (by omega)).symm
/-- a record's block is written -/
theorem stOf_rec (h : Blocks l) {s : Nat} (hs : s < 6) (o : Option Rec) (hx : decRecS x = o) :
    stOf d (l.set (8 + s) x) = { stOf d l with used := upd (stUsed l) s o.isSome, recs := upd (stRec l) s (o.getD zRec), stamp := upd (stStamp l) (8 + s) (x.getD 63 0) } := by
  symm
  refine stOf_eq rfl ?_ ?_ ?_ ?_ ?_ ?_ ?_ ?_
  · exact (stStamp_set h (by omega)).symm
  · exact (stM_other h (by omega) (by omega)).1.symm
  · exact (stM_other h (by omega) (by omega)).2.symm
  · exact (stH_other h (by omega) (by omega) (by omega)).1.symm
  · exact (stH_other h (by omega) (by omega) (by omega)).2.symm
  · obtain ⟨b1, b2, b3, b4, b5⟩ := stH_bd l
    show stSnap l = _
    unfold stSnap; rw [(stH_other h (by omega) (by omega) (by omega)).1, areaS_other h (by omega) (by omega) (by omega)]
  · funext t
    show upd (stUsed l) s o.isSome t = _
    unfold stUsed upd
    rw [slotAt_set h hs, hx]
    by_cases e : t = s
    · subst e; simp [hs]
    · simp [e]
  · funext t
    show upd (stRec l) s (o.getD zRec) t = _
    unfold stRec upd
    rw [slotAt_set h hs, hx]
    by_cases e : t = s
    · subst e; simp [hs]
    · simp [e]
end
theorem Sane.set (h : Blocks l) (hs : Sane l) (hb : b < 14) (hx : wholeB x = true → (b < 2 → Fits x [1, 9]) ∧ (2 ≤ b → b < 4 → Fits x [1, 9, 32]) ∧ (8 ≤ b → Fits x [2, 35])) : Sane (l.set b x) := by
  refine ⟨?_, ?_, ?_⟩
  · intro c hc
    rw [blk_set h hb]
    split
    · rename_i e; subst e; exact fun w => (hx w).1 hc
    · exact hs.m c hc
  · intro c hc
    rw [blk_set h hb]
    split
    · rename_i e; subst e; exact fun w => (hx w).2.1 (by omega) (by omega)
    · exact hs.h c hc
  · intro c hc
    rw [blk_set h hb]
    split
    · rename_i e; subst e; exact fun w => (hx w).2.2 (by omega)
    · exact hs.r c hc
theorem Sane.torn (h : Blocks l) (hs : Sane l) (hb : b < 14) (hx : wholeB x = false) : Sane (l.set b x) := hs.set h hb (fun w => by rw [hx] at w; cases w)
end
theorem chunk_area (data : Bs) (h : data.length ≤ 128) (x1 : Bs) (h1 : 64 < data.length → x1 = chunkS data 1) (x0 : Bs) (h0 : 0 < data.length → x0 = chunkS data 0) (l0 : x0.length = 64) : (x0 ++ x1).take data.length = data := by
  by_cases z : data.length = 0
  · rw [z]; simp [List.eq_nil_of_length_eq_zero z]
  · have e0 := h0 (by omega)
    have c0 : chunkS data 0 = data.take (min 64 data.length) ++ List.replicate (64 - min 64 data.length) 0 := by unfold chunkS prt; simp
    by_cases b : 64 < data.length
    · have e1 := h1 b
      have c1 : chunkS data 1 = (data.drop 64).take (min 64 (data.length - 64)) ++ List.replicate (64 - min 64 (data.length - 64)) 0 := by unfold chunkS prt; simp
      rw [e0, e1, c0, c1, show min 64 data.length = 64 by omega, show min 64 (data.length - 64) = data.length - 64 by omega]
      simp only [Nat.sub_self, List.replicate_zero, List.append_nil]
      rw [← List.append_assoc, List.take_append_of_le_length (by simp; omega)]
      rw [show (data.drop 64).take (data.length - 64) = data.drop 64 from List.take_of_length_le (by simp), List.take_append_drop, List.take_of_length_le (Nat.le_refl _)]
    · rw [List.take_append_of_le_length (by omega), e0, c0, show min 64 data.length = data.length by omega, List.take_append_of_le_length (by simp), List.take_take, Nat.min_self, List.take_of_length_le (Nat.le_refl _)]
end Go.Tw
