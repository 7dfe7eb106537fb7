/- the real log: where it lies; store calls over a disk that recovers -/
import Derived.Test.Qxb6500990aGreatRl2
import Derived.Test.Qxb6500990aGreatSto3
set_option linter.unusedVariables false
set_option linter.unusedSimpArgs false
namespace Go.Tw
open Go Go.Proofs Go.Proofs.Qxb6500990aGreat
theorem stOf_dd (d d' : Value) (l : List Bs) : stOf d' l = { stOf d l with d := d' } := rfl
/-- the store at bt over the disk at bd, blocks of the disk in Fd -/
structure SK (w : World) (Fd : Nat → Prop) (bt bd : Nat) (D : Dk) : Prop where
  t : w.At bt (stOf (vp bd) D.now).cells 139
  d : DK w Fd bd D
  nt : ¬ Fd bt
  wi : Within Fd w
theorem SK.frame {w w' : World} {Fd G : Nat → Prop} {bt bd : Nat} {D : Dk} (h : SK w Fd bt bd D) (m : ModP G w w') (hG : Apart Fd G) (hb : ¬ G bt) : SK w' Fd bt bd D :=
  ⟨m.at h.t hb, h.d.frame m hG, h.nt, h.wi.mono m.size⟩
/-- the disk's blocks behind a step -/
def trimF (F : Nat → Prop) (w w' : World) : Nat → Prop := fun k => F k ∨ (w.heap.size ≤ k ∧ k < w'.heap.size)
theorem SK.mk' {w w' : World} {Fd : Nat → Prop} {bt bd : Nat} {D : Dk} (ht : w'.At bt (stOf (vp bd) D.now).cells 139) (hd : DK w' (grow Fd w) bd D) (nt : ¬ Fd bt) (lt : bt < w.heap.size) (wi : Within Fd w) (hs : w.heap.size ≤ w'.heap.size) :
    SK w' (trimF Fd w w') bt bd D := by
  refine ⟨ht, hd.trim.mono ?_, ?_, ?_⟩
  · rintro k ⟨a | a, b⟩
    · exact .inl a
    · exact .inr ⟨a, b⟩
  · rintro (a | a)
    · exact nt a
    · omega
  · rintro k (a | a)
    · exact Nat.lt_of_lt_of_le (wi k a) hs
    · exact a.2
theorem upd_eq_of {α : Type} (f : Nat → α) (i : Nat) (v : α) (j : Nat) : upd f i v j = if j = i then v else f j := rfl
end Go.Tw
namespace Go.Proofs.Qxb6500990aGreat
open Go Go.RowKit Go.Tw
section
variable {W : World} {Fd : Nat → Prop} {bt bd : Nat} {D : Dk}
/-- the block that SetMeta writes -/
def metaX (l : List Bs) (t v : Int) : Bs := stampX (encMetaS ⟨true, (stM l).num + 1, t, v⟩) (nextS (stStamp l (oth (stMS l))))
theorem k274 (h : SK W Fd bt bd D) (hw : D.wr.length ≤ 9000) {t v : Int} (t0 : 0 ≤ t) (t1 : t ≤ maxT) (v0 : -1 ≤ v) (v1 : v < 3) (n1 : (stM D.now).num < 4611686018427387904) :
    Calls Tryz.prog 274 #[vp bt, vi t, vi v] W fun r w' => r = .returned (vi 0) ∧ SK w' (trimF Fd W w') bt bd (D.write (oth (stMS D.now)) (metaX D.now t v)) ∧ ModP (fun k => Fd k ∨ k = bt) W w' := by
  obtain ⟨o1, o2⟩ := oth_lt (stMS_cases D.now)
  refine (c274_ok (S := stOf (vp bd) D.now) h.d h.wi h.t rfl h.nt hw t0 t1 v0 v1 (stM_num0 D.now) n1 (sl := oth (stMS D.now)) o2 o1).mono ?_
  rintro _ w' ⟨rfl, hd, ht, hm⟩
  refine ⟨rfl, SK.mk' ?_ hd h.nt h.t.inB h.wi hm.size, hm⟩
  have n0 := stM_num0 D.now
  unfold maxT at t1
  have e := stOf_meta_full (d := vp bd) h.d.blocks (m := ⟨true, (stM D.now).num + 1, t, v⟩) (y := encMetaS ⟨true, (stM D.now).num + 1, t, v⟩) (encMeta_len _)
    (decMeta_enc rfl (by simp only []; omega) (by simp only []; omega) t0 (by simp only []; omega) v0 (by simp only []; omega) (nextS_ne0 _)) rfl rfl
  show w'.At bt (stOf (vp bd) (D.now.set _ _)).cells 139
  unfold metaX
  rw [e]
  exact ht
def recX (l : List Bs) (s : Nat) (r : Rec) : Bs := stampX (encRecS r) (nextS (stStamp l (8 + s)))
theorem k257 (h : SK W Fd bt bd D) (hw : D.wr.length ≤ 9000) (s : Nat) (s6 : s < 6) (hu : stUsed D.now s = false) (r : Rec) (i0 : 1 ≤ r.idx) (i1 : r.idx ≤ maxT) (t0 : 0 ≤ r.term) (t1 : r.term ≤ maxT) (d24 : r.data.length ≤ 24) :
    Calls Tryz.prog 257 #[vp bt, vi s, .agg r.cells] W fun r' w' => r' = .returned (vi 0) ∧ SK w' (trimF Fd W w') bt bd (D.write (8 + s) (recX D.now s r)) ∧ ModP (fun k => Fd k ∨ k = bt) W w' := by
  refine (c257_ok (S := stOf (vp bd) D.now) h.d h.wi h.t rfl h.nt hw s s6 hu r i0 i1 t0 t1 d24).mono ?_
  rintro _ w' ⟨rfl, hd, ht, hm⟩
  refine ⟨rfl, SK.mk' ?_ hd h.nt h.t.inB h.wi hm.size, hm⟩
  unfold maxT at i1 t1
  have hr : r.In := ⟨by omega, by omega, t0, by omega, d24⟩
  have e := stOf_rec (d := vp bd) h.d.blocks s6 (x := recX D.now s r) (some r) (decRec_enc hr (nextS_ne0 _))
  show w'.At bt (stOf (vp bd) (D.now.set _ _)).cells 139
  rw [e]
  unfold recX
  rw [last_stamp (encRec_len r)]
  exact ht
def delX (l : List Bs) (s : Nat) : Bs := stampX z64b (nextS (stStamp l (8 + s)))
theorem k121 (h : SK W Fd bt bd D) (hw : D.wr.length ≤ 9000) (s : Nat) (s6 : s < 6) (hu : stUsed D.now s = true) :
    Calls Tryz.prog 121 #[vp bt, vi s] W fun r' w' => r' = .returned (vi 0) ∧ SK w' (trimF Fd W w') bt bd (D.write (8 + s) (delX D.now s)) ∧ ModP (fun k => Fd k ∨ k = bt) W w' := by
  refine (c121_ok (S := stOf (vp bd) D.now) h.d h.wi h.t rfl h.nt hw s s6 hu).mono ?_
  rintro _ w' ⟨rfl, hd, ht, hm⟩
  refine ⟨rfl, SK.mk' ?_ hd h.nt h.t.inB h.wi hm.size, hm⟩
  have e := stOf_rec (d := vp bd) h.d.blocks s6 (x := delX D.now s) none (decRec_del _)
  show w'.At bt (stOf (vp bd) (D.now.set _ _)).cells 139
  rw [e]
  unfold delX
  rw [last_stamp z64b_len]
  exact ht
/-- the disk behind SetSnap -/
def snapA (l : List Bs) : Nat := (1 - (stH l).area).toNat
def headX (l : List Bs) (idx t : Int) (data : Bs) : Bs := stampX (encHeadS ⟨true, (stH l).num + 1, idx, t, snapA l, data.length⟩) (nextS (stStamp l (2 + oth (stHS l))))
def snapDD (D : Dk) (idx t : Int) (data : Bs) : Dk := (snapD D (snapA D.now) data (nCh data)).write (2 + oth (stHS D.now)) (headX D.now idx t data)
theorem snapA_lt (l : List Bs) : snapA l < 2 ∧ 1 - (stH l).area = (snapA l : Int) := by
  have := stH_bd l
  unfold snapA; omega
theorem stOf_inj {d : Value} {l l' : List Bs} (h : stOf d l = stOf d l') : stStamp l = stStamp l' ∧ stM l = stM l' ∧ stMS l = stMS l' ∧ stH l = stH l' ∧ stHS l = stHS l' ∧ stUsed l = stUsed l' ∧ stRec l = stRec l' := by
  unfold stOf at h
  injection h with _ h1 h2 h3 h4 h5 h6 h7 h8
  exact ⟨h1, h2, h3, h4, h5, h7, h8⟩
theorem snapA_eq {l l' : List Bs} (h : stH l = stH l') : snapA l = snapA l' := by unfold snapA; rw [h]
theorem snapD_now (D : Dk) (hb : Blocks D.now) (data : Bs) : ∀ k, k ≤ 2 → Blocks (snapD D (snapA D.now) data k).now ∧ stOf (vp 0) (snapD D (snapA D.now) data k).now = stOf (vp 0) D.now
  | 0, _ => ⟨hb, rfl⟩
  | k + 1, hk => by
    obtain ⟨h1, h2⟩ := snapD_now D hb data k (by omega)
    refine ⟨h1.set (chunkS_len _ _), ?_⟩
    have e := snapA_eq (stOf_inj h2).2.2.2.1
    have := stOf_area (d := vp 0) h1 (x := chunkS data k) (k := k) (by omega)
    show stOf (vp 0) ((snapD D (snapA D.now) data k).now.set (4 + snapA D.now * 2 + k) (chunkS data k)) = _
    change stOf (vp 0) ((snapD D (snapA D.now) data k).now.set (4 + snapA (snapD D (snapA D.now) data k).now * 2 + k) (chunkS data k)) = _ at this
    rw [e] at this
    exact this.trans h2
theorem nCh_le {data : Bs} (h : data.length ≤ 128) : nCh data ≤ 2 := by unfold nCh; omega
theorem snapD_area (D : Dk) (hb : Blocks D.now) (data : Bs) (h : data.length ≤ 128) : areaS (snapD D (snapA D.now) data (nCh data)).now (snapA D.now) data.length = data := by
  have ha := (snapA_lt D.now).1
  unfold areaS
  have b0 := snapD_now D hb data 0 (by omega)
  have b1 := snapD_now D hb data 1 (by omega)
  have b2 := snapD_now D hb data 2 (by omega)
  generalize snapA D.now = a at *
  have e1 : (snapD D a data 1).now = D.now.set (4 + a * 2) (chunkS data 0) := rfl
  have e2 : (snapD D a data 2).now = (snapD D a data 1).now.set (4 + a * 2 + 1) (chunkS data 1) := rfl
  by_cases c0 : data.length = 0
  · have hn : nCh data = 0 := by unfold nCh; omega
    rw [hn]
    exact chunk_area data h _ (by omega) _ (by omega) (b0.1.len (by omega))
  · by_cases c1 : data.length ≤ 64
    · have hn : nCh data = 1 := by unfold nCh; omega
      rw [hn]
      refine chunk_area data h _ (by omega) _ (fun _ => ?_) (b1.1.len (by omega))
      rw [e1, blk_same hb (by omega)]
    · have hn : nCh data = 2 := by unfold nCh; omega
      rw [hn]
      refine chunk_area data h _ (fun _ => ?_) _ (fun _ => ?_) (b2.1.len (by omega))
      · rw [e2, blk_same b1.1 (by omega)]
      · rw [e2, blk_ne b1.1 (by omega) (by omega), e1, blk_same hb (by omega)]
theorem headIn {l : List Bs} {idx t : Int} {data : Bs} (i0 : 0 ≤ idx) (i1 : idx ≤ maxT) (t0 : 0 ≤ t) (t1 : t ≤ maxT) (hl : data.length ≤ 128) (n1 : (stH l).num < 4611686018427387904) : Head.In ⟨true, (stH l).num + 1, idx, t, snapA l, data.length⟩ := by
  have := stH_bd l
  have := snapA_lt l
  unfold maxT at i1 t1
  constructor <;> simp only [] <;> omega
theorem snapDD_stOf (D : Dk) (hb : Blocks D.now) {idx t : Int} {data : Bs} (i0 : 0 ≤ idx) (i1 : idx ≤ maxT) (t0 : 0 ≤ t) (t1 : t ≤ maxT) (hl : data.length ≤ 128) (n1 : (stH D.now).num < 4611686018427387904) (d : Value) :
    stOf d (snapDD D idx t data).now = { stOf d D.now with h := ⟨true, (stH D.now).num + 1, idx, t, snapA D.now, data.length⟩, hSlot := oth (stHS D.now), snap := data, stamp := upd (stStamp D.now) (2 + oth (stHS D.now)) (nextS (stStamp D.now (2 + oth (stHS D.now)))) } := by
  obtain ⟨h1, h2⟩ := snapD_now D hb data (nCh data) (nCh_le hl)
  have har := snapD_area D hb data hl
  have hd := stOf_d (vp 0) d h2
  show stOf d ((snapD D (snapA D.now) data (nCh data)).now.set _ _) = _
  unfold headX
  generalize (snapD D (snapA D.now) data (nCh data)).now = l1 at *
  obtain ⟨q1, q2, q3, q4, q5, q6, q7⟩ := stOf_inj h2
  rw [← q1, ← q5]
  have e := stOf_head_full (d := d) h1 (m := ⟨true, (stH D.now).num + 1, idx, t, snapA D.now, data.length⟩) (y := encHeadS ⟨true, (stH D.now).num + 1, idx, t, snapA D.now, data.length⟩) (encHead_len _)
    (decHead_enc rfl (headIn i0 i1 t0 t1 hl n1) (nextS_ne0 _)) rfl (by rw [q4])
  rw [e, hd]
  simp only [Int.toNat_natCast]
  rw [har]
theorem k281 (h : SK W Fd bt bd D) (hw : D.wr.length ≤ 8990) {idx t : Int} (i0 : 0 ≤ idx) (i1 : idx ≤ maxT) (t0 : 0 ≤ t) (t1 : t ≤ maxT) {data : Bs} (hl : data.length ≤ 128) (n1 : (stH D.now).num < 4611686018427387904) :
    Calls Tryz.prog 281 #[vp bt, vi idx, vi t, vs data] W fun r w' => r = .returned (vi 0) ∧ SK w' (trimF Fd W w') bt bd (snapDD D idx t data) ∧ ModP (fun k => Fd k ∨ k = bt) W w' := by
  obtain ⟨o1, o2⟩ := oth_lt (stHS_cases D.now)
  obtain ⟨a1, a2⟩ := snapA_lt D.now
  refine (c281_ok (S := stOf (vp bd) D.now) h.d h.wi h.t rfl h.nt hw i0 i1 t0 t1 hl (stH_bd D.now).1 n1 (a := snapA D.now) a2 a1 (sl := oth (stHS D.now)) o2 o1).mono ?_
  rintro _ w' ⟨rfl, hd, ht, hm⟩
  refine ⟨rfl, SK.mk' ?_ hd h.nt h.t.inB h.wi hm.size, hm⟩
  have e := snapDD_stOf D h.d.blocks i0 i1 t0 t1 hl n1 (vp bd)
  show w'.At bt (stOf (vp bd) (snapDD D idx t data).now).cells 139
  rw [e]
  exact ht
end
end Go.Proofs.Qxb6500990aGreat
