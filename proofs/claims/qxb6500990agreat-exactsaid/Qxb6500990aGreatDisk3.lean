/- package diskm: Mark, New, After -/
import Derived.Test.Qxb6500990aGreatDisk2
set_option linter.unusedVariables false
set_option linter.unusedSimpArgs false
namespace Go.Tw
open Go Go.Proofs Go.Proofs.Qxb6500990aGreat
/-- a half write comes to the blocks -/
def halfSet (l : List Bs) (h : Half) : List Bs := l.set h.b.toNat (if h.h = 0 then h.data ++ (l.getD h.b.toNat []).drop 32 else (l.getD h.b.toNat []).take 32 ++ h.data)
def Dk.after (D : Dk) (k : Nat) : List Bs := (D.wr.take k).foldl halfSet D.mark
def dsk0 : List Bs := List.replicate 14 (List.replicate 64 0)
theorem halfSet_ok (l : List Bs) (h : Half) (hl : l.length = 14 ∧ ∀ x ∈ l, x.length = 64) (hh : 0 ≤ h.b ∧ h.b < 14 ∧ (h.h = 0 ∨ h.h = 1) ∧ h.data.length = 32) : (halfSet l h).length = 14 ∧ ∀ x ∈ halfSet l h, x.length = 64 := by
  refine ⟨by simp [halfSet, hl.1], ?_⟩
  intro x hx
  have hb : h.b.toNat < l.length := by omega
  have h64 : (l.getD h.b.toNat []).length = 64 := by
    simp only [List.getD_eq_getElem?_getD, List.getElem?_eq_getElem hb, Option.getD_some]
    exact hl.2 _ (List.getElem_mem hb)
  rcases List.mem_or_eq_of_mem_set hx with h1 | h1
  · exact hl.2 x h1
  · subst h1
    generalize l.getD h.b.toNat [] = y at *
    split <;> simp [h64, hh.2.2.2]
theorem after_ok {D : Dk} (lm : D.mark.length = 14) (m64 : ∀ x ∈ D.mark, x.length = 64) (wr32 : ∀ h ∈ D.wr, 0 ≤ h.b ∧ h.b < 14 ∧ (h.h = 0 ∨ h.h = 1) ∧ h.data.length = 32) (k : Nat) : (D.after k).length = 14 ∧ ∀ x ∈ D.after k, x.length = 64 := by
  unfold Dk.after
  have : ∀ (ws : List Half) (l : List Bs), (∀ h ∈ ws, 0 ≤ h.b ∧ h.b < 14 ∧ (h.h = 0 ∨ h.h = 1) ∧ h.data.length = 32) → (l.length = 14 ∧ ∀ x ∈ l, x.length = 64) → (ws.foldl halfSet l).length = 14 ∧ ∀ x ∈ ws.foldl halfSet l, x.length = 64 := by
    intro ws
    induction ws with
    | nil => intro l _ h; exact h
    | cons h ws ih => intro l hw hl; exact ih _ (fun x hx => hw x (List.mem_cons_of_mem _ hx)) (halfSet_ok l h hl (hw h (List.mem_cons_self ..)))
  exact this _ _ (fun h hh => wr32 h (List.mem_of_mem_take hh)) ⟨lm, m64⟩
end Go.Tw
namespace Go.Proofs.Qxb6500990aGreat
open Go Go.RowKit Go.Tw
attribute [local go_sem] World.cell?_put_same World.cell?_put_ne World.cell?_put_ne' World.frozen?_put_same World.frozen?_put_ne World.frozen?_put_ne' World.setCell_put_same World.setCell_put_ne World.setCell_put_ne' World.inB_put World.inB_alloc World.inB_drew World.inB_drewN World.inB_new World.inB_setCell World.put_drew World.put_drewN World.q_setCell_drew World.q_setCell_drewN World.q_alloc_drew World.q_alloc_drewN World.put_put_same World.put_put_2 World.size_put World.q_cell?_alloc_old World.q_frozen?_alloc_old World.cell?_alloc_new' World.frozen?_alloc_new' World.q_setCell_alloc_old World.q_setCell_alloc_new World.q_put_alloc_old World.cell?_force_same World.frozen?_force_same World.cell?_force2_fst World.cell?_force2_snd DiskR.g0 DiskR.s0 DiskR.g1 DiskR.s1 DiskR.g2 DiskR.s2
attribute [local go_sem] ba_get ByteArray.extract_mk strs_set take_drop_len mk83
set_option maxHeartbeats 1000000
set_option maxRecDepth 100000
theorem k15 {W : World} {F : Nat → Prop} {bd : Nat} {D : Dk} (h : DK W F bd D) :
    Calls Tryz.prog 15 #[vp bd] W fun r w' => r = .returned (.tuple #[]) ∧ DK w' (grow F W) bd ⟨D.now, D.now, []⟩ ∧ ModP F W w' := by
  obtain ⟨⟨bd, bn, bm, wr⟩, rfl, ⟨hd, hn, hm, hr, ln, lm, l64, m64, nd, wr32⟩, hF⟩ := h
  have n1 : bd ≠ bn := by simp [DP.fp] at nd; exact nd.1.1
  simp only [] at *
  have hFd : F bd := hF bd (by simp [DP.fp])
  have hFn : F bn := hF bn (by simp [DP.fp])
  clear hr m64 wr32 nd hm hF
  unfold str14 at *
  obtain ⟨w, rfl, ib⟩ := hd.door
  clear hd
  have Hn := hidIt hn
  have Hl := hidIt l64
  have HF := hidIt (And.intro hFd hFn)
  have ibn := hn.inB
  clear hn l64 hFd hFn
  go_enter Tryz.func15, Tryz.ntmps15
  go_wp2_with (go_at_call 30; refine (c30 Hn.out ln).mono ?_; rintro _ _ ⟨rfl, rfl⟩)
  go_end0
  have i1 : bd < w.heap.size := ib
  have i2 : bn < w.heap.size := by unfold World.inB at ibn; simpa [World.size_put] using ibn
  have hn' : w.At bn (strs D.now) 9 := (World.At_put_ne' (Ne.symm n1)).1 Hn.out
  obtain ⟨f1, f2⟩ := HF.out
  refine ⟨rfl, ⟨⟨bd, bn, w.heap.size, .slice none 0 0⟩, rfl, ⟨?_, ?_, ?_, ⟨by simp [halvesC], .inl ⟨rfl, rfl⟩⟩, ln, ln, Hl.out, Hl.out, ?_, by simp⟩, ?_⟩, (by repeat (first | assumption | exact ModP.refl _ _ | refine ModP.fromPut ?_ (by assumption) | apply ModP.alloc | apply ModP.drew | apply ModP.drewN | refine ModP.put ?_ (by first | (left; assumption) | (left; rfl) | (right; simp only [World.inB, World.size_put] at *; omega)) _ _))⟩
  · exact (by repeat (first | assumption | exact World.At_alloc_new | exact at_new (by first | rfl | (simp [World.size_put]; done) | (simp [World.size_put]; omega)) | refine World.At.alloc ?_ _ | refine World.At_drew.2 ?_ | refine (World.At_drewN _).2 ?_ | exact World.At_put_same (by first | assumption | (simp only [World.inB, World.size_put, World.alloc, World.drew, World.drewN, Array.size_push] at *; omega)) | refine (World.At_put_ne' (by first | assumption | (exact Ne.symm (by assumption)) | (simp only [World.inB, World.size_put] at *; omega))).2 ?_))
  · exact (by repeat (first | assumption | exact World.At_alloc_new | exact at_new (by first | rfl | (simp [World.size_put]; done) | (simp [World.size_put]; omega)) | refine World.At.alloc ?_ _ | refine World.At_drew.2 ?_ | refine (World.At_drewN _).2 ?_ | exact World.At_put_same (by first | assumption | (simp only [World.inB, World.size_put, World.alloc, World.drew, World.drewN, Array.size_push] at *; omega)) | refine (World.At_put_ne' (by first | assumption | (exact Ne.symm (by assumption)) | (simp only [World.inB, World.size_put] at *; omega))).2 ?_))
  · exact (by repeat (first | assumption | exact World.At_alloc_new | exact at_new (by first | rfl | (simp [World.size_put]; done) | (simp [World.size_put]; omega)) | refine World.At.alloc ?_ _ | refine World.At_drew.2 ?_ | refine (World.At_drewN _).2 ?_ | exact World.At_put_same (by first | assumption | (simp only [World.inB, World.size_put, World.alloc, World.drew, World.drewN, Array.size_push] at *; omega)) | refine (World.At_put_ne' (by first | assumption | (exact Ne.symm (by assumption)) | (simp only [World.inB, World.size_put] at *; omega))).2 ?_))
  · simp [DP.fp, Value.ownBlock]; omega
  · simp [DP.fp, Value.ownBlock, grow, f1, f2, World.size_put]
theorem BytesB.ofAt {B : Nat} {w : World} {g : Nat} {l : List Int} (h : w.At g (l.map (Value.int .u8)).toArray 5) (hB : B ≤ g) (hm : l.length ≤ maxLen) : BytesB B w (.slice (some ⟨g, 0, none⟩) l.length l.length) l :=
  ⟨by simp, .inr ⟨g, l.length, _, rfl, hB, h, Nat.le_refl _, hm, by simp, by simp [List.take_of_length_le]⟩⟩
def z64 : Bs := List.replicate 64 0
def z64i : List Int := List.replicate 64 0
theorem zb_bytes : zb 64 = (z64i.map (Value.int .u8)).toArray := rfl
theorem z64_ib : ib z64i = z64 := by decide
theorem zbB {w : World} {g : Nat} (h : w.At g (zb 64) 5) : BytesB 0 w (.slice (some ⟨g, 0, none⟩) 64 64) z64i := by
  rw [zb_bytes] at h
  exact BytesB.ofAt h (Nat.zero_le _) (by decide)
def newS (k : Nat) : List Bs := List.replicate k z64 ++ List.replicate (14 - k) []
theorem newS_set (k : Nat) (h : k < 14) : (newS k).set k z64 = newS (k + 1) := by
  unfold newS
  rw [List.set_append_right _ _ (by simp)]
  simp only [List.length_replicate, Nat.sub_self]
  rw [show 14 - k = (14 - (k + 1)) + 1 by omega, List.replicate_succ, List.set_cons_zero, List.replicate_succ', List.append_assoc]
  rfl
theorem strs0_eq : strs0 = strs (newS 0) := rfl
theorem newS_14 : newS 14 = dsk0 := rfl
theorem newS_len (k : Nat) (h : k ≤ 14) : (newS k).length = 14 := by simp [newS]; omega
attribute [local go_sem] mk127
theorem c23 (W : World) : Calls Tryz.prog 23 #[] W fun r w' => ∃ bd, W.heap.size ≤ bd ∧ r = .returned (vp bd) ∧ DK w' (fun k => W.heap.size ≤ k) bd ⟨dsk0, dsk0, []⟩ ∧ ModP (fun _ => False) W w' := by
  go_enter Tryz.func23, Tryz.ntmps23
  go_wp2_with (refine wp_strB rfl _ rfl rfl (zbB World.At_alloc_new) ?_)
  rw [strs0_eq, z64_ib]
  go_loopw [3] (fun j u => ∃ k : Nat, k ≤ 14 ∧ j = vi k ∧ u = ((W.alloc (.cells (zb 64) 5)).alloc (.cells (strs (newS k)) 9)).alloc (.cells (DiskR.cells ⟨.slice (some ⟨W.heap.size + 1, 0, none⟩) 14 14, .slice none 0 0, .slice none 0 0⟩) 87)) (fun j _ => 14 - (intOf j).toNat)
  case atStart => exact ⟨0, by omega, rfl, rfl⟩
  case round =>
    obtain ⟨k, hk, rfl, rfl⟩ := hrel
    by_cases hlt : k < 14
    · have hg : (strs (newS k))[k]? = some (vs ((newS k)[k]'(by rw [newS_len k hk]; exact hlt))) := strs_get _ _ _
      have Hs := hidIt (newS_set k hlt)
      go_wp2
      go_roundw
      case rel => exact ⟨k + 1, by omega, by go_num, by rw [← Hs.out]⟩
      case measure => simp [intOf]; omega
    · obtain rfl : k = 14 := by omega
      clear hlt hk
      have hl := newS_len 14 (by omega)
      rw [newS_14] at *
      generalize hS : dsk0 = S at *
      have HS := hidIt hS
      clear hS
      go_wp2_with (go_at_call 30; refine (c30 (g := W.heap.size + 1) (World.At.alloc (at_new (by simp)) _) hl).mono ?_; rintro _ _ ⟨rfl, rfl⟩)
      go_ret
      refine ⟨W.heap.size + 1 + 1, by omega, rfl, ⟨⟨W.heap.size + 1 + 1, W.heap.size + 1, W.heap.size + 1 + 1 + 1, .slice none 0 0⟩, rfl, ⟨?_, ?_, ?_, ⟨by simp [halvesC], .inl ⟨rfl, rfl⟩⟩, ?_, ?_, ?_, ?_, ?_, by simp⟩, ?_⟩, (by repeat (first | assumption | exact ModP.refl _ _ | refine ModP.fromPut ?_ (by assumption) | apply ModP.alloc | apply ModP.drew | apply ModP.drewN | refine ModP.put ?_ (by first | (left; assumption) | (left; rfl) | (right; simp only [World.inB, World.size_put] at *; omega)) _ _))⟩
      · exact (by repeat (first | assumption | exact World.At_alloc_new | exact at_new (by first | rfl | (simp [World.size_put]; done) | (simp [World.size_put]; omega)) | refine World.At.alloc ?_ _ | refine World.At_drew.2 ?_ | refine (World.At_drewN _).2 ?_ | exact World.At_put_same (by first | assumption | (simp only [World.inB, World.size_put, World.alloc, World.drew, World.drewN, Array.size_push] at *; omega)) | refine (World.At_put_ne' (by first | assumption | (exact Ne.symm (by assumption)) | (simp only [World.inB, World.size_put] at *; omega))).2 ?_))
      · rw [HS.out]; exact World.At.alloc (World.At.alloc (at_new (by simp)) _) _
      · rw [HS.out]; exact (by repeat (first | assumption | exact World.At_alloc_new | exact at_new (by first | rfl | (simp [World.size_put]; done) | (simp [World.size_put]; omega)) | refine World.At.alloc ?_ _ | refine World.At_drew.2 ?_ | refine (World.At_drewN _).2 ?_ | exact World.At_put_same (by first | assumption | (simp only [World.inB, World.size_put, World.alloc, World.drew, World.drewN, Array.size_push] at *; omega)) | refine (World.At_put_ne' (by first | assumption | (exact Ne.symm (by assumption)) | (simp only [World.inB, World.size_put] at *; omega))).2 ?_))
      · rfl
      · rfl
      · decide
      · decide
      · simp [DP.fp, Value.ownBlock]
      · simp [DP.fp, Value.ownBlock]; omega
theorem halves_get : ∀ (l : List Half) (k : Nat) (h : Half), l[k]? = some h → (halvesC l)[k * 3]? = some (vi h.b) ∧ (halvesC l)[k * 3 + 1]? = some (vi h.h) ∧ (halvesC l)[k * 3 + 2]? = some (vs h.data)
  | [], k, h, hk => by simp at hk
  | x :: l, 0, h, hk => by
    simp at hk; subst hk
    exact ⟨rfl, rfl, rfl⟩
  | x :: l, k + 1, h, hk => by
    have := halves_get l k h (by simpa using hk)
    simp only [halvesC, List.flatMap_cons, show (k + 1) * 3 = k * 3 + 1 + 1 + 1 by omega, List.cons_append, List.getElem?_cons_succ, List.nil_append] at *
    exact this
theorem ownsRow_cell {B e s n : Nat} {w : World} {g len cap : Nat} {xs : List Value} (h : w.ownsRow B e s (.slice (some ⟨g, 0, none⟩) len cap) n xs) {k : Nat} {v : Value} (hk : xs[k]? = some v) : w.cell? ⟨g, k, none⟩ = some v := by
  rcases h.2 with ⟨h2, _⟩ | ⟨g', cap', cur, hv, h3, h4, h5⟩
  · cases h2
  · cases hv
    have h6 : k < xs.length := (List.getElem?_eq_some_iff.1 hk).1
    obtain ⟨_, _, _, ht⟩ := h5
    have h7 : cur[k]? = some v := by
      rw [← ht, List.getElem?_take] at hk
      split at hk
      · simpa using hk
      · cases hk
    simp [World.cell?, h4, h7]
theorem ba_append (a b : Bs) : (ByteArray.mk a.toArray ++ ByteArray.mk b.toArray : ByteArray) = ByteArray.mk (a ++ b).toArray := by
  apply ByteArray.ext
  simp [ByteArray.data_append]
theorem after_step (D : Dk) (i : Nat) (x : Half) (h : D.wr[i]? = some x) : D.after (i + 1) = halfSet (D.after i) x := by
  unfold Dk.after
  rw [List.take_add_one, h]
  simp
theorem k10 {W : World} {F : Nat → Prop} {bd : Nat} {D : Dk} (h : DK W F bd D) (k : Int) (hw : D.wr.length ≤ 9000) :
    Calls Tryz.prog 10 #[vp bd, vi k] W fun r w' => ∃ bd', W.heap.size ≤ bd' ∧ r = .returned (vp bd') ∧ DK w' (fun k => W.heap.size ≤ k) bd' ⟨D.after k.toNat, D.after k.toNat, []⟩ ∧ ModP (fun _ => False) W w' := by
  obtain ⟨⟨bd, bn, bm, wr⟩, rfl, ⟨hd, hn, hm, hr, ln, lm, l64, m64, nd, wr32⟩, hF⟩ := h
  simp only [] at *
  have hlen : ∃ ad cap, wr = .slice ad D.wr.length cap := by
    rcases hr.2 with ⟨hv, h0⟩ | ⟨g', cap, cur, hv, _, h4, _⟩
    · exact ⟨none, 0, by rw [hv, h0]⟩
    · exact ⟨_, _, hv⟩
  obtain ⟨ad, cap, rfl⟩ := hlen
  have hcg : ∀ j x, D.wr[j]? = some x → ∃ g, ad = some ⟨g, 0, none⟩ ∧ W.inB g ∧ W.cell? ⟨g, j * 3, none⟩ = some (vi x.b) ∧ W.cell? ⟨g, j * 3 + 1, none⟩ = some (vi x.h) ∧ W.cell? ⟨g, j * 3 + 2, none⟩ = some (vs x.data) := by
    intro j x hj
    have hj' : j < D.wr.length := (List.getElem?_eq_some_iff.1 hj).1
    rcases id hr.2 with ⟨hv, h0⟩ | ⟨g', cap', cur, hv, _, h4, _⟩
    · omega
    · cases hv
      obtain ⟨q1, q2, q3⟩ := halves_get _ _ _ hj
      exact ⟨g', rfl, (Array.getElem?_eq_some_iff.1 h4).1, ownsRow_cell hr q1, ownsRow_cell hr q2, ownsRow_cell hr q3⟩
  have Hc := hidIt hcg
  have Hm := hidIt hm
  have HA := hidIt (after_ok lm m64 wr32)
  have Hw := hidIt wr32
  have ibm := hm.inB
  have ibd := hd.inB
  have c1 : W.cell? ⟨bd, 1, none⟩ = some (str14 bm) := by rw [hd.cell]; rfl
  have c2 : W.cell? ⟨bd, 2, none⟩ = some (.slice ad D.wr.length cap) := by rw [hd.cell]; rfl
  have Hcb : ∀ u, ModP (fun _ => False) W u → ∀ b o, W.inB b → u.cell? ⟨b, o, none⟩ = W.cell? ⟨b, o, none⟩ := fun u hu b o hb => hu.cell hb id o
  have hab := after_step D
  have HAB := hidIt hab
  clear hr l64 m64 wr32 nd hm hF hcg hd hn ln hab
  unfold str14 at *
  have ibd' : bd < W.heap.size := ibd
  go_enter Tryz.func10, Tryz.ntmps10
  go_wp2_with (go_at_call 30; refine (c30 Hm.out lm).mono ?_; rintro _ _ ⟨rfl, rfl⟩)
  go_loopw [6] (fun j u => ∃ i : Nat, i ≤ D.wr.length ∧ j = vi i ∧ Hid (i ≤ k.toNat) ∧ Hid (u.At W.heap.size (strs (D.after i)) 9) ∧ Hid (u.At (W.heap.size + 1) (DiskR.cells ⟨.slice (some ⟨W.heap.size, 0, none⟩) 14 14, .slice none 0 0, .slice none 0 0⟩) 87) ∧ Hid (ModP (fun _ => False) W u)) (fun j _ => D.wr.length - (intOf j).toNat)
  case atStart => exact ⟨0, by omega, rfl, Nat.zero_le _, World.At.alloc (at_new rfl) _, at_new (by simp), by unfold Hid; exact (by repeat (first | assumption | exact ModP.refl _ _ | refine ModP.fromPut ?_ (by assumption) | apply ModP.alloc | apply ModP.drew | apply ModP.drewN | refine ModP.put ?_ (by first | (left; assumption) | (left; rfl) | (right; simp only [World.inB, World.size_put] at *; omega)) _ _))⟩
  case round =>
    obtain ⟨i, hi, rfl, h1, h2, h3, h4⟩ := hrel
    have d2 := (Hcb _ h4.out bd 2 ibd).trans c2
    by_cases hlt : i < D.wr.length
    · by_cases hk : (i : Int) < k
      · have hx := List.getElem?_eq_getElem hlt
        generalize D.wr[i] = x at hx
        obtain ⟨g, rfl, ig, g0, g1, g2⟩ := Hc.out i x hx
        have e0 := (Hcb _ h4.out g (i * 3) ig).trans g0
        have e1 := (Hcb _ h4.out g (i * 3 + 1) ig).trans g1
        have e2 := (Hcb _ h4.out g (i * 3 + 2) ig).trans g2
        have Hs := hidIt (HAB.out i x hx)
        have hok := HA.out i
        obtain ⟨x0, x1, x2, x3⟩ := Hw.out x (List.mem_of_getElem? hx)
        generalize D.after i = S at *
        obtain ⟨xb, xh, xd⟩ := x
        simp only [] at *
        obtain ⟨b, rfl⟩ := Int.eq_ofNat_of_zero_le x0
        have hlb : b < S.length := by omega
        have hgs : (strs S)[b]? = some (vs (S.getD b [])) := by rw [strs_get S b hlb]; simp [hlb]
        have h64 : (S.getD b []).length = 64 := by
          simp only [List.getD_eq_getElem?_getD, List.getElem?_eq_getElem hlb, Option.getD_some]
          exact hok.2 _ (List.getElem_mem hlb)
        have h64' : ((S.getD b []).length : Int) = 64 := by omega
        have hhs : Hid (halfSet S ⟨b, xh, xd⟩ = S.set b (if xh = 0 then xd ++ (S.getD b []).drop 32 else (S.getD b []).take 32 ++ xd)) := by unfold Hid halfSet; simp
        have n0 : (W.heap.size + 1) ≠ W.heap.size := by omega
        have n1 : bd ≠ W.heap.size := by omega
        have n2 : g ≠ W.heap.size := by unfold World.inB at ig; omega
        have f0 := h3.out.cell 0
        have Hs64 := hidIt h64
        have is2 := h3.out.inB
        generalize hold : S.getD b [] = old at *
        have Hold := hidIt hold
        have Hok := hidIt hok
        have bd14 : b < 14 := by omega
        clear hold hok hx h64 x0 x1 g0 g1 g2 hlb c1 c2 Hcb ig
        have hle : ¬ D.wr.length ≤ i := by omega
        obtain ⟨v, hv, iq⟩ := h2.out.door
        subst hv
        rw [World.cell?_put_ne' n1] at d2
        rw [World.cell?_put_ne' n2] at e0 e1 e2
        rw [World.cell?_put_ne' n0] at f0
        have f0' : v.cell? ⟨W.heap.size + 1, 0, none⟩ = some (.slice (some ⟨W.heap.size, 0, none⟩) 14 14) := f0
        clear f0
        have HM := hidIt (ModP.ofPut0 h4.out (b := W.heap.size) (Nat.le_refl _))
        rcases x2 with rfl | rfl
        · go_wp2_with fail
          refine Ord.region1 [] [0, 1, 2, 3, 4, 5, 6, 7, 8, 9, 10, 11, 12, 13, 14, 15, 16, 17, 18] [19] (by kernel_rfl) (by kernel_rfl) (fun _ _ d _ _ h => by cases d <;> exact h) ?_
          simp only [Ord.pickO, Ord.nth]
          refine wpQuiet_nil ?_
          repeat (go_big_quiet_step (fail))
          refine wpQuiet_nil ?_
          go_wp2_with fail
          have hset : D.after (i + 1) = S.set b (xd ++ List.drop 32 old) := by rw [Hs.out, hhs.out]; simp
          rw [ba_append, strs_set, ← hset]
          refine ⟨⟨i + 1, by omega, by go_num, (show _ ≤ _ by omega), (show World.At _ _ _ _ from ?_), (show World.At _ _ _ _ from ?_), (show ModP _ _ _ from ?_)⟩, by simp [intOf]; omega⟩
          · exact (by repeat (first | assumption | exact World.At_alloc_new | exact at_new (by first | rfl | (simp [World.size_put]; done) | (simp [World.size_put]; omega)) | refine World.At.alloc ?_ _ | refine World.At_drew.2 ?_ | refine (World.At_drewN _).2 ?_ | exact World.At_put_same (by first | assumption | (simp only [World.inB, World.size_put, World.alloc, World.drew, World.drewN, Array.size_push] at *; omega)) | refine (World.At_put_ne' (by first | assumption | (exact Ne.symm (by assumption)) | (simp only [World.inB, World.size_put] at *; omega))).2 ?_))
          · exact World.At_drew.2 (World.At.alloc ((World.At_put_ne' n0).2 ((World.At_put_ne' n0).1 h3.out)) _)
          · exact ((HM.out.put (.inr (Nat.le_refl _)) _ _).alloc _).drew
        · go_wp2_with fail
          refine Ord.region1 [] [0, 1, 2, 3, 4, 5, 6, 7, 8, 9, 10, 11, 12, 13, 14, 15, 16, 17, 18] [19] (by kernel_rfl) (by kernel_rfl) (fun _ _ d _ _ h => by cases d <;> exact h) ?_
          simp only [Ord.pickO, Ord.nth]
          refine wpQuiet_nil ?_
          repeat (go_big_quiet_step (fail))
          refine wpQuiet_nil ?_
          go_wp2_with fail
          have hset : D.after (i + 1) = S.set b (List.take 32 old ++ xd) := by rw [Hs.out, hhs.out]; simp
          rw [ba_append, strs_set, ← hset]
          refine ⟨⟨i + 1, by omega, by go_num, (show _ ≤ _ by omega), (show World.At _ _ _ _ from ?_), (show World.At _ _ _ _ from ?_), (show ModP _ _ _ from ?_)⟩, by simp [intOf]; omega⟩
          · exact (by repeat (first | assumption | exact World.At_alloc_new | exact at_new (by first | rfl | (simp [World.size_put]; done) | (simp [World.size_put]; omega)) | refine World.At.alloc ?_ _ | refine World.At_drew.2 ?_ | refine (World.At_drewN _).2 ?_ | exact World.At_put_same (by first | assumption | (simp only [World.inB, World.size_put, World.alloc, World.drew, World.drewN, Array.size_push] at *; omega)) | refine (World.At_put_ne' (by first | assumption | (exact Ne.symm (by assumption)) | (simp only [World.inB, World.size_put] at *; omega))).2 ?_))
          · exact World.At_drew.2 (World.At.alloc ((World.At_put_ne' n0).2 ((World.At_put_ne' n0).1 h3.out)) _)
          · exact ((HM.out.put (.inr (Nat.le_refl _)) _ _).alloc _).drew
      · have hik : i = k.toNat := by have := h1.out; omega
        have hS := HA.out i
        have he : D.after i = D.after k.toNat := by rw [hik]
        have He := hidIt he
        clear he
        generalize D.after i = S at *
        have HS := hidIt hS
        obtain ⟨hS1, hS2⟩ := hS
        clear hS2 c1 c2 Hcb
        have hus := h3.out.inB
        obtain ⟨v, hv, iq⟩ := h3.out.door
        subst hv
        have HM := hidIt (ModP.ofPut0 h4.out (b := W.heap.size + 1) (by omega))
        have n0 : W.heap.size + 1 ≠ W.heap.size := by omega
        have n1 : bd ≠ W.heap.size + 1 := by omega
        rw [World.cell?_put_ne' n1] at d2
        have hat := h2.out
        have HA2 := hidIt ((World.At_put_ne' (Ne.symm n0)).1 hat)
        have Hat := hidIt hat
        clear hat
        go_wp2_with (go_at_call 30; refine (c30 Hat.out hS1).mono ?_; rintro _ _ ⟨rfl, rfl⟩)
        go_ret
        rw [← He.out]
        have q1 : W.heap.size + 1 < v.heap.size := iq
        refine ⟨W.heap.size + 1, by omega, rfl, ⟨⟨W.heap.size + 1, W.heap.size, v.heap.size, .slice none 0 0⟩, rfl, ⟨?_, ?_, ?_, ⟨by simp [halvesC], .inl ⟨rfl, rfl⟩⟩, hS1, hS1, HS.out.2, HS.out.2, ?_, by simp⟩, ?_⟩, ?_⟩
        · exact (by repeat (first | assumption | exact World.At_alloc_new | exact at_new (by first | rfl | (simp [World.size_put]; done) | (simp [World.size_put]; omega)) | refine World.At.alloc ?_ _ | refine World.At_drew.2 ?_ | refine (World.At_drewN _).2 ?_ | exact World.At_put_same (by first | assumption | (simp only [World.inB, World.size_put, World.alloc, World.drew, World.drewN, Array.size_push] at *; omega)) | refine (World.At_put_ne' (by first | assumption | (exact Ne.symm (by assumption)) | (simp only [World.inB, World.size_put] at *; omega))).2 ?_))
        · exact World.At.alloc ((World.At_put_ne' (Ne.symm n0)).2 HA2.out) _
        · exact (by repeat (first | assumption | exact World.At_alloc_new | exact at_new (by first | rfl | (simp [World.size_put]; done) | (simp [World.size_put]; omega)) | refine World.At.alloc ?_ _ | refine World.At_drew.2 ?_ | refine (World.At_drewN _).2 ?_ | exact World.At_put_same (by first | assumption | (simp only [World.inB, World.size_put, World.alloc, World.drew, World.drewN, Array.size_push] at *; omega)) | refine (World.At_put_ne' (by first | assumption | (exact Ne.symm (by assumption)) | (simp only [World.inB, World.size_put] at *; omega))).2 ?_))
        · simp [DP.fp, Value.ownBlock]; omega
        · simp [DP.fp, Value.ownBlock]; omega
        · exact (HM.out.put (.inr (by omega)) _ _).alloc _
    · have hil : i = D.wr.length := by omega
      have hS := HA.out i
      have he : D.after i = D.after k.toNat := by
        unfold Dk.after
        rw [List.take_of_length_le (by omega), List.take_of_length_le (by have := h1.out; omega)]
      have He := hidIt he
      clear he
      generalize D.after i = S at *
      have HS := hidIt hS
      obtain ⟨hS1, hS2⟩ := hS
      clear hS2 c1 c2 Hcb
      have hus := h3.out.inB
      obtain ⟨v, hv, iq⟩ := h3.out.door
      subst hv
      have HM := hidIt (ModP.ofPut0 h4.out (b := W.heap.size + 1) (by omega))
      have n0 : W.heap.size + 1 ≠ W.heap.size := by omega
      have n1 : bd ≠ W.heap.size + 1 := by omega
      rw [World.cell?_put_ne' n1] at d2
      have hat := h2.out
      have HA2 := hidIt ((World.At_put_ne' (Ne.symm n0)).1 hat)
      have Hat := hidIt hat
      clear hat
      go_wp2_with (go_at_call 30; refine (c30 Hat.out hS1).mono ?_; rintro _ _ ⟨rfl, rfl⟩)
      go_ret
      rw [← He.out]
      have q1 : W.heap.size + 1 < v.heap.size := iq
      refine ⟨W.heap.size + 1, by omega, rfl, ⟨⟨W.heap.size + 1, W.heap.size, v.heap.size, .slice none 0 0⟩, rfl, ⟨?_, ?_, ?_, ⟨by simp [halvesC], .inl ⟨rfl, rfl⟩⟩, hS1, hS1, HS.out.2, HS.out.2, ?_, by simp⟩, ?_⟩, ?_⟩
      · exact (by repeat (first | assumption | exact World.At_alloc_new | exact at_new (by first | rfl | (simp [World.size_put]; done) | (simp [World.size_put]; omega)) | refine World.At.alloc ?_ _ | refine World.At_drew.2 ?_ | refine (World.At_drewN _).2 ?_ | exact World.At_put_same (by first | assumption | (simp only [World.inB, World.size_put, World.alloc, World.drew, World.drewN, Array.size_push] at *; omega)) | refine (World.At_put_ne' (by first | assumption | (exact Ne.symm (by assumption)) | (simp only [World.inB, World.size_put] at *; omega))).2 ?_))
      · exact World.At.alloc ((World.At_put_ne' (Ne.symm n0)).2 HA2.out) _
      · exact (by repeat (first | assumption | exact World.At_alloc_new | exact at_new (by first | rfl | (simp [World.size_put]; done) | (simp [World.size_put]; omega)) | refine World.At.alloc ?_ _ | refine World.At_drew.2 ?_ | refine (World.At_drewN _).2 ?_ | exact World.At_put_same (by first | assumption | (simp only [World.inB, World.size_put, World.alloc, World.drew, World.drewN, Array.size_push] at *; omega)) | refine (World.At_put_ne' (by first | assumption | (exact Ne.symm (by assumption)) | (simp only [World.inB, World.size_put] at *; omega))).2 ?_))
      · simp [DP.fp, Value.ownBlock]; omega
      · simp [DP.fp, Value.ownBlock]; omega
      · exact (HM.out.put (.inr (by omega)) _ _).alloc _
end Go.Proofs.Qxb6500990aGreat
