/- the store as it is meant: laws of the codec; what 14 blocks say -/
import Derived.Test.Qxb6500990aGreatSt10
set_option linter.unusedVariables false
set_option linter.unusedSimpArgs false
namespace Go.Tw
open Go Go.Proofs Go.Proofs.Qxb6500990aGreat
theorem getD_set (l : Bs) (i j : Nat) (y d : UInt8) (hi : i < l.length) : (l.set i y).getD j d = if j = i then y else l.getD j d := by
  simp only [List.getD_eq_getElem?_getD, List.getElem?_set]
  by_cases h : i = j
  · subst h; simp [hi]
  · simp [h, Ne.symm h]
theorem set8_get (l : Bs) (q : Nat) (v : Int) (hq : q + 8 ≤ l.length) (p : Nat) : ∀ n, n ≤ 8 → (set8 l q v n).getD p 0 = if q + 8 - n ≤ p ∧ p < q + 8 then lowB (vN v (q + 7 - p)) else l.getD p 0
  | 0, _ => by rw [if_neg (by omega)]; rfl
  | n + 1, h => by
    unfold set8
    rw [getD_set _ _ _ _ _ (by rw [set8_len]; omega), set8_get l q v hq p n (by omega)]
    by_cases e : p = q + (7 - n)
    · rw [if_pos e, if_pos (by omega), show q + 7 - p = n by omega]
    · rw [if_neg e]
      by_cases c : q + 8 - n ≤ p ∧ p < q + 8
      · rw [if_pos c, if_pos (by omega)]
      · rw [if_neg c, if_neg (by omega)]
theorem set8_in (l : Bs) (q : Nat) (v : Int) (hq : q + 8 ≤ l.length) (p : Nat) (h1 : q ≤ p) (h2 : p < q + 8) : (set8 l q v 8).getD p 0 = lowB (vN v (q + 7 - p)) := by
  rw [set8_get l q v hq p 8 (Nat.le_refl _), if_pos (by omega)]
theorem set8_out (l : Bs) (q : Nat) (v : Int) (hq : q + 8 ≤ l.length) (p : Nat) (h : p < q ∨ q + 8 ≤ p) : (set8 l q v 8).getD p 0 = l.getD p 0 := by
  rw [set8_get l q v hq p 8 (Nat.le_refl _), if_neg (by omega)]
theorem vN_8 {v : Int} (h0 : 0 ≤ v) (h1 : v < 9223372036854775808) : vN v 8 = 0 := by
  simp only [vN]; omega
theorem beN_congr {l l' : Bs} {q : Nat} : ∀ n, (∀ i, i < n → l.getD (q + i) 0 = l'.getD (q + i) 0) → beN l q n = beN l' q n
  | 0, _ => rfl
  | n + 1, h => by simp only [beN]; rw [beN_congr n (fun i hi => h i (by omega)), h n (by omega)]
theorem beN_bytes {l : Bs} {q : Nat} {v : Int} (h0 : 0 ≤ v) (h1 : v < 9223372036854775808) (h : ∀ i, i < 8 → l.getD (q + i) 0 = lowB (vN v (7 - i))) : ∀ k, k ≤ 8 → beN l q k = vN v (8 - k)
  | 0, _ => (vN_8 h0 h1).symm
  | k + 1, hk => by
    simp only [beN]
    rw [beN_bytes h0 h1 h k (by omega), h k (by omega), lowB_nat, show 8 - k = (7 - k) + 1 by omega, show 8 - (k + 1) = 7 - k by omega]
    have := (vN_bd h0 h1 (7 - k)).1
    simp only [vN]
    omega
theorem beN_is {l : Bs} {q : Nat} {v : Int} (h0 : 0 ≤ v) (h1 : v < 9223372036854775808) (h : ∀ i, i < 8 → l.getD (q + i) 0 = lowB (vN v (7 - i))) : beN l q 8 = v := beN_bytes h0 h1 h 8 (Nat.le_refl _)
theorem stampX_len (x : Bs) (s : UInt8) : (stampX x s).length = x.length := by unfold stampX; simp
theorem stampX_get (x : Bs) (s : UInt8) (hx : x.length = 64) (p : Nat) : (stampX x s).getD p 0 = if p = 63 ∨ p = 0 then s else x.getD p 0 := by
  unfold stampX
  rw [getD_set _ _ _ _ _ (by rw [List.length_set]; omega), getD_set _ _ _ _ _ (by omega)]
  by_cases h : p = 63
  · simp [h]
  · simp [h]
theorem stampX_whole {x : Bs} {s : UInt8} (hx : x.length = 64) (hs : s ≠ 0) : wholeB (stampX x s) = true := by
  unfold wholeB
  rw [stampX_get x s hx, stampX_get x s hx]
  simp [hs]
theorem nextS_ne0 (y : UInt8) : nextS y ≠ 0 := by
  intro h
  have := nextS_nat y
  rw [h] at this
  simp at this
theorem nextS_ne (y : UInt8) : nextS y ≠ y := by
  intro h
  have := nextS_nat y
  rw [h] at this
  have hy := y.toNat_lt
  omega
/-- a block torn between its halves is not whole -/
def tornX (x old : Bs) : Bs := x.take 32 ++ old.drop 32
theorem tornX_len {x old : Bs} (hx : x.length = 64) (ho : old.length = 64) : (tornX x old).length = 64 := by unfold tornX; simp [hx, ho]
theorem tornX_0 {x old : Bs} (hx : x.length = 64) : (tornX x old).getD 0 0 = x.getD 0 0 := by
  unfold tornX
  simp only [List.getD_eq_getElem?_getD]
  rw [List.getElem?_append_left (by rw [List.length_take]; omega), List.getElem?_take_of_lt (by omega)]
theorem tornX_63 {x old : Bs} (hx : x.length = 64) (ho : old.length = 64) : (tornX x old).getD 63 0 = old.getD 63 0 := by
  unfold tornX
  simp only [List.getD_eq_getElem?_getD]
  rw [List.getElem?_append_right (by rw [List.length_take]; omega), List.length_take, List.getElem?_drop]
  congr 2; omega
theorem torn_stamp {y old : Bs} (hy : y.length = 64) (ho : old.length = 64) : wholeB (tornX (stampX y (nextS (old.getD 63 0))) old) = false := by
  unfold wholeB
  rw [tornX_0 (by rw [stampX_len]; exact hy), tornX_63 (by rw [stampX_len]; exact hy) ho, stampX_get _ _ hy]
  simp [nextS_ne]
theorem byt_stamp (x : Bs) (s : UInt8) (hx : x.length = 64) (p : Nat) (h1 : p ≠ 63) (h0 : p ≠ 0) : byt (stampX x s) p = byt x p := by
  unfold byt; rw [stampX_get x s hx, if_neg (by omega)]
theorem beN_stamp (x : Bs) (s : UInt8) (hx : x.length = 64) (q : Nat) (h1 : 1 ≤ q) (h2 : q + 8 ≤ 63) : beN (stampX x s) q 8 = beN x q 8 := by
  apply beN_congr
  intro i hi
  rw [stampX_get x s hx, if_neg (by omega)]
theorem encMeta_len (m : Meta) : (encMetaS m).length = 64 := by unfold encMetaS; rw [List.length_set, set8_len, set8_len]; rfl
theorem encHead_len (h : Head) : (encHeadS h).length = 64 := by unfold encHeadS; rw [List.length_set, List.length_set, set8_len, set8_len, set8_len]; rfl
theorem encRec_len (r : Rec) : (encRecS r).length = 64 := by unfold encRecS; rw [set8_len, layN_len]; exact recB_len r
theorem z64b_get (p : Nat) : z64b.getD p 0 = 0 := by
  unfold z64b
  simp only [List.getD_eq_getElem?_getD, List.getElem?_replicate]
  split <;> rfl
section
variable {m : Meta} {s : UInt8}
theorem encMeta_num (h0 : 0 ≤ m.num) (h1 : m.num < 9223372036854775808) : beN (encMetaS m) 1 8 = m.num := by
  refine beN_is h0 h1 ?_
  intro i hi
  unfold encMetaS
  rw [getD_set _ _ _ _ _ (by rw [set8_len, set8_len]; decide), if_neg (by omega), set8_out _ _ _ (by rw [set8_len]; decide) _ (by omega), set8_in _ _ _ (by decide) _ (by omega) (by omega)]
  congr 2; omega
theorem encMeta_term (h0 : 0 ≤ m.term) (h1 : m.term < 9223372036854775808) : beN (encMetaS m) 9 8 = m.term := by
  refine beN_is h0 h1 ?_
  intro i hi
  unfold encMetaS
  rw [getD_set _ _ _ _ _ (by rw [set8_len, set8_len]; decide), if_neg (by omega), set8_in _ _ _ (by rw [set8_len]; decide) _ (by omega) (by omega)]
  congr 2; omega
theorem encMeta_vote (h0 : -1 ≤ m.vote) (h1 : m.vote < 100) : byt (encMetaS m) 32 - 1 = m.vote := by
  unfold byt encMetaS
  rw [getD_set _ _ _ _ _ (by rw [set8_len, set8_len]; decide), if_pos rfl, lowB_nat]
  omega
theorem decMeta_enc (ok : m.ok = true) (n0 : 0 ≤ m.num) (n1 : m.num < 9223372036854775808) (t0 : 0 ≤ m.term) (t1 : m.term < 9223372036854775808) (v0 : -1 ≤ m.vote) (v1 : m.vote < 100) (hs : s ≠ 0) : decMetaS (stampX (encMetaS m) s) = m := by
  unfold decMetaS
  rw [if_pos (stampX_whole (encMeta_len m) hs), beN_stamp _ _ (encMeta_len m) _ (by omega) (by omega), beN_stamp _ _ (encMeta_len m) _ (by omega) (by omega), byt_stamp _ _ (encMeta_len m) _ (by omega) (by omega), encMeta_num n0 n1, encMeta_term t0 t1, encMeta_vote v0 v1]
  cases m; simp_all
theorem fits_meta (n0 : 0 ≤ m.num) (n1 : m.num < 9223372036854775808) (t0 : 0 ≤ m.term) (t1 : m.term < 9223372036854775808) : Fits (stampX (encMetaS m) s) [1, 9] := by
  intro p hp
  simp only [List.mem_cons, List.not_mem_nil, or_false] at hp
  rcases hp with rfl | rfl
  · rw [beN_stamp _ _ (encMeta_len m) _ (by omega) (by omega), encMeta_num n0 n1]; exact n1
  · rw [beN_stamp _ _ (encMeta_len m) _ (by omega) (by omega), encMeta_term t0 t1]; exact t1
end
section
variable {h : Head} {s : UInt8}
theorem encHead_num (h0 : 0 ≤ h.num) (h1 : h.num < 9223372036854775808) : beN (encHeadS h) 1 8 = h.num := by
  refine beN_is h0 h1 ?_
  intro i hi
  unfold encHeadS
  rw [getD_set _ _ _ _ _ (by rw [List.length_set, set8_len, set8_len, set8_len]; decide), if_neg (by omega), getD_set _ _ _ _ _ (by rw [set8_len, set8_len, set8_len]; decide), if_neg (by omega), set8_out _ _ _ (by rw [set8_len, set8_len]; decide) _ (by omega), set8_out _ _ _ (by rw [set8_len]; decide) _ (by omega), set8_in _ _ _ (by decide) _ (by omega) (by omega)]
  congr 2; omega
theorem encHead_idx (h0 : 0 ≤ h.idx) (h1 : h.idx < 9223372036854775808) : beN (encHeadS h) 9 8 = h.idx := by
  refine beN_is h0 h1 ?_
  intro i hi
  unfold encHeadS
  rw [getD_set _ _ _ _ _ (by rw [List.length_set, set8_len, set8_len, set8_len]; decide), if_neg (by omega), getD_set _ _ _ _ _ (by rw [set8_len, set8_len, set8_len]; decide), if_neg (by omega), set8_out _ _ _ (by rw [set8_len, set8_len]; decide) _ (by omega), set8_in _ _ _ (by rw [set8_len]; decide) _ (by omega) (by omega)]
  congr 2; omega
theorem encHead_term (h0 : 0 ≤ h.term) (h1 : h.term < 9223372036854775808) : beN (encHeadS h) 32 8 = h.term := by
  refine beN_is h0 h1 ?_
  intro i hi
  unfold encHeadS
  rw [getD_set _ _ _ _ _ (by rw [List.length_set, set8_len, set8_len, set8_len]; decide), if_neg (by omega), getD_set _ _ _ _ _ (by rw [set8_len, set8_len, set8_len]; decide), if_neg (by omega), set8_in _ _ _ (by rw [set8_len, set8_len]; decide) _ (by omega) (by omega)]
  congr 2; omega
theorem encHead_area (h0 : 0 ≤ h.area) (h1 : h.area < 2) : byt (encHeadS h) 40 = h.area := by
  unfold byt encHeadS
  rw [getD_set _ _ _ _ _ (by rw [List.length_set, set8_len, set8_len, set8_len]; decide), if_neg (by omega), getD_set _ _ _ _ _ (by rw [set8_len, set8_len, set8_len]; decide), if_pos rfl, lowB_nat]
  omega
theorem encHead_size (h0 : 0 ≤ h.size) (h1 : h.size ≤ 128) : byt (encHeadS h) 41 = h.size := by
  unfold byt encHeadS
  rw [getD_set _ _ _ _ _ (by rw [List.length_set, set8_len, set8_len, set8_len]; decide), if_pos rfl, lowB_nat]
  omega
structure Head.In (h : Head) : Prop where
  n0 : 0 ≤ h.num
  n1 : h.num < 9223372036854775808
  i0 : 0 ≤ h.idx
  i1 : h.idx < 9223372036854775808
  t0 : 0 ≤ h.term
  t1 : h.term < 9223372036854775808
  a0 : 0 ≤ h.area
  a1 : h.area < 2
  s0 : 0 ≤ h.size
  s1 : h.size ≤ 128
theorem decHead_enc (ok : h.ok = true) (hi : h.In) (hs : s ≠ 0) : decHeadS (stampX (encHeadS h) s) = h := by
  unfold decHeadS
  have a0 := hi.a0
  have a1 := hi.a1
  have s1 := hi.s1
  rw [byt_stamp _ _ (encHead_len h) _ (by omega) (by omega), byt_stamp _ _ (encHead_len h) _ (by omega) (by omega), encHead_area hi.a0 hi.a1, encHead_size hi.s0 hi.s1,
    if_pos ⟨stampX_whole (encHead_len h) hs, by omega, by omega⟩, beN_stamp _ _ (encHead_len h) _ (by omega) (by omega), beN_stamp _ _ (encHead_len h) _ (by omega) (by omega), beN_stamp _ _ (encHead_len h) _ (by omega) (by omega), encHead_num hi.n0 hi.n1, encHead_idx hi.i0 hi.i1, encHead_term hi.t0 hi.t1]
  cases h; simp_all
theorem fits_head (hi : h.In) : Fits (stampX (encHeadS h) s) [1, 9, 32] := by
  intro p hp
  simp only [List.mem_cons, List.not_mem_nil, or_false] at hp
  rcases hp with rfl | rfl | rfl
  · rw [beN_stamp _ _ (encHead_len h) _ (by omega) (by omega), encHead_num hi.n0 hi.n1]; exact hi.n1
  · rw [beN_stamp _ _ (encHead_len h) _ (by omega) (by omega), encHead_idx hi.i0 hi.i1]; exact hi.i1
  · rw [beN_stamp _ _ (encHead_len h) _ (by omega) (by omega), encHead_term hi.t0 hi.t1]; exact hi.t1
end
theorem layN_get (l t : Bs) (hl : 35 ≤ l.length) (p : Nat) : ∀ k, k ≤ 24 → (layN l t k).getD p 0 = if 11 ≤ p ∧ p < 11 + k then t.getD (p - 11) 0 else l.getD p 0
  | 0, _ => by rw [if_neg (by omega)]; rfl
  | k + 1, hk => by
    unfold layN
    rw [getD_set _ _ _ _ _ (by rw [layN_len]; omega), layN_get l t hl p k (by omega)]
    by_cases e : p = 11 + k
    · rw [if_pos e, if_pos (by omega), e]; congr 1; omega
    · rw [if_neg e]
      by_cases c : 11 ≤ p ∧ p < 11 + k
      · rw [if_pos c, if_pos (by omega)]
      · rw [if_neg c, if_neg (by omega)]
structure Rec.In (r : Rec) : Prop where
  i0 : 0 ≤ r.idx
  i1 : r.idx < 9223372036854775808
  t0 : 0 ≤ r.term
  t1 : r.term < 9223372036854775808
  d : r.data.length ≤ 24
section
variable {r : Rec} {s : UInt8}
theorem recB_get (p : Nat) (hp : 11 ≤ p) : (recB r).getD p 0 = 0 := by
  unfold recB
  rw [getD_set _ _ _ _ _ (by rw [set8_len, List.length_set]; decide), if_neg (by omega), set8_out _ _ _ (by rw [List.length_set]; decide) _ (by omega), getD_set _ _ _ _ _ (by decide), if_neg (by omega), z64b_get]
theorem encRec_idx (hr : r.In) : beN (encRecS r) 2 8 = r.idx := by
  refine beN_is hr.i0 hr.i1 ?_
  intro i hi
  have h64 := recB_len r
  unfold encRecS
  rw [set8_out _ _ _ (by rw [layN_len, h64]; decide) _ (by omega), layN_get _ _ (by omega) _ _ hr.d, if_neg (by omega)]
  unfold recB
  rw [getD_set _ _ _ _ _ (by rw [set8_len, List.length_set]; decide), if_neg (by omega), set8_in _ _ _ (by rw [List.length_set]; decide) _ (by omega) (by omega)]
  congr 2; omega
theorem encRec_term (hr : r.In) : beN (encRecS r) 35 8 = r.term := by
  refine beN_is hr.t0 hr.t1 ?_
  intro i hi
  have h64 := recB_len r
  unfold encRecS
  rw [set8_in _ _ _ (by rw [layN_len, h64]; decide) _ (by omega) (by omega)]
  congr 2; omega
theorem encRec_kind (hr : r.In) : byt (encRecS r) 1 = 1 := by
  have h64 := recB_len r
  unfold byt encRecS
  rw [set8_out _ _ _ (by rw [layN_len, h64]; decide) _ (by omega), layN_get _ _ (by omega) _ _ hr.d, if_neg (by omega)]
  unfold recB
  rw [getD_set _ _ _ _ _ (by rw [set8_len, List.length_set]; decide), if_neg (by omega), set8_out _ _ _ (by rw [List.length_set]; decide) _ (by omega), getD_set _ _ _ _ _ (by decide), if_pos rfl]
  rfl
theorem encRec_dlen (hr : r.In) : byt (encRecS r) 10 = r.data.length := by
  have h64 := recB_len r
  have := hr.d
  unfold byt encRecS
  rw [set8_out _ _ _ (by rw [layN_len, h64]; decide) _ (by omega), layN_get _ _ (by omega) _ _ hr.d, if_neg (by omega)]
  unfold recB
  rw [getD_set _ _ _ _ _ (by rw [set8_len, List.length_set]; decide), if_pos rfl, lowB_nat]
  omega
theorem encRec_data (hr : r.In) (s : UInt8) : ((stampX (encRecS r) s).drop 11).take r.data.length = r.data := by
  have h64 := recB_len r
  have hd := hr.d
  have hl : (stampX (encRecS r) s).length = 64 := by rw [stampX_len, encRec_len]
  apply List.ext_getElem
  · rw [List.length_take, List.length_drop, hl]; omega
  · intro i h1 h2
    rw [List.getElem_take, List.getElem_drop]
    have e : (stampX (encRecS r) s).getD (11 + i) 0 = r.data.getD i 0 := by
      rw [stampX_get _ _ (encRec_len r), if_neg (by omega)]
      unfold encRecS
      rw [set8_out _ _ _ (by rw [layN_len, h64]; decide) _ (by omega), layN_get _ _ (by omega) _ _ hr.d, if_pos (by omega)]
      congr 1; omega
    rw [List.getD_eq_getElem?_getD, List.getElem?_eq_getElem (by rw [hl]; omega), List.getD_eq_getElem?_getD, List.getElem?_eq_getElem h2] at e
    exact e
theorem decRec_enc (hr : r.In) (hs : s ≠ 0) : decRecS (stampX (encRecS r) s) = some r := by
  unfold decRecS
  have := hr.d
  rw [byt_stamp _ _ (encRec_len r) _ (by omega) (by omega), byt_stamp _ _ (encRec_len r) _ (by omega) (by omega), encRec_kind hr, encRec_dlen hr, if_pos ⟨stampX_whole (encRec_len r) hs, rfl, by omega⟩,
    beN_stamp _ _ (encRec_len r) _ (by omega) (by omega), beN_stamp _ _ (encRec_len r) _ (by omega) (by omega), encRec_idx hr, encRec_term hr, Int.toNat_natCast, encRec_data hr]
theorem fits_rec (hr : r.In) : Fits (stampX (encRecS r) s) [2, 35] := by
  intro p hp
  simp only [List.mem_cons, List.not_mem_nil, or_false] at hp
  rcases hp with rfl | rfl
  · rw [beN_stamp _ _ (encRec_len r) _ (by omega) (by omega), encRec_idx hr]; exact hr.i1
  · rw [beN_stamp _ _ (encRec_len r) _ (by omega) (by omega), encRec_term hr]; exact hr.t1
end
theorem decRec_del (s : UInt8) : decRecS (stampX z64b s) = none := by
  unfold decRecS
  rw [if_neg]
  rintro ⟨_, h, _⟩
  rw [byt_stamp _ _ z64b_len _ (by omega) (by omega)] at h
  unfold byt at h
  rw [z64b_get] at h
  simp at h
theorem beN_zero (q : Nat) : ∀ n, beN z64b q n = 0
  | 0 => rfl
  | n + 1 => by simp only [beN]; rw [beN_zero q n, z64b_get]; rfl
theorem fits_del (s : UInt8) : Fits (stampX z64b s) [2, 35] := by
  intro p hp
  simp only [List.mem_cons, List.not_mem_nil, or_false] at hp
  rcases hp with rfl | rfl
  · rw [beN_stamp _ _ z64b_len _ (by omega) (by omega), beN_zero]; decide
  · rw [beN_stamp _ _ z64b_len _ (by omega) (by omega), beN_zero]; decide
theorem decRec_torn {x : Bs} (h : wholeB x = false) : decRecS x = none := by unfold decRecS; simp [h]
theorem decMeta_torn {x : Bs} (h : wholeB x = false) : decMetaS x = zMeta := by unfold decMetaS; simp [h]
theorem decHead_torn {x : Bs} (h : wholeB x = false) : decHeadS x = zHead := by unfold decHeadS; simp [h]
end Go.Tw
