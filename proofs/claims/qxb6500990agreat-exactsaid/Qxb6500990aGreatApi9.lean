/- package api: DecodeMsg -/
import Derived.Test.Qxb6500990aGreatRowA
set_option linter.unusedVariables false
set_option linter.unusedSimpArgs false
namespace Go.Tw
open Go Go.Proofs Go.Proofs.Qxb6500990aGreat
def byt (l : Bs) (k : Nat) : Int := ((l.getD k 0).toNat : Int)
/-- an entry at p, that ends at or ahead of e -/
def entD (l : Bs) (e p : Nat) : Option (Entry × Nat) :=
  if e < p + 9 then none else if e < p + 9 + (l.getD (p + 8) 0).toNat then none else some (⟨getU64 l p, (l.drop (p + 9)).take (l.getD (p + 8) 0).toNat⟩, p + 9 + (l.getD (p + 8) 0).toNat)
def entsD (l : Bs) (e : Nat) : Nat → Option (List Entry × Nat)
  | 0 => some ([], 37)
  | k + 1 => (entsD l e k).bind fun s => (entD l e s.2).bind fun t => some (s.1 ++ [t.1], t.2)
def headD (l : Bs) : Msg := ⟨byt l 0, byt l 1, byt l 2, getU64 l 4, getU64 l 12, getU64 l 20, getU64 l 28, decide (byt l 3 = 1), [], []⟩
def decM (l : Bs) (es : List Entry) (p : Nat) : Msg := { headD l with ents := es, data := (l.drop (p + 1)).take (l.length - 2 - (p + 1)) }
def decE (l : Bs) (s : List Entry × Nat) : Option Msg :=
    if l.length - 2 ≤ s.2 then none else
    if s.2 + 1 + (l.getD s.2 0).toNat ≠ l.length - 2 then none else
    if msgOK (decM l s.1 s.2) = true then some (decM l s.1 s.2) else none
def decB (l : Bs) : Option Msg :=
  if 1 < byt l 3 then none else
  if 2 < byt l 36 then none else
  (entsD l (l.length - 2) (l.getD 36 0).toNat).bind (decE l)
def decMsg (l : Bs) : Option Msg :=
  if l.length < 40 ∨ 234 < l.length then none else
  if sumF (bi (l.take (l.length - 2))) ≠ byt l (l.length - 2) * 256 + byt l (l.length - 1) then none else decB l
def zMsg : Msg := ⟨0, 0, 0, 0, 0, 0, 0, false, [], []⟩
def DecRes (W : World) (l : Bs) (r : Ending) (w' : World) : Prop := Mod [] W w' ∧ match decMsg l with
  | none => r = .returned (.tuple #[.agg (zMsg.r (.slice none 0 0)).cells, vi 12])
  | some m => ∃ v, r = .returned (.tuple #[.agg (m.r v).cells, vi 0]) ∧ EntsAt W.heap.size w' v m.ents
theorem DecRes.none {W : World} {l : Bs} {w' : World} (h : decMsg l = none) (m : Mod [] W w') : DecRes W l (.returned (.tuple #[.agg (zMsg.r (.slice none 0 0)).cells, vi 12])) w' := by
  refine ⟨m, ?_⟩; rw [h]
theorem entsD_len {l : Bs} {e : Nat} (he : 37 ≤ e) : ∀ (k : Nat) (es : List Entry) (q : Nat), entsD l e k = some (es, q) → es.length = k ∧ q ≤ e
  | 0, es, q, h => by simp [entsD] at h; obtain ⟨rfl, rfl⟩ := h; exact ⟨rfl, he⟩
  | k + 1, es, q, h => by
    simp only [entsD] at h
    cases h1 : entsD l e k with
    | none => rw [h1] at h; cases h
    | some s =>
      obtain ⟨es1, q1⟩ := s
      obtain ⟨g1, g2⟩ := entsD_len he k es1 q1 h1
      rw [h1] at h
      simp only [Option.bind_some, entD] at h
      generalize (l.getD (q1 + 8) 0).toNat = z at h
      split at h
      · cases h
      · split at h
        · cases h
        · simp at h
          obtain ⟨rfl, rfl⟩ := h
          exact ⟨by simp [g1], by omega⟩
theorem entsD_none {l : Bs} {e : Nat} : ∀ (k n : Nat), k ≤ n → entsD l e k = none → entsD l e n = none
  | k, 0, h, hk => by have : k = 0 := by omega
                      subst this; exact hk
  | k, n + 1, h, hk => by
    by_cases e' : k = n + 1
    · subst e'; exact hk
    · unfold entsD; rw [entsD_none k n (by omega) hk]; rfl
theorem entsC_snoc (es : List Entry) (e : Entry) : entsC (es ++ [e]) = entsC es ++ [vi e.term, vs e.data] := by simp [entsC]
end Go.Tw
namespace Go.Proofs.Qxb6500990aGreat
open Go Go.RowKit Go.Tw
attribute [local go_sem] World.cell?_put_same World.cell?_put_ne World.cell?_put_ne' World.frozen?_put_same World.frozen?_put_ne World.frozen?_put_ne' World.setCell_put_same World.setCell_put_ne World.setCell_put_ne' World.inB_put World.inB_alloc World.inB_drew World.inB_drewN World.inB_new World.inB_setCell World.put_drew World.put_drewN World.q_setCell_drew World.q_setCell_drewN World.q_alloc_drew World.q_alloc_drewN World.put_put_same World.put_put_2 World.size_put World.q_cell?_alloc_old World.q_frozen?_alloc_old World.cell?_alloc_new' World.frozen?_alloc_new' World.q_setCell_alloc_old World.q_setCell_alloc_new World.q_put_alloc_old World.cell?_force_same World.frozen?_force_same World.cell?_force2_fst World.cell?_force2_snd MsgR.g0 MsgR.s0 MsgR.g1 MsgR.s1 MsgR.g2 MsgR.s2 MsgR.g3 MsgR.s3 MsgR.g4 MsgR.s4 MsgR.g5 MsgR.s5 MsgR.g6 MsgR.s6 MsgR.g7 MsgR.s7 MsgR.g8 MsgR.s8 MsgR.g9 MsgR.s9
attribute [local go_sem] ba_get w64_byte ByteArray.extract_mk cv127
set_option maxHeartbeats 3000000
set_option maxRecDepth 100000
theorem c204c {W : World} {ad : Option Addr} {cap : Nat} {l : List Int} (hc : ∀ k (h : k < l.length), ∃ g, ad = some ⟨g, 0, none⟩ ∧ W.cell? ⟨g, k, none⟩ = some (.int .u8 l[k])) (hl : l.length ≤ 1000) (hr : ∀ x ∈ l, 0 ≤ x ∧ x < 256) :
    Calls Tryz.prog 204 #[.slice ad l.length cap] W fun r w' => r = .returned (vi (sumF l)) ∧ w' = W := by
  go_enter Tryz.func204, Tryz.ntmps204
  go_wp2_with fail
  go_loop [3, 4] (fun s i => ∃ k : Nat, k ≤ l.length ∧ i = vi k ∧ s = vi (sumF (l.take k))) (fun _ i => l.length - (intOf i).toNat)
  case atStart => exact ⟨0, Nat.zero_le _, rfl, rfl⟩
  case round =>
    obtain ⟨k, hk, rfl, rfl⟩ := hrel
    obtain ⟨s0, s1⟩ := sumF_bd (l.take k)
    by_cases hlt : k < l.length
    · obtain ⟨g, rfl, hcell⟩ := hc k hlt
      clear hc
      obtain ⟨x0, x1⟩ := hr l[k] (List.getElem_mem hlt)
      have hsn : Hid (sumF (l.take (k + 1)) = (sumF (l.take k) * 31 + l[k] + 1) % 65536) := by unfold Hid; rw [List.take_succ_eq_append_getElem hlt, sumF_snoc]
      have ha : Hid (bits .and .i64 (sumF (l.take k) * 31 + l[k] + 1) 65535 = (sumF (l.take k) * 31 + l[k] + 1) % 65536) := and_ffff _ (by omega) (by omega)
      go_wp2_with fail
      go_round
      case rel => exact ⟨k + 1, by omega, by go_num, congrArg (Value.int .i64) (ha.out.trans hsn.out.symm)⟩
      case measure => simp [intOf]; omega
    · go_wp2
      go_ret
      exact ⟨ret_int (by rw [List.take_of_length_le (by omega)]), rfl⟩
/-- Sum16([]byte(s)) -/
theorem c204s (W : World) (l : Bs) (hl : l.length ≤ 1000) :
    Calls Tryz.prog 204 #[.slice (some ⟨W.heap.size, 0, none⟩) l.length (grownCap W l.length 0 5)] (Lib.bytesWorld W 5 (ByteArray.mk l.toArray)) fun r w' => r = .returned (vi (sumF (bi l))) ∧ w' = Lib.bytesWorld W 5 (ByteArray.mk l.toArray) := by
  have := c204c (W := Lib.bytesWorld W 5 (ByteArray.mk l.toArray)) (ad := some ⟨W.heap.size, 0, none⟩) (cap := grownCap W l.length 0 5) (l := bi l) (fun k h => ⟨_, rfl, by
    rw [bi_length] at h
    rw [Lib.bytesWorld_cell _ _ _ _ h]
    simp [bi, h]⟩) (by rw [bi_length]; exact hl) (bi_range l)
  rwa [bi_length] at this
theorem or_byte2 (a b : Int) (a0 : 0 ≤ a) (a1 : a < 256) (b0 : 0 ≤ b) (b1 : b < 256) : bits .or .i64 (a * 256) b = a * 256 + b := by
  obtain ⟨x, rfl⟩ := Int.eq_ofNat_of_zero_le a0
  obtain ⟨y, rfl⟩ := Int.eq_ofNat_of_zero_le b0
  have hx : x < 256 := by omega
  have hy : y < 256 := by omega
  have e : (BitVec.ofInt 64 ((x : Int) * 256) ||| BitVec.ofInt 64 (y : Int)).toNat = x * 256 + y := by
    rw [BitVec.toNat_or]
    have e1 : (BitVec.ofInt 64 ((x : Int) * 256)).toNat = x * 256 := by simp [BitVec.toNat_ofInt]; omega
    have e2 : (BitVec.ofInt 64 (y : Int)).toNat = y := by simp [BitVec.toNat_ofInt]; omega
    rw [e1, e2]
    have := Nat.two_pow_add_eq_or_of_lt (i := 8) (b := y) hy x
    rw [Nat.mul_comm, show (2 : Nat) ^ 8 = 256 from rfl] at this
    omega
  show IntKind.i64.wrap ((BitVec.ofInt 64 ((x : Int) * 256) ||| BitVec.ofInt 64 (y : Int)).toNat : Int) = _
  rw [e, IntKind.wrap_i64]
  omega
theorem c138 (W : World) (l : Bs) : Calls Tryz.prog 138 #[vs l] W fun r w' => DecRes W l r w' := by
  by_cases h0 : l.length < 40
  · have hk : Hid (decMsg l = none) := by unfold Hid decMsg; rw [if_pos (.inl h0)]
    have h0' : (l.length : Int) < 40 := by omega
    go_enter Tryz.func138, Tryz.ntmps138
    go_wp2_with fail
    refine bodyPost_ret (v := .tuple #[.agg (zMsg.r (.slice none 0 0)).cells, vi 12]) (by simp [results, Tryz.results138, go_sem, zMsg, Msg.r, MsgR.cells]) rfl (DecRes.none hk.out (by repeat (first | exact Mod.refl _ _ | apply Mod.alloc | apply Mod.drew | apply Mod.drewN)))
  by_cases h1 : 234 < l.length
  · have hk : Hid (decMsg l = none) := by unfold Hid decMsg; rw [if_pos (.inr h1)]
    have h0' : (234 : Int) < l.length := by omega
    have h0'' : ¬ (l.length : Int) < 40 := by omega
    go_enter Tryz.func138, Tryz.ntmps138
    go_wp2_with fail
    refine bodyPost_ret (v := .tuple #[.agg (zMsg.r (.slice none 0 0)).cells, vi 12]) (by simp [results, Tryz.results138, go_sem, zMsg, Msg.r, MsgR.cells]) rfl (DecRes.none hk.out (by repeat (first | exact Mod.refl _ _ | apply Mod.alloc | apply Mod.drew | apply Mod.drewN)))
  have l0 : (40 : Int) ≤ l.length := by omega
  have l1 : (l.length : Int) ≤ 234 := by omega
  have hk0 : Hid (decMsg l = if sumF (bi (l.take (l.length - 2))) ≠ byt l (l.length - 2) * 256 + byt l (l.length - 1) then none else decB l) := by unfold Hid decMsg; rw [if_neg (by omega)]
  clear h0 h1
  obtain ⟨n, hn⟩ : ∃ n, l.length = n + 2 := ⟨l.length - 2, by omega⟩
  obtain ⟨n1, hn1⟩ : ∃ n1, n1 = n + 1 := ⟨_, rfl⟩
  have hx1 : n < l.length := by omega
  have hx2 : n1 < l.length := by omega
  have hcv : ∀ w, (convert 9 127 (.string (ByteArray.mk (l.take n).toArray))).run Tryz.prog w = .ok (.slice (some ⟨w.heap.size, 0, none⟩) n (grownCap w n 0 5)) (Lib.bytesWorld w 5 (ByteArray.mk (l.take n).toArray)) := fun w => by
    have := cv127 w (l.take n); rwa [show (l.take n).length = n by simp [hn]] at this
  have hcall : ∀ (w : World) (s : Nat), w.heap.size = s → Calls Tryz.prog 204 #[.slice (some ⟨s, 0, none⟩) n (grownCap w n 0 5)] (Lib.bytesWorld w 5 (ByteArray.mk (l.take n).toArray)) fun r w' => r = .returned (vi (sumF (bi (l.take n)))) ∧ w' = Lib.bytesWorld w 5 (ByteArray.mk (l.take n).toArray) := fun w s hs => by
    subst hs
    have := c204s w (l.take n) (by simp; omega); rwa [show (l.take n).length = n by simp [hn]] at this
  have hs2 : (l.length : Int) - 2 = n := by omega
  have hs1 : (l.length : Int) - 1 = n1 := by omega
  have j1 : (n : Int) < l.length := by omega
  have j2 : (n1 : Int) < l.length := by omega
  have j3 : (n : Int) ≤ l.length := by omega
  have b1 := byte_lt l[n]
  have b2 := byte_lt l[n1]
  have Hk1 : Hid (decMsg l = if sumF (bi (l.take n)) ≠ (l[n].toNat : Int) * 256 + (l[n1].toNat : Int) then none else decB l) := by
    unfold Hid; rw [hk0.out]; simp only [hn, byt]; subst hn1; simp [hx1, hx2]
  have Hor : Hid (bits .or .i64 ((l[n].toNat : Int) * 256) (l[n1].toNat : Int) = (l[n].toNat : Int) * 256 + (l[n1].toNat : Int)) := by
    exact or_byte2 _ _ (by omega) (by omega) (by omega) (by omega)
  have Hn := hidIt hn
  have Hn1 := hidIt hn1
  have Hcall := hidIt hcall
  clear hn hn1 hk0 hcall
  go_enter Tryz.func138, Tryz.ntmps138
  go_wp2_with fail
  refine Ord.region1 [7, 8, 9, 10, 11, 12, 13, 14, 15, 16, 17, 18, 19, 20] [0, 1, 2, 3, 4] [5, 6, 21] (by kernel_rfl) (by kernel_rfl) (fun _ _ d _ _ h => by cases d <;> exact h) ?_
  simp only [Ord.pickO, Ord.nth]
  repeat (go_big_quiet_step (fail))
  refine wpQuiet_nil ?_
  repeat (go_big_quiet_step (fail))
  refine wpQuiet_nil ?_
  go_wp2_with fail
  refine (Hcall.out _ _ (by simp)).mono ?_
  rintro _ u ⟨rfl, hu⟩
  have hU : Mod [] ((W.alloc (.cells (MsgR.cells ⟨0, 0, 0, 0, 0, 0, 0, false, .slice none 0 0, []⟩) 159)).alloc (.cells (MsgR.cells ⟨0, 0, 0, 0, 0, 0, 0, false, .slice none 0 0, []⟩) 159)).drew u := by rw [hu]; exact bytesWorld_mod _ _ _
  clear hu Hcall
  obtain ⟨x, rfl, ib2, ib4⟩ := open2 (hU.at (World.At_drew.2 (World.At.alloc (at_new rfl) _)) (by simp)) (hU.at (World.At_drew.2 (at_new (by simp))) (by simp)) (by omega : W.heap.size ≠ W.heap.size + 1)
  have hm : Mod [] W x := by
    have h1 : Mod [] W _ := ((((Mod.refl [] W).alloc _).alloc _).drew).trans hU
    have h2 : ModP (fun _ => False) W _ := h1.toP0
    exact (ModP.ofPut0 (ModP.ofPut0 h2 (by omega)) (by omega)).toMod
  clear hU
  have Hm := hidIt hm
  have nb : W.heap.size ≠ W.heap.size + 1 := by omega
  clear hm hcv
  rw [Hor.out]
  clear Hor
  by_cases e1 : sumF (bi (l.take n)) ≠ (l[n].toNat : Int) * 256 + (l[n1].toNat : Int)
  · have hk : Hid (decMsg l = none) := by unfold Hid; rw [Hk1.out, if_pos e1]
    go_wp2_with fail
    refine bodyPost_ret (v := .tuple #[.agg (zMsg.r (.slice none 0 0)).cells, vi 12]) (by simp [results, Tryz.results138, go_sem, zMsg, Msg.r, MsgR.cells, World.cell?_put_same ib2, World.cell?_put_ne (Ne.symm nb)]) rfl (DecRes.none (by rw [hk.out]) ?_)
    exact (Hm.out.toP0.put (.inr (Nat.le_refl _)) _ _ |>.put (.inr (by omega)) _ _).toMod
  have hk2 : Hid (decMsg l = decB l) := by unfold Hid; rw [Hk1.out, if_neg e1]
  have he1 : sumF (bi (l.take n)) = (l[n].toNat : Int) * 256 + (l[n1].toNat : Int) := by omega
  clear Hk1 e1
  have z0 : (0 : Int) < l.length := by omega
  have z1 : (1 : Int) < l.length := by omega
  have z2 : (2 : Int) < l.length := by omega
  have z3 : (3 : Int) < l.length := by omega
  have z36 : (36 : Int) < l.length := by omega
  have y0 : 0 < l.length := by omega
  have y1 : 1 < l.length := by omega
  have y2 : 2 < l.length := by omega
  have y3 : 3 < l.length := by omega
  have y36 : 36 < l.length := by omega
  have v3 : byt l 3 = (l[3].toNat : Int) := by simp [byt, y3]
  have v36 : byt l 36 = (l[36].toNat : Int) := by simp [byt, y36]
  have v36' : (l.getD 36 0).toNat = l[36].toNat := by simp [y36]
  have HB : Hid (decB l = if (1 : Int) < (l[3].toNat : Int) then none else if (2 : Int) < (l[36].toNat : Int) then none else (entsD l n l[36].toNat).bind (decE l)) := by
    unfold Hid decB; rw [show l.length - 2 = n by have := Hn.out; omega, v36']; simp only [v3, v36]
  have v0 : byt l 0 = (l[0].toNat : Int) := by simp [byt, y0]
  have v1 : byt l 1 = (l[1].toNat : Int) := by simp [byt, y1]
  have v2 : byt l 2 = (l[2].toNat : Int) := by simp [byt, y2]
  have HH : Hid (headD l = ⟨l[0].toNat, l[1].toNat, l[2].toNat, getU64 l 4, getU64 l 12, getU64 l 20, getU64 l 28, decide ((l[3].toNat : Int) = 1), [], []⟩) := by
    unfold Hid headD; rw [v0, v1, v2, v3]
  clear v0 v1 v2 v3 v36 v36'
  have b36 := byte_lt l[36]
  have hl1 : l.length ≤ 1000 := by omega
  by_cases e3 : (1 : Int) < (l[3].toNat : Int)
  · have hk : Hid (decMsg l = none) := by unfold Hid; rw [hk2.out, HB.out, if_pos e3]
    go_wp2_with fail
    refine bodyPost_ret (v := .tuple #[.agg (zMsg.r (.slice none 0 0)).cells, vi 12]) (by simp [results, Tryz.results138, go_sem, zMsg, Msg.r, MsgR.cells, World.cell?_put_same ib2, World.cell?_put_ne (Ne.symm nb)]) rfl (DecRes.none (by rw [hk.out]) ?_)
    exact (Hm.out.toP0.put (.inr (Nat.le_refl _)) _ _ |>.put (.inr (by omega)) _ _).toMod
  by_cases e36 : (2 : Int) < (l[36].toNat : Int)
  · have hk : Hid (decMsg l = none) := by unfold Hid; rw [hk2.out, HB.out, if_neg e3, if_pos e36]
    go_wp2_with fail
    refine Ord.region1 [3, 4, 5, 6, 7, 8, 9, 10, 11] [0, 1, 2, 12] [13, 14, 15, 16, 17, 18, 19] (by kernel_rfl) (by kernel_rfl) (fun _ _ d _ _ h => by cases d <;> exact h) ?_
    simp only [Ord.pickO, Ord.nth]
    repeat (go_big_quiet_step (fail))
    refine wpQuiet_nil ?_
    repeat (go_big_quiet_step (fail))
    refine wpQuiet_nil ?_
    go_wp2_with (go_at_call 184; refine (c184 _ _ hl1 _ (by decide) (by decide)).mono ?_; rintro _ _ ⟨rfl, rfl⟩)
    refine bodyPost_ret (v := .tuple #[.agg (zMsg.r (.slice none 0 0)).cells, vi 12]) (by simp [results, Tryz.results138, go_sem, zMsg, Msg.r, MsgR.cells, World.cell?_put_same ib2, World.cell?_put_ne (Ne.symm nb)]) rfl (DecRes.none (by rw [hk.out]) ?_)
    exact (Hm.out.toP0.put (.inr (Nat.le_refl _)) _ _ |>.put (.inr (by omega)) _ _).drew.toMod
  have hk3 : Hid (decMsg l = (entsD l n l[36].toNat).bind (decE l)) := by unfold Hid; rw [hk2.out, HB.out, if_neg e3, if_neg e36]
  clear HB hk2
  go_wp2_with fail
  refine Ord.region1 [3, 4, 5, 6, 7, 8, 9, 10, 11] [0, 1, 2, 12] [13, 14, 15, 16, 17, 18, 19] (by kernel_rfl) (by kernel_rfl) (fun _ _ d _ _ h => by cases d <;> exact h) ?_
  simp only [Ord.pickO, Ord.nth]
  repeat (go_big_quiet_step (fail))
  refine wpQuiet_nil ?_
  repeat (go_big_quiet_step (fail))
  refine wpQuiet_nil ?_
  go_wp2_with (go_at_call 184; refine (c184 _ _ hl1 _ (by decide) (by decide)).mono ?_; rintro _ _ ⟨rfl, rfl⟩)
  have hM0 : ModP (fun _ => False) W ((x.put W.heap.size (MsgR.cells ⟨0, 0, 0, 0, 0, 0, 0, false, .slice none 0 0, []⟩) 159).put (W.heap.size + 1) (MsgR.cells ⟨l[0].toNat, l[1].toNat, l[2].toNat, getU64 l 4, getU64 l 12, getU64 l 20, getU64 l 28, (l[3].toNat : Int) == 1, .slice none 0 0, []⟩) 159).drew := (Hm.out.toP0.put (.inr (Nat.le_refl _)) _ _ |>.put (.inr (by omega)) _ _).drew
  have HM0 := hidIt hM0
  have hbd : ∀ k, 0 ≤ (l.getD k 0).toNat := fun k => Nat.zero_le _
  have Hlen := hidIt (entsD_len (l := l) (e := n) (by have := Hn.out; omega))
  clear hM0 Hm he1 b1 b2 hbd
  generalize hq0 : ((l[0].toNat : Nat) : Int) = q0 at *
  generalize hq1 : ((l[1].toNat : Nat) : Int) = q1 at *
  generalize hq2 : ((l[2].toNat : Nat) : Int) = q2 at *
  generalize hq3 : ((l[3].toNat : Nat) : Int) = q3 at *
  generalize getU64 l 4 = q4 at *
  generalize getU64 l 12 = q5 at *
  generalize getU64 l 20 = q6 at *
  generalize getU64 l 28 = q7 at *
  clear hq0 hq1 hq2 hq3
  go_loopw [7, 8] (fun p i u => ∃ (k q : Nat) (es : List Entry) (v : Value), k ≤ l[36].toNat ∧ i = vi k ∧ p = vi q ∧ Hid (entsD l n k = some (es, q)) ∧ Hid (u.At W.heap.size (MsgR.cells ⟨0, 0, 0, 0, 0, 0, 0, false, .slice none 0 0, []⟩) 159) ∧ Hid (u.At (W.heap.size + 1) (MsgR.cells ⟨q0, q1, q2, q4, q5, q6, q7, q3 == 1, v, []⟩) 159) ∧ Hid (EntsAt (W.heap.size + 2) u v es) ∧ Hid (ModP (fun _ => False) W u)) (fun _ i _ => l[36].toNat - (intOf i).toNat)
  case atStart => exact ⟨0, 37, [], _, Nat.zero_le _, rfl, rfl, rfl, (show World.At _ _ _ _ from (by repeat (first | assumption | exact World.At_alloc_new | exact at_new (by first | rfl | (simp [World.size_put]; done) | (simp [World.size_put]; omega)) | refine World.At.alloc ?_ _ | refine World.At_drew.2 ?_ | refine (World.At_drewN _).2 ?_ | exact World.At_put_same (by first | assumption | (simp only [World.inB, World.size_put, World.alloc, World.drew, World.drewN, Array.size_push] at *; omega)) | refine (World.At_put_ne' (by first | assumption | (exact Ne.symm (by assumption)) | (simp only [World.inB, World.size_put] at *; omega))).2 ?_))), (show World.At _ _ _ _ from (by repeat (first | assumption | exact World.At_alloc_new | exact at_new (by first | rfl | (simp [World.size_put]; done) | (simp [World.size_put]; omega)) | refine World.At.alloc ?_ _ | refine World.At_drew.2 ?_ | refine (World.At_drewN _).2 ?_ | exact World.At_put_same (by first | assumption | (simp only [World.inB, World.size_put, World.alloc, World.drew, World.drewN, Array.size_push] at *; omega)) | refine (World.At_put_ne' (by first | assumption | (exact Ne.symm (by assumption)) | (simp only [World.inB, World.size_put] at *; omega))).2 ?_))), ownsRow_nil _ _ _ _, HM0.out⟩
  case round =>
    obtain ⟨k, q, es, v, hk, rfl, rfl, h1, h2, h3, h4, h5⟩ := hrel
    obtain ⟨g1, g2⟩ := Hlen.out k es q h1.out
    have hes : es.length ≤ 2 := by omega
    clear g1
    clear HM0 ib2 ib4
    obtain ⟨y, hy, ib5, ib6⟩ := open2 h2.out h3.out nb
    subst hy
    have hu0 : ModP (fun _ => False) W y := ModP.ofPut0 (ModP.ofPut0 h5.out (by omega)) (Nat.le_refl _)
    have HU := hidIt hu0
    have ho4 : EntsAt (W.heap.size + 2) y v es := ownsRow_unput (ownsRow_unput h4.out (fun g hg => by have := (ownsRow_block h4.out hg).2; omega)) (fun g hg => by have := (ownsRow_block h4.out hg).2; omega)
    have HO := hidIt ho4
    clear h2 h3 h4 h5 hu0 ho4 x
    have mfin : ∀ c c', Mod [] W ((y.put W.heap.size c 159).put (W.heap.size + 1) c' 159) := fun c c' => (HU.out.put (.inr (Nat.le_refl _)) _ _ |>.put (.inr (by omega)) _ _).toMod
    have g2' : (q : Int) ≤ n := by omega
    have n232 : (n : Int) ≤ 232 := by omega
    by_cases hlt : k < l[36].toNat
    · have hlt' : (k : Int) < (l[36].toNat : Int) := by omega
      have hnx : entsD l n (k + 1) = (entD l n q).bind fun t => some (es ++ [t.1], t.2) := by rw [entsD, h1.out]; rfl
      by_cases e1 : n < q + 9
      · have hk : Hid (decMsg l = none) := by
          unfold Hid; rw [hk3.out, entsD_none (k + 1) _ hlt (by rw [hnx]; simp [entD, e1])]; rfl
        have e1' : (n : Int) < (q : Int) + 9 := by omega
        clear hnx e1
        go_wp2_with fail
        refine bodyPost_ret (v := .tuple #[.agg (zMsg.r (.slice none 0 0)).cells, vi 12]) (by simp [results, Tryz.results138, go_sem, zMsg, Msg.r, MsgR.cells, World.cell?_put_same ib5, World.cell?_put_ne (Ne.symm nb)]) rfl (DecRes.none (by rw [hk.out]) ?_)
        exact mfin _ _
      · obtain ⟨q8, hq⟩ : ∃ q8, q8 = q + 8 := ⟨_, rfl⟩
        have hq8 : q8 < l.length := by omega
        have hq8' : (q8 : Int) < l.length := by omega
        have s8 : (q : Int) + 8 = q8 := by omega
        have b8 := byte_lt l[q8]
        have v8 : (l.getD (q + 8) 0).toNat = l[q8].toNat := by simp [← hq, hq8]
        have e1' : (q : Int) + 9 ≤ n := by omega
        have Hq := hidIt hq
        clear hq
        by_cases e2 : n < q + 9 + l[q8].toNat
        · have hk : Hid (decMsg l = none) := by
            unfold Hid; rw [hk3.out, entsD_none (k + 1) _ hlt (by rw [hnx]; simp only [entD]; rw [if_neg e1, v8, if_pos e2]; rfl)]; rfl
          have e2' : (n : Int) < (q : Int) + 9 + (l[q8].toNat : Int) := by omega
          clear hnx e1 e2 v8
          go_wp2_with fail
          refine Ord.region1 [] [0, 1, 2, 3, 4, 5, 6, 7, 8] [9] (by kernel_rfl) (by kernel_rfl) (fun _ _ d _ _ h => by cases d <;> exact h) ?_
          simp only [Ord.pickO, Ord.nth]
          refine wpQuiet_nil ?_
          repeat (first | go_big_quiet_step (fail) | (go_big_quiet_want; go_big_quiet_op; refine Exists.intro _ ⟨by first | (go_at_call 184; exact c184 _ _ hl1 _ (by omega) (by omega)), ?_⟩; go_big_quiet_on))
          refine wpQuiet_nil ?_
          go_wp2_with fail
          refine bodyPost_ret (v := .tuple #[.agg (zMsg.r (.slice none 0 0)).cells, vi 12]) (by simp [results, Tryz.results138, go_sem, zMsg, Msg.r, MsgR.cells, World.cell?_put_same ib5, World.cell?_put_ne (Ne.symm nb)]) rfl (DecRes.none (by rw [hk.out]) ?_)
          exact (mfin _ _).drew
        · have hst : entsD l n (k + 1) = some (es ++ [⟨getU64 l q, (l.drop (q + 9)).take l[q8].toNat⟩], q + 9 + l[q8].toNat) := by
            rw [hnx]; simp only [entD]; rw [if_neg e1, v8, if_neg e2]; rfl
          have Hst := hidIt hst
          have e2' : (q : Int) + 9 + (l[q8].toNat : Int) ≤ n := by omega
          clear hnx e1 e2 v8 hst mfin
          go_wp2_with fail
          refine Ord.region1 [] [0, 1, 2, 3, 4, 5, 6, 7, 8] [9] (by kernel_rfl) (by kernel_rfl) (fun _ _ d _ _ h => by cases d <;> exact h) ?_
          simp only [Ord.pickO, Ord.nth]
          refine wpQuiet_nil ?_
          repeat (first | go_big_quiet_step (fail) | (go_big_quiet_want; go_big_quiet_op; refine Exists.intro _ ⟨by first | (go_at_call 184; exact c184 _ _ hl1 _ (by omega) (by omega)), ?_⟩; go_big_quiet_on))
          refine wpQuiet_nil ?_
          go_wp2_with fail
          generalize getU64 l q = tm at *
          refine Ord.region2 (fun w' => ∃ u : World, w' = u.force (W.heap.size + 1) (MsgR.cells ⟨q0, q1, q2, q4, q5, q6, q7, q3 == 1, v, []⟩) 159) [0, 1] [2, 3, 4, 5, 6, 7, 8, 9, 10, 11] [[(12, true), (13, false), (14, false), (15, false)]] (by kernel_rfl) (by kernel_rfl) (fun _ _ d _ _ h => by cases d <;> exact h) ?ca25_1 ?_
          rotate_left
          simp only [Ord.pickO, Ord.nth]
          repeat (go_big_quiet_step (fail))
          refine wpQuiet_nil ?_
          repeat (go_big_quiet_step (fail))
          refine wpQuiet_nil ?_
          intro T hT
          simp only [List.mem_cons, List.not_mem_nil, or_false] at hT
          subst hT
          rotate_left
          · exact ca_of (World.At_drew.2 (World.At_put_same (World.inB_put.2 ib6)))
          refine Ord.wpT_loose rfl ?_
          intro K hK
          dsimp only [Ord.nth]
          go_wp2_with fail
          refine hK _ _ (ca_of (World.At_drew.2 ((World.At_put_same (World.inB_put.2 ib6)).alloc _))) ?_
          clear hK K
          refine Ord.wpT_next rfl ?_
          intro K hK
          dsimp only [Ord.nth]
          refine op_app rk157 (v := v) (n := es.length) (xs := entsC es) (B := W.heap.size + 2) _ _ rfl [vi tm, vs ((l.drop (q + 9)).take l[q8].toNat)] rfl rfl (World.At_drew.2 (at_new (by first | rfl | simp [World.size_put]))) rfl (by simp [Value.oneCell']) (ownsRow_drew (ownsRow_alloc (ownsRow_put (ownsRow_put HO.out (fun g hg => by have := (ownsRow_block HO.out hg).2; omega)) (fun g hg => by have := (ownsRow_block HO.out hg).2; omega)) _)) (by have : W.heap.size + 1 < y.heap.size := ib6; simp [World.size_put]; omega) (by unfold maxLen; omega) (by omega) ?_
          intro g' cap y1 o1 m1 oc1 ol1
          refine hK _ _ ?_
          clear hK K
          have nv : ∀ b, b < W.heap.size + 2 → b ∉ v.ownBlock.toList := fun b hb hm => by have := (ownsRow_block HO.out (Option.mem_toList.1 hm)).2; omega
          have a2 := m1.at (World.At_drew.2 (World.At.alloc ((World.At_put_ne' nb).2 (World.At_put_same ib5)) _)) (nv _ (by omega))
          have a4 := m1.at (World.At_drew.2 (World.At.alloc (World.At_put_same (World.inB_put.2 ib6)) _)) (nv _ (by omega))
          have M1 : ModP (fun _ => False) W y1 := ((HU.out.put (b := W.heap.size) (.inr (Nat.le_refl _)) _ _ |>.put (b := W.heap.size + 1) (.inr (by omega)) _ _).alloc _).drew.drew.step (m1.toP (F := fun k => W.heap.size + 2 ≤ k) (fun g hg => (ownsRow_block HO.out (Option.mem_toList.1 hg)).2)) (fun k hk => .inr (by omega))
          have O1 := hidIt o1
          clear o1 m1 oc1 nv
          obtain ⟨z, hz, ib7, ib8⟩ := open2 a2 a4 nb
          subst hz
          clear a2 a4
          have HM1 := hidIt (ModP.ofPut0 (ModP.ofPut0 M1 (by omega)) (Nat.le_refl _))
          have hgB : W.heap.size + 2 ≤ g' := (ownsRow_block O1.out rfl).2
          have HO1 := hidIt (ownsRow_unput (ownsRow_unput O1.out (fun g hg => by have := (ownsRow_block O1.out hg).2; omega)) (fun g hg => by have := (ownsRow_block O1.out hg).2; omega))
          clear O1 M1
          simp only [Act.put, List.setIfInBounds_toArray, List.set_cons_succ, List.set_cons_zero]
          refine Ord.wpT_next rfl ?_
          intro K hK
          dsimp only [Ord.nth]
          go_wp2_with fail
          refine Ord.wpT_next rfl ?_
          intro K hK
          dsimp only [Ord.nth]
          go_wp2_with fail
          refine Ord.wpT_nil ?_
          go_wp2_with fail
          go_roundw
          case rel =>
            refine ⟨k + 1, q + 9 + l[q8].toNat, _, .slice (some ⟨g', 0, none⟩) (es.length + 1) cap, by omega, by go_num, by go_num, Hst.out, (show World.At _ _ _ _ from (by repeat (first | assumption | exact World.At_alloc_new | exact at_new (by first | rfl | (simp [World.size_put]; done) | (simp [World.size_put]; omega)) | refine World.At.alloc ?_ _ | refine World.At_drew.2 ?_ | refine (World.At_drewN _).2 ?_ | exact World.At_put_same (by first | assumption | (simp only [World.inB, World.size_put, World.alloc, World.drew, World.drewN, Array.size_push] at *; omega)) | refine (World.At_put_ne' (by first | assumption | (exact Ne.symm (by assumption)) | (simp only [World.inB, World.size_put] at *; omega))).2 ?_))), (show World.At _ _ _ _ from (by repeat (first | assumption | exact World.At_alloc_new | exact at_new (by first | rfl | (simp [World.size_put]; done) | (simp [World.size_put]; omega)) | refine World.At.alloc ?_ _ | refine World.At_drew.2 ?_ | refine (World.At_drewN _).2 ?_ | exact World.At_put_same (by first | assumption | (simp only [World.inB, World.size_put, World.alloc, World.drew, World.drewN, Array.size_push] at *; omega)) | refine (World.At_put_ne' (by first | assumption | (exact Ne.symm (by assumption)) | (simp only [World.inB, World.size_put] at *; omega))).2 ?_))), ?_, ?_⟩
            · show EntsAt _ _ _ _
              unfold EntsAt
              rw [entsC_snoc, List.length_append]
              exact ownsRow_put (ownsRow_put HO1.out (fun g hg => by have := (ownsRow_block HO1.out hg).2; omega)) (fun g hg => by have := (ownsRow_block HO1.out hg).2; omega)
            · show ModP _ _ _
              exact (HM1.out.put (.inr (Nat.le_refl _)) _ _ |>.put (.inr (by omega)) _ _)
          case measure => simp [intOf]; omega
    · have hke : k = l[36].toNat := by omega
      have hk4 : Hid (decMsg l = decE l (es, q)) := by unfold Hid; rw [hk3.out, ← hke, h1.out]; rfl
      have hlt' : ¬ (k : Int) < (l[36].toNat : Int) := by omega
      have hn2 : l.length - 2 = n := by have := Hn.out; omega
      have hE : Hid (decE l (es, q) = if n ≤ q then none else if q + 1 + (l.getD q 0).toNat ≠ n then none else if msgOK (decM l es q) = true then some (decM l es q) else none) := by
        unfold Hid decE; simp only []; rw [hn2]
      have hMq : Hid (decM l es q = ⟨q0, q1, q2, q4, q5, q6, q7, q3 == 1, es, (l.drop (q + 1)).take (n - (q + 1))⟩) := by
        unfold Hid decM; rw [HH.out, hn2]; simp
        by_cases hq : q3 = 1 <;> simp [hq]
      clear hke hk3 HH hn2
      by_cases e4 : n ≤ q
      · have hk : Hid (decMsg l = none) := by unfold Hid; rw [hk4.out, hE.out, if_pos e4]
        have e4' : (n : Int) ≤ q := by omega
        go_wp2_with fail
        refine bodyPost_ret (v := .tuple #[.agg (zMsg.r (.slice none 0 0)).cells, vi 12]) (by simp [results, Tryz.results138, go_sem, zMsg, Msg.r, MsgR.cells, World.cell?_put_same ib5, World.cell?_put_ne (Ne.symm nb)]) rfl (DecRes.none (by rw [hk.out]) ?_)
        exact mfin _ _
      · have hq8 : q < l.length := by omega
        have hq8' : (q : Int) < l.length := by omega
        have b8 := byte_lt l[q]
        have v8 : (l.getD q 0).toNat = l[q].toNat := by simp [hq8]
        by_cases e5 : q + 1 + l[q].toNat ≠ n
        · have hk : Hid (decMsg l = none) := by unfold Hid; rw [hk4.out, hE.out, if_neg e4, v8, if_pos e5]
          have e5' : ((q : Int) + 1 + (l[q].toNat : Int) != n) = true := by simp; omega
          clear v8 e5
          go_wp2_with fail
          refine bodyPost_ret (v := .tuple #[.agg (zMsg.r (.slice none 0 0)).cells, vi 12]) (by simp [results, Tryz.results138, go_sem, zMsg, Msg.r, MsgR.cells, World.cell?_put_same ib5, World.cell?_put_ne (Ne.symm nb)]) rfl (DecRes.none (by rw [hk.out]) ?_)
          exact mfin _ _
        · have hk : Hid (decMsg l = if msgOK (decM l es q) = true then some (decM l es q) else none) := by unfold Hid; rw [hk4.out, hE.out, if_neg e4, v8, if_neg e5]
          have e5' : (q : Int) + 1 + (l[q].toNat : Int) = n := by omega
          rw [hMq.out] at hk
          have HK := hk
          clear hMq hk hE hk4 v8 e5 e4 h1 Hlen
          have hent : ∀ c c', EntsAt (W.heap.size + 2) ((y.put W.heap.size c 159).put (W.heap.size + 1) c' 159) v es := fun c c' => ownsRow_put (ownsRow_put HO.out (fun g hg => by have := (ownsRow_block HO.out hg).2; omega)) (fun g hg => by have := (ownsRow_block HO.out hg).2; omega)
          have HE := hidIt hent
          clear hent
          generalize hd : (l.drop (q + 1)).take (n - (q + 1)) = dt at *
          have HD : Hid (List.take (n - (q + 1)) (List.drop (q + 1) l) = dt) := hd
          clear hd
          have hcall : ∀ c, Calls Tryz.prog 194 #[.agg (Msg.r ⟨q0, q1, q2, q4, q5, q6, q7, q3 == 1, es, dt⟩ v).cells] ((y.put W.heap.size c 159).put (W.heap.size + 1) (MsgR.cells ⟨q0, q1, q2, q4, q5, q6, q7, q3 == 1, v, dt⟩) 159) fun r w' => r = .returned (.bool (msgOK ⟨q0, q1, q2, q4, q5, q6, q7, q3 == 1, es, dt⟩)) ∧ ∃ x, w' = ((y.put W.heap.size c 159).put (W.heap.size + 1) (MsgR.cells ⟨q0, q1, q2, q4, q5, q6, q7, q3 == 1, v, dt⟩) 159).alloc x := fun c => by
            cases hh : hdOK ⟨q0, q1, q2, q4, q5, q6, q7, q3 == 1, es, dt⟩
            · refine (c194_bad (m := ⟨q0, q1, q2, q4, q5, q6, q7, q3 == 1, es, dt⟩) (HE.out _ _) hh).mono ?_
              rintro _ _ ⟨rfl, h⟩
              exact ⟨by rw [msgOK_eq, hh]; rfl, h⟩
            · exact c194_good (m := ⟨q0, q1, q2, q4, q5, q6, q7, q3 == 1, es, dt⟩) (HE.out _ _) hh
          have HC := hidIt hcall
          clear hcall
          obtain ⟨ad, cp, rfl, _⟩ := ownsRow_form HO.out
          have hnq : (n : Int).toNat - ((q : Int) + 1).toNat = n - (q + 1) := by omega
          cases hmo : msgOK ⟨q0, q1, q2, q4, q5, q6, q7, q3 == 1, es, dt⟩
          · have hk : Hid (decMsg l = none) := by unfold Hid; rw [HK.out, hmo]; rfl
            have Hmo := hidIt hmo
            clear hmo HK
            go_wp2_with fail
            rw [HD.out]
            refine (HC.out _).mono ?_
            rintro _ _ ⟨rfl, x, rfl⟩
            rw [Hmo.out]
            go_wp2_with fail
            refine bodyPost_ret (v := .tuple #[.agg (zMsg.r (.slice none 0 0)).cells, vi 12]) (by simp [results, Tryz.results138, go_sem, zMsg, Msg.r, MsgR.cells, World.cell?_put_same ib5, World.cell?_put_ne (Ne.symm nb), World.q_cell?_alloc_old _ (World.inB_put.2 (World.inB_put.2 ib5))]) rfl (DecRes.none (by rw [hk.out]) ?_)
            exact (mfin _ _).alloc _
          · have hk : Hid (decMsg l = some ⟨q0, q1, q2, q4, q5, q6, q7, q3 == 1, es, dt⟩) := by unfold Hid; rw [HK.out, hmo]; rfl
            have Hmo := hidIt hmo
            clear hmo HK
            go_wp2_with fail
            rw [HD.out]
            refine (HC.out _).mono ?_
            rintro _ _ ⟨rfl, x, rfl⟩
            rw [Hmo.out]
            go_wp2_with fail
            refine bodyPost_ret (v := .tuple #[.agg (Msg.r ⟨q0, q1, q2, q4, q5, q6, q7, q3 == 1, es, dt⟩ (.slice ad es.length cp)).cells, vi 0]) (by simp [results, Tryz.results138, go_sem, Msg.r, MsgR.cells, World.cell?_put_same ib5, World.cell?_put_ne (Ne.symm nb), World.q_cell?_alloc_old _ (World.inB_put.2 (World.inB_put.2 ib5))]) rfl ?_
            refine ⟨(mfin _ _).alloc _, ?_⟩
            rw [hk.out]
            refine ⟨_, rfl, ?_⟩
            have h9 := ownsRow_alloc (HE.out (MsgR.cells ⟨q0, q1, q2, q4, q5, q6, q7, q3 == 1, .slice ad es.length cp, dt⟩) (MsgR.cells ⟨q0, q1, q2, q4, q5, q6, q7, q3 == 1, .slice ad es.length cp, dt⟩)) x
            refine ⟨h9.1, ?_⟩
            rcases h9.2 with h2 | ⟨g, cap, cur, hv, h3, h4⟩
            · exact .inl h2
            · exact .inr ⟨g, cap, cur, hv, by omega, h4⟩
end Go.Proofs.Qxb6500990aGreat
