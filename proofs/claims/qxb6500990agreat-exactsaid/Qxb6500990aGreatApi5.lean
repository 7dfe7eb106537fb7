/- package api: DecodeCmd -/
import Derived.Test.Qxb6500990aGreatApi4
set_option linter.unusedVariables false
set_option linter.unusedSimpArgs false
namespace Go.Proofs.Qxb6500990aGreat
open Go Go.RowKit Go.Tw
attribute [local go_sem] World.cell?_put_same World.cell?_put_ne World.cell?_put_ne' World.frozen?_put_same World.frozen?_put_ne World.frozen?_put_ne' World.setCell_put_same World.setCell_put_ne World.setCell_put_ne' World.inB_put World.inB_alloc World.inB_drew World.inB_drewN World.inB_new World.inB_setCell World.put_drew World.put_drewN World.q_setCell_drew World.q_setCell_drewN World.q_alloc_drew World.q_alloc_drewN World.put_put_same World.put_put_2 World.size_put World.q_cell?_alloc_old World.q_frozen?_alloc_old World.cell?_alloc_new' World.frozen?_alloc_new' World.q_setCell_alloc_old World.q_setCell_alloc_new World.q_put_alloc_old Cmd.g0 Cmd.s0 Cmd.g1 Cmd.s1 Cmd.g2 Cmd.s2 Cmd.g3 Cmd.s3 Cmd.g4 Cmd.s4 Cmd.g5 Cmd.s5
attribute [local go_sem] ba_get w64_byte ByteArray.extract_mk
set_option maxHeartbeats 1000000
set_option maxRecDepth 100000
def fld (l : Bs) (p : Nat) : Option (Bs × Nat) :=
  if l.length ≤ p then none else if l.length < p + 1 + (l.getD p 0).toNat then none else some ((l.drop (p + 1)).take (l.getD p 0).toNat, p + 1 + (l.getD p 0).toNat)
def zCmd : Cmd := ⟨0, 0, 0, [], [], []⟩
def setF (c : Cmd) (f : Nat) (x : Bs) : Cmd := if f = 0 then { c with key := x } else if f = 1 then { c with val := x } else { c with old := x }
def decSt (l : Bs) : Nat → Option (Cmd × Nat)
  | 0 => some (⟨(l.getD 0 0).toNat, (l.getD 1 0).toNat, getU64 l 2, [], [], []⟩, 10)
  | f + 1 => (decSt l f).bind fun s => (fld l s.2).bind fun t => some (setF s.1 f t.1, t.2)
def decCmd (l : Bs) : Option Cmd :=
  if l.length < 13 then none else (decSt l 3).bind fun s => if s.2 = l.length ∧ cmdOK s.1 = true then some s.1 else none
theorem decSt_none {l : Bs} : ∀ (k n : Nat), k ≤ n → decSt l k = none → decSt l n = none
  | k, 0, h, hk => by have : k = 0 := by omega
                      subst this; exact hk
  | k, n + 1, h, hk => by
    by_cases e : k = n + 1
    · subst e; exact hk
    · unfold decSt; rw [decSt_none k n (by omega) hk]; rfl
theorem decSt_len {l : Bs} (hl : 10 ≤ l.length) : ∀ (k : Nat) (c : Cmd) (q : Nat), decSt l k = some (c, q) → q ≤ l.length
  | 0, c, q, h => by simp [decSt] at h; omega
  | k + 1, c, q, h => by
    unfold decSt at h
    cases h1 : decSt l k with
    | none => rw [h1] at h; simp at h
    | some s =>
      rw [h1] at h
      simp only [Option.bind_some] at h
      cases h2 : fld l s.2 with
      | none => rw [h2] at h; simp at h
      | some t =>
        rw [h2] at h
        simp at h
        obtain ⟨_, rfl⟩ := h
        unfold fld at h2
        split at h2
        · cases h2
        · split at h2
          · cases h2
          · simp only [List.getD_eq_getElem?_getD] at *; simp at h2; rw [← h2]; simp; omega
def decCmdV (l : Bs) : Value := match decCmd l with
  | some c => .tuple #[.agg c.cells, vi 0]
  | none => .tuple #[.agg zCmd.cells, vi 9]
theorem fld_none {l : Bs} {p : Nat} (h : l.length ≤ p) : fld l p = none := by unfold fld; rw [if_pos h]
theorem fld_none2 {l : Bs} {p : Nat} (h : p < l.length) (h2 : l.length < p + 1 + l[p].toNat) : fld l p = none := by
  unfold fld; rw [if_neg (by omega), if_pos (by simpa [h] using h2)]
theorem fld_some {l : Bs} {p : Nat} (h : p < l.length) (h2 : p + 1 + l[p].toNat ≤ l.length) : fld l p = some ((l.drop (p + 1)).take l[p].toNat, p + 1 + l[p].toNat) := by
  unfold fld; rw [if_neg (by omega)]; simp only [List.getD_eq_getElem?_getD, List.getElem?_eq_getElem h, Option.getD_some]; rw [if_neg (by omega)]
theorem byte_lt (x : UInt8) : (x.toNat : Int) < 256 := by have := x.toNat_lt; omega
theorem c161 (W : World) (l : Bs) (hl : l.length ≤ 1000) : Calls Tryz.prog 161 #[vs l] W fun r w' => r = .returned (decCmdV l) ∧ Mod [] W w' := by
  by_cases h0 : l.length < 13
  · have hk : Hid (decCmd l = none) := by unfold Hid decCmd; rw [if_pos h0]
    have h0' : (l.length : Int) < 13 := by omega
    go_enter Tryz.func161, Tryz.ntmps161
    go_wp2_with fail
    refine bodyPost_ret (v := .tuple #[.agg zCmd.cells, vi 9]) (by simp [results, Tryz.results161, go_sem, zCmd, Cmd.cells]) rfl ⟨?_, ?_⟩
    · unfold decCmdV; rw [hk.out]
    · exact ((Mod.refl _ _).alloc _).alloc _
  · have h1 : (13 : Int) ≤ l.length := by omega
    have h2 : 10 < l.length := by omega
    have i0 : 0 < l.length := by omega
    have i1 : 1 < l.length := by omega
    have i0' : (0 : Int) < l.length := by omega
    have i1' : (1 : Int) < l.length := by omega
    have hd : Hid (decCmd l = (decSt l 3).bind fun s => if s.2 = l.length ∧ cmdOK s.1 = true then some s.1 else none) := by unfold Hid decCmd; rw [if_neg h0]
    have hs0 : Hid (decSt l 0 = some (⟨(l[0].toNat : Int), (l[1].toNat : Int), getU64 l 2, [], [], []⟩, 10)) := by unfold Hid decSt; simp [i0, i1]
    have hlen := decSt_len (l := l) (by omega)
    clear h0
    go_enter Tryz.func161, Tryz.ntmps161
    go_wp2_with fail
    refine Ord.region1 [3, 4, 5] [0, 1, 2, 6, 7, 8] [9, 10, 11, 12, 13] (by kernel_rfl) (by kernel_rfl) (fun _ _ d _ _ h => by cases d <;> exact h) ?_
    simp only [Ord.pickO, Ord.nth]
    repeat (go_big_quiet_step (fail))
    refine wpQuiet_nil ?_
    repeat (first | go_big_quiet_step (fail) | (go_big_quiet_want; go_big_quiet_op; refine Exists.intro _ ⟨by first | (go_at_call 184; exact c184 _ _ hl _ (by omega) (by omega)), ?_⟩; go_big_quiet_on))
    refine wpQuiet_nil ?_
    go_wp2_with fail
    go_loopw [5, 6] (fun p f u => ∃ (k : Nat) (c : Cmd) (q : Nat), k ≤ 3 ∧ f = vi k ∧ p = vi q ∧ decSt l k = some (c, q) ∧ u = ((W.alloc (.cells zCmd.cells 123)).alloc (.cells c.cells 123)).drew) (fun _ f _ => 3 - (intOf f).toNat)
    case atStart => exact ⟨0, _, _, by omega, rfl, rfl, hs0.out, rfl⟩
    case round =>
      obtain ⟨k, c, q, hk, rfl, rfl, hst, rfl⟩ := hrel
      have hq := hlen k c q hst
      have Hst : Hid (decSt l k = some (c, q)) := hst
      clear hst hlen hs0
      have nx : ∀ k, decSt l (k + 1) = (decSt l k).bind fun s => (fld l s.2).bind fun t => some (setF s.1 k t.1, t.2) := fun k => rfl
      have Hnx : Hid (decSt l (k + 1) = (fld l q).bind fun t => some (setF c k t.1, t.2)) := by unfold Hid; rw [nx, Hst.out]; rfl
      clear nx
      have fin : ∀ u, u = ((W.alloc (.cells zCmd.cells 123)).alloc (.cells c.cells 123)).drew → Mod [] W u := fun u hu => by rw [hu]; exact (((Mod.refl _ _).alloc _).alloc _).drew
      have bad : k < 3 → fld l q = none → decCmdV l = .tuple #[.agg zCmd.cells, vi 9] := fun h3 hf => by
        have : decSt l (k + 1) = none := by rw [Hnx.out, hf]; rfl
        unfold decCmdV; rw [hd.out, decSt_none (k + 1) 3 (by omega) this]; rfl
      by_cases h3 : k < 3
      · by_cases hq1 : q < l.length
        · have bq := byte_lt l[q]
          by_cases hn : q + 1 + l[q].toNat ≤ l.length
          · have Hf : Hid (decSt l (k + 1) = some (setF c k ((l.drop (q + 1)).take l[q].toNat), q + 1 + l[q].toNat)) := by unfold Hid; rw [Hnx.out, fld_some hq1 hn]; rfl
            have hn' : (q : Int) + 1 + (l[q].toNat : Int) ≤ l.length := by omega
            clear bad fin
            obtain rfl | rfl | rfl : k = 0 ∨ k = 1 ∨ k = 2 := by omega
            all_goals
              go_wp2_with fail
              go_roundw
              case rel => exact ⟨_, _, _, by omega, by go_num, by go_num, Hf.out, by simp [setF]⟩
              case measure => simp [intOf]
          · have hv := bad h3 (fld_none2 hq1 (by omega))
            have Hv : Hid (decCmdV l = .tuple #[.agg zCmd.cells, vi 9]) := hv
            have hn' : (l.length : Int) < (q : Int) + 1 + (l[q].toNat : Int) := by omega
            clear bad hv hn
            go_wp2_with fail
            refine bodyPost_ret (v := .tuple #[.agg zCmd.cells, vi 9]) (by simp [results, Tryz.results161, go_sem, zCmd, Cmd.cells]) rfl ⟨by rw [Hv.out], ?_⟩
            exact (((Mod.refl _ _).alloc _).alloc _).drew
        · have hv := bad h3 (fld_none (by omega))
          have Hv : Hid (decCmdV l = .tuple #[.agg zCmd.cells, vi 9]) := hv
          clear bad hv
          go_wp2_with fail
          refine bodyPost_ret (v := .tuple #[.agg zCmd.cells, vi 9]) (by simp [results, Tryz.results161, go_sem, zCmd, Cmd.cells]) rfl ⟨by rw [Hv.out], ?_⟩
          exact (((Mod.refl _ _).alloc _).alloc _).drew
      · obtain rfl : k = 3 := by omega
        clear bad Hnx
        have Hd : Hid (decCmd l = if q = l.length ∧ cmdOK c = true then some c else none) := by unfold Hid; rw [hd.out, Hst.out]; rfl
        by_cases e1 : q = l.length
        · cases e2 : cmdOK c
          · have Hv : Hid (decCmdV l = .tuple #[.agg zCmd.cells, vi 9]) := by unfold Hid decCmdV; rw [Hd.out, if_neg (by simp [e2])]
            have E2 : Hid (cmdOK c = false) := e2
            have e1' : ((q : Int) != (l.length : Int)) = false := by simp [e1]
            clear e2 e1
            go_wp2_with (go_at_call 93; refine (c93 _ c).mono ?_; rintro _ _ ⟨rfl, x, rfl⟩; rw [E2.out])
            refine bodyPost_ret (v := .tuple #[.agg zCmd.cells, vi 9]) (by simp [results, Tryz.results161, go_sem, zCmd, Cmd.cells]) rfl ⟨by rw [Hv.out], ?_⟩
            exact (((Mod.refl _ _).alloc _).alloc _).drew.alloc _
          · have Hv : Hid (decCmdV l = .tuple #[.agg c.cells, vi 0]) := by unfold Hid decCmdV; rw [Hd.out, if_pos ⟨e1, e2⟩]
            have E2 : Hid (cmdOK c = true) := e2
            have e1' : ((q : Int) != (l.length : Int)) = false := by simp [e1]
            clear e2 e1
            go_wp2_with (go_at_call 93; refine (c93 _ c).mono ?_; rintro _ _ ⟨rfl, x, rfl⟩; rw [E2.out])
            refine bodyPost_ret (v := .tuple #[.agg c.cells, vi 0]) (by simp [results, Tryz.results161, go_sem, zCmd, Cmd.cells]) rfl ⟨by rw [Hv.out], ?_⟩
            exact (by repeat (first | exact Mod.refl _ _ | apply Mod.alloc | apply Mod.drew | apply Mod.drewN))
        · have Hv : Hid (decCmdV l = .tuple #[.agg zCmd.cells, vi 9]) := by unfold Hid decCmdV; rw [Hd.out, if_neg (fun h => e1 h.1)]
          have e1' : ((q : Int) != (l.length : Int)) = true := by simp; omega
          clear e1
          go_wp2_with fail
          refine bodyPost_ret (v := .tuple #[.agg zCmd.cells, vi 9]) (by simp [results, Tryz.results161, go_sem, zCmd, Cmd.cells]) rfl ⟨by rw [Hv.out], ?_⟩
          exact (((Mod.refl _ _).alloc _).alloc _).drew
end Go.Proofs.Qxb6500990aGreat
