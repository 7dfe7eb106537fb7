/- package store: records -/
import Derived.Test.Qxb6500990aGreatSt2
set_option linter.unusedVariables false
set_option linter.unusedSimpArgs false
namespace Go.Tw
open Go Go.Proofs Go.Proofs.Qxb6500990aGreat Go.RowKit
/-- the cells of a block of bytes -/
def byA (l : Bs) : Array Value := (l.map fun y : UInt8 => Value.int .u8 (y.toNat : Int)).toArray
theorem byA_set (l : Bs) (i : Nat) (y : UInt8) : (byA l).setIfInBounds i (.int .u8 (y.toNat : Int)) = byA (l.set i y) := by
  unfold byA; rw [List.map_set, List.setIfInBounds_toArray]
theorem byA_get (l : Bs) (i : Nat) (h : i < l.length) : (byA l)[i]? = some (.int .u8 (l[i].toNat : Int)) := by
  unfold byA; simp [h]
theorem zb_byA (n : Nat) : zb n = byA (List.replicate n 0) := by
  unfold zb byA; simp
theorem bi_byA (l : Bs) : byA l = ((bi l).map (Value.int .u8)).toArray := by
  unfold byA bi; simp
theorem byA_bytes {w : World} {g : Nat} {l : Bs} (h : w.At g (byA l) 5) (hm : l.length ≤ maxLen) : BytesB 0 w (.slice (some ⟨g, 0, none⟩) l.length l.length) (bi l) := by
  rw [bi_byA] at h
  have := BytesB.ofAt (B := 0) h (Nat.zero_le _) (by rw [bi_length]; exact hm)
  rwa [bi_length] at this
/-- the first k bytes of a text, then zeros -/
def prt (t : Bs) (n k : Nat) : Bs := t.take k ++ List.replicate (n - k) 0
theorem prt_len (t : Bs) (n k : Nat) (h : k ≤ n) (ht : n ≤ t.length) : (prt t n k).length = n := by unfold prt; simp; omega
theorem prt_set (t : Bs) (n k : Nat) (h : k < n) (ht : n ≤ t.length) : (prt t n k).set k (t[k]'(by omega)) = prt t n (k + 1) := by
  unfold prt
  rw [List.set_append_right _ _ (by rw [List.length_take]; exact Nat.min_le_left _ _)]
  simp only [List.length_take]
  rw [show k - min k t.length = 0 by omega, show n - k = (n - (k + 1)) + 1 by omega, List.replicate_succ, List.set_cons_zero]
  have e : t.take (k + 1) = t.take k ++ [t[k]'(by omega)] := by rw [List.take_add_one, List.getElem?_eq_getElem (by omega : k < t.length)]; rfl
  rw [e, List.append_assoc]
  rfl
theorem prt_zero (t : Bs) (n : Nat) : prt t n 0 = List.replicate n 0 := by simp [prt]
theorem prt_full (t : Bs) (n : Nat) : prt t n n = t.take n := by simp [prt]
end Go.Tw
namespace Go.Proofs.Qxb6500990aGreat
open Go Go.RowKit Go.Tw
attribute [local go_sem] World.cell?_put_same World.cell?_put_ne World.cell?_put_ne' World.frozen?_put_same World.frozen?_put_ne World.frozen?_put_ne' World.setCell_put_same World.setCell_put_ne World.setCell_put_ne' World.inB_put World.inB_alloc World.inB_drew World.inB_drewN World.inB_new World.inB_setCell World.put_drew World.put_drewN World.q_setCell_drew World.q_setCell_drewN World.q_alloc_drew World.q_alloc_drewN World.put_put_same World.put_put_2 World.size_put World.q_cell?_alloc_old World.q_frozen?_alloc_old World.cell?_alloc_new' World.frozen?_alloc_new' World.q_setCell_alloc_old World.q_setCell_alloc_new World.q_put_alloc_old World.cell?_force_same World.frozen?_force_same World.cell?_force2_fst World.cell?_force2_snd Meta.g0 Meta.s0 Meta.g1 Meta.s1 Meta.g2 Meta.s2 Meta.g3 Meta.s3 Head.g0 Head.s0 Head.g1 Head.s1 Head.g2 Head.s2 Head.g3 Head.s3 Head.g4 Head.s4 Head.g5 Head.s5 Rec.g0 Rec.s0 Rec.g1 Rec.s1 Rec.g2 Rec.s2
attribute [local go_sem] ba_get mk127 byA_set
set_option maxHeartbeats 4000000
set_option maxRecDepth 100000
def recV (x : Bs) : Value := match decRecS x with
  | none => .tuple #[.agg zRec.cells, .bool false]
  | some r => .tuple #[.agg r.cells, .bool true]
theorem c59 (W : World) (x : Bs) (hl : x.length = 64) (hf : wholeB x = true → Fits x [2, 35]) : Calls Tryz.prog 59 #[vs x] W fun r w' => r = .returned (recV x) ∧ ModP (fun _ => False) W w' := by
  have hw := hidIt (fun w => c116 w x hl)
  have h1 : 1 < x.length := by omega
  have h10 : 10 < x.length := by omega
  have h1' : (1 : Int) < x.length := by omega
  have h10' : (10 : Int) < x.length := by omega
  have e1 : byt x 1 = (x[1].toNat : Int) := by simp [byt, List.getD_eq_getElem?_getD, h1]
  have e10 : byt x 10 = (x[10].toNat : Int) := by simp [byt, List.getD_eq_getElem?_getD, h10]
  have w10 : wrap64 (x[10].toNat : Int) = x[10].toNat := IntWalk.wrap64_in _ (by have := x[10].toNat_lt; omega)
  cases hb : wholeB x with
  | false =>
    have hk : Hid (recV x = .tuple #[.agg zRec.cells, .bool false]) := by unfold Hid recV decRecS; rw [hb]; rfl
    rw [hb] at hw
    clear hf hb hl e1 e10
    go_enter Tryz.func59, Tryz.ntmps59
    go_wp2_with (first
      | (go_at_call 116; refine (hw.out _).mono ?_; rintro _ w1 ⟨rfl, m1⟩; have M1 := hidIt (show ModP (fun _ => False) W w1 from ModP.trans ((ModP.refl _ _).alloc _) m1.toP0); have hz := m1.at (b := W.heap.size) World.At_alloc_new (by simp); clear m1; obtain ⟨y, rfl, iy⟩ := hz.door; clear hz))
    refine bodyPost_ret (v := .tuple #[.agg (Rec.cells ⟨0, 0, []⟩), .bool false]) (by simp [results, Tryz.results59, go_sem, Rec.cells, iy]) rfl ?_
    rw [hk.out]
    exact ⟨rfl, (M1.out.unput (.inr (Nat.le_refl _))).put (.inr (Nat.le_refl _)) _ _⟩
  | true =>
    rw [hb] at hw
    by_cases q1 : (x[1].toNat : Int) = 1
    · by_cases q2 : (24 : Int) < x[10].toNat
      · have hk : Hid (recV x = .tuple #[.agg zRec.cells, .bool false]) := by unfold Hid recV decRecS; rw [if_neg (fun h => by have := h.2.2; omega)]
        have q1' : ((x[1].toNat : Int) != 1) = false := by simp [q1]
        clear hf hb hl e1 e10 q1
        go_enter Tryz.func59, Tryz.ntmps59
        go_wp2_with (first
          | (go_at_call 116; refine (hw.out _).mono ?_; rintro _ w1 ⟨rfl, m1⟩; have M1 := hidIt (show ModP (fun _ => False) W w1 from ModP.trans ((ModP.refl _ _).alloc _) m1.toP0); have hz := m1.at (b := W.heap.size) World.At_alloc_new (by simp); clear m1; obtain ⟨y, rfl, iy⟩ := hz.door; clear hz))
        refine bodyPost_ret (v := .tuple #[.agg (Rec.cells ⟨0, 0, []⟩), .bool false]) (by simp [results, Tryz.results59, go_sem, Rec.cells, iy]) rfl ?_
        rw [hk.out]
        exact ⟨rfl, (M1.out.unput (.inr (Nat.le_refl _))).put (.inr (Nat.le_refl _)) _ _⟩
      · have g2 := hidIt (fun w => c117 w x hl 2 (by omega) (hf hb 2 (by simp)))
        have g35 := hidIt (fun w => c117 w x hl 35 (by omega) (hf hb 35 (by simp)))
        have hk : Hid (recV x = .tuple #[.agg (Rec.cells ⟨beN x 2 8, beN x 35 8, (x.drop 11).take x[10].toNat⟩), .bool true]) := by unfold Hid recV decRecS; rw [if_pos ⟨hb, by omega, by omega⟩, e10]; rfl
        have q1' : ((x[1].toNat : Int) != 1) = false := by simp [q1]
        have q2' : decide ((24 : Int) < x[10].toNat) = false := by simpa using q2
        have hl' : x.length ≤ 1000 := by omega
        have h35 : 35 ≤ x.length := by omega
        have n24 : x[10].toNat ≤ 24 := by omega
        have x24 : (x[10].toNat : Int) ≤ 10000 := by omega
        clear hf hb hl e1 e10 q1 q2
        generalize beN x 2 8 = n2 at *
        generalize beN x 35 8 = n35 at *
        go_enter Tryz.func59, Tryz.ntmps59
        go_wp2_with (first
          | (go_at_call 116; refine (hw.out _).mono ?_; rintro _ w1 ⟨rfl, m1⟩; have M1 := hidIt (show ModP (fun _ => False) W w1 from ModP.trans ((ModP.refl _ _).alloc _) m1.toP0); have hz := m1.at (b := W.heap.size) World.At_alloc_new (by simp); clear m1; obtain ⟨y, rfl, iy⟩ := hz.door; clear hz))
        rw [zb_byA, ← prt_zero (x.drop 11) x[10].toNat]
        have hd : (x.drop 11).length = x.length - 11 := List.length_drop
        have Hd := hidIt hd
        clear hd
        go_loopw [6] (fun v u => ∃ k : Nat, k ≤ x[10].toNat ∧ v = vi k ∧ u = (y.put W.heap.size #[.int .i64 0, .int .i64 0, .string ⟨#[]⟩] 136).alloc (.cells (byA (prt (x.drop 11) x[10].toNat k)) 5 (0, 0))) (fun v _ => x[10].toNat - (intOf v).toNat)
        case atStart => exact ⟨0, Nat.zero_le _, rfl, rfl⟩
        case round =>
          obtain ⟨k, hk2, rfl, rfl⟩ := hrel
          by_cases hlt : k < x[10].toNat
          · have hi : 11 + k < x.length := by omega
            have hi' : (11 : Int) + k < x.length := by omega
            have hps := prt_set (x.drop 11) x[10].toNat k hlt (by have := Hd.out; omega)
            have hpl := prt_len (x.drop 11) x[10].toNat k (by omega) (by have := Hd.out; omega)
            rw [List.getElem_drop] at hps
            have Hps := hidIt hps
            have hsz : (byA (prt (x.drop 11) x[10].toNat k)).size = x[10].toNat := by unfold byA; simp [hpl]
            clear hps hpl
            generalize prt (x.drop 11) x[10].toNat k = pk at *
            go_wp2_with fail
            go_roundw
            case rel => exact ⟨k + 1, by omega, by go_num, by rw [← Hps.out]⟩
            case measure => simp [intOf]; omega
          · obtain rfl : k = x[10].toNat := by omega
            rw [prt_full]
            have htl : ((x.drop 11).take x[10].toNat).length = x[10].toNat := by rw [List.length_take, Hd.out]; omega
            have Htl := hidIt htl
            clear hlt hk2 htl
            generalize (x.drop 11).take x[10].toNat = da at *
            go_wp2_with (first
              | (go_at_call 117; with_reducible refine Calls.mono (g2.out _) ?_; rintro _ _ ⟨rfl, rfl⟩)
              | (go_at_call 117; with_reducible refine Calls.mono (g35.out _) ?_; rintro _ _ ⟨rfl, rfl⟩)
              | ((refine wp_strB rfl _ rfl (l := bi da) rfl (by have h9 := byA_bytes (w := (y.put W.heap.size #[.int .i64 0, .int .i64 0, .string ⟨#[]⟩] 136).alloc (.cells (byA da) 5 (0, 0))) (g := y.heap.size) (l := da) (at_new (by simp [World.size_put])) (by rw [Htl.out]; unfold maxLen; omega); rw [Htl.out] at h9; exact h9) ?_)))
            rw [ib_bi]
            refine bodyPost_ret (v := .tuple #[.agg (Rec.cells ⟨n2, n35, da⟩), .bool true]) (by simp [results, Tryz.results59, go_sem, Rec.cells, iy]) rfl ?_
            rw [hk.out]
            exact ⟨rfl, ((M1.out.unput (.inr (Nat.le_refl _))).put (.inr (Nat.le_refl _)) _ _).alloc _⟩
    · have hk : Hid (recV x = .tuple #[.agg zRec.cells, .bool false]) := by unfold Hid recV decRecS; rw [if_neg (fun h => by have := h.2.1; omega)]
      have q1' : ((x[1].toNat : Int) != 1) = true := by simpa using q1
      clear hf hb hl e1 e10 q1
      go_enter Tryz.func59, Tryz.ntmps59
      go_wp2_with (first
        | (go_at_call 116; refine (hw.out _).mono ?_; rintro _ w1 ⟨rfl, m1⟩; have M1 := hidIt (show ModP (fun _ => False) W w1 from ModP.trans ((ModP.refl _ _).alloc _) m1.toP0); have hz := m1.at (b := W.heap.size) World.At_alloc_new (by simp); clear m1; obtain ⟨y, rfl, iy⟩ := hz.door; clear hz))
      refine bodyPost_ret (v := .tuple #[.agg (Rec.cells ⟨0, 0, []⟩), .bool false]) (by simp [results, Tryz.results59, go_sem, Rec.cells, iy]) rfl ?_
      rw [hk.out]
      exact ⟨rfl, (M1.out.unput (.inr (Nat.le_refl _))).put (.inr (Nat.le_refl _)) _ _⟩
end Go.Proofs.Qxb6500990aGreat
