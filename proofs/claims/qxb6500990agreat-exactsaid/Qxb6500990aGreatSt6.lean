/- package store: put8 -/
import Derived.Test.Qxb6500990aGreatSt5
set_option linter.unusedVariables false
set_option linter.unusedSimpArgs false
namespace Go.Tw
open Go
def vN (v : Int) : Nat → Int
  | 0 => v
  | j + 1 => vN v j / 256
theorem vN_bd {v : Int} (h0 : 0 ≤ v) (h1 : v < 9223372036854775808) : ∀ j, 0 ≤ vN v j ∧ vN v j < 9223372036854775808
  | 0 => ⟨h0, h1⟩
  | j + 1 => by have := vN_bd h0 h1 j; unfold vN; omega
def lowB (v : Int) : UInt8 := UInt8.ofNat (v % 256).toNat
theorem lowB_nat (v : Int) : ((lowB v).toNat : Int) = v % 256 := by
  unfold lowB
  have h : (v % 256).toNat < 256 := by omega
  rw [UInt8.toNat_ofNat_of_lt' (by simpa using h)]
  omega
/-- j bytes of v laid from q+7 down -/
def set8 (l : Bs) (q : Nat) (v : Int) : Nat → Bs
  | 0 => l
  | j + 1 => (set8 l q v j).set (q + (7 - j)) (lowB (vN v j))
theorem set8_len (l : Bs) (q : Nat) (v : Int) : ∀ j, (set8 l q v j).length = l.length
  | 0 => rfl
  | j + 1 => by unfold set8; rw [List.length_set]; exact set8_len l q v j
end Go.Tw
namespace Go.Proofs.Qxb6500990aGreat
open Go Go.RowKit Go.Tw
attribute [local go_sem] World.cell?_put_same World.cell?_put_ne World.cell?_put_ne' World.frozen?_put_same World.frozen?_put_ne World.frozen?_put_ne' World.setCell_put_same World.setCell_put_ne World.setCell_put_ne' World.inB_put World.inB_alloc World.inB_drew World.inB_drewN World.inB_new World.inB_setCell World.put_drew World.put_drewN World.q_setCell_drew World.q_setCell_drewN World.q_alloc_drew World.q_alloc_drewN World.put_put_same World.put_put_2 World.size_put World.q_cell?_alloc_old World.q_frozen?_alloc_old World.cell?_alloc_new' World.frozen?_alloc_new' World.q_setCell_alloc_old World.q_setCell_alloc_new World.q_put_alloc_old World.cell?_force_same World.frozen?_force_same World.cell?_force2_fst World.cell?_force2_snd
attribute [local go_sem] byA_set
set_option maxHeartbeats 4000000
set_option maxRecDepth 100000
theorem c293 {y : World} {g : Nat} {l : Bs} (ig : y.inB g) (hl : l.length = 64) (q : Nat) (hq : q + 8 ≤ 64) {v : Int} (v0 : 0 ≤ v) (v1 : v < 9223372036854775808) :
    Calls Tryz.prog 293 #[.slice (some ⟨g, 0, none⟩) 64 64, vi q, vi v] (y.put g (byA l) 5) fun r w' => r = .returned (.slice (some ⟨g, 0, none⟩) 64 64) ∧ w' = y.put g (byA (set8 l q v 8)) 5 := by
  have hq' : (q : Int) + 8 ≤ 64 := by omega
  have Hv := hidIt (vN_bd v0 v1)
  have Hl := hidIt (fun j => (set8_len l q v j).trans hl)
  clear hl v0 v1 hq
  go_enter Tryz.func293, Tryz.ntmps293
  go_wp2_with fail
  go_loopw [2, 7] (fun vv iv u => ∃ j : Nat, j ≤ 8 ∧ iv = vi (7 - j) ∧ vv = vi (vN v j) ∧ u = y.put g (byA (set8 l q v j)) 5) (fun _ iv _ => (intOf iv + 1).toNat)
  case atStart => exact ⟨0, by omega, rfl, rfl, rfl⟩
  case round =>
    obtain ⟨j, hj, rfl, rfl, rfl⟩ := hrel
    by_cases hj8 : j < 8
    · obtain ⟨b0, b1⟩ := Hv.out j
      have hlj := Hl.out j
      have hsz : (byA (set8 l q v j)).size = 64 := by unfold byA; simp [hlj]
      have hst : set8 l q v (j + 1) = (set8 l q v j).set (q + (7 - j)) (lowB (vN v j)) := rfl
      have hvs : vN v (j + 1) = vN v j / 256 := rfl
      have hlo := lowB_nat (vN v j)
      have Hst := hidIt hst
      have Hvs := hidIt hvs
      have Hlo := hidIt hlo
      clear hst hvs hlo
      have hlq : (set8 l q v j).length = 64 := hlj
      clear hlj
      generalize set8 l q v j = lj at *
      generalize vN v j = vj at *
      obtain ⟨i, hi⟩ : ∃ i : Nat, (7 : Int) - j = i := ⟨7 - j, by omega⟩
      rw [hi]
      have hi7 : (i : Int) ≤ 7 := by omega
      have Hi := hidIt hi
      clear hi
      have hset : (byA lj).setIfInBounds (q + i) (.int .u8 (vj % 256)) = byA (lj.set (q + i) (lowB vj)) := by rw [← Hlo.out]; exact byA_set _ _ _
      obtain ⟨old, hget⟩ : ∃ old, (byA lj)[q + i]? = some (.int .u8 old) := ⟨_, byA_get lj (q + i) (by have := hlq; omega)⟩
      clear hlq
      go_wp2_with fail
      go_roundw
      case rel => exact ⟨j + 1, by omega, by have := Hi.out; go_num, by rw [Hvs.out], by rw [Hst.out, show 7 - j = i by have := Hi.out; omega]⟩
      case measure => simp [intOf]
    · obtain rfl : j = 8 := by omega
      go_wp2_with fail
      go_ret
      exact ⟨rfl, rfl⟩
end Go.Proofs.Qxb6500990aGreat
namespace Go.Tw
open Go
def z64b : Bs := List.replicate 64 0
def encMetaS (m : Meta) : Bs := (set8 (set8 z64b 1 m.num 8) 9 m.term 8).set 32 (lowB (m.vote + 1))
def encHeadS (h : Head) : Bs := ((set8 (set8 (set8 z64b 1 h.num 8) 9 h.idx 8) 32 h.term 8).set 40 (lowB h.area)).set 41 (lowB h.size)
theorem z64b_len : z64b.length = 64 := rfl
end Go.Tw
namespace Go.Proofs.Qxb6500990aGreat
open Go Go.RowKit Go.Tw
attribute [local go_sem] World.cell?_put_same World.cell?_put_ne World.cell?_put_ne' World.frozen?_put_same World.frozen?_put_ne World.frozen?_put_ne' World.setCell_put_same World.setCell_put_ne World.setCell_put_ne' World.inB_put World.inB_alloc World.inB_drew World.inB_drewN World.inB_new World.inB_setCell World.put_drew World.put_drewN World.q_setCell_drew World.q_setCell_drewN World.q_alloc_drew World.q_alloc_drewN World.put_put_same World.put_put_2 World.size_put World.q_cell?_alloc_old World.q_frozen?_alloc_old World.cell?_alloc_new' World.frozen?_alloc_new' World.q_setCell_alloc_old World.q_setCell_alloc_new World.q_put_alloc_old World.cell?_force_same World.frozen?_force_same World.cell?_force2_fst World.cell?_force2_snd Meta.g0 Meta.s0 Meta.g1 Meta.s1 Meta.g2 Meta.s2 Meta.g3 Meta.s3 Head.g0 Head.s0 Head.g1 Head.s1 Head.g2 Head.s2 Head.g3 Head.s3 Head.g4 Head.s4 Head.g5 Head.s5 Rec.g0 Rec.s0 Rec.g1 Rec.s1 Rec.g2 Rec.s2
attribute [local go_sem] byA_set mk127
set_option maxHeartbeats 4000000
set_option maxRecDepth 100000
/-- a new block of 64 bytes -/
def NewB (W : World) (x : Bs) (r : Ending) (w' : World) : Prop := ∃ g, r = .returned (.slice (some ⟨g, 0, none⟩) 64 64) ∧ W.heap.size ≤ g ∧ w'.At g (byA x) 5 ∧ ModP (fun _ => False) W w'
theorem k293 {w : World} {g : Nat} {l : Bs} (h : w.At g (byA l) 5) (hl : l.length = 64) (q : Nat) {qi : Int} (hqi : qi = q) (hq : q + 8 ≤ 64) {v : Int} (v0 : 0 ≤ v) (v1 : v < 9223372036854775808) :
    Calls Tryz.prog 293 #[.slice (some ⟨g, 0, none⟩) 64 64, vi qi, vi v] w fun r w' => r = .returned (.slice (some ⟨g, 0, none⟩) 64 64) ∧ w'.At g (byA (set8 l q v 8)) 5 ∧ ModP (fun k => k = g) w w' := by
  subst hqi
  obtain ⟨y, rfl, iy⟩ := h.door
  refine (c293 iy hl q hq v0 v1).mono ?_
  rintro _ _ ⟨rfl, rfl⟩
  exact ⟨rfl, World.At_put_same iy, ((ModP.refl (fun k => k = g) y).put (.inl rfl) _ _).fromPut rfl⟩
end Go.Proofs.Qxb6500990aGreat
