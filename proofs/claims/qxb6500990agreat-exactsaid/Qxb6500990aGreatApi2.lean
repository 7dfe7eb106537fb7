/- package api (and kvm.take, kvm.str): the walks -/
import Derived.Test.Qxb6500990aGreatApi
set_option linter.unusedVariables false
set_option linter.unusedSimpArgs false
namespace Go.Proofs.Qxb6500990aGreat
open Go Go.RowKit Go.Tw
attribute [local go_sem] World.cell?_put_same World.cell?_put_ne World.cell?_put_ne' World.frozen?_put_same World.frozen?_put_ne World.frozen?_put_ne' World.setCell_put_same World.setCell_put_ne World.setCell_put_ne' World.inB_put World.inB_alloc World.inB_drew World.inB_drewN World.inB_new World.inB_setCell World.put_drew World.put_drewN World.q_setCell_drew World.q_setCell_drewN World.q_alloc_drew World.q_alloc_drewN World.put_put_same World.put_put_2 World.size_put World.q_cell?_alloc_old World.q_frozen?_alloc_old World.cell?_alloc_new' World.frozen?_alloc_new' World.q_setCell_alloc_old World.q_setCell_alloc_new World.q_put_alloc_old
set_option maxHeartbeats 400000
set_option maxRecDepth 100000
theorem ba_get (l : Bs) (q : Nat) (h : q < (ByteArray.mk l.toArray).size) : (ByteArray.mk l.toArray)[q]'h = l[q]'h := rfl
theorem w64_byte (x : UInt8) : wrap64 (x.toNat : Int) = (x.toNat : Int) := by
  have := x.toNat_lt
  unfold wrap64
  omega
attribute [local go_sem] ba_get w64_byte ByteArray.extract_mk
abbrev vs (l : Bs) : Value := .string (ByteArray.mk l.toArray)
/-- a string of lo .. hi bytes behind a length byte at p -/
def takeS (l : Bs) (p : Int) (lo hi : Int) : Bs × Int :=
  if p < 0 ∨ (l.length : Int) ≤ p then ([], -1) else
  let n : Int := (l.getD p.toNat 0).toNat
  if n < lo ∨ hi < n ∨ (l.length : Int) < p + 1 + n then ([], -1) else ((l.drop (p.toNat + 1)).take n.toNat, p + 1 + n)
theorem c183 (W : World) (l : Bs) (hl : l.length ≤ 1000) (p lo hi : Int) (hp : p < 30000) (hp' : -30000 < p) (hlo : 0 ≤ lo) (hhi : hi < 256) :
    Calls Tryz.prog 183 #[vs l, vi p, vi lo, vi hi] W fun r w' => r = .returned (.tuple #[vs (takeS l p lo hi).1, vi (takeS l p lo hi).2]) ∧ w' = W := by
  by_cases h1 : p < 0
  · have hk : Hid (takeS l p lo hi = ([], -1)) := by unfold Hid takeS; rw [if_pos (.inl h1)]
    go_enter Tryz.func183, Tryz.ntmps183
    go_wp2
    go_ret2
    rw [hk.out]
    exact ⟨rfl, rfl⟩
  · by_cases h2 : (l.length : Int) ≤ p
    · have hk : Hid (takeS l p lo hi = ([], -1)) := by unfold Hid takeS; rw [if_pos (.inr h2)]
      go_enter Tryz.func183, Tryz.ntmps183
      go_wp2
      go_ret2
      rw [hk.out]
      exact ⟨rfl, rfl⟩
    · obtain ⟨q, rfl⟩ := Int.eq_ofNat_of_zero_le (show 0 ≤ p by omega)
      have hq : q < l.length := by omega
      clear h1 h2 hp hp'
      have n1 : (l[q].toNat : Int) < 256 := by have := l[q].toNat_lt; omega
      have hget : Hid ((l.getD q 0).toNat = l[q].toNat) := by unfold Hid; simp [hq]
      by_cases h3 : (l[q].toNat : Int) < lo ∨ hi < (l[q].toNat : Int) ∨ (l.length : Int) < q + 1 + (l[q].toNat : Int)
      · have hk : Hid (takeS l q lo hi = ([], -1)) := by
          unfold Hid takeS; rw [if_neg (by omega)]; simp only [Int.toNat_natCast, hget.out]; rw [if_pos h3]
        rcases h3 with h3 | h3 | h3
        all_goals
          go_enter Tryz.func183, Tryz.ntmps183
          go_wp2
          all_goals
            go_ret2
            rw [hk.out]
            exact ⟨rfl, rfl⟩
      · have hk : Hid (takeS l q lo hi = ((l.drop (q + 1)).take l[q].toNat, q + 1 + (l[q].toNat : Int))) := by
          unfold Hid takeS; rw [if_neg (by omega)]; simp only [Int.toNat_natCast, hget.out]; rw [if_neg h3]
        have h4 : lo ≤ (l[q].toNat : Int) := by omega
        have h5 : (l[q].toNat : Int) ≤ hi := by omega
        have h6 : (q : Int) + 1 + (l[q].toNat : Int) ≤ l.length := by omega
        clear h3
        go_enter Tryz.func183, Tryz.ntmps183
        go_wp2
        go_ret2
        rw [hk.out]
        exact ⟨by simp, rfl⟩

/-- kvm.str: as api.putStr -/
theorem c222 {W : World} {B : Nat} {v : Value} {l : List Int} (hb : BytesB B W v l) (hB : B ≤ W.heap.size) (hl : l.length ≤ 1000) (s : Bs) (hs : s.length ≤ 255) :
    Calls Tryz.prog 222 #[v, .string (ByteArray.mk s.toArray)] W fun r w' => ∃ v', r = .returned v' ∧ BytesB B w' v' (l ++ (s.length : Int) :: bi s) ∧ Below B W w' ∧ W.heap.size ≤ w'.heap.size := by
  go_enter Tryz.func222, Tryz.ntmps222
  go_wp2_with (first | (at_builtin; refine wp_appB rfl _ _ rfl [(s.length : Int)] rfl rfl (at_new rfl) rfl (hb.alloc _) (by simp; omega) (Nat.zero_lt_succ _) (by simp; omega) ?_; intro v' w' h1 h2 h3))
  have hB1 : Below B W w' := ((Below.refl _ _).alloc hB _).trans h2
  have hz1 : W.heap.size ≤ w'.heap.size := by simp at h3; omega
  clear h2 h3 hb
  go_loopw [0, 5] (fun b i u => ∃ k : Nat, k ≤ s.length ∧ i = vi k ∧ BytesB B u b (l ++ (s.length : Int) :: bi (s.take k)) ∧ Below B W u ∧ W.heap.size ≤ u.heap.size) (fun _ i _ => s.length - (intOf i).toNat)
  case atStart => exact ⟨0, Nat.zero_le _, rfl, by simpa [bi] using h1, hB1, hz1⟩
  case round =>
    obtain ⟨k, hk, rfl, hb, hb1, hb2⟩ := hrel
    clear h1 hB1 hz1
    by_cases hlt : k < s.length
    · have hts : Hid (bi (s.take (k + 1)) = bi (s.take k) ++ [(s[k].toNat : Int)]) := take_snoc' s k hlt
      have hln : (bi (s.take k)).length ≤ 255 := by rw [bi_length]; simp; omega
      go_wp2_with (first | (at_builtin; refine wp_appB rfl _ _ rfl [(s[k].toNat : Int)] rfl rfl (at_new rfl) rfl (hb.alloc _) (by simp; omega) (Nat.zero_lt_succ _) (by simp; omega) ?_; intro v2 w2 g1 g2 g3))
      go_roundw
      case rel => exact ⟨k + 1, by omega, by go_num, by rw [hts.out]; simpa using g1, (hb1.alloc (by omega) _).trans g2, by simp at g3; omega⟩
      case measure => simp [intOf]; omega
    · go_wp2
      go_ret
      exact ⟨_, rfl, by rw [List.take_of_length_le (by omega)] at hb; exact hb, hb1, hb2⟩

end Go.Proofs.Qxb6500990aGreat
