/- package api: the walks -/
import Derived.Test.Qxb6500990aGreatBytes
set_option linter.unusedVariables false
set_option linter.unusedSimpArgs false
namespace Go.Proofs.Qxb6500990aGreat
open Go Go.RowKit Go.Tw
attribute [local go_sem] World.cell?_put_same World.cell?_put_ne World.cell?_put_ne' World.frozen?_put_same World.frozen?_put_ne World.frozen?_put_ne' World.setCell_put_same World.setCell_put_ne World.setCell_put_ne' World.inB_put World.inB_alloc World.inB_drew World.inB_drewN World.inB_new World.inB_setCell World.put_drew World.put_drewN World.q_setCell_drew World.q_setCell_drewN World.q_alloc_drew World.q_alloc_drewN World.put_put_same World.put_put_2 World.size_put World.q_cell?_alloc_old World.q_frozen?_alloc_old World.cell?_alloc_new' World.frozen?_alloc_new' World.q_setCell_alloc_old World.q_setCell_alloc_new World.q_put_alloc_old
set_option maxHeartbeats 400000
set_option maxRecDepth 100000
def be8 (v : Int) : List Int := [v / 72057594037927936, v / 281474976710656 % 256, v / 1099511627776 % 256, v / 4294967296 % 256, v / 16777216 % 256, v / 65536 % 256, v / 256 % 256, v % 256]
theorem c140 {W : World} {B : Nat} {v : Value} {l : List Int} (hb : BytesB B W v l) (hB : B ≤ W.heap.size) (hl : l.length ≤ 1000) {n : Int} (h0 : 0 ≤ n) (h1 : n ≤ maxT) :
    Calls Tryz.prog 140 #[v, vi n] W fun r w' => ∃ v', r = .returned v' ∧ BytesB B w' v' (l ++ be8 n) ∧ Below B W w' ∧ W.heap.size ≤ w'.heap.size := by
  unfold maxT at h1
  go_enter Tryz.func140, Tryz.ntmps140
  go_wp2_with (first | (at_builtin; refine wp_appB rfl _ _ rfl (be8 n) rfl rfl (at_new rfl) rfl (hb.alloc _) (by simp; omega) (Nat.zero_lt_succ _) (by simp [be8]; omega) ?_; intro v' w' h1 h2 h3))
  go_ret
  exact ⟨_, rfl, h1, ((Below.refl _ _).alloc hB _).trans h2, by simp at h3; omega⟩

theorem take_snoc' (l : Bs) (k : Nat) (h : k < l.length) : bi (l.take (k + 1)) = bi (l.take k) ++ [(l[k].toNat : Int)] := by
  rw [List.take_succ_eq_append_getElem h, bi_append]; rfl
theorem c141 {W : World} {B : Nat} {v : Value} {l : List Int} (hb : BytesB B W v l) (hB : B ≤ W.heap.size) (hl : l.length ≤ 1000) (s : Bs) (hs : s.length ≤ 255) :
    Calls Tryz.prog 141 #[v, .string (ByteArray.mk s.toArray)] W fun r w' => ∃ v', r = .returned v' ∧ BytesB B w' v' (l ++ (s.length : Int) :: bi s) ∧ Below B W w' ∧ W.heap.size ≤ w'.heap.size := by
  go_enter Tryz.func141, Tryz.ntmps141
  go_wp2_with (first | (at_builtin; refine wp_appB rfl _ _ rfl [(s.length : Int)] rfl rfl (at_new rfl) rfl (hb.alloc _) (by simp; omega) (Nat.zero_lt_succ _) (by simp; omega) ?_; intro v' w' h1 h2 h3))
  have hB1 : Below B W w' := ((Below.refl _ _).alloc hB _).trans h2
  have hz1 : W.heap.size ≤ w'.heap.size := by simp at h3; omega
  clear h2 h3 hb
  go_loopw [0, 5] (fun b i u => ∃ k : Nat, k ≤ s.length ∧ i = vi k ∧ BytesB B u b (l ++ (s.length : Int) :: bi (s.take k)) ∧ Below B W u ∧ W.heap.size ≤ u.heap.size) (fun _ i _ => s.length - (intOf i).toNat)
  case atStart => exact ⟨0, Nat.zero_le _, rfl, by simpa [bi] using h1, hB1, hz1⟩
  case round =>
    obtain ⟨k, hk, rfl, hb, hb1, hb2⟩ := hrel
    clear h1 hB1 hz1
    by_cases hlt : k < s.length
    · have hts : Hid (bi (s.take (k + 1)) = bi (s.take k) ++ [(s[k].toNat : Int)]) := take_snoc' s k hlt
      have hln : (bi (s.take k)).length ≤ 255 := by rw [bi_length]; simp; omega
      go_wp2_with (first | (at_builtin; refine wp_appB rfl _ _ rfl [(s[k].toNat : Int)] rfl rfl (at_new rfl) rfl (hb.alloc _) (by simp; omega) (Nat.zero_lt_succ _) (by simp; omega) ?_; intro v2 w2 g1 g2 g3))
      go_roundw
      case rel => exact ⟨k + 1, by omega, by go_num, by rw [hts.out]; simpa using g1, (hb1.alloc (by omega) _).trans g2, by simp at g3; omega⟩
      case measure => simp [intOf]; omega
    · go_wp2
      go_ret
      exact ⟨_, rfl, by rw [List.take_of_length_le (by omega)] at hb; exact hb, hb1, hb2⟩

def beN (l : Bs) (p : Nat) : Nat → Int
  | 0 => 0
  | k + 1 => beN l p k * 256 + ((l.getD (p + k) 0).toNat : Int)
theorem beN_bd (l : Bs) (p : Nat) : ∀ k, 0 ≤ beN l p k ∧ beN l p k < 256 ^ k
  | 0 => by simp [beN]
  | k + 1 => by
    have := beN_bd l p k
    have h2 : (l.getD (p + k) 0).toNat < 256 := (l.getD (p + k) 0).toNat_lt
    simp only [beN]
    rw [Int.pow_succ]
    omega
theorem or_byte (a : Int) (x : UInt8) (h0 : 0 ≤ a) (h1 : a < 72057594037927936) : bits .or .u64 (a * 256) (IntKind.u64.wrap (x.toNat : Int)) = a * 256 + (x.toNat : Int) := by
  obtain ⟨A, rfl⟩ := Int.eq_ofNat_of_zero_le h0
  have hx : x.toNat < 256 := x.toNat_lt
  have e1 : IntKind.u64.wrap (x.toNat : Int) = (x.toNat : Int) := IntWalk.u64_in _ ⟨by omega, by omega⟩
  rw [e1]
  have e2 : ((A : Int) * 256) = ((A * 256 : Nat) : Int) := by omega
  rw [e2, bits_or_u64_nat _ _ (by omega) (by omega)]
  have := Nat.shiftLeft_add_eq_or_of_lt (i := 8) hx A
  rw [Nat.shiftLeft_eq, show 2 ^ 8 = 256 from rfl] at this
  omega
theorem pow256 {k : Nat} (h : k ≤ 7) : (256 : Int) ^ k ≤ 72057594037927936 := by
  obtain rfl | rfl | rfl | rfl | rfl | rfl | rfl | rfl : k = 0 ∨ k = 1 ∨ k = 2 ∨ k = 3 ∨ k = 4 ∨ k = 5 ∨ k = 6 ∨ k = 7 := by omega
  all_goals decide
def getU64 (l : Bs) (p : Int) : Int := if p < 0 ∨ (l.length : Int) - 8 < p then -1 else if maxT < beN l p.toNat 8 then -1 else beN l p.toNat 8
theorem c184 (W : World) (l : Bs) (hl : l.length ≤ 1000) (p : Int) (hp : p < 30000) (hp' : -30000 < p) :
    Calls Tryz.prog 184 #[.string (ByteArray.mk l.toArray), vi p] W fun r w' => r = .returned (vi (getU64 l p)) ∧ w' = W := by
  by_cases h : p < 0 ∨ (l.length : Int) - 8 < p
  · have hk : Hid (getU64 l p = -1) := by unfold Hid getU64; rw [if_pos h]
    rcases h with h | h
    · go_enter Tryz.func184, Tryz.ntmps184
      go_wp2
      go_ret
      exact ⟨ret_int hk.out.symm, rfl⟩
    · go_enter Tryz.func184, Tryz.ntmps184
      go_wp2
      all_goals
        go_ret
        exact ⟨ret_int hk.out.symm, rfl⟩
  · obtain ⟨q, rfl⟩ := Int.eq_ofNat_of_zero_le (show 0 ≤ p by omega)
    have hq : q + 8 ≤ l.length := by omega
    have hq2 : (q : Int) ≤ (l.length : Int) - 8 := by omega
    clear h hp hp'
    go_enter Tryz.func184, Tryz.ntmps184
    go_wp2_with fail
    go_loop [5, 6] (fun v i => ∃ k : Nat, k ≤ 8 ∧ i = vi k ∧ v = .int .u64 (beN l q k)) (fun _ i => 8 - (intOf i).toNat)
    case atStart => exact ⟨0, by omega, rfl, rfl⟩
    case round =>
      obtain ⟨k, hk, rfl, rfl⟩ := hrel
      by_cases hlt : k < 8
      · obtain ⟨b0, b1⟩ := beN_bd l q k
        have b2 : beN l q k < 72057594037927936 := by
          have := pow256 (k := k) (by omega)
          omega
        clear b1
        have hi : q + k < l.length := by omega
        have hb : Hid (beN l q (k + 1) = beN l q k * 256 + (l[q + k].toNat : Int)) := by unfold Hid; simp [beN, List.getD_eq_getElem?_getD, hi]
        have ho : Hid (bits .or .u64 (beN l q k * 256) (IntKind.u64.wrap (l[q + k].toNat : Int)) = beN l q k * 256 + (l[q + k].toNat : Int)) := or_byte _ _ b0 b2
        go_wp2_with fail
        go_round
        case rel => exact ⟨k + 1, by omega, by go_num, congrArg (Value.int .u64) (ho.out.trans hb.out.symm)⟩
        case measure => simp [intOf]; omega
      · obtain rfl : k = 8 := by omega
        obtain ⟨b0, b1⟩ := beN_bd l q 8
        clear b1
        have hg : Hid (getU64 l q = if maxT < beN l q 8 then -1 else beN l q 8) := by
          unfold Hid getU64; rw [if_neg (by omega)]; simp
        by_cases hm : beN l q 8 ≤ 72057594037927936
        · go_wp2_with fail
          go_ret
          refine ⟨ret_int ?_, rfl⟩
          rw [hg.out, if_neg (by unfold maxT; omega)]
        · go_wp2_with fail
          go_ret
          refine ⟨ret_int ?_, rfl⟩
          rw [hg.out, if_pos (by unfold maxT; omega)]
end Go.Proofs.Qxb6500990aGreat
