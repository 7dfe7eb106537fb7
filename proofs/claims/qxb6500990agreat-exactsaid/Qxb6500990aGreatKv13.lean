/- package kv: appendStr; PutU64 once more: blocks of other types stay as they are -/
import Derived.Test.Qxb6500990aGreatKv12
set_option linter.unusedVariables false
set_option linter.unusedSimpArgs false
namespace Go.Tw
open Go Go.RowKit Go.Proofs
/-- blocks that hold no bytes are as they were -/
def Kp (w w' : World) : Prop := ∀ x c T, T ≠ 5 → w.At x c T → w'.At x c T
theorem Kp.refl (w : World) : Kp w w := fun _ _ _ _ h => h
theorem Kp.trans {w w1 w2 : World} (h1 : Kp w w1) (h2 : Kp w1 w2) : Kp w w2 := fun x c T hT h => h2 x c T hT (h1 x c T hT h)
theorem Kp.alloc {w w1 : World} (h1 : Kp w w1) (ob : Obj) : Kp w (w1.alloc ob) := fun x c T hT h => World.At.alloc (h1 x c T hT h) _
theorem Kp.mod {w w1 w2 : World} (h1 : Kp w w1) (m : ModP (fun _ => False) w1 w2) : Kp w w2 := fun x c T hT h => m.at (h1 x c T hT h) (fun f => f)
theorem wp_appK {ops : Array Oper} {rest : List Oper} {o : Oper} {a : Act} {Q : Exit → Act → World → Prop} (hg : o.guard = none) (s x : Operand)
    (ho : o.op = .call { callee := .builtin .append, args := #[s, x], argTypes := #[127, 127] }) {B : Nat} {v : Value} {l : List Int} {w : World} {g m : Nat} (news : List Int)
    (hs : a.eval s = v) (hx : a.eval x = .slice (some ⟨g, 0, none⟩) m m) (hnews : w.At g (news.map (Value.int .u8)).toArray 5) (hm : news.length = m) (hb : BytesB B w v l) (hB : B ≤ w.heap.size)
    (hne : 0 < m) (hlen : l.length + m ≤ 100000000)
    (h : ∀ v' w', BytesB B w' v' (l ++ news) → Below B w w' → w.heap.size ≤ w'.heap.size → Kp w w' → wpList Tryz.prog ops Q rest (a.put o.dst v') w') : wpList Tryz.prog ops Q (o :: rest) a w := by
  obtain ⟨i, hi, hz, hsz, hby⟩ := info5
  subst hm
  refine wpList_append_lies w hg s x 127 ho B 5 i (.int .u8 0) 1 1 Tryz.underlying127 hi hz hsz hby rfl (by decide) v l.length (l.map (Value.int .u8)) hs hb ⟨g, 0, none⟩ news.length news.length (news.map (Value.int .u8)) hx (by simp) ?_ ?_ hne (by unfold maxLen; omega) (by omega) hB w.heap.size rfl ?_
  · intro j u hu
    exact World.news_of_block hnews j u hu
  · intro u hu
    obtain ⟨n, _, rfl⟩ := List.mem_map.1 hu
    rfl
  · intro g' cap w' h1 h2 h3 h4
    refine h _ _ ?_ (grown_below h2 (fun g'' hg'' => hb.block hg'') hB) h2.size ?_
    · unfold BytesB
      rw [List.length_append, List.map_append]
      exact h1
    · intro x c T hT ha
      have := h2.block x ha.inB (fun e => ownsRow_neT hb ha hT e.symm rfl)
      unfold World.At at *
      rw [this]; exact ha
end Go.Tw
namespace Go.Proofs.Qxb6500990aGreat
open Go Go.RowKit Go.Tw
attribute [local go_sem] World.cell?_put_same World.cell?_put_ne World.cell?_put_ne' World.frozen?_put_same World.frozen?_put_ne World.frozen?_put_ne' World.setCell_put_same World.setCell_put_ne World.setCell_put_ne' World.inB_put World.inB_alloc World.inB_drew World.inB_drewN World.inB_new World.inB_setCell World.put_drew World.put_drewN World.q_setCell_drew World.q_setCell_drewN World.q_alloc_drew World.q_alloc_drewN World.put_put_same World.put_put_2 World.size_put World.q_cell?_alloc_old World.q_frozen?_alloc_old World.cell?_alloc_new' World.frozen?_alloc_new' World.q_setCell_alloc_old World.q_setCell_alloc_new World.q_put_alloc_old
set_option maxHeartbeats 400000
set_option maxRecDepth 100000
theorem k140 {W : World} {B : Nat} {v : Value} {l : List Int} (hb : BytesB B W v l) (hB : B ≤ W.heap.size) (hl : l.length ≤ 1000) {n : Int} (h0 : 0 ≤ n) (h1 : n ≤ maxT) :
    Calls Tryz.prog 140 #[v, vi n] W fun r w' => ∃ v', r = .returned v' ∧ BytesB B w' v' (l ++ be8 n) ∧ Below B W w' ∧ W.heap.size ≤ w'.heap.size ∧ Kp W w' := by
  unfold maxT at h1
  go_enter Tryz.func140, Tryz.ntmps140
  go_wp2_with (first | (at_builtin; refine wp_appK rfl _ _ rfl (be8 n) rfl rfl (at_new rfl) rfl (hb.alloc _) (by simp; omega) (Nat.zero_lt_succ _) (by simp [be8]; omega) ?_; intro v' w' h1 h2 h3 h4))
  go_ret
  exact ⟨_, rfl, h1, ((Below.refl _ _).alloc hB _).trans h2, by simp at h3; omega, ((Kp.refl _).alloc _).trans h4⟩
theorem c260 {W : World} {B : Nat} {v : Value} {l : List Int} (hb : BytesB B W v l) (hB : B ≤ W.heap.size) (hl : l.length ≤ 1000) (s : Bs) (hs : s.length ≤ 255) :
    Calls Tryz.prog 260 #[v, .string (ByteArray.mk s.toArray)] W fun r w' => ∃ v', r = .returned v' ∧ BytesB B w' v' (l ++ (s.length : Int) :: bi s) ∧ Below B W w' ∧ W.heap.size ≤ w'.heap.size ∧ Kp W w' := by
  go_enter Tryz.func260, Tryz.ntmps260
  go_wp2_with (first | (at_builtin; refine wp_appK rfl _ _ rfl [(s.length : Int)] rfl rfl (at_new rfl) rfl (hb.alloc _) (by simp; omega) (Nat.zero_lt_succ _) (by simp; omega) ?_; intro v' w' h1 h2 h3 h4))
  have hB1 : Below B W w' := ((Below.refl _ _).alloc hB _).trans h2
  have hz1 : W.heap.size ≤ w'.heap.size := by simp at h3; omega
  have hk1 := hidIt (((Kp.refl W).alloc _).trans h4)
  clear h2 h3 hb h4
  go_loopw [0, 5] (fun b i u => ∃ k : Nat, k ≤ s.length ∧ i = vi k ∧ BytesB B u b (l ++ (s.length : Int) :: bi (s.take k)) ∧ Below B W u ∧ W.heap.size ≤ u.heap.size ∧ Hid (Kp W u)) (fun _ i _ => s.length - (intOf i).toNat)
  case atStart => exact ⟨0, Nat.zero_le _, rfl, by simpa [bi] using h1, hB1, hz1, hk1⟩
  case round =>
    obtain ⟨k, hk, rfl, hb, hb1, hb2, hb3⟩ := hrel
    clear h1 hB1 hz1 hk1
    by_cases hlt : k < s.length
    · have hts : Hid (bi (s.take (k + 1)) = bi (s.take k) ++ [(s[k].toNat : Int)]) := take_snoc' s k hlt
      have hln : (bi (s.take k)).length ≤ 255 := by rw [bi_length]; simp; omega
      go_wp2_with (first | (at_builtin; refine wp_appK rfl _ _ rfl [(s[k].toNat : Int)] rfl rfl (at_new rfl) rfl (hb.alloc _) (by simp; omega) (Nat.zero_lt_succ _) (by simp; omega) ?_; intro v2 w2 g1 g2 g3 g4; have G4 := hidIt ((hb3.out.alloc _).trans g4); clear g4))
      go_roundw
      case rel => exact ⟨k + 1, by omega, by go_num, by rw [hts.out]; simpa using g1, (hb1.alloc (by omega) _).trans g2, by simp at g3; omega, G4⟩
      case measure => simp [intOf]; omega
    · go_wp2
      go_ret
      exact ⟨_, rfl, by rw [List.take_of_length_le (by omega)] at hb; exact hb, hb1, hb2, hb3.out⟩
end Go.Proofs.Qxb6500990aGreat
