/- package api: EncodeCmd, DecodeCmd -/
import Derived.Test.Qxb6500990aGreatApi3
set_option linter.unusedVariables false
set_option linter.unusedSimpArgs false
namespace Go.Proofs.Qxb6500990aGreat
open Go Go.RowKit Go.Tw
attribute [local go_sem] World.cell?_put_same World.cell?_put_ne World.cell?_put_ne' World.frozen?_put_same World.frozen?_put_ne World.frozen?_put_ne' World.setCell_put_same World.setCell_put_ne World.setCell_put_ne' World.inB_put World.inB_alloc World.inB_drew World.inB_drewN World.inB_new World.inB_setCell World.put_drew World.put_drewN World.q_setCell_drew World.q_setCell_drewN World.q_alloc_drew World.q_alloc_drewN World.put_put_same World.put_put_2 World.size_put World.q_cell?_alloc_old World.q_frozen?_alloc_old World.cell?_alloc_new' World.frozen?_alloc_new' World.q_setCell_alloc_old World.q_setCell_alloc_new World.q_put_alloc_old Cmd.g0 Cmd.s0 Cmd.g1 Cmd.s1 Cmd.g2 Cmd.s2 Cmd.g3 Cmd.s3 Cmd.g4 Cmd.s4 Cmd.g5 Cmd.s5
attribute [local go_sem] ba_get w64_byte ByteArray.extract_mk
set_option maxHeartbeats 400000
set_option maxRecDepth 100000
/-- n zero bytes -/
def zb (n : Nat) : Array Value := Array.replicate n (.int .u8 0)
theorem zb_size (n : Nat) : (zb n).size = n := by simp [zb]
theorem made_zb (n : Nat) : madeCells (Value.int .u8 0).cells n = zb n := by
  unfold madeCells zb
  apply Array.ext
  · simp
  · intro i h1 h2
    simp [Value.cells, Nat.mod_one]
theorem mk127 (w : World) (l c : Int) (h0 : 0 ≤ l) (h1 : l ≤ c) (h2 : c ≤ 10000) :
    (Instr.makeSlice 127 (.int .i64 l) (.int .i64 c)).run Tryz.prog w = .ok (.slice (some ⟨w.heap.size, 0, none⟩) l.toNat c.toNat) (w.alloc (.cells (zb c.toNat) 5)) := by
  obtain ⟨i, hi, hz, hsz, hby⟩ := info5
  rw [run_make w 127 5 i (.int .u8 0) Tryz.underlying127 hi hz .i64 .i64 l c h0 h1 (by rw [hby]; omega) (by omega), hsz, Nat.mul_one, made_zb]
attribute [local go_sem] mk127
theorem cmdOK_bounds {c : Cmd} (h : cmdOK c = true) : 1 ≤ c.op ∧ c.op ≤ 4 ∧ 0 ≤ c.client ∧ c.client < 3 ∧ 1 ≤ c.seq ∧ c.seq ≤ maxT ∧ 1 ≤ c.key.length ∧ c.key.length ≤ 2 ∧ c.val.length ≤ 3 ∧ c.old.length ≤ 3 := by
  simp only [cmdOK, decide_eq_true_eq] at h
  omega
theorem below_at {B : Nat} {w w' : World} (h : Below B w w') {b : Nat} {c : Array Value} {T : TypeId} (ha : w.At b c T) (hb : b < B) : w'.At b c T := by
  unfold World.At at *; rw [h.block b hb]; exact ha
theorem be8_len (n : Int) : (be8 n).length = 8 := rfl
theorem c94 (W : World) (c : Cmd) (ok : cmdOK c = true) : Calls Tryz.prog 94 #[.agg c.cells] W fun r w' => r = .returned (vs (encCmd c)) ∧ Mod [] W w' := by
  obtain ⟨o0, o1, k0, k1, s0, s1, l0, l1, l2, l3⟩ := cmdOK_bounds ok
  have Hok : Hid (cmdOK c = true) := ok
  clear ok
  go_enter Tryz.func94, Tryz.ntmps94
  go_wp2_with (first
    | (go_at_call 93; refine (c93 _ _).mono ?_; rintro _ _ ⟨rfl, x, rfl⟩; rw [Hok.out])
    | (at_builtin
       refine wp_appB (B := W.heap.size + 1 + 1) rfl _ _ rfl [c.op, c.client] rfl rfl (at_new (by simp)) rfl ((BytesB.made (c := zb 24) (at_new (by simp)) (Nat.le_refl _) (zb_size _) (by unfold maxLen; omega)).alloc _) (by simp) (Nat.zero_lt_succ _) (by simp) ?_
       intro v1 w1 g1 g2 g3
       have hbox : w1.At W.heap.size c.cells 123 := below_at g2 (((World.At_alloc_new.alloc _).alloc _).alloc _) (by omega)
       have hm : Below W.heap.size W w1 := ((((Below.refl _ _).alloc (Nat.le_refl _) _).alloc (by simp) _).alloc (by simp; omega) _ |>.alloc (by simp; omega) _).trans (g2.mono (by omega))
       have hz : W.heap.size + 1 + 1 ≤ w1.heap.size := by simp at g3; omega
       have hcell := hbox.cell
       clear g2 g3)
    | (go_at_call 140
       refine (c140 g1 hz (by simp) (by omega) s1).mono ?_
       rintro _ w2 ⟨v2, rfl, g4, g5, g6⟩
       have hbox2 := below_at g5 hbox (by omega)
       have hm2 := hm.trans (g5.mono (by omega))
       have hcell2 := hbox2.cell
       clear hcell hbox hm g1 g5))
  refine (c141 g4 (by omega) (by simp [be8_len]) _ (by omega)).mono ?_
  rintro _ w3 ⟨v3, rfl, g7, g8, g9⟩
  have hbox3 := below_at g8 hbox2 (by omega)
  have hm3 := hm2.trans (g8.mono (by omega))
  have hcell3 := hbox3.cell
  clear hcell2 hbox2 hm2 g4 g8
  go_wp2_with fail
  refine (c141 g7 (by omega) (by simp [be8_len, bi_length]; omega) _ (by omega)).mono ?_
  rintro _ w4 ⟨v4, rfl, g10, g11, g12⟩
  have hbox4 := below_at g11 hbox3 (by omega)
  have hm4 := hm3.trans (g11.mono (by omega))
  have hcell4 := hbox4.cell
  clear hcell3 hbox3 hm3 g7 g11
  go_wp2_with fail
  refine (c141 g10 (by omega) (by simp [be8_len, bi_length]; omega) _ (by omega)).mono ?_
  rintro _ w5 ⟨v5, rfl, g13, g14, g15⟩
  have hm5 := hm4.trans (g14.mono (by omega))
  clear hcell4 hbox4 hm4 g10 g14
  go_wp2_with (refine wp_strB rfl _ rfl rfl g13 ?_)
  go_ret
  refine ⟨?_, ⟨hm5.os, hm5.tape, hm5.output, hm5.size, fun k hk _ => hm5.block k hk⟩⟩
  simp [encCmd, List.append_assoc]
end Go.Proofs.Qxb6500990aGreat
