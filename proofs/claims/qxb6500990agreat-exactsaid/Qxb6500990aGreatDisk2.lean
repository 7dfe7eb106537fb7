/- package diskm: the rest -/
import Derived.Test.Qxb6500990aGreatOwn
import Derived.Laws.CopyOwn
set_option linter.unusedVariables false
set_option linter.unusedSimpArgs false
namespace Go.Proofs.Qxb6500990aGreat
open Go Go.RowKit Go.Tw
attribute [local go_sem] World.cell?_put_same World.cell?_put_ne World.cell?_put_ne' World.frozen?_put_same World.frozen?_put_ne World.frozen?_put_ne' World.setCell_put_same World.setCell_put_ne World.setCell_put_ne' World.inB_put World.inB_alloc World.inB_drew World.inB_drewN World.inB_new World.inB_setCell World.put_drew World.put_drewN World.q_setCell_drew World.q_setCell_drewN World.q_alloc_drew World.q_alloc_drewN World.put_put_same World.put_put_2 World.size_put World.q_cell?_alloc_old World.q_frozen?_alloc_old World.cell?_alloc_new' World.frozen?_alloc_new' World.q_setCell_alloc_old World.q_setCell_alloc_new World.q_put_alloc_old World.cell?_force_same World.frozen?_force_same World.cell?_force2_fst World.cell?_force2_snd DiskR.g0 DiskR.s0 DiskR.g1 DiskR.s1 DiskR.g2 DiskR.s2
attribute [local go_sem] ba_get ByteArray.extract_mk strs_set take_drop_len
set_option maxHeartbeats 1000000
set_option maxRecDepth 100000
theorem info9 : ∃ i, Tryz.prog.info? 9 = some i ∧ i.zero = some (.string (ByteArray.mk #[])) ∧ i.size = 1 ∧ i.bytes = 16 :=
  ⟨(Tryz.prog.info? 9).getD default, by kernel_rfl, by kernel_rfl, by kernel_rfl, by kernel_rfl⟩
theorem made_str (n : Nat) : madeCells (Value.string (ByteArray.mk #[])).cells n = strs (List.replicate n []) := by
  unfold madeCells strs
  apply Array.ext
  · simp
  · intro i h1 h2
    simp [Value.cells, Nat.mod_one]
def strs0 : Array Value := strs (List.replicate 14 [])
theorem mk83 (w : World) :
    (Instr.makeSlice 83 (.int .i64 14) (.int .i64 14)).run Tryz.prog w = .ok (.slice (some ⟨w.heap.size, 0, none⟩) 14 14) (w.alloc (.cells strs0 9)) := by
  obtain ⟨i, hi, hz, hsz, hby⟩ := info9
  rw [run_make w 83 9 i (.string (ByteArray.mk #[])) Tryz.underlying83 hi hz .i64 .i64 14 14 (by omega) (by omega) (by rw [hby]; decide) (by decide), hsz, Nat.mul_one, show (14 : Int).toNat = 14 from rfl, made_str]
  rfl
attribute [local go_sem] mk83
theorem setRow_alloc_new (w : World) (c c' : Array Value) (T : TypeId) : (w.alloc (.cells c T (0, 0))).setRow w.heap.size c' = w.alloc (.cells c' T (0, 0)) := by
  simp only [World.setRow, World.alloc]
  rw [push_modify_new]
theorem c30 {W : World} {g : Nat} {l : List Bs} (h : W.At g (strs l) 9) (hl : l.length = 14) :
    Calls Tryz.prog 30 #[.slice (some ⟨g, 0, none⟩) 14 14] W fun r w' => r = .returned (.slice (some ⟨W.heap.size, 0, none⟩) 14 14) ∧ w' = W.alloc (.cells (strs l) 9 (0, 0)) := by
  have hz : (strs l).toList.length = 14 := by simp [strs, hl]
  have hrun := run_copy_row (P := Tryz.prog) (W.alloc (.cells strs0 9)) 83 83 3 9 W.heap.size 0 14 14 ⟨g, 0, none⟩ 14 14 strs0 9 (strs l).toList Tryz.underlying83 (by kernel_rfl) World.At_alloc_new (by rw [hz]; rfl) (by
    intro j v hv
    have hadd : (⟨g, 0, none⟩ : Addr).add j = ⟨g, j, none⟩ := by unfold Addr.add; split <;> simp_all
    rw [hadd, (h.alloc _).cell]
    simpa using hv) (by rw [hz]; decide) (by
    intro v hv
    simp [strs] at hv
    obtain ⟨x, _, rfl⟩ := hv
    rfl)
  rw [hz, setRow_alloc_new] at hrun
  have he : (List.take 0 strs0.toList ++ (strs l).toList ++ List.drop (0 + 14) strs0.toList).toArray = strs l := by
    rw [List.drop_of_length_le (by decide)]; simp
  rw [he] at hrun
  clear he h hl hz
  go_enter Tryz.func30, Tryz.ntmps30
  go_wp2
  go_ret
  exact ⟨rfl, rfl⟩
theorem k30 {W : World} {g : Nat} {l : List Bs} (h : W.At g (strs l) 9) (hl : l.length = 14) :
    Calls Tryz.prog 30 #[.slice (some ⟨g, 0, none⟩) 14 14] W fun r w' => r = .returned (.slice (some ⟨W.heap.size, 0, none⟩) 14 14) ∧ w' = W.alloc (.cells (strs l) 9 (0, 0)) := c30 h hl
/-- Read -/
theorem k115 {W : World} {F : Nat → Prop} {bd : Nat} {D : Dk} (h : DK W F bd D) (b : Nat) (hb : b < 14) :
    Calls Tryz.prog 115 #[vp bd, vi b] W fun r w' => r = .returned (.tuple #[vs (D.now.getD b []), vi 0]) ∧ w' = W := by
  obtain ⟨⟨bd, bn, bm, wr⟩, rfl, ⟨hd, hn, hm, hr, ln, lm, l64, m64, nd, wr32⟩, hF⟩ := h
  have n1 : bd ≠ bn := by simp [DP.fp] at nd; exact nd.1.1
  simp only [] at *
  have hlt : b < D.now.length := by omega
  have hg : (strs D.now)[b]? = some (vs (D.now.getD b [])) := by rw [strs_get D.now b hlt]; simp [hlt]
  generalize D.now.getD b [] = x at *
  have hc : W.cell? ⟨bn, b, none⟩ = some (vs x) := by rw [hn.cell]; exact hg
  have b1 : (b : Int) < 14 := by omega
  clear hr l64 m64 wr32 nd hm hF hg hn
  unfold str14 at *
  obtain ⟨w, rfl, ib⟩ := hd.door
  clear hd
  go_enter Tryz.func115, Tryz.ntmps115
  go_wp2
  go_ret2
  exact ⟨rfl, rfl⟩
theorem k11 {W : World} {F : Nat → Prop} {bd : Nat} {D : Dk} (h : DK W F bd D) :
    Calls Tryz.prog 11 #[vp bd] W fun r w' => r = .returned (vi D.wr.length) ∧ w' = W := by
  obtain ⟨⟨bd, bn, bm, wr⟩, rfl, ⟨hd, hn, hm, hr, ln, lm, l64, m64, nd, wr32⟩, hF⟩ := h
  simp only [] at *
  have hlen : ∃ ad cap, wr = .slice ad D.wr.length cap := by
    rcases hr.2 with ⟨hv, h0⟩ | ⟨g', cap, cur, hv, _, h4, _⟩
    · exact ⟨none, 0, by rw [hv, h0]⟩
    · exact ⟨_, _, hv⟩
  obtain ⟨ad, cap, rfl⟩ := hlen
  clear hr l64 m64 wr32 nd hm hF hn
  obtain ⟨w, rfl, ib⟩ := hd.door
  clear hd
  go_enter Tryz.func11, Tryz.ntmps11
  go_wp2
  go_ret
  exact ⟨rfl, rfl⟩
end Go.Proofs.Qxb6500990aGreat
