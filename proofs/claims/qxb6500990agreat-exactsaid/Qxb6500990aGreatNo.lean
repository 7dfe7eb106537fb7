/- package node: the encoder's block; mix, put -/
import Derived.Test.Qxb6500990aGreatKv20
set_option linter.unusedVariables false
set_option linter.unusedSimpArgs false
namespace Go.Tw
open Go Go.Proofs Go.Proofs.Qxb6500990aGreat Go.RowKit
/-- the encoder's cells: 234 bytes, the cursor, the sum -/
def encC (f : Nat → Int) (n s : Int) : Array Value := ((List.range 234).map (fun i => Value.int .u8 (f i)) ++ [Value.int .i64 n, Value.int .i64 s]).toArray
theorem encC_n (f : Nat → Int) (n s : Int) : (encC f n s)[234]? = some (.int .i64 n) := by simp [encC]
theorem encC_s (f : Nat → Int) (n s : Int) : (encC f n s)[235]? = some (.int .i64 s) := by simp [encC]
theorem encC_i (f : Nat → Int) (n s : Int) (i : Nat) (h : i < 234) : (encC f n s)[i]? = some (.int .u8 (f i)) := by
  simp only [encC, List.getElem?_toArray]
  rw [List.getElem?_append_left (by simpa using h)]
  simp [h]
theorem encC_sn (f : Nat → Int) (n s v : Int) : (encC f n s).setIfInBounds 234 (.int .i64 v) = encC f v s := by
  simp only [encC, List.setIfInBounds_toArray]
  congr 1
theorem encC_ss (f : Nat → Int) (n s v : Int) : (encC f n s).setIfInBounds 235 (.int .i64 v) = encC f n v := by
  simp only [encC, List.setIfInBounds_toArray]
  congr 1
theorem encC_si (f : Nat → Int) (n s : Int) (i : Nat) (h : i < 234) (v : Int) : (encC f n s).setIfInBounds i (.int .u8 v) = encC (upd f i v) n s := by
  simp only [encC, List.setIfInBounds_toArray]
  congr 1
  rw [List.set_append, if_pos (by simpa using h)]
  congr 1
  apply List.ext_getElem (by simp)
  intro j h1 h2
  simp only [List.getElem_set, List.getElem_map, List.getElem_range, upd]
  by_cases e : i = j
  · subst e; simp
  · rw [if_neg e, if_neg (fun x => e x.symm)]
structure EncAt (w : World) (bw : Nat) (l : List Int) : Prop where
  at_ : ∃ f, w.At bw (encC f l.length (sumF l)) 115 ∧ ∀ i (h : i < l.length), f i = l[i]
  n : l.length ≤ 234
  by_ : ∀ x ∈ l, 0 ≤ x ∧ x < 256
/-- some state of the encoder -/
def EncS (w : World) (bw : Nat) : Prop := ∃ f n s, w.At bw (encC f n s) 115 ∧ 0 ≤ n ∧ n ≤ 234 ∧ 0 ≤ s ∧ s ≤ 65535
theorem EncAt.s {w : World} {bw : Nat} {l : List Int} (h : EncAt w bw l) : EncS w bw := by
  obtain ⟨f, h1, -⟩ := h.at_
  have := sumF_bd l
  have := h.n
  exact ⟨f, _, _, h1, by omega, by omega, by omega, by omega⟩
theorem EncS.mod {w w' : World} {F : Nat → Prop} {bw : Nat} (h : EncS w bw) (m : ModP F w w') (hF : ¬ F bw) : EncS w' bw := by
  obtain ⟨f, n, s, h1, h2⟩ := h
  exact ⟨f, n, s, m.at h1 hF, h2⟩
theorem EncAt.mod {w w' : World} {F : Nat → Prop} {bw : Nat} {l : List Int} (h : EncAt w bw l) (m : ModP F w w') (hF : ¬ F bw) : EncAt w' bw l := by
  obtain ⟨f, h1, h2⟩ := h.at_
  exact ⟨⟨f, m.at h1 hF, h2⟩, h.n, h.by_⟩
end Go.Tw
namespace Go.Proofs.Qxb6500990aGreat
open Go Go.RowKit Go.Tw
attribute [local go_sem] World.cell?_put_same World.cell?_put_ne World.cell?_put_ne' World.frozen?_put_same World.frozen?_put_ne World.frozen?_put_ne' World.setCell_put_same World.setCell_put_ne World.setCell_put_ne' World.inB_put World.inB_alloc World.inB_drew World.inB_drewN World.inB_new World.inB_setCell World.put_drew World.put_drewN World.q_setCell_drew World.q_setCell_drewN World.q_alloc_drew World.q_alloc_drewN World.put_put_same World.put_put_2 World.size_put World.q_cell?_alloc_old World.q_frozen?_alloc_old World.cell?_alloc_new' World.frozen?_alloc_new' World.q_setCell_alloc_old World.q_setCell_alloc_new World.q_put_alloc_old World.cell?_force_same World.frozen?_force_same World.cell?_force2_fst World.cell?_force2_snd
attribute [local go_sem] ba_get encC_n encC_s encC_i encC_sn encC_ss encC_si w64_byte
set_option maxHeartbeats 4000000
set_option maxRecDepth 100000
theorem c242 (W : World) (s x : Int) (s0 : 0 ≤ s) (s1 : s < 65536) (x0 : 0 ≤ x) (x1 : x < 256) : Calls Tryz.prog 242 #[vi s, .int .u8 x] W fun r w' => r = .returned (vi ((s * 31 + x + 1) % 65536)) ∧ w' = W := by
  have ha : Hid (bits .and .i64 (s * 31 + x + 1) 65535 = (s * 31 + x + 1) % 65536) := and_ffff _ (by omega) (by omega)
  go_enter Tryz.func242, Tryz.ntmps242
  go_wp2_with fail
  go_ret
  rw [← ha.out]
  exact ⟨rfl, rfl⟩
theorem c266 {W : World} {bw : Nat} {l : List Int} (h : EncAt W bw l) (hl : l.length < 234) {x : Int} (x0 : 0 ≤ x) (x1 : x < 256) : Calls Tryz.prog 266 #[vp bw, .int .u8 x] W fun r w' => r = .returned (.tuple #[]) ∧ EncAt w' bw (l ++ [x]) ∧ ModP (fun k => k = bw) W w' := by
  obtain ⟨⟨f, h1, h2⟩, _, h3⟩ := h
  have sb := sumF_bd l
  have q := hidIt (fun u => c242 u (sumF l) x sb.1 sb.2 x0 x1)
  have fin : Hid (∀ w', w'.At bw (encC (upd f l.length x) ((l.length : Int) + 1) ((sumF l * 31 + x + 1) % 65536)) 115 → EncAt w' bw (l ++ [x])) := by
    intro w' hw
    refine ⟨⟨upd f l.length x, ?_, ?_⟩, by simp; omega, ?_⟩
    · rw [sumF_snoc, List.length_append]; exact hw
    · intro i hi
      rw [List.length_append] at hi
      simp only [List.length_cons, List.length_nil] at hi
      rw [List.getElem_append]
      unfold upd
      by_cases e : i = l.length
      · subst e; simp
      · rw [if_neg e, dif_pos (by omega)]; exact h2 i (by omega)
    · intro y hy
      rcases List.mem_append.1 hy with hy | hy
      · exact h3 y hy
      · simp at hy; subst hy; exact ⟨x0, x1⟩
  clear h2 h3
  generalize sumF l = sm at *
  generalize l.length = n at *
  have n1 : (n : Int) < 234 := by omega
  obtain ⟨y, rfl, ib⟩ := h1.door
  clear h1
  go_enter Tryz.func266, Tryz.ntmps266
  go_wp2_with fail
  refine Ord.region1 [] [0, 1, 2, 3, 4, 5, 6, 7, 8] [9] (by kernel_rfl) (by kernel_rfl) (fun _ _ d _ _ h => by cases d <;> exact h) ?_
  simp only [Ord.pickO, Ord.nth]
  refine wpQuiet_nil ?_
  repeat (go_big_quiet_step (fail))
  refine wpQuiet_nil ?_
  go_wp2_with (first
    | (go_at_call 242; refine (q.out _).mono ?_; rintro _ w1 ⟨rfl, rfl⟩))
  go_end0
  exact ⟨rfl, fin.out _ (by repeat (first | assumption | (with_reducible refine World.At_drew.2 ?_) | (with_reducible refine (World.At_drewN _).2 ?_) | (with_reducible exact World.At_put_same (by first | assumption | (simp only [World.inB, World.size_put, World.alloc, World.drew, World.drewN, Array.size_push] at *; omega))) | (with_reducible refine (World.At_put_ne' (by first | assumption | (exact Ne.symm (by assumption)) | (simp only [World.inB, World.size_put] at *; omega))).2 ?_) | (with_reducible exact World.At_alloc_new) | (with_reducible exact at_new (by first | rfl | (simp [World.size_put]; done) | (simp [World.size_put]; omega))) | (with_reducible refine World.At.alloc ?_ _))), ModP.fromPut (by repeat (first | assumption | exact ModP.refl _ _ | refine ModP.fromPut ?_ (by assumption) | apply ModP.alloc | apply ModP.drew | apply ModP.drewN | refine ModP.put ?_ (by first | (left; assumption) | (left; rfl) | (right; simp only [World.inB, World.size_put] at *; omega)) _ _)) rfl⟩
end Go.Proofs.Qxb6500990aGreat
