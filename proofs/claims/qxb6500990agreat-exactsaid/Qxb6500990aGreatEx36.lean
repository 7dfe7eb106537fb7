/- the row -/
import Derived.Test.Qxb6500990aGreatRows
import Derived.Test.Qxb6500990aGreatEx10
import Derived.Test.Qxb6500990aGreatEx12
import Derived.ProofKit
import Derived.Deep.Slices
set_option linter.unusedVariables false
set_option linter.unusedSimpArgs false
namespace Go.Tw
open Go Go.Proofs Go.Proofs.Qxb6500990aGreat
theorem flat_len6 (l : List OpR) : (opsC l).length = l.length * 6 := by
  induction l with
  | nil => simp [opsC]
  | cons x l ih => unfold opsC at *; rw [List.flatMap_cons, List.length_append, ih, List.length_cons, Nat.succ_mul]; simp [OpR.cells]; omega
theorem flat_get6 : ∀ (l : List OpR) (i : Nat) (x : OpR), l[i]? = some x → ∀ j, j < 6 → (opsC l)[i * 6 + j]? = x.cells.toList[j]?
  | [], i, x, h, _, _ => by simp at h
  | y :: l, 0, x, h, j, hj => by
    simp at h; subst h
    unfold opsC
    simp only [List.flatMap_cons, Nat.zero_mul, Nat.zero_add]
    rw [List.getElem?_append_left (by simp [OpR.cells]; exact hj)]
  | y :: l, i + 1, x, h, j, hj => by
    have h1 := flat_get6 l i x (by simpa using h) j hj
    have e : (i + 1) * 6 + j - 6 = i * 6 + j := by omega
    unfold opsC at *
    rw [List.flatMap_cons, List.getElem?_append_right (by simp [OpR.cells]; omega)]
    have e2 : y.cells.toList.length = 6 := rfl
    rw [e2, e]
    exact h1
theorem inB_of_cell {w : World} {g o : Nat} (h : w.cell? ⟨g, o, none⟩ ≠ none) : w.inB g := by
  unfold World.inB
  rcases Nat.lt_or_ge g w.heap.size with h1 | h1
  · exact h1
  · exfalso
    apply h
    unfold World.cell?
    simp [Array.getElem?_eq_none h1]
end Go.Tw
namespace Go.Proofs.Qxb6500990aGreat
set_option maxRecDepth 100000
set_option maxHeartbeats 1600000
open Go.ChangeShapes Go.WideShapes Go.ChangeAt Go.RowKit Go Go.Tw
theorem ru22 : Tryz.prog.underlying 22 = some (.slice 26) := by kernel_rfl
theorem ru3 : Tryz.prog.underlying 3 = some (.int .i64) := by kernel_rfl
theorem ru9 : Tryz.prog.underlying 9 = some .string := by kernel_rfl
theorem ru4 : Tryz.prog.underlying 4 = some .bool := by kernel_rfl
theorem rce26 : Tryz.prog.cellsOf 26 = 6 := by kernel_rfl
theorem rce3 : Tryz.prog.cellsOf 3 = 1 := by kernel_rfl
theorem rce9 : Tryz.prog.cellsOf 9 = 1 := by kernel_rfl
theorem rowOwn : ownKnob Tryz.prog.godebug = none := by kernel_rfl
theorem rowLaid : laidOutB Tryz.prog = true := by kernel_rfl
section
variable {H : Type} {enc : TypeId × Value → H} {w : World} {base : Nat} {spare : Nat → Bool} {held : Bool}
theorem open_op {fuel : Nat} {cs : List Value} {x : DataW H × List MemPlace} (h : DataW.trod enc Tryz.prog w base spare held fuel 26 cs = some x) : ∃ o : OpR, cs = o.cells.toList ∧ OpWf o := by
  obtain ⟨xs, n, rfl, rfl, hl, hxl, hf⟩ := DataW.trod_struct Tryz.underlying26 h
  rw [rce26] at hl
  obtain ⟨y0, y1, y2, y3, y4, y5, rfl⟩ : ∃ y0 y1 y2 y3 y4 y5, xs = [y0, y1, y2, y3, y4, y5] := by
    match xs, hxl with
    | [y0, y1, y2, y3, y4, y5], _ => exact ⟨_, _, _, _, _, _, rfl⟩
  obtain ⟨v0, v1, v2, v3, v4, v5, rfl⟩ : ∃ y0 y1 y2 y3 y4 y5, cs = [y0, y1, y2, y3, y4, y5] := by
    match cs, hl with
    | [y0, y1, y2, y3, y4, y5], _ => exact ⟨_, _, _, _, _, _, rfl⟩
  have f0 : DataW.trod enc Tryz.prog w base spare held n 3 [v0] = some y0 := hf 0 _ rfl
  have f1 : DataW.trod enc Tryz.prog w base spare held n 3 [v1] = some y1 := hf 1 _ rfl
  have f2 : DataW.trod enc Tryz.prog w base spare held n 3 [v2] = some y2 := hf 2 _ rfl
  have f3 : DataW.trod enc Tryz.prog w base spare held n 3 [v3] = some y3 := hf 3 _ rfl
  have f4 : DataW.trod enc Tryz.prog w base spare held n 9 [v4] = some y4 := hf 4 _ rfl
  have f5 : DataW.trod enc Tryz.prog w base spare held n 9 [v5] = some y5 := hf 5 _ rfl
  · skip
    obtain ⟨k0, e0, -, -⟩ := DataW.trod_int ru3 f0
    obtain ⟨k1, e1, -, w1⟩ := DataW.trod_int ru3 f1
    obtain ⟨k2, e2, -, w2⟩ := DataW.trod_int ru3 f2
    obtain ⟨k3, e3, -, w3⟩ := DataW.trod_int ru3 f3
    obtain ⟨s4, e4, -, -⟩ := DataW.trod_string ru9 f4
    obtain ⟨s5, e5, -, w5⟩ := DataW.trod_string ru9 f5
    simp only [List.cons.injEq, and_true] at e0 e1 e2 e3 e4 e5
    subst e0 e1 e2 e3 e4 e5
    have bnd : ∀ k : Int, (Lit.int .i64 k).wf = true → -9223372036854775808 ≤ k ∧ k < 9223372036854775808 := fun k hk => by
      have e1 : IntKind.i64.min = -9223372036854775808 := rfl
      have e2 : IntKind.i64.max = 9223372036854775807 := rfl
      simp [Lit.wf, e1, e2] at hk
      omega
    refine ⟨⟨k0, k1, k2, k3, s4.data.toList, s5.data.toList⟩, rfl, bnd _ w1, bnd _ w2, bnd _ w3, ?_⟩
    have : s5.data.toList.length = s5.size := rfl
    show s5.data.toList.length < _
    unfold maxLen at w5
    omega
theorem open_ops {fuel : Nat} {v : Value} {x : DataW H × List MemPlace} (h : DataW.trod enc Tryz.prog w base spare held fuel 22 [v] = some x) :
    ∃ (ad : Option Addr) (ops : List OpR) (cap : Nat), v = .slice ad ops.length cap ∧ RdO w (.slice ad ops.length cap) ops.length (opsC ops) ∧ ∀ o ∈ ops, OpWf o := by
  rcases Go.Deep.open_slice ru22 h with ⟨e, -⟩ | ⟨a, len, cap, m, n, D, Pl, e, hb, hl, hm, hmm, -, hx⟩
  · simp only [List.cons.injEq, and_true] at e
    subst e
    exact ⟨none, [], 0, rfl, ⟨_, _, rfl, fun f => absurd rfl f⟩, by simp⟩
  · simp only [List.cons.injEq, and_true] at e
    subst e
    have hlm : len ≤ m := by rw [hmm]; split <;> omega
    have each : ∀ i, i < len → ∃ o : OpR, OpWf o ∧ ∀ j, j < 6 → w.cell? (a.add (i * 6 + j)) = o.cells.toList[j]? := fun i hi => by
      obtain ⟨cs', h1, h2⟩ := hx i (by omega)
      rw [rce26] at h1
      obtain ⟨_, hlen, hcell⟩ := World.cells?_some h1
      obtain ⟨o, e, wf⟩ := open_op h2
      refine ⟨o, wf, fun j hj => ?_⟩
      have := hcell j (by omega)
      rw [← e, ← this]
      congr 1
      unfold Addr.add
      by_cases h1 : i * 6 = 0 <;> by_cases h2 : j = 0 <;> simp [h1, h2, Nat.add_assoc]
    obtain ⟨f, hf⟩ : ∃ f : Nat → OpR, ∀ i, i < len → OpWf (f i) ∧ ∀ j, j < 6 → w.cell? (a.add (i * 6 + j)) = (f i).cells.toList[j]? := by
      refine ⟨fun i => if hi : i < len then (each i hi).choose else ⟨0, 0, 0, 0, [], []⟩, fun i hi => ?_⟩
      simp only [hi, dif_pos]
      exact (each i hi).choose_spec
    refine ⟨some a, (List.range len).map f, cap, by simp, ⟨_, _, rfl, fun hne => ?_⟩, fun o ho => ?_⟩
    · have hl0 : 0 < len := by
        rcases Nat.eq_zero_or_pos len with e | e
        · subst e; exact absurd rfl hne
        · exact e
      obtain ⟨g, so, spot⟩ := a
      have c0 := (hf 0 hl0).2 0 (by omega)
      have hspot : spot = none := by simpa [Addr.add] using World.cell?_spot c0
      subst hspot
      refine ⟨g, so, rfl, ?_, fun k u hu => ?_⟩
      · have c1 : w.cell? ⟨g, so, none⟩ ≠ none := by
          have e1 : (Addr.mk g so none).add (0 * 6 + 0) = ⟨g, so, none⟩ := by simp [Addr.add]
          rw [e1] at c0
          rw [c0]
          exact nofun
        exact inB_of_cell c1
      · have hlen : (opsC ((List.range len).map f)).length = len * 6 := by
          have := flat_len6 ((List.range len).map f)
          simpa using this
        have hk : k < len * 6 := by
          have := (List.getElem?_eq_some_iff.1 hu).1
          omega
        have hi : k / 6 < len := by omega
        have hj : k % 6 < 6 := Nat.mod_lt _ (by omega)
        have hg := flat_get6 ((List.range len).map f) (k / 6) (f (k / 6)) (by simp [hi]) (k % 6) hj
        have ek : k / 6 * 6 + k % 6 = k := by omega
        rw [ek] at hg
        have c1 := (hf _ hi).2 _ hj
        rw [ek, ← hg, hu] at c1
        rw [← c1]
        congr 1
        unfold Addr.add
        by_cases h1 : k = 0
        · subst h1; simp
        · simp [h1]
    · obtain ⟨i, hi, rfl⟩ := List.mem_map.1 ho
      exact (hf i (List.mem_range.1 hi)).1
end
theorem exact_lifted (h3 : ∀ (W : World) (ad : Option Addr) (ops : List OpR) (cap : Nat), RdO W (.slice ad ops.length cap) ops.length (opsC ops) → (∀ o ∈ ops, OpWf o) → Calls Tryz.prog 3 #[.slice ad ops.length cap] W fun r w' => r = .returned (.bool true) ∧ ModP (fun _ => False) W w')
    (os : Os) (started : os.Started) (H : Type) (enc : TypeId × Value → H) :
    ReturnsInHanded {} Tryz.checked os 3 .any (Rows.exactSpec.pre6 enc Tryz.prog Tryz.f3 Rows.exactRow.domain false) (Rows.exactSpec.post enc Tryz.prog Tryz.f3 false true false false) := by
  refine returnsInHanded_of_change (C := Tryz.checked) rowOwn started (by kernel_rfl) Tryz.func3
    (ChangeSpec.witness6 (enc := enc) (C := Tryz.checked) false ⟨#[], #[.slice none 0 0], []⟩ 8 (by kernel_rfl) (by kernel_rfl) (by kernel_rfl) (by kernel_rfl)) ?_
  intro W base args ds gs before hval0 hW hcnd _
  have hval : ∀ (j : Nat) t v, Tryz.f3.params[j]? = some t → args[j]? = some v → Value.okWide Tryz.prog W .any base t v := hval0
  have hW' := hW
  obtain ⟨p, q, hA0, hV, rfl, _, _⟩ := hW
  have hA : DataW.TrodAll enc Tryz.prog W 0 (fun _ => true) true Tryz.f3.params.toList args.toList ds p := hA0
  rw [Tryz.params3] at hA hval
  obtain ⟨v0, d0, rfl, rfl, h0⟩ := trodAll_one hA
  obtain ⟨rfl, rfl⟩ := trodVars_none hV
  obtain ⟨a0, len, cap, rfl⟩ := okWide_slice ru22 (hval 0 22 v0 rfl rfl)
  have h0k := h0
  obtain ⟨fuel, hf⟩ := h0
  clear hA0 hval0
  simp only [List.append_nil] at hW'
  have hlt : ∀ x ∈ p, x.block < W.heap.size := fun x hx => by simpa using hW'.lt x hx
  have hargs : ∀ (W' : World), Below W.heap.size W W' → DataW.Trod enc Tryz.prog W' 0 (fun b => decide (b < W.heap.size)) true 22 (.slice a0 len cap) d0 p :=
    fun W' hn => Below.trod rowLaid (by kernel_rfl) (of_decide_eq_true (by kernel_rfl)) h0k hn hlt
  obtain ⟨ad, ops, cap', e, rd, wf⟩ := open_ops (by simpa [Value.cells] using hf)
  injection e with e1 e2 e3
  subst e1 e2 e3
  refine (h3 W a0 ops cap rd wf).mono fun e W' ⟨he, m⟩ => ?_
  subst he
  have hb : Below W.heap.size W W' := m.toMod.below
  refine ⟨_, rfl, _, _, _, [], _, [], hW', ?_, trodAll_mk1 (hargs _ hb), rfl, hb.frame _, fun h => by cases h⟩
  exact trodAll_mk1 (shut_bool ru4 true)
end Go.Proofs.Qxb6500990aGreat
