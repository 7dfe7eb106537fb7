/- Slices that are grown by append, in general -/
import Derived.Test.Qxb6500990aGreatDisk3
import Derived.Lib.ConvBytes
set_option linter.unusedVariables false
set_option linter.unusedSimpArgs false
namespace Go.Tw
open Go Go.Proofs Go.Proofs.Qxb6500990aGreat Go.RowKit
/-- T is the type of slices of e; an e has sz cells, by bytes -/
structure RowK (T e sz byt : Nat) : Prop where
  u : Tryz.prog.underlying T = some (.slice e)
  i : ∃ i z, Tryz.prog.info? e = some i ∧ i.zero = some z ∧ i.size = sz ∧ i.bytes = byt ∧ z.cells.size = sz
  pos : 0 < sz
theorem op_app {T e sz byt : Nat} (R : RowK T e sz byt) {o : Oper} {a : Act} {K : Act → World → Prop} {Q : Exit → Act → World → Prop} {w : World} (s x : Operand)
    (ho : o.op = .call { callee := .builtin .append, args := #[s, x], argTypes := #[T, T] }) {B : Nat} {v : Value} {n : Nat} {xs : List Value} {g : Nat} (news : List Value)
    (hs : a.eval s = v) (hx : a.eval x = .slice (some ⟨g, 0, none⟩) 1 1) (hnews : w.At g news.toArray e) (hl : news.length = sz) (h1 : ∀ u ∈ news, u.oneCell' = true) (hb : w.ownsRow B e sz v n xs) (hB : B ≤ w.heap.size)
    (hlen : n < maxLen) (hby : (n + 1) * byt ≤ 140737488355328)
    (hk : ∀ g' cap w', w'.ownsRow B e sz (.slice (some ⟨g', 0, none⟩) (n + 1) cap) (n + 1) (xs ++ news) → Mod v.ownBlock.toList w w' → (v.ownBlock = some g' ∨ g' = w.heap.size) → g' < w'.heap.size → K (a.put o.dst (.slice (some ⟨g', 0, none⟩) (n + 1) cap)) w') : o.wp Tryz.prog a w K Q := by
  obtain ⟨i, z, hi, hz, hsz, hbyt, hzs⟩ := R.i
  refine wp_append_lies w s x T ho B e i z sz byt R.u hi hz hsz hbyt hzs R.pos v n xs hs hb ⟨g, 0, none⟩ 1 1 news hx (by omega) ?_ h1 (by decide) (by omega) hby hB w.heap.size rfl ?_
  · intro j u hu
    exact World.news_of_block hnews j u hu
  · intro g' cap w' h1 h2 h3 h4
    exact hk g' cap w' h1 ⟨h2.os, h2.tape, h2.output, h2.size, fun k hk hS => h2.block k hk (fun e => hS (by rw [← e]; simp))⟩ h3 h4
theorem wp_app {T e sz byt : Nat} (R : RowK T e sz byt) {ops : Array Oper} {rest : List Oper} {o : Oper} {a : Act} {Q : Exit → Act → World → Prop} {w : World} (hg : o.guard = none) (s x : Operand)
    (ho : o.op = .call { callee := .builtin .append, args := #[s, x], argTypes := #[T, T] }) {B : Nat} {v : Value} {n : Nat} {xs : List Value} {g : Nat} (news : List Value)
    (hs : a.eval s = v) (hx : a.eval x = .slice (some ⟨g, 0, none⟩) 1 1) (hnews : w.At g news.toArray e) (hl : news.length = sz) (h1 : ∀ u ∈ news, u.oneCell' = true) (hb : w.ownsRow B e sz v n xs) (hB : B ≤ w.heap.size)
    (hlen : n < maxLen) (hby : (n + 1) * byt ≤ 140737488355328)
    (hk : ∀ g' cap w', w'.ownsRow B e sz (.slice (some ⟨g', 0, none⟩) (n + 1) cap) (n + 1) (xs ++ news) → Mod v.ownBlock.toList w w' → (v.ownBlock = some g' ∨ g' = w.heap.size) → g' < w'.heap.size → wpList Tryz.prog ops Q rest (a.put o.dst (.slice (some ⟨g', 0, none⟩) (n + 1) cap)) w') : wpList Tryz.prog ops Q (o :: rest) a w := by
  refine wpList_plain hg fun K hK => ?_
  exact op_app R s x ho news hs hx hnews hl h1 hb hB hlen hby (fun g' cap w' a b c d => hK _ _ (hk g' cap w' a b c d))
theorem ownsRow_form {B e s n : Nat} {w : World} {v : Value} {xs : List Value} (h : w.ownsRow B e s v n xs) : ∃ ad cap, v = .slice ad n cap ∧ ∀ k u, xs[k]? = some u → ∃ g, ad = some ⟨g, 0, none⟩ ∧ w.inB g ∧ w.cell? ⟨g, k, none⟩ = some u := by
  rcases id h.2 with ⟨hv, h0⟩ | ⟨g', cap, cur, hv, h3, h4, h5⟩
  · refine ⟨none, 0, by rw [hv, h0], fun k u hu => ?_⟩
    have h1 := h.1
    rw [h0] at h1
    have : xs = [] := List.eq_nil_of_length_eq_zero (by simpa using h1)
    subst this
    simp at hu
  · subst hv
    exact ⟨_, _, rfl, fun k u hu => ⟨g', rfl, (Array.getElem?_eq_some_iff.1 h4).1, ownsRow_cell h hu⟩⟩
theorem ownsRow_block {B e s n : Nat} {w : World} {v : Value} {xs : List Value} (h : w.ownsRow B e s v n xs) {g : Nat} (hg : v.ownBlock = some g) : g < w.heap.size ∧ B ≤ g := by
  rcases id h.2 with ⟨hv, h0⟩ | ⟨g', cap, cur, hv, h3, h4, h5⟩
  · subst hv; simp [Value.ownBlock] at hg
  · subst hv
    have : g' = g := by simpa [Value.ownBlock] using hg
    subst this
    exact ⟨(Array.getElem?_eq_some_iff.1 h4).1, h3⟩
theorem ownsRow_frame {B e s n : Nat} {w w' : World} {v : Value} {xs : List Value} {F : Nat → Prop} (h : w.ownsRow B e s v n xs) (m : ModP F w w') (hF : ∀ g, v.ownBlock = some g → ¬ F g) : w'.ownsRow B e s v n xs :=
  ownsRow_of h fun g hg => m.block g (ownsRow_block h hg).1 (hF g hg)
theorem ownsRow_nil (B e s : Nat) (w : World) : w.ownsRow B e s (.slice none 0 0) 0 [] := ⟨by simp, .inl ⟨rfl, rfl⟩⟩
theorem rk157 : RowK 157 232 2 24 := ⟨by kernel_rfl, ⟨(Tryz.prog.info? 232).getD default, .agg #[.int .i64 0, .string (ByteArray.mk #[])], by kernel_rfl, by kernel_rfl, by kernel_rfl, by kernel_rfl, by kernel_rfl⟩, by decide⟩
/-- []byte(s) -/
theorem cv127 (w : World) (l : Bs) : (convert 9 127 (.string (ByteArray.mk l.toArray))).run Tryz.prog w = .ok (.slice (some ⟨w.heap.size, 0, none⟩) l.length (grownCap w l.length 0 5)) (Lib.bytesWorld w 5 (ByteArray.mk l.toArray)) := by
  have := Lib.run_convert_string_bytes (P := Tryz.prog) w 9 127 5 (ByteArray.mk l.toArray) (u := .string) (by kernel_rfl) (by kernel_rfl) (by kernel_rfl)
  exact this
theorem bytesWorld_mod (w : World) (e : TypeId) (s : ByteArray) : Mod [] w (Lib.bytesWorld w e s) :=
  ⟨by simp [Lib.bytesWorld, World.freeze, World.alloc, World.drew, -World.alloc_eq, -World.drew_eq], by simp [Lib.bytesWorld, World.freeze, World.alloc, World.drew, -World.alloc_eq, -World.drew_eq], by simp [Lib.bytesWorld, World.freeze, World.alloc, World.drew, -World.alloc_eq, -World.drew_eq], by rw [Lib.bytesWorld_size]; omega, fun k hk _ => Lib.bytesWorld_at_old w e s k hk⟩
end Go.Tw
