/- byte slices that a call makes for itself -/
import Derived.Test.Qxb6500990aGreatElect4
import Derived.Deep.AppendLies
set_option linter.unusedVariables false
set_option linter.unusedSimpArgs false
namespace Go.Tw
/-- the bytes of a string as numbers; and back -/
def bi (l : Bs) : List Int := l.map fun x => (x.toNat : Int)
def ib (l : List Int) : Bs := l.map fun n => UInt8.ofNat n.toNat
theorem ib_bi (l : Bs) : ib (bi l) = l := by
  unfold ib bi
  rw [List.map_map]
  conv => rhs; rw [← List.map_id l]
  apply List.map_congr_left
  intro x _
  simp
theorem ib_append (a b : List Int) : ib (a ++ b) = ib a ++ ib b := by simp [ib]
theorem bi_append (a b : Bs) : bi (a ++ b) = bi a ++ bi b := by simp [bi]
theorem bi_length (l : Bs) : (bi l).length = l.length := by simp [bi]
theorem ib_length (l : List Int) : (ib l).length = l.length := by simp [ib]
/-- the slice v, made since B, holds the bytes l -/
def BytesB (B : Nat) (w : World) (v : Value) (l : List Int) : Prop := w.ownsRow B 5 1 v l.length (l.map (Value.int .u8))
end Go.Tw
namespace Go.Tw
open Go Go.RowKit Go.Proofs
theorem info5 : ∃ i, Tryz.prog.info? 5 = some i ∧ i.zero = some (.int .u8 0) ∧ i.size = 1 ∧ i.bytes = 1 :=
  ⟨(Tryz.prog.info? 5).getD default, by kernel_rfl, by kernel_rfl, by kernel_rfl, by kernel_rfl⟩
theorem BytesB.lift {B : Nat} {w w' : World} {v : Value} {l : List Int} (h : BytesB B w v l) (hb : ∀ g, v.ownBlock = some g → w'.heap[g]? = w.heap[g]?) : BytesB B w' v l := by
  refine ⟨h.1, ?_⟩
  rcases h.2 with h2 | ⟨g, cap, cur, hv, h3, h4, h5⟩
  · exact .inl h2
  · exact .inr ⟨g, cap, cur, hv, h3, by rw [hb g (by rw [hv]; rfl)]; exact h4, h5⟩
theorem BytesB.alloc {B : Nat} {w : World} {v : Value} {l : List Int} (h : BytesB B w v l) (ob : Obj) : BytesB B (w.alloc ob) v l := by
  refine h.lift fun g hg => ?_
  rcases h.2 with ⟨h2, _⟩ | ⟨g', cap, cur, hv, h3, h4, h5⟩
  · rw [h2] at hg; cases hg
  · rw [hv] at hg
    have : g' = g := by simpa [Value.ownBlock] using hg
    subst this
    have hlt : g' < w.heap.size := (Array.getElem?_eq_some_iff.1 h4).1
    simp only [World.alloc, Array.getElem?_push, Nat.ne_of_lt hlt, if_false]
theorem BytesB.drew {B : Nat} {w : World} {v : Value} {l : List Int} (h : BytesB B w v l) : BytesB B w.drew v l := h
theorem BytesB.drewN {B : Nat} {w : World} {v : Value} {l : List Int} (h : BytesB B w v l) (n : Nat) : BytesB B (w.drewN n) v l := h
theorem BytesB.block {B : Nat} {w : World} {v : Value} {l : List Int} (h : BytesB B w v l) {g : Nat} (hg : v.ownBlock = some g) : B ≤ g := by
  rcases h.2 with ⟨h2, _⟩ | ⟨g', cap, cur, hv, h3, h4, h5⟩
  · rw [h2] at hg; cases hg
  · rw [hv] at hg
    have : g' = g := by simpa [Value.ownBlock] using hg
    omega
theorem BytesB.nil (B : Nat) (w : World) : BytesB B w (.slice none 0 0) [] := ⟨rfl, .inl ⟨rfl, rfl⟩⟩
/-- a slice that was just made: length 0 -/
theorem BytesB.made {B : Nat} {w : World} {g cap : Nat} {c : Array Value} (h : w.At g c 5) (hB : B ≤ g) (hc : c.size = cap) (hm : cap ≤ maxLen) : BytesB B w (.slice (some ⟨g, 0, none⟩) 0 cap) [] :=
  ⟨rfl, .inr ⟨g, cap, c, rfl, hB, h, Nat.zero_le _, hm, by omega, by simp⟩⟩
theorem grown_below {B : Nat} {w w' : World} {r : Option Nat} (h : w.grownBy w' r) (hr : ∀ g, r = some g → B ≤ g) (hB : B ≤ w.heap.size) : Below B w w' :=
  ⟨h.os, h.tape, h.output, h.size, fun k hk => h.block k (by omega) (fun e => by have := hr k e.symm; omega)⟩
/-- append of some bytes that lie in a new block -/
theorem wp_appB {ops : Array Oper} {rest : List Oper} {o : Oper} {a : Act} {Q : Exit → Act → World → Prop} (hg : o.guard = none) (s x : Operand)
    (ho : o.op = .call { callee := .builtin .append, args := #[s, x], argTypes := #[127, 127] }) {B : Nat} {v : Value} {l : List Int} {w : World} {g m : Nat} (news : List Int)
    (hs : a.eval s = v) (hx : a.eval x = .slice (some ⟨g, 0, none⟩) m m) (hnews : w.At g (news.map (Value.int .u8)).toArray 5) (hm : news.length = m) (hb : BytesB B w v l) (hB : B ≤ w.heap.size)
    (hne : 0 < m) (hlen : l.length + m ≤ 100000000)
    (h : ∀ v' w', BytesB B w' v' (l ++ news) → Below B w w' → w.heap.size ≤ w'.heap.size → wpList Tryz.prog ops Q rest (a.put o.dst v') w') : wpList Tryz.prog ops Q (o :: rest) a w := by
  obtain ⟨i, hi, hz, hsz, hby⟩ := info5
  subst hm
  refine wpList_append_lies w hg s x 127 ho B 5 i (.int .u8 0) 1 1 Tryz.underlying127 hi hz hsz hby rfl (by decide) v l.length (l.map (Value.int .u8)) hs hb ⟨g, 0, none⟩ news.length news.length (news.map (Value.int .u8)) hx (by simp) ?_ ?_ hne (by unfold maxLen; omega) (by omega) hB w.heap.size rfl ?_
  · intro j u hu
    exact World.news_of_block hnews j u hu
  · intro u hu
    obtain ⟨n, _, rfl⟩ := List.mem_map.1 hu
    rfl
  · intro g' cap w' h1 h2 h3 h4
    refine h _ _ ?_ (grown_below h2 (fun g'' hg'' => hb.block hg'') hB) h2.size
    unfold BytesB
    rw [List.length_append, List.map_append]
    exact h1
theorem at_new {w : World} {c : Array Value} {T : TypeId} {g : Nat} (h : g = w.heap.size) : (w.alloc (.cells c T (0, 0))).At g c T := by subst h; exact World.At_alloc_new
end Go.Tw
