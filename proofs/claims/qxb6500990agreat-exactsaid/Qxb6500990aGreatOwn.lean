/- Frames by a set F of blocks: 'ModP F' (all old blocks outside F are as they were), 'grow F w' (F and all that is newer than w). -/
import Derived.Test.Qxb6500990aGreatDisk
set_option linter.unusedVariables false
set_option linter.unusedSimpArgs false
namespace Go
open Go.RowKit
structure ModP (F : Nat → Prop) (w w' : World) : Prop where
  os : w'.os = w.os
  tape : w'.tape = w.tape
  output : w'.output = w.output
  size : w.heap.size ≤ w'.heap.size
  block : ∀ k, k < w.heap.size → ¬ F k → w'.heap[k]? = w.heap[k]?
def grow (F : Nat → Prop) (w : World) : Nat → Prop := fun k => F k ∨ w.heap.size ≤ k
section
variable {F G : Nat → Prop} {S : List Nat} {w w1 w2 : World} {b : Nat} {c : Array Value} {T : TypeId}
theorem ModP.refl (F : Nat → Prop) (w : World) : ModP F w w := ⟨rfl, rfl, rfl, Nat.le_refl _, fun _ _ _ => rfl⟩
theorem ModP.step (h1 : ModP F w w1) (h2 : ModP G w1 w2) (hG : ∀ k, G k → F k ∨ w.heap.size ≤ k) : ModP F w w2 :=
  ⟨h2.os.trans h1.os, h2.tape.trans h1.tape, h2.output.trans h1.output, Nat.le_trans h1.size h2.size,
   fun k hk hS => (h2.block k (Nat.lt_of_lt_of_le hk h1.size) (fun hg => (hG k hg).elim hS (by omega))).trans (h1.block k hk hS)⟩
theorem ModP.trans (h1 : ModP F w w1) (h2 : ModP F w1 w2) : ModP F w w2 := h1.step h2 fun _ h => .inl h
theorem ModP.mono (h1 : ModP F w w1) (hG : ∀ k, F k → G k) : ModP G w w1 :=
  ⟨h1.os, h1.tape, h1.output, h1.size, fun k hk hS => h1.block k hk (fun h => hS (hG k h))⟩
theorem Mod.toP (h : Mod S w w1) (hS : ∀ x ∈ S, F x) : ModP F w w1 := ⟨h.os, h.tape, h.output, h.size, fun k hk hn => h.block k hk (fun hm => hn (hS k hm))⟩
theorem Mod.toP0 (h : Mod [] w w1) : ModP F w w1 := h.toP (by simp)
theorem Dr.toP (h : Dr w w1) : ModP F w w1 := (h.mod []).toP0
theorem ModP.toMod (h : ModP (fun _ => False) w w1) : Mod [] w w1 := ⟨h.os, h.tape, h.output, h.size, fun k hk _ => h.block k hk (by simp)⟩
theorem ModP.put (h : ModP F w w1) (hb : F b ∨ w.heap.size ≤ b) (c : Array Value) (T : TypeId) : ModP F w (w1.put b c T) :=
  h.step (G := fun k => k = b) (Mod.toP (S := [b]) ((Mod.refl [b] w1).put (by simp) c T) (by simp)) (by rintro k rfl; exact hb)
theorem ModP.alloc (h : ModP F w w1) (ob : Obj) : ModP F w (w1.alloc ob) := h.trans ((Mod.refl [] w1).alloc ob).toP0
theorem ModP.drew (h : ModP F w w1) : ModP F w w1.drew := ⟨h.os, h.tape, h.output, h.size, h.block⟩
theorem ModP.drewN (h : ModP F w w1) (n : Nat) : ModP F w (w1.drewN n) := ⟨h.os, h.tape, h.output, h.size, h.block⟩
theorem ModP.at (h : ModP F w w1) (ha : w.At b c T) (hb : ¬ F b) : w1.At b c T := by
  have := h.block b ha.inB hb
  unfold World.At at *
  rw [this]; exact ha
theorem ModP.inB (h : ModP F w w1) (hb : w.inB b) : w1.inB b := Nat.lt_of_lt_of_le hb h.size
theorem ModP.ofPut (h : ModP F (w.put b c T) w1) (hb : F b) : ModP F w w1 := ((ModP.refl F w).put (.inl hb) c T).trans h
theorem ModP.fromPut (h : ModP F w w1) (hb : F b) : ModP F (w.put b c T) w1 :=
  ⟨h.os, h.tape, h.output, by rw [World.size_put]; exact h.size, fun k hk hn => by
    have hne : b ≠ k := fun e => hn (e ▸ hb)
    have h1 := h.block k (by rw [World.size_put] at hk; exact hk) hn
    simp only [World.put, Array.getElem?_setIfInBounds_ne hne]
    exact h1⟩
theorem ModP.cell (h : ModP F w w1) (ha : w.inB b) (hb : ¬ F b) (o : Nat) : w1.cell? ⟨b, o, none⟩ = w.cell? ⟨b, o, none⟩ := by
  have := h.block b ha hb
  simp only [World.cell?, this]
theorem ModP.ofPut0 (h : ModP F w (w1.put b c T)) (hb : w.heap.size ≤ b) : ModP F w w1 :=
  ⟨h.os, h.tape, h.output, by have := h.size; rwa [World.size_put] at this, fun k hk hn => by
    have hne : b ≠ k := by omega
    have h1 := h.block k hk hn
    simpa only [World.put, Array.getElem?_setIfInBounds_ne hne] using h1⟩
theorem grow_mono (h : w.heap.size ≤ w1.heap.size) {k : Nat} (hk : grow F w1 k) : grow F w k := hk.elim .inl (fun h' => .inr (Nat.le_trans h h'))
theorem grow_grow (h : w.heap.size ≤ w1.heap.size) {k : Nat} (hk : grow (grow F w) w1 k) : grow F w k := hk.elim id (fun h' => .inr (Nat.le_trans h h'))
theorem grow_in {k : Nat} (h : F k) : grow F w k := .inl h
/-- F has nothing of G -/
def Apart (F G : Nat → Prop) : Prop := ∀ k, F k → G k → False
/-- all of F are blocks of w -/
def Within (F : Nat → Prop) (w : World) : Prop := ∀ k, F k → k < w.heap.size
theorem Apart.symm (h : Apart F G) : Apart G F := fun k a b => h k b a
theorem Apart.grow (h : Apart F G) (hG : Within G w) : Apart (grow F w) G := fun k a b => a.elim (fun x => h k x b) (fun x => by have := hG k b; omega)
theorem Within.mono (h : Within F w) (hs : w.heap.size ≤ w1.heap.size) : Within F w1 := fun k hk => Nat.lt_of_lt_of_le (h k hk) hs
end
end Go
namespace Go.Tw
open Go Go.Proofs Go.Proofs.Qxb6500990aGreat Go.RowKit
/-- the disk D lies at block bd, all of it in F -/
def DK (w : World) (F : Nat → Prop) (bd : Nat) (D : Dk) : Prop := ∃ p : DP, p.bd = bd ∧ DiskAt w p D ∧ ∀ k ∈ p.fp, F k
theorem DK.mono {w : World} {F G : Nat → Prop} {bd : Nat} {D : Dk} (h : DK w F bd D) (hG : ∀ k, F k → G k) : DK w G bd D := by
  obtain ⟨p, h1, h2, h3⟩ := h
  exact ⟨p, h1, h2, fun k hk => hG k (h3 k hk)⟩
theorem DiskAt.frame {w w1 : World} {p : DP} {D : Dk} {G : Nat → Prop} (h : DiskAt w p D) (m : ModP G w w1) (hG : ∀ k ∈ p.fp, ¬ G k) : DiskAt w1 p D := by
  obtain ⟨hd, hn, hm, hr, ln, lm, l64, m64, nd, wr32⟩ := h
  refine ⟨m.at hd (hG _ (by simp [DP.fp])), m.at hn (hG _ (by simp [DP.fp])), m.at hm (hG _ (by simp [DP.fp])), ownsRow_of hr ?_, ln, lm, l64, m64, nd, wr32⟩
  intro g hg
  refine m.block g ?_ (hG _ (by simp [DP.fp, hg]))
  rcases hr.2 with ⟨hv, _⟩ | ⟨g', cap, cur, hv, _, h4, _⟩
  · rw [hv] at hg; simp [Value.ownBlock] at hg
  · rw [hv] at hg
    have : g' = g := by simpa [Value.ownBlock] using hg
    subst this
    exact (Array.getElem?_eq_some_iff.1 h4).1
theorem DK.frame {w w1 : World} {F G : Nat → Prop} {bd : Nat} {D : Dk} (h : DK w F bd D) (m : ModP G w w1) (hG : Apart F G) : DK w1 F bd D := by
  obtain ⟨p, h1, h2, h3⟩ := h
  exact ⟨p, h1, h2.frame m (fun k hk => hG k (h3 k hk)), h3⟩
theorem k235 {W : World} {F : Nat → Prop} {bd : Nat} {D : Dk} (h : DK W F bd D) (b : Nat) (hb : b < 14) (x : Bs) (hx : x.length = 64) (hw : D.wr.length ≤ 9000) :
    Calls Tryz.prog 235 #[vp bd, vi b, vs x] W fun r w' => r = .returned (vi 0) ∧ DK w' (grow F W) bd (D.write b x) ∧ ModP F W w' := by
  obtain ⟨p, rfl, h2, h3⟩ := h
  refine (c235 h2 b hb x hx hw).mono ?_
  rintro _ w' ⟨rfl, wr', h4, h5, h6⟩
  refine ⟨rfl, ⟨{ p with wr := wr' }, rfl, h4, ?_⟩, h5.toP h3⟩
  intro k hk
  simp only [DP.fp, List.mem_append, List.mem_cons, List.not_mem_nil, or_false] at hk
  rcases hk with (rfl | rfl | rfl) | h
  · exact .inl (h3 _ (by simp [DP.fp]))
  · exact .inl (h3 _ (by simp [DP.fp]))
  · exact .inl (h3 _ (by simp [DP.fp]))
  · rcases h6 k (Option.mem_toList.1 h) with h | h
    · exact .inl (h3 _ (by simp [DP.fp, h]))
    · exact .inr h
end Go.Tw
