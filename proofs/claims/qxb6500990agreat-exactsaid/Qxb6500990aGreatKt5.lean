/- package kv: Restore (no Go) -/
import Derived.Test.Qxb6500990aGreatKt4
import Derived.Test.Qxb6500990aGreatKvm7
import Derived.Test.Qxb6500990aGreatKv12
set_option linter.unusedVariables false
set_option linter.unusedSimpArgs false
namespace Go.Tw
open Go Go.Proofs Go.Proofs.Qxb6500990aGreat
def lastK (ps : List (Bs × Bs)) : Bs := if ps.length = 0 then [] else keyF ps (ps.length - 1)
theorem lastK_snoc (ps : List (Bs × Bs)) (k v : Bs) : lastK (ps ++ [(k, v)]) = k := by
  unfold lastK
  rw [if_neg (by simp)]
  rw [keyF_snoc]
  simp [upd]
structure PairSt (s : Bs) (i : Nat) (ps : List (Bs × Bs)) (q : Nat) (f : Nat → Cell) (l t : Int) : Prop where
  r : rPairs s i = some (ps, (q : Int))
  tk : TabK f l t ps
  q1 : q ≤ s.length
  n : ps.length = i
theorem PairSt.start (s : Bs) (h : 1 ≤ s.length) : PairSt s 0 [] 1 (fun _ => zCell) 0 0 :=
  ⟨rfl, ⟨Tab.none (fun _ _ => rfl), rfl, by rw [tombs_none (fun _ _ => by show (zCell).state ≠ 2; decide)]; rfl, by decide, by decide⟩, h, rfl⟩
section
variable {s : Bs} {i q : Nat} {ps : List (Bs × Bs)} {f : Nat → Cell} {l t : Int}
theorem PairSt.bad (h : PairSt s i ps q f l t) (hb : (takeS s (takeS s q 1 2).2 0 3).2 < 0 ∨ Op.bytesLess (lastK ps) (takeS s q 1 2).1 = false) (h1 : 0 ≤ (takeS s q 1 2).2) : rPairs s (i + 1) = none := by
  rw [rPairs_succ h.r]
  rcases hb with hb | hb
  · rw [if_pos (.inl hb)]
  · by_cases e : i = 0
    · exfalso
      have := (takeS_val s q 1 2 h1 (by decide)).1
      unfold lastK at hb
      rw [if_pos (by rw [h.n]; exact e)] at hb
      match hk : (takeS s q 1 2).1 with
      | [] => rw [hk] at this; simp at this
      | a :: x => rw [hk] at hb; simp [Op.bytesLess] at hb
    · unfold lastK at hb
      rw [if_neg (by rw [h.n]; exact e), h.n] at hb
      rw [if_pos (.inr ⟨by omega, hb⟩)]
theorem PairSt.bad0 (h : PairSt s i ps q f l t) (hb : (takeS s q 1 2).2 < 0) : rPairs s (i + 1) = none := by
  rw [rPairs_succ h.r, if_pos]
  left
  rw [takeS_neg hb]
  decide
theorem PairSt.good (h : PairSt s i ps q f l t) (h1 : 0 ≤ (takeS s q 1 2).2) (h2 : 0 ≤ (takeS s (takeS s q 1 2).2 0 3).2) (h3 : Op.bytesLess (lastK ps) (takeS s q 1 2).1 = true) :
    rPairs s (i + 1) = some (ps ++ [((takeS s q 1 2).1, (takeS s (takeS s q 1 2).2 0 3).1)], (takeS s (takeS s q 1 2).2 0 3).2) ∧ (∀ p ∈ ps, p.1 ≠ (takeS s q 1 2).1) := by
  have hr : rPairs s (i + 1) = some (ps ++ [((takeS s q 1 2).1, (takeS s (takeS s q 1 2).2 0 3).1)], (takeS s (takeS s q 1 2).2 0 3).2) := by
    rw [rPairs_succ h.r, if_neg]
    rintro (a | ⟨a, b⟩)
    · omega
    · unfold lastK at h3
      rw [if_neg (by rw [h.n]; omega), h.n] at h3
      rw [h3] at b
      cases b
  refine ⟨hr, ?_⟩
  intro p hp e
  have := (rPairs_ok _ _ _ hr).2.2
  rw [List.pairwise_map, List.pairwise_append] at this
  have h9 := this.2.2 p hp ((takeS s q 1 2).1, (takeS s (takeS s q 1 2).2 0 3).1) (by simp)
  simp only [] at h9
  rw [e, less_irrefl] at h9
  cases h9
theorem PairSt.next (h : PairSt s i ps q f l t) (h1 : 0 ≤ (takeS s q 1 2).2) (h2 : 0 ≤ (takeS s (takeS s q 1 2).2 0 3).2) (h3 : Op.bytesLess (lastK ps) (takeS s q 1 2).1 = true) {f' : Nat → Cell} {l' t' : Int} (hT : TabK f' l' t' (((takeS s q 1 2).1, (takeS s (takeS s q 1 2).2 0 3).1) :: ps)) :
    PairSt s (i + 1) (ps ++ [((takeS s q 1 2).1, (takeS s (takeS s q 1 2).2 0 3).1)]) (takeS s (takeS s q 1 2).2 0 3).2.toNat f' l' t' := by
  have hb := (takeS_bd s (takeS s q 1 2).2 0 3 (by omega)).2
  refine ⟨?_, hT.turn (List.perm_append_comm (l₁ := [_])), by omega, by simp [h.n]⟩
  rw [(h.good h1 h2 h3).1, Int.toNat_of_nonneg h2]
end
def seF (ss : List (Int × Ans)) : Nat → Sess := fun c => mkSessS (seqF ss c) (ansF ss c)
theorem seF_nil : seF [] = fun _ => zSess := rfl
theorem seF_snoc (ss : List (Int × Ans)) (g : Int) (a : Ans) (n : Nat) (hn : n = ss.length) : upd (seF ss) n (mkSessS g a) = seF (ss ++ [(g, a)]) := by
  subst hn
  funext c
  unfold seF
  rw [seqF_snoc, ansF_snoc]
  unfold upd
  split <;> rfl
def cpF {α : Type} (f g : Nat → α) (i : Nat) : Nat → α := fun m => if m < i then f m else g m
theorem cpF_0 {α : Type} (f g : Nat → α) : cpF f g 0 = g := by funext m; simp [cpF]
theorem cpF_step {α : Type} (f g : Nat → α) (i : Nat) : upd (cpF f g i) i (f i) = cpF f g (i + 1) := by
  funext m
  unfold upd cpF
  by_cases e : m = i
  · subst e; simp
  · rw [if_neg e]
    by_cases h : m < i
    · rw [if_pos h, if_pos (by omega)]
    · rw [if_neg h, if_neg (by omega)]
theorem KvRel.restored {s : Bs} {ps : List (Bs × Bs)} {ss : List (Int × Ans)} {f g : Nat → Cell} {h : Nat → Sess} {l t : Int} (hr : restoreO s = some (ofSess ps ss)) (hT : TabK f l t ps) : KvRel ⟨cpF f g 8, l, t, cpF (seF ss) h 3⟩ (ofSess ps ss) := by
  refine ⟨hT.congr fun i hi => ?_, fun c hc => ?_, restoreO_ok hr⟩
  · show cpF f g 8 i = f i
    unfold cpF; rw [if_pos hi]
  · show cpF (seF ss) h 3 c = _
    unfold cpF; rw [if_pos hc]; rfl
/-- what lies where while a snapshot is read -/
structure ReB (W : World) (b : Nat) (Kx : KvX) (u : World) (rd : Reader) (tb : TableR) (sf : Sess3) : Prop where
  hb : u.At b Kx.cells 175
  hr : u.At W.heap.size rd.cells 252
  ht : u.At (W.heap.size + 1) tb.cells 170
  hs : u.At (W.heap.size + 2) sf.cells 173
  lt : b < W.heap.size
  md : ModP (fun _ => False) W u
section
variable {W u u' y : World} {b : Nat} {Kx : KvX} {rd rd' : Reader} {tb tb' : TableR} {sf sf' : Sess3}
theorem ReB.mod (h : ReB W b Kx u rd tb sf) (m : ModP (fun _ => False) u u') : ReB W b Kx u' rd tb sf :=
  ⟨m.at h.hb (fun f => f), m.at h.hr (fun f => f), m.at h.ht (fun f => f), m.at h.hs (fun f => f), h.lt, h.md.trans m⟩
theorem ReB.setR (h : ReB W b Kx u rd tb sf) (a : u'.At W.heap.size rd'.cells 252) (m : ModP (fun x => x = W.heap.size) u u') : ReB W b Kx u' rd' tb sf :=
  ⟨m.at h.hb (fun f => by have := h.lt; omega), a, m.at h.ht (by omega), m.at h.hs (by omega), h.lt, h.md.step m (fun k e => .inr (by omega))⟩
theorem ReB.setT (h : ReB W b Kx u rd tb sf) (a : u'.At (W.heap.size + 1) tb'.cells 170) (m : ModP (fun x => x = W.heap.size + 1) u u') : ReB W b Kx u' rd tb' sf :=
  ⟨m.at h.hb (fun f => by have := h.lt; omega), m.at h.hr (by omega), a, m.at h.hs (by omega), h.lt, h.md.step m (fun k e => .inr (by omega))⟩
theorem ReB.door (h : ReB W b Kx u rd tb sf) : ∃ y : World, u = y.put (W.heap.size + 2) sf.cells 173 ∧ y.inB (W.heap.size + 2) ∧ ∀ sf' : Sess3, ReB W b Kx (y.put (W.heap.size + 2) sf'.cells 173) rd tb sf' := by
  obtain ⟨y, e, i⟩ := h.hs.door
  refine ⟨y, e, i, fun sf' => ?_⟩
  subst e
  have m : ModP (fun x => x = W.heap.size + 2) (y.put (W.heap.size + 2) sf.cells 173) (y.put (W.heap.size + 2) sf'.cells 173) := ModP.fromPut (ModP.put (F := fun x => x = W.heap.size + 2) (ModP.refl _ _) (.inl rfl) _ _) rfl
  exact ⟨m.at h.hb (fun f => by have := h.lt; omega), m.at h.hr (by omega), m.at h.ht (by omega), World.At_put_same i, h.lt, h.md.step m (fun k e => .inr (by omega))⟩
end
end Go.Tw
