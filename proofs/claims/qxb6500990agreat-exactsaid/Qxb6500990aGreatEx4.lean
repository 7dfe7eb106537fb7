/- package towerexact: the law's own world -/
import Derived.Test.Qxb6500990aGreatEx3
set_option linter.unusedVariables false
set_option linter.unusedSimpArgs false
namespace Go.Tw
open Go Go.Proofs Go.Proofs.Qxb6500990aGreat Go.RowKit
/-- whose block it is -/
inductive Tag where
  | no | law | rb | ro | rr | rv
  | br (i : Nat) | bm (i : Nat) | o (i : Nat) | ow (i : Nat) | r (i : Nat) | rw (i : Nat) | v (i : Nat) | vs (i : Nat)
structure BC where
  id : Int
  n : AN
  q : NoP
  p : MoP
def BC.cells (b : BC) : List Value := [vi b.id, vp b.q.s.bd, vp b.q.b, vp b.p.b]
structure LC (α : Type) where
  g : Nat
  h : Nat
  xs : List α
def LC.cells {α : Type} (c : LC α) : List Value := [.slice (some ⟨c.g, 0, none⟩) c.xs.length c.xs.length, .slice (some ⟨c.h, 0, none⟩) c.xs.length c.xs.length]
def ptr (o : Option Nat) : Value := .pointer (o.map fun b => ⟨b, 0, none⟩)
structure VC where
  br : Nat
  bs : Nat
  at_ : Option Nat
  nv : NodeV
  sv : SyncV
def VC.cells (c : VC) : List Value := [vp c.br, vp c.bs, ptr c.at_] ++ c.nv.cells.toList ++ c.sv.cells.toList
theorem VC.len (c : VC) : c.cells.length = 34 := rfl
structure Conf where
  bs : List BC
  os : List (LC OutM)
  rs : List (LC Reply)
  vs : List VC
  k : Int
  ra : Int
  rb : Int
  old : Bs
abbrev Own := Nat → Tag
structure BaseOk (w : World) (own : Own) (i S : Nat) (b : BC) : Prop where
  rn : ∃ G R, RNp w G b.q b.n R ∧ ∀ k, G k → own k = .br i
  mo : ∃ G, NMp w G b.p.b b.p.bs b.p.bl b.p.be b.p.bk b.n ∧ ∀ k, G k → own k = .bm i
  gd : b.n.Gd
  eid : b.n.sy.el.id = (EM.new b.id).id
  hh : b.n.sy.lg.hist.length ≤ 21
  nb : b.q.s.N + b.n.sy.lg.hist.length ≤ 100 * S
structure OutOk (w : World) (own : Own) (i : Nat) (x : LC OutM) : Prop where
  a : w.At x.g (outsC x.xs).toArray 72
  t : own x.g = .o i
  a' : w.At x.h (outsC x.xs).toArray 72
  t' : own x.h = .ow i
  l : x.xs.length ≤ 1000
  p : 0 < x.xs.length
structure RepOk (w : World) (own : Own) (i : Nat) (x : LC Reply) : Prop where
  a : w.At x.g (repsC x.xs).toArray 77
  t : own x.g = .r i
  a' : w.At x.h (repsC x.xs).toArray 77
  t' : own x.h = .rw i
  l : x.xs.length ≤ 1000
  p : 0 < x.xs.length
structure ViewOk (w : World) (own : Own) (i : Nat) (x : VC) : Prop where
  a : w.At x.br (NodeV.cells { x.nv with sync := ptr x.at_ }) 62
  t : own x.br = .v i
  a' : w.At x.bs x.sv.cells 64
  t' : own x.bs = .vs i
  e : x.nv.sync = vp x.bs
/-- a row of the law's -/
def RowOk (B : Nat) (w : World) (own : Own) (t : Tag) (e sz : Nat) (v : Value) (m : Nat) (xs : List Value) : Prop := w.ownsRow B e sz v m xs ∧ ∀ g, v.ownBlock = some g → own g = t
structure WI (B : Nat) (w : World) (bw : Nat) (own : Own) (c : Conf) (vb vo vr vv : Value) (S : Nat) : Prop where
  hw : w.At bw (WorldR.cells ⟨vb, c.k, c.ra, c.rb, c.old, vo, vr, vv, false⟩) 33
  tw : own bw = .law
  rb : RowOk B w own .rb 41 4 vb c.bs.length (c.bs.flatMap BC.cells)
  ro : RowOk B w own .ro 52 2 vo c.os.length (c.os.flatMap LC.cells)
  rr : RowOk B w own .rr 56 2 vr c.rs.length (c.rs.flatMap LC.cells)
  rv : RowOk B w own .rv 66 34 vv c.vs.length (c.vs.flatMap VC.cells)
  lo : ∀ k, own k ≠ .no → B ≤ k ∧ k < w.heap.size
  kb : c.bs ≠ [] → 0 ≤ c.k ∧ c.k < c.bs.length
  bs : ∀ i b, c.bs[i]? = some b → BaseOk w own i S b
  os : ∀ i x, c.os[i]? = some x → OutOk w own i x
  rs : ∀ i x, c.rs[i]? = some x → RepOk w own i x
  vs : ∀ i x, c.vs[i]? = some x → ViewOk w own i x
  ln : c.bs.length ≤ S ∧ c.os.length ≤ S ∧ c.rs.length ≤ S ∧ c.vs.length ≤ S
  sz : S ≤ 1073741824
section
variable {B bw S S' i : Nat} {w w' : World} {own own' : Own} {c : Conf} {vb vo vr vv : Value} {F : Nat → Prop}
/-- who owns a block stays its owner -/
def Same (_w : World) (own own' : Own) : Prop := ∀ k, own k ≠ .no → own' k = own k
theorem Same.refl (w : World) (own : Own) : Same w own own := fun _ _ => rfl
theorem BaseOk.frame {b : BC} (h : BaseOk w own i S b) (m : ModP F w w') (hF : ∀ k, F k → own k ≠ .br i ∧ own k ≠ .bm i) (hs : Same w own own') (hS : S ≤ S') : BaseOk w' own' i S' b := by
  obtain ⟨⟨G, R, h1, h2⟩, ⟨G', h3, h4⟩, gd, eid, hh, nb⟩ := h
  exact ⟨⟨G, R, h1.frame m (fun k a f => (hF k f).1 (h2 k a)), fun k hk => by rw [hs k (by rw [h2 k hk]; exact nofun)]; exact h2 k hk⟩, ⟨G', h3.frame m (fun k a f => (hF k f).2 (h4 k a)), fun k hk => by rw [hs k (by rw [h4 k hk]; exact nofun)]; exact h4 k hk⟩, gd, eid, hh, by omega⟩
theorem OutOk.frame {x : LC OutM} (h : OutOk w own i x) (m : ModP F w w') (hF : ∀ k, F k → own k ≠ .o i ∧ own k ≠ .ow i) (hs : Same w own own') : OutOk w' own' i x :=
  ⟨m.at h.a (fun f => (hF _ f).1 h.t), by rw [hs _ (by rw [h.t]; exact nofun)]; exact h.t, m.at h.a' (fun f => (hF _ f).2 h.t'), by rw [hs _ (by rw [h.t']; exact nofun)]; exact h.t', h.l, h.p⟩
theorem RepOk.frame {x : LC Reply} (h : RepOk w own i x) (m : ModP F w w') (hF : ∀ k, F k → own k ≠ .r i ∧ own k ≠ .rw i) (hs : Same w own own') : RepOk w' own' i x :=
  ⟨m.at h.a (fun f => (hF _ f).1 h.t), by rw [hs _ (by rw [h.t]; exact nofun)]; exact h.t, m.at h.a' (fun f => (hF _ f).2 h.t'), by rw [hs _ (by rw [h.t']; exact nofun)]; exact h.t', h.l, h.p⟩
theorem ViewOk.frame {x : VC} (h : ViewOk w own i x) (m : ModP F w w') (hF : ∀ k, F k → own k ≠ .v i ∧ own k ≠ .vs i) (hs : Same w own own') : ViewOk w' own' i x :=
  ⟨m.at h.a (fun f => (hF _ f).1 h.t), by rw [hs _ (by rw [h.t]; exact nofun)]; exact h.t, m.at h.a' (fun f => (hF _ f).2 h.t'), by rw [hs _ (by rw [h.t']; exact nofun)]; exact h.t', h.e⟩
theorem RowOk.frame {t : Tag} {e sz m : Nat} {v : Value} {xs : List Value} (h : RowOk B w own t e sz v m xs) (mo : ModP F w w') (hF : ∀ k, F k → own k ≠ t) (hs : Same w own own') (ht : t ≠ .no := by exact nofun) : RowOk B w' own' t e sz v m xs :=
  ⟨ownsRow_frame h.1 mo (fun g hg f => hF g f (h.2 g hg)), fun g hg => by rw [hs g (by rw [h.2 g hg]; exact ht)]; exact h.2 g hg⟩
/-- nothing old is turned -/
theorem WI.frame (h : WI B w bw own c vb vo vr vv S) (m : ModP (fun _ => False) w w') : WI B w' bw own c vb vo vr vv S :=
  ⟨m.at h.hw (fun f => f), h.tw, h.rb.frame m (fun _ f => f.elim) (.refl _ _), h.ro.frame m (fun _ f => f.elim) (.refl _ _), h.rr.frame m (fun _ f => f.elim) (.refl _ _), h.rv.frame m (fun _ f => f.elim) (.refl _ _),
   fun k hk => ⟨(h.lo k hk).1, Nat.lt_of_lt_of_le (h.lo k hk).2 m.size⟩, h.kb, fun i b hb => (h.bs i b hb).frame m (fun _ f => f.elim) (.refl _ _) (Nat.le_refl _), fun i x hx => (h.os i x hx).frame m (fun _ f => f.elim) (.refl _ _),
   fun i x hx => (h.rs i x hx).frame m (fun _ f => f.elim) (.refl _ _), fun i x hx => (h.vs i x hx).frame m (fun _ f => f.elim) (.refl _ _), h.ln, h.sz⟩
/-- the blocks that are no list's, no view's and no base's -/
def Tag.loose : Tag → Prop
  | .no | .law | .rb | .ro | .rr | .rv => True
  | _ => False
/-- a step on the law's own: what it has kept and its bases stay -/
theorem WI.parts (h : WI B w bw own c vb vo vr vv S) (m : ModP F w w') (hF : ∀ k, F k → (own k).loose) (hs : Same w own own') (hS : S ≤ S') :
    (∀ i b, c.bs[i]? = some b → BaseOk w' own' i S' b) ∧ (∀ i x, c.os[i]? = some x → OutOk w' own' i x) ∧ (∀ i x, c.rs[i]? = some x → RepOk w' own' i x) ∧ (∀ i x, c.vs[i]? = some x → ViewOk w' own' i x) := by
  refine ⟨fun i b hb => (h.bs i b hb).frame m (fun k f => ⟨fun e => ?_, fun e => ?_⟩) hs hS, fun i b hb => (h.os i b hb).frame m (fun k f => ⟨fun e => ?_, fun e => ?_⟩) hs, fun i b hb => (h.rs i b hb).frame m (fun k f => ⟨fun e => ?_, fun e => ?_⟩) hs, fun i b hb => (h.vs i b hb).frame m (fun k f => ⟨fun e => ?_, fun e => ?_⟩) hs⟩ <;>
  · have := hF k f; rw [e] at this; exact this
end
end Go.Tw
