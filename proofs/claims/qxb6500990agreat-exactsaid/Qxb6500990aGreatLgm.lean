/- the log as it is meant; package rlogm -/
import Derived.Test.Qxb6500990aGreatRowA
set_option linter.unusedVariables false
set_option linter.unusedSimpArgs false
namespace Go.Tw
open Go Go.Proofs Go.Proofs.Qxb6500990aGreat Go.RowKit
structure Lg where
  term : Int
  vote : Int
  base : Int
  baseTerm : Int
  snap : Bs
  ents : List Entry
def zEnt : Entry := ⟨0, []⟩
def Lg.ent (s : Lg) (j : Nat) : Entry := s.ents.getD j zEnt
def Lg.r (s : Lg) : StateM := ⟨s.term, s.vote, s.base, s.baseTerm, s.snap, s.ents.length, s.ent⟩
def Lg.last (s : Lg) : Int := s.base + s.ents.length
structure Lg.Ok (s : Lg) : Prop where
  t0 : 0 ≤ s.term
  t1 : s.term ≤ maxT
  v0 : -1 ≤ s.vote
  v1 : s.vote < 3
  b0 : 0 ≤ s.base
  bt0 : 0 ≤ s.baseTerm
  bt1 : s.baseTerm ≤ maxT
  sn : s.snap.length ≤ 128
  n6 : s.ents.length ≤ 6
  lm : s.base + s.ents.length ≤ maxT
  en : ∀ e ∈ s.ents, 0 ≤ e.term ∧ e.term ≤ maxT ∧ e.data.length ≤ 24
def Lg.new : Lg := ⟨0, -1, 0, 0, [], []⟩
theorem Lg.new_ok : Lg.new.Ok := by constructor <;> simp [Lg.new, maxT]
/-- a log with its steps since the mark -/
structure AL where
  now : Lg
  mark : Lg
  hist : List Lg
def AL.step (a : AL) : AL := { a with hist := a.hist ++ [a.now] }
def AL.to (a : AL) (s : Lg) : AL := ⟨s, a.mark, a.hist ++ [s]⟩
def AL.state (a : AL) (k : Int) : Lg := match min k.toNat a.hist.length with
  | 0 => a.mark
  | n + 1 => a.hist.getD n a.mark
def Lg.al (s : Lg) : AL := ⟨s, s, []⟩
def AL.new : AL := Lg.new.al
def AL.after (a : AL) (k : Int) : AL := (a.state k).al
def Lg.at_ (s : Lg) (i : Int) : Entry × Int := if i ≤ s.base then (zEnt, 7) else if s.last < i then (zEnt, 2) else (s.ent (i - s.base - 1).toNat, 0)
def Lg.termAt (s : Lg) (i : Int) : Int × Int := if i = s.base then (s.baseTerm, 0) else ((s.at_ i).1.term, (s.at_ i).2)
def AL.setTerm (a : AL) (t v : Int) : Int × AL := if 0 ≤ t ∧ t ≤ maxT ∧ -1 ≤ v ∧ v < 3 then (0, a.to { a.now with term := t, vote := v }) else (1, a)
def AL.append (a : AL) (e : Entry) : Int × AL :=
  if entOK e = true then (if 6 ≤ a.now.ents.length ∨ maxT ≤ a.now.last then (6, a) else (0, a.to { a.now with ents := a.now.ents ++ [e] })) else (4, a)
def AL.pop (a : AL) : AL := a.to { a.now with ents := a.now.ents.dropLast }
def AL.popN (a : AL) : Nat → AL
  | 0 => a
  | n + 1 => a.pop.popN n
def AL.trunc (a : AL) (i : Int) : Int × AL := if i ≤ a.now.base then (7, a) else (0, a.popN (a.now.last - i + 1).toNat)
def AL.rebase (a : AL) (idx term : Int) (snap : Bs) : AL := a.to { a.now with base := idx, baseTerm := term, snap := snap, ents := a.now.ents.drop (idx - a.now.base).toNat }
def AL.compact (a : AL) (u : Int) (snap : Bs) : Int × AL :=
  if 128 < snap.length then (5, a) else if u ≤ a.now.base then (7, a) else if a.now.last < u then (2, a) else (0, a.rebase u (a.now.termAt u).1 snap)
def AL.install (a : AL) (idx term : Int) (snap : Bs) : Int × AL :=
  if ¬ (0 ≤ idx ∧ idx ≤ maxT ∧ 0 ≤ term ∧ term ≤ maxT) then (1, a) else if 128 < snap.length then (5, a) else if idx ≤ a.now.base then (7, a)
  else if a.now.termAt idx = (term, 0) then (0, a.rebase idx term snap)
  else (0, (a.popN a.now.ents.length).to { (a.popN a.now.ents.length).now with base := idx, baseTerm := term, snap := snap })
structure LMp (w : World) (F : Nat → Prop) (b bs bm : Nat) (hv : Value) (bks : List Nat) (a : AL) : Prop where
  hb : w.At b (LogM.cells ⟨vp bs, vp bm, hv⟩) 215
  hs : w.At bs a.now.r.cells 248
  hm : w.At bm a.mark.r.cells 248
  hr : w.ownsRow 0 212 1 hv a.hist.length (bks.map vp)
  hh : ∀ j g, bks[j]? = some g → w.At g (a.hist.getD j a.mark).r.cells 248 ∧ F g ∧ g ≠ bs
  fb : F b
  fs : F bs
  fm : F bm
  nm : bm ≠ bs
  fv : ∀ g, hv.ownBlock = some g → F g
/-- the model's log a lies at block b, all of it in F -/
def LMK (w : World) (F : Nat → Prop) (b : Nat) (a : AL) : Prop := ∃ bs bm hv bks, LMp w F b bs bm hv bks a
theorem At.neT {w : World} {b b' : Nat} {c c' : Array Value} {T T' : TypeId} (h : w.At b c T) (h' : w.At b' c' T') (hT : T ≠ T') : b ≠ b' := by
  rintro rfl
  unfold World.At at *
  rw [h] at h'
  injection h' with h'
  injection h' with _ h' _
  exact hT h'
theorem ownsRow_neT {B e s n : Nat} {w : World} {v : Value} {xs : List Value} (h : w.ownsRow B e s v n xs) {b : Nat} {c : Array Value} {T : TypeId} (hb : w.At b c T) (hT : T ≠ e) {g : Nat} (hg : v.ownBlock = some g) : b ≠ g := by
  rcases id h.2 with ⟨hv, h0⟩ | ⟨g', cap, cur, hv, h3, h4, h5⟩
  · subst hv; simp [Value.ownBlock] at hg
  · subst hv
    have : g' = g := by simpa [Value.ownBlock] using hg
    subst this
    exact At.neT hb h4 hT
section
variable {w w1 : World} {F G : Nat → Prop} {b bs bm : Nat} {hv : Value} {bks : List Nat} {a : AL}
theorem LMp.mono (h : LMp w F b bs bm hv bks a) (hG : ∀ k, F k → G k) : LMp w G b bs bm hv bks a :=
  ⟨h.hb, h.hs, h.hm, h.hr, fun j g hg => ⟨(h.hh j g hg).1, hG _ (h.hh j g hg).2.1, (h.hh j g hg).2.2⟩, hG _ h.fb, hG _ h.fs, hG _ h.fm, h.nm, fun g hg => hG _ (h.fv g hg)⟩
theorem LMK.mono (h : LMK w F b a) (hG : ∀ k, F k → G k) : LMK w G b a := by
  obtain ⟨bs, bm, hv, bks, h⟩ := h
  exact ⟨bs, bm, hv, bks, h.mono hG⟩
theorem LMp.frame (h : LMp w F b bs bm hv bks a) (m : ModP G w w1) (hG : Apart F G) : LMp w1 F b bs bm hv bks a :=
  ⟨m.at h.hb (fun x => hG _ h.fb x), m.at h.hs (fun x => hG _ h.fs x), m.at h.hm (fun x => hG _ h.fm x), ownsRow_frame h.hr m (fun g hg x => hG _ (h.fv g hg) x),
   fun j g hg => ⟨m.at (h.hh j g hg).1 (fun x => hG _ (h.hh j g hg).2.1 x), (h.hh j g hg).2⟩, h.fb, h.fs, h.fm, h.nm, h.fv⟩
theorem LMK.frame (h : LMK w F b a) (m : ModP G w w1) (hG : Apart F G) : LMK w1 F b a := by
  obtain ⟨bs, bm, hv, bks, h⟩ := h
  exact ⟨bs, bm, hv, bks, h.frame m hG⟩
theorem LMp.put (h : LMp w F b bs bm hv bks a) (s : Lg) : LMp (w.put bs s.r.cells 248) F b bs bm hv bks { a with now := s } :=
  ⟨(World.At_put_ne' (At.neT h.hb h.hs (by decide))).2 h.hb, World.At_put_same h.hs.inB, (World.At_put_ne' h.nm).2 h.hm,
   ownsRow_put h.hr (fun g hg => ownsRow_neT h.hr h.hs (by decide) hg),
   fun j g hg => ⟨(World.At_put_ne' (h.hh j g hg).2.2).2 (h.hh j g hg).1, (h.hh j g hg).2⟩, h.fb, h.fs, h.fm, h.nm, h.fv⟩
end
end Go.Tw
