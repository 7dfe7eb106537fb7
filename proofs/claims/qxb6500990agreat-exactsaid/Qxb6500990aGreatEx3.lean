/- package towerexact: cut -/
import Derived.Test.Qxb6500990aGreatEx2
set_option linter.unusedVariables false
set_option linter.unusedSimpArgs false
namespace Go.Tw
open Go Go.Proofs Go.Proofs.Qxb6500990aGreat Go.RowKit
/-- the cells of a base, at o of an array -/
def baseC (cur : Array Value) (o : Nat) (b : BaseR) : Array Value := (((cur.setIfInBounds o (.int .i64 b.id)).setIfInBounds (o + 1) b.d).setIfInBounds (o + 2) b.x).setIfInBounds (o + 3) b.m
section
variable {cur : Array Value} {o : Nat} (b : BaseR)
theorem baseC_size : (baseC cur o b).size = cur.size := by simp [baseC]
theorem baseC_get (ho : o + 3 < cur.size) (i : Nat) : (baseC cur o b)[i]? = if i = o then some (.int .i64 b.id) else if i = o + 1 then some b.d else if i = o + 2 then some b.x else if i = o + 3 then some b.m else cur[i]? := by
  unfold baseC
  simp only [Array.getElem?_setIfInBounds, Array.size_setIfInBounds]
  by_cases h0 : i = o
  · subst h0; simp; omega
  · by_cases h1 : i = o + 1
    · subst h1; simp; omega
    · by_cases h2 : i = o + 2
      · subst h2; simp; omega
      · by_cases h3 : i = o + 3
        · subst h3; simp; omega
        · rw [if_neg (fun e => h3 e.symm), if_neg (fun e => h2 e.symm), if_neg (fun e => h1 e.symm), if_neg (fun e => h0 e.symm), if_neg h0, if_neg h1, if_neg h2, if_neg h3]
theorem baseC_g0 (ho : o + 3 < cur.size) : (baseC cur o b)[o]? = some (.int .i64 b.id) := by rw [baseC_get b ho]; simp
theorem baseC_g1 (ho : o + 3 < cur.size) : (baseC cur o b)[o + 1]? = some b.d := by rw [baseC_get b ho]; simp
theorem baseC_g2 (ho : o + 3 < cur.size) : (baseC cur o b)[o + 2]? = some b.x := by rw [baseC_get b ho]; simp
theorem baseC_g3 (ho : o + 3 < cur.size) : (baseC cur o b)[o + 3]? = some b.m := by rw [baseC_get b ho]; simp
theorem baseC_ext {b b' : BaseR} {j : Nat} {v : Value} (ho : o + 3 < cur.size) (h : ∀ i, (if j = i then if j < cur.size then some v else none else (baseC cur o b)[i]?) = (baseC cur o b')[i]?) : (baseC cur o b).setIfInBounds j v = baseC cur o b' := by
  apply Array.ext_getElem?
  intro i
  rw [Array.getElem?_setIfInBounds, baseC_size]
  exact h i
theorem baseC_s0 (ho : o + 3 < cur.size) (v : Int) : (baseC cur o b).setIfInBounds o (.int .i64 v) = baseC cur o { b with id := v } := by
  apply baseC_ext ho; intro i; rw [baseC_get _ ho, baseC_get _ ho]; split
  · rename_i h; subst h; simp <;> omega
  · rename_i h; rw [if_neg (c := i = o) (fun e => h e.symm), if_neg (c := i = o) (fun e => h e.symm)]
theorem baseC_s1 (ho : o + 3 < cur.size) (v : Value) : (baseC cur o b).setIfInBounds (o + 1) v = baseC cur o { b with d := v } := by
  apply baseC_ext ho; intro i; rw [baseC_get _ ho, baseC_get _ ho]; split
  · rename_i h; subst h; simp <;> omega
  · rename_i h; rw [if_neg (c := i = o + 1) (fun e => h e.symm), if_neg (c := i = o + 1) (fun e => h e.symm)]
theorem baseC_s2 (ho : o + 3 < cur.size) (v : Value) : (baseC cur o b).setIfInBounds (o + 2) v = baseC cur o { b with x := v } := by
  apply baseC_ext ho; intro i; rw [baseC_get _ ho, baseC_get _ ho]; split
  · rename_i h; subst h; simp <;> omega
  · rename_i h; rw [if_neg (c := i = o + 2) (fun e => h e.symm), if_neg (c := i = o + 2) (fun e => h e.symm)]
theorem baseC_s3 (ho : o + 3 < cur.size) (v : Value) : (baseC cur o b).setIfInBounds (o + 3) v = baseC cur o { b with m := v } := by
  apply baseC_ext ho; intro i; rw [baseC_get _ ho, baseC_get _ ho]; split
  · rename_i h; subst h; simp <;> omega
  · rename_i h; rw [if_neg (c := i = o + 3) (fun e => h e.symm), if_neg (c := i = o + 3) (fun e => h e.symm)]
theorem baseC_self {x : Array Value} {o : Nat} {b : BaseR} (h0 : x[o]? = some (.int .i64 b.id)) (h1 : x[o + 1]? = some b.d) (h2 : x[o + 2]? = some b.x) (h3 : x[o + 3]? = some b.m) : x = baseC x o b := by
  have ho : o + 3 < x.size := (Array.getElem?_eq_some_iff.1 h3).1
  apply Array.ext_getElem?
  intro i
  rw [baseC_get b ho]
  by_cases e0 : i = o
  · subst e0; rw [if_pos rfl]; exact h0
  · rw [if_neg e0]
    by_cases e1 : i = o + 1
    · subst e1; rw [if_pos rfl]; exact h1
    · rw [if_neg e1]
      by_cases e2 : i = o + 2
      · subst e2; rw [if_pos rfl]; exact h2
      · rw [if_neg e2]
        by_cases e3 : i = o + 3
        · subst e3; rw [if_pos rfl]; exact h3
        · rw [if_neg e3]
end
/-- what the cut leaves of a base -/
structure CutR (W : World) (g : Nat) (cur : Array Value) (o : Nat) (id : Int) (M : Nat) (w : World) (q : NoP) (p : MoP) (n : AN) (G G' : Nat → Prop) : Prop where
  at_ : w.At g (baseC cur o ⟨id, vp q.s.bd, vp q.b, vp p.b⟩) 41
  rn : RNp w G q n []
  mo : NMp w G' p.b p.bs p.bl p.be p.bk n
  gr : ∀ k, G k → W.heap.size ≤ k
  gm : ∀ k, G' k → W.heap.size ≤ k
  ap : ∀ k, G k → ¬ G' k
  gd : n.Gd
  eid : n.sy.el.id = (EM.new id).id
  hi : n.sy.lg.hist = []
  nn : q.s.N = M
  m : ModP (fun x => x = g) W w
end Go.Tw
namespace Go.Proofs.Qxb6500990aGreat
open Go Go.RowKit Go.Tw
attribute [local go_sem] World.cell?_put_same World.cell?_put_ne World.cell?_put_ne' World.frozen?_put_same World.frozen?_put_ne World.frozen?_put_ne' World.setCell_put_same World.setCell_put_ne World.setCell_put_ne' World.inB_put World.inB_alloc World.inB_drew World.inB_drewN World.inB_new World.inB_setCell World.put_drew World.put_drewN World.q_setCell_drew World.q_setCell_drewN World.q_alloc_drew World.q_alloc_drewN World.put_put_same World.put_put_2 World.size_put World.q_cell?_alloc_old World.q_frozen?_alloc_old World.cell?_alloc_new' World.frozen?_alloc_new' World.q_setCell_alloc_old World.q_setCell_alloc_new World.q_put_alloc_old World.cell?_force_same World.frozen?_force_same World.cell?_force2_fst World.cell?_force2_snd
attribute [local go_sem] ba_get ba_eq ba_beq upd_same upd_upd baseC_g0 baseC_g1 baseC_g2 baseC_g3 baseC_s0 baseC_s1 baseC_s2 baseC_s3
set_option maxHeartbeats 4000000
set_option maxRecDepth 100000
section
variable {W w : World} {q : NoP} {p : MoP} {n : AN} {G G' : Nat → Prop} {R : List Reply} {g o : Nat} {cur : Array Value} {id : Int}
theorem opened_id (s : Lg) (id : Int) : (AN.open (AS.open s.al (EM.new id))).sy.el.id = (EM.new id).id := by
  rw [show (AN.open (AS.open s.al (EM.new id))).sy = AS.open s.al (EM.new id) from AN.catchUp_sy _]; rfl
theorem opened_hist (s : Lg) (id : Int) : (AN.open (AS.open s.al (EM.new id))).sy.lg.hist = [] := by
  rw [show (AN.open (AS.open s.al (EM.new id))).sy = AS.open s.al (EM.new id) from AN.catchUp_sy _]; rfl
theorem atk_eq {n : AN} {id : Int} (hid : n.sy.el.id = (EM.new id).id) (k : Int) : n.atk k = AN.open (AS.open (n.sy.lg.state k).al (EM.new id)) := by
  unfold AN.atk AS.after
  rw [hid, EM.new_new]; rfl
theorem put_re (y : World) (g : Nat) (c c' : Array Value) (T : TypeId) : ModP (fun x => x = g) (y.put g c T) (y.put g c' T) := by
  have := (ModP.refl (fun x => x = g) (y.put g c T)).put (.inl rfl) c' T
  rw [World.put_put_same] at this; exact this
theorem c9 (hg : W.At g (baseC cur o ⟨id, vp q.s.bd, vp q.b, vp p.b⟩) 41) (ho : o + 3 < cur.size) (hr : RNp W G q n R) (hm : NMp W G' p.b p.bs p.bl p.be p.bk n) (ng : ¬ G g) (ng' : ¬ G' g) (gd : n.Gd) (hid : n.sy.el.id = (EM.new id).id)
    (hh : n.sy.lg.hist.length ≤ 400) (hN : q.s.N + n.sy.lg.hist.length ≤ 1125899906842624) (k : Int) :
    Calls Tryz.prog 9 #[.pointer (some ⟨g, o, none⟩), vi k] W fun r w' => r = .returned (.bool true) ∧ ∃ q' p' n' G2 G2', CutR W g cur o id (q.s.N + n.sy.lg.hist.length) w' q' p' n' G2 G2' := by
  obtain ⟨Fd, D, dk, fsub, tie, -⟩ := hr.disk
  have hwr : D.wr.length ≤ 9000 := by have := tie.len; omega
  obtain ⟨j0, jl, jg, jf, ja⟩ := tie.cut k
  have hS : n.atk j0 = AN.open (AS.open (n.sy.lg.state j0).al (EM.new id)) := atk_eq hid j0
  have gd0 : (AN.open (AS.open (n.sy.lg.state j0).al (EM.new id))).Gd := AN.Gd.open jg.ok id
  have hro := AN.open_rows (AS.open (n.sy.lg.state j0).al (EM.new id))
  have ho1 := opened_id (n.sy.lg.state j0) id
  have ho2 := opened_hist (n.sy.lg.state j0) id
  obtain ⟨x0, hx0⟩ : ∃ x, n.atk j0 = x := ⟨_, rfl⟩
  have hx : AN.open (AS.open (n.sy.lg.state j0).al (EM.new id)) = x0 := by rw [← hx0, hS]
  rw [hx] at gd0 hro ho1 ho2
  have hAt : Hid (∀ u, ModP (fun _ => False) W u → u.At g (baseC cur o ⟨id, vp q.s.bd, vp q.b, vp p.b⟩) 41) := fun u m => m.at hg (fun f => f)
  have q11 := hidIt (k11 dk)
  have q10 := hidIt (fun u (m : ModP (fun x => x = g) W u) => k10 (dk.frame m (fun k a e => ng (fsub _ (e ▸ a)))) k hwr)
  have q12 : Hid (∀ u F bd', DK u F bd' ⟨D.after k.toNat, D.after k.toNat, []⟩ → Within F u → Calls Tryz.prog 12 #[vp bd', vi id] u fun x w' => ∃ G1 q1, x = .returned (vp q1.b) ∧ RNp w' G1 q1 x0 [] ∧ q1.s.bd = bd' ∧ q1.s.N = q.s.N + n.sy.lg.hist.length ∧ q1.s.r ≤ 12 ∧ ((D.wr.length : Int) ≤ k → q1.s.r = 0) ∧ (∀ k, G1 k → F k ∨ u.heap.size ≤ k) ∧ ModP F u w') := by
    intro u F bd' d hF
    refine (c12 d hF jg hN id).mono ?_
    rintro x w' ⟨G1, q1, rfl, op⟩
    refine ⟨G1, q1, rfl, by rw [← hx]; exact op.rn, op.bd, op.n, op.r, fun h => op.cl (ja h).2, op.g, op.m⟩
  have q14 := hidIt (fun u G1 q1 (h : RNp u G1 q1 x0 []) => c14 h gd0.ok gd0.inn)
  have q27 : Hid (∀ u G1 q1, RNp u G1 q1 x0 [] → ModP (fun _ => False) W u → Calls Tryz.prog 27 #[vp q1.b, vp p.b] u fun r w' => ∃ j : Int, r = .returned (vi j) ∧ 0 ≤ j ∧ n.atk j = x0 ∧ (k ≤ 0 → j = 0) ∧ ModP (fun _ => False) u w') := by
    intro u G1 q1 h1 m1
    refine (c27 h1 (hm.frame m1 (fun _ _ f => f)) gd0 gd hro.1 hro.2.1 hro.2.2 hh).mono ?_
    rintro r w' ⟨j, rfl, hf, m2⟩
    obtain ⟨f1, f2, f3⟩ := hf j0 jl hx0.symm
    refine ⟨j, rfl, f1, ?_, fun hk => ?_, m2⟩
    · rw [atk_eq hid j, ← hx]
      rw [← hx, atk_eq hid j] at f3
      rw [LogLike.eq f3]
    · have e : x0 = n.atk ((0 : Nat) : Int) := by
        rw [← hx0, atk_eq hid, atk_eq hid, jf hk]; rfl
      obtain ⟨_, f5, _⟩ := hf 0 (Nat.zero_le _) e
      omega
  have q29 := hidIt (fun u (m : ModP (fun x => x = g) W u) (kk : Int) => c29 (hm.frame m (fun k a e => ng' (e ▸ a))) (by omega) kk (AL.state_ok gd.mrk gd.hs kk))
  have q28 : Hid (∀ u G1 q1 G2 (p1 : MoP) (kk : Int), RNp u G1 q1 x0 [] → NMp u G2 p1.b p1.bs p1.bl p1.be p1.bk (n.atk kk) → Calls Tryz.prog 28 #[vp q1.b, vp p1.b, vs []] u fun r w' => ∃ b, r = .returned (.bool b) ∧ (n.atk kk = x0 → b = true) ∧ ModP (fun _ => False) u w') := by
    intro u G1 q1 G2 p1 kk h1 h2
    have ro := AN.open_rows (n.sy.after kk)
    refine (c28 (n := x0) (m := n.atk kk) (q := q1) (p := p1) ⟨⟨_, _, h1⟩, ⟨_, h2⟩, gd0.ok, (gd.atk kk).ok⟩ (hro.1.trans ro.1.symm) (hro.2.1.trans ro.2.1.symm) (hro.2.2.trans ro.2.2.symm) []).mono ?_
    rintro r w' ⟨b, rfl, _, hb, m⟩
    exact ⟨b, rfl, fun e => hb (by rw [e]; exact LogLike.refl _) (by rw [e]), m⟩
  have q18 := hidIt (fun u (m : ModP (fun _ => False) W u) => c18 (hm.frame m (fun _ _ f => f)))
  have hall : Hid ((D.wr.length : Int) ≤ k → n.atk n.sy.lg.hist.length = x0) := fun h => by rw [← hx0, atk_eq hid, atk_eq hid, (ja h).1]
  have hcg := hg.cell
  have igg := hg.inB
  have lg : g < W.heap.size := hg.inB
  have HGd := hidIt gd0
  have HI1 := hidIt ho1
  have HI2 := hidIt ho2
  clear hg hr hm gd hid hh hN dk fsub tie hwr jl jg jf ja hS gd0 hro hx0 hx ho1 ho2
  generalize (D.wr.length : Int) = nw at *
  generalize n.sy.lg.hist.length = hl at *
  generalize D.after k.toNat = lk at *
  have T1 : Hid True := trivial
  have T2 : Hid True := trivial
  have T3 : Hid True := trivial
  have T4 : Hid True := trivial
  have T5 : Hid True := trivial
  have T6 : Hid True := trivial
  have T7 : Hid True := trivial
  have LG := hidIt lg
  clear lg
  by_cases hk0 : k ≤ 0
  · have d0 : decide (k ≤ 0) = true := by simpa using hk0
    have HK0 := hidIt hk0
    clear hk0
    by_cases hkn : nw ≤ k
    · have dn : decide (nw ≤ k) = true := by simpa using hkn
      have HKN := hidIt hkn
      clear hkn
      go_enter Tryz.func9, Tryz.ntmps9
      go_wp2_with (first
        | (go_at_call 11; clear T1; refine q11.out.mono ?_; rintro _ w1 ⟨rfl, e⟩; obtain rfl := e.symm)
        | (go_at_call 10; clear T2; refine (q10.out _ (ModP.refl _ _)).mono ?_; rintro _ w2 ⟨bd1, nb1, rfl, dk1, m2⟩; have M2 := hidIt m2; have K1 := hidIt (q12.out _ _ bd1 dk1.trim (fun k h => h.2)); have a := hAt.out _ m2; clear hcg igg; have hcg := a.cell; have igg := a.inB; clear a; clear m2 dk1 nb1)
        | (go_at_call 12; clear T3; refine K1.out.mono ?_; rintro _ w3 ⟨G1, q1, rfl, r1, b1, n1, l1, z1, s1, m3⟩; have M3 := hidIt (M2.out.step m3 (fun k hk => .inr hk.1)); have R1 := hidIt r1; have a := hAt.out _ M3.out; clear hcg igg; have hcg := a.cell; have igg := a.inB; clear a; clear m3 s1 r1 b1 n1 l1 z1 K1)
        | (go_at_call 14; refine (q14.out _ _ _ R1.out).mono ?_; rintro _ w4 ⟨rfl, m4⟩; have M4 := hidIt (M3.out.trans m4); have R4 := hidIt (R1.out.frame m4 (fun _ _ f => f)); have a := hAt.out _ M4.out; clear hcg igg; have hcg := a.cell; have igg := a.inB; clear a; clear m4)
        | (go_at_call 27; refine (q27.out _ _ _ R4.out M4.out).mono ?_; rintro _ w5 ⟨j, rfl, jz, ja, jk, m5⟩; have M5 := hidIt (M4.out.trans m5); have R5 := hidIt (R4.out.frame m5 (fun _ _ f => f)); have a := hAt.out _ M5.out; clear hcg igg; have hcg := a.cell; have igg := a.inB; clear a; have dj : decide (j < 0) = false := (by simp; omega); have JA := hidIt ja; have dj0 : (j != 0) = false := (by simpa using jk HK0.out); clear m5 ja jk jz)
        | (go_at_call 18; refine (q18.out _ M5.out).mono ?_; rintro _ w6 ⟨rfl, e⟩; obtain rfl := e.symm)
        | (go_at_call 29; clear T4; refine (q29.out _ (M5.out.mono fun _ f => f.elim) _).mono ?_; rintro _ w7 ⟨b', bs', bl', be', bk', G7, rfl, nb7, mo7, gg7, m7⟩; have M7 := hidIt (M5.out.trans m7); have Q28 := hidIt (q28.out _ _ _ _ ⟨b', bs', bl', be', bk'⟩ _ (R5.out.frame m7 (fun _ _ f => f)) mo7); have a := hAt.out _ M7.out; clear hcg igg; have hcg := a.cell; have igg := a.inB; clear a; clear m7 mo7 gg7 nb7)
        | (go_at_call 28; refine Q28.out.mono ?_; rintro _ w8 ⟨b, rfl, hb, m8⟩; obtain rfl := hb (hall.out HKN.out); have M8 := hidIt (M7.out.trans m8); have a := hAt.out _ M8.out; clear hcg igg; have hcg := a.cell; have igg := a.inB; clear a; clear m8 hb Q28)
        | (go_at_call 29; clear T5; refine (q29.out _ (M8.out.mono fun _ f => f.elim) j).mono ?_; rintro _ w9 ⟨pb, pbs, pbl, pbe, pbk, G9, rfl, nb9, mo9, gg9, m9⟩; rw [JA.out] at mo9; have M9 := hidIt (M8.out.trans m9); have a := hAt.out _ M9.out; clear hcg igg; have s9 : W.heap.size ≤ w8.heap.size := M8.out.size; have ngg : ¬ G9 g := (fun f => by have := gg9 _ f; have := LG.out; omega); have GG9 : Hid (∀ k, G9 k → W.heap.size ≤ k) := (fun k hk => Nat.le_trans s9 (gg9 k hk)); have WI9 := hidIt mo9.wi; obtain ⟨y9, rfl, iy9⟩ := a.door; have HM9 : Hid (∀ c, ModP (fun x => x = g) W (y9.put g c 41)) := (fun c => by have := ModP.put (M9.out.mono (G := fun x => x = g) fun _ f => f.elim) (.inl rfl) c 41; rw [World.put_put_same] at this; exact this); have MO9 := hidIt mo9; have NGG := hidIt ngg; clear m9 mo9 gg9 nb9 s9 ngg a)
        | (go_at_call 10; clear T6; refine (q10.out _ (HM9.out _)).mono ?_; rintro _ w10 ⟨bd2, nb2, rfl, dk2, m10⟩; have M10 := hidIt m10; have a := m10.at (World.At_put_same iy9) (fun f => f); have LF : Hid (∀ x, (y9.heap.size ≤ x) → x ≠ g) := (fun x hx e => by have : g < y9.heap.size := iy9; omega); obtain ⟨y10, rfl, iy10⟩ := a.door; have DK2 := hidIt dk2.trim; clear m10 dk2 a nb2))
      refine Ord.region1 [0] [1, 2, 3, 4, 5, 6, 7, 8] [9, 10, 11, 12] (by kernel_rfl) (by kernel_rfl) (fun _ _ d _ _ h => by cases d <;> exact h) ?_
      simp only [Ord.pickO, Ord.nth]
      repeat (go_big_quiet_step (fail))
      refine wpQuiet_nil ?_
      repeat (go_big_quiet_step (fail))
      refine wpQuiet_nil ?_
      go_wp2_with (first
        | (go_at_call 12; clear T7; refine (q12.out _ _ bd2 (DK2.out.frame ((put_re y10 g _ _ 41).drew) (fun k a e => LF.out k (by have := a.1; rw [World.size_put] at this; exact this) e)) (fun k h => by have := h.2; rw [World.size_put] at this; show k < (y10.put g _ 41).heap.size; rw [World.size_put]; exact this)).mono ?_; rintro _ w11 ⟨G11, q11', rfl, r11, b11, n11, l11, z11, s11, m11⟩; have nf : ¬ ((y9.put g (baseC cur o ⟨id, vp q.s.bd, vp q.b, vp pb⟩) 41).heap.size ≤ g ∧ g < (y10.put g (baseC cur o ⟨id, vp q.s.bd, vp q.b, vp pb⟩) 41).heap.size) := (fun h => LF.out g (by have := h.1; rw [World.size_put] at this; exact this) rfl); have a := m11.at (World.At_drew.2 (World.At_put_same iy10)) nf; have SZ : Hid (y9.heap.size ≤ y10.heap.size) := (by have := M10.out.size; rw [World.size_put, World.size_put] at this; exact this); have hG : ∀ k, G11 k → y9.heap.size ≤ k := (fun k hk => (s11 k hk).elim (fun h => by have := h.1; rw [World.size_put] at this; exact this) (fun h => by have h2 : (y10.put g (baseC cur o ⟨id, vp bd2, vp q.b, vp pb⟩) 41).heap.size ≤ k := h; rw [World.size_put] at h2; exact Nat.le_trans SZ.out h2)); obtain ⟨y11, rfl, iy11⟩ := a.door; obtain ⟨Fd2, D2, dk3, fs3, tie3, -⟩ := r11.disk; have hw := tie3.idle HI2.out; obtain ⟨rI, hrI⟩ : ∃ x : Int, (q11'.s.r : Int) = x := ⟨_, rfl⟩; have K11 : Hid (∀ c, Calls Tryz.prog 11 #[vp bd2] (y11.put g c 41) fun r w' => r = .returned (vi rI) ∧ w' = y11.put g c 41) := (fun c => by have := k11 (dk3.frame (put_re y11 g _ c 41) (fun k a e => LF.out k (hG _ (fs3 k a)) e)); rw [b11, hw, hrI] at this; exact this); have dr : (rI == 0) = true := (by have := z11 HKN.out; simp; omega); have HG11 := hidIt hG; have B11 := hidIt b11; have N11 := hidIt n11; have M11 := hidIt m11; have R11 := hidIt r11; clear r11 b11 n11 m11 hG dk3 fs3 tie3 hw hrI a nf s11 l11 z11)
        | (go_at_call 11; refine (K11.out _).mono ?_; rintro _ w12 ⟨rfl, e⟩; obtain rfl := e.symm))
      go_ret
      have MM : ∀ c0 c, ModP (fun x => x = g) (y9.put g c0 41) (y11.put g c 41) := by
        intro c0 c
        have e1 := put_re y9 g c0 (baseC cur o ⟨id, vp q.s.bd, vp q.b, vp pb⟩) 41
        have e2 := e1.step M10.out (fun _ f => f.elim)
        have e3 := e2.step (put_re y10 g _ (baseC cur o ⟨id, vp bd2, vp q.b, vp pb⟩) 41) (fun _ h => .inl h)
        have e4 := e3.drew.step M11.out (fun k hk => .inr (by have := hk.1; rw [World.size_put] at this ⊢; exact this))
        exact e4.step (put_re y11 g _ c 41) (fun _ h => .inl h)
      have hsz : W.heap.size ≤ y9.heap.size := by have := (HM9.out #[]).size; rw [World.size_put] at this; exact this
      refine ⟨rfl, q11', ⟨pb, pbs, pbl, pbe, pbk⟩, x0, G11, G9, ?_⟩
      refine ⟨by rw [B11.out]; exact World.At_put_same iy11, R11.out.frame (put_re y11 g _ _ 41) (fun k a e => LF.out k (HG11.out k a) e), MO9.out.frame (MM _ _) (fun k a e => NGG.out (e ▸ a)), fun k hk => Nat.le_trans hsz (HG11.out k hk), GG9.out, fun k hk h9 => ?_, HGd.out, HI1.out, HI2.out, N11.out, (HM9.out #[]).trans (MM _ _)⟩
      have h1 := WI9.out k h9
      rw [World.size_put] at h1
      have h2 := HG11.out k hk
      omega
    · have dn : decide (nw ≤ k) = false := by simpa using hkn
      clear hkn
      go_enter Tryz.func9, Tryz.ntmps9
      go_wp2_with (first
        | (go_at_call 11; clear T1; refine q11.out.mono ?_; rintro _ w1 ⟨rfl, e⟩; obtain rfl := e.symm)
        | (go_at_call 10; clear T2; refine (q10.out _ (ModP.refl _ _)).mono ?_; rintro _ w2 ⟨bd1, nb1, rfl, dk1, m2⟩; have M2 := hidIt m2; have K1 := hidIt (q12.out _ _ bd1 dk1.trim (fun k h => h.2)); have a := hAt.out _ m2; clear hcg igg; have hcg := a.cell; have igg := a.inB; clear a; clear m2 dk1 nb1)
        | (go_at_call 12; clear T3; refine K1.out.mono ?_; rintro _ w3 ⟨G1, q1, rfl, r1, b1, n1, l1, z1, s1, m3⟩; have M3 := hidIt (M2.out.step m3 (fun k hk => .inr hk.1)); have R1 := hidIt r1; have a := hAt.out _ M3.out; clear hcg igg; have hcg := a.cell; have igg := a.inB; clear a; clear m3 s1 r1 b1 n1 l1 z1 K1)
        | (go_at_call 14; refine (q14.out _ _ _ R1.out).mono ?_; rintro _ w4 ⟨rfl, m4⟩; have M4 := hidIt (M3.out.trans m4); have R4 := hidIt (R1.out.frame m4 (fun _ _ f => f)); have a := hAt.out _ M4.out; clear hcg igg; have hcg := a.cell; have igg := a.inB; clear a; clear m4)
        | (go_at_call 27; refine (q27.out _ _ _ R4.out M4.out).mono ?_; rintro _ w5 ⟨j, rfl, jz, ja, jk, m5⟩; have M5 := hidIt (M4.out.trans m5); have R5 := hidIt (R4.out.frame m5 (fun _ _ f => f)); have a := hAt.out _ M5.out; clear hcg igg; have hcg := a.cell; have igg := a.inB; clear a; have dj : decide (j < 0) = false := (by simp; omega); have JA := hidIt ja; have dj0 : (j != 0) = false := (by simpa using jk HK0.out); clear m5 ja jk jz)
        | (go_at_call 18; refine (q18.out _ M5.out).mono ?_; rintro _ w6 ⟨rfl, e⟩; obtain rfl := e.symm)
        | (go_at_call 29; clear T4; refine (q29.out _ (M5.out.mono fun _ f => f.elim) _).mono ?_; rintro _ w7 ⟨b', bs', bl', be', bk', G7, rfl, nb7, mo7, gg7, m7⟩; have M7 := hidIt (M5.out.trans m7); have Q28 := hidIt (q28.out _ _ _ _ ⟨b', bs', bl', be', bk'⟩ _ (R5.out.frame m7 (fun _ _ f => f)) mo7); have a := hAt.out _ M7.out; clear hcg igg; have hcg := a.cell; have igg := a.inB; clear a; clear m7 mo7 gg7 nb7)
        | (go_at_call 28; refine Q28.out.mono ?_; rintro _ w8 ⟨b, rfl, hb, m8⟩; skip; have M8 := hidIt (M7.out.trans m8); have a := hAt.out _ M8.out; clear hcg igg; have hcg := a.cell; have igg := a.inB; clear a; clear m8 hb Q28)
        | (go_at_call 29; clear T5; refine (q29.out _ (M8.out.mono fun _ f => f.elim) j).mono ?_; rintro _ w9 ⟨pb, pbs, pbl, pbe, pbk, G9, rfl, nb9, mo9, gg9, m9⟩; rw [JA.out] at mo9; have M9 := hidIt (M8.out.trans m9); have a := hAt.out _ M9.out; clear hcg igg; have s9 : W.heap.size ≤ w8.heap.size := M8.out.size; have ngg : ¬ G9 g := (fun f => by have := gg9 _ f; have := LG.out; omega); have GG9 : Hid (∀ k, G9 k → W.heap.size ≤ k) := (fun k hk => Nat.le_trans s9 (gg9 k hk)); have WI9 := hidIt mo9.wi; obtain ⟨y9, rfl, iy9⟩ := a.door; have HM9 : Hid (∀ c, ModP (fun x => x = g) W (y9.put g c 41)) := (fun c => by have := ModP.put (M9.out.mono (G := fun x => x = g) fun _ f => f.elim) (.inl rfl) c 41; rw [World.put_put_same] at this; exact this); have MO9 := hidIt mo9; have NGG := hidIt ngg; clear m9 mo9 gg9 nb9 s9 ngg a)
        | (go_at_call 10; clear T6; refine (q10.out _ (HM9.out _)).mono ?_; rintro _ w10 ⟨bd2, nb2, rfl, dk2, m10⟩; have M10 := hidIt m10; have a := m10.at (World.At_put_same iy9) (fun f => f); have LF : Hid (∀ x, (y9.heap.size ≤ x) → x ≠ g) := (fun x hx e => by have : g < y9.heap.size := iy9; omega); obtain ⟨y10, rfl, iy10⟩ := a.door; have DK2 := hidIt dk2.trim; clear m10 dk2 a nb2))
      refine Ord.region1 [0] [1, 2, 3, 4, 5, 6, 7, 8] [9, 10, 11, 12] (by kernel_rfl) (by kernel_rfl) (fun _ _ d _ _ h => by cases d <;> exact h) ?_
      simp only [Ord.pickO, Ord.nth]
      repeat (go_big_quiet_step (fail))
      refine wpQuiet_nil ?_
      repeat (go_big_quiet_step (fail))
      refine wpQuiet_nil ?_
      go_wp2_with (first
        | (go_at_call 12; clear T7; refine (q12.out _ _ bd2 (DK2.out.frame ((put_re y10 g _ _ 41).drew) (fun k a e => LF.out k (by have := a.1; rw [World.size_put] at this; exact this) e)) (fun k h => by have := h.2; rw [World.size_put] at this; show k < (y10.put g _ 41).heap.size; rw [World.size_put]; exact this)).mono ?_; rintro _ w11 ⟨G11, q11', rfl, r11, b11, n11, l11, z11, s11, m11⟩; have nf : ¬ ((y9.put g (baseC cur o ⟨id, vp q.s.bd, vp q.b, vp pb⟩) 41).heap.size ≤ g ∧ g < (y10.put g (baseC cur o ⟨id, vp q.s.bd, vp q.b, vp pb⟩) 41).heap.size) := (fun h => LF.out g (by have := h.1; rw [World.size_put] at this; exact this) rfl); have a := m11.at (World.At_drew.2 (World.At_put_same iy10)) nf; have SZ : Hid (y9.heap.size ≤ y10.heap.size) := (by have := M10.out.size; rw [World.size_put, World.size_put] at this; exact this); have hG : ∀ k, G11 k → y9.heap.size ≤ k := (fun k hk => (s11 k hk).elim (fun h => by have := h.1; rw [World.size_put] at this; exact this) (fun h => by have h2 : (y10.put g (baseC cur o ⟨id, vp bd2, vp q.b, vp pb⟩) 41).heap.size ≤ k := h; rw [World.size_put] at h2; exact Nat.le_trans SZ.out h2)); obtain ⟨y11, rfl, iy11⟩ := a.door; obtain ⟨Fd2, D2, dk3, fs3, tie3, -⟩ := r11.disk; have hw := tie3.idle HI2.out; obtain ⟨rI, hrI⟩ : ∃ x : Int, (q11'.s.r : Int) = x := ⟨_, rfl⟩; have K11 : Hid (∀ c, Calls Tryz.prog 11 #[vp bd2] (y11.put g c 41) fun r w' => r = .returned (vi rI) ∧ w' = y11.put g c 41) := (fun c => by have := k11 (dk3.frame (put_re y11 g _ c 41) (fun k a e => LF.out k (hG _ (fs3 k a)) e)); rw [b11, hw, hrI] at this; exact this); have dr : decide (rI ≤ 12) = true := (by simp; omega); have HG11 := hidIt hG; have B11 := hidIt b11; have N11 := hidIt n11; have M11 := hidIt m11; have R11 := hidIt r11; clear r11 b11 n11 m11 hG dk3 fs3 tie3 hw hrI a nf s11 l11 z11)
        | (go_at_call 11; refine (K11.out _).mono ?_; rintro _ w12 ⟨rfl, e⟩; obtain rfl := e.symm))
      go_ret
      have MM : ∀ c0 c, ModP (fun x => x = g) (y9.put g c0 41) (y11.put g c 41) := by
        intro c0 c
        have e1 := put_re y9 g c0 (baseC cur o ⟨id, vp q.s.bd, vp q.b, vp pb⟩) 41
        have e2 := e1.step M10.out (fun _ f => f.elim)
        have e3 := e2.step (put_re y10 g _ (baseC cur o ⟨id, vp bd2, vp q.b, vp pb⟩) 41) (fun _ h => .inl h)
        have e4 := e3.drew.step M11.out (fun k hk => .inr (by have := hk.1; rw [World.size_put] at this ⊢; exact this))
        exact e4.step (put_re y11 g _ c 41) (fun _ h => .inl h)
      have hsz : W.heap.size ≤ y9.heap.size := by have := (HM9.out #[]).size; rw [World.size_put] at this; exact this
      refine ⟨rfl, q11', ⟨pb, pbs, pbl, pbe, pbk⟩, x0, G11, G9, ?_⟩
      refine ⟨by rw [B11.out]; exact World.At_put_same iy11, R11.out.frame (put_re y11 g _ _ 41) (fun k a e => LF.out k (HG11.out k a) e), MO9.out.frame (MM _ _) (fun k a e => NGG.out (e ▸ a)), fun k hk => Nat.le_trans hsz (HG11.out k hk), GG9.out, fun k hk h9 => ?_, HGd.out, HI1.out, HI2.out, N11.out, (HM9.out #[]).trans (MM _ _)⟩
      have h1 := WI9.out k h9
      rw [World.size_put] at h1
      have h2 := HG11.out k hk
      omega
  · have d0 : decide (k ≤ 0) = false := by simpa using hk0
    clear hk0
    by_cases hkn : nw ≤ k
    · have dn : decide (nw ≤ k) = true := by simpa using hkn
      have HKN := hidIt hkn
      clear hkn
      go_enter Tryz.func9, Tryz.ntmps9
      go_wp2_with (first
        | (go_at_call 11; clear T1; refine q11.out.mono ?_; rintro _ w1 ⟨rfl, e⟩; obtain rfl := e.symm)
        | (go_at_call 10; clear T2; refine (q10.out _ (ModP.refl _ _)).mono ?_; rintro _ w2 ⟨bd1, nb1, rfl, dk1, m2⟩; have M2 := hidIt m2; have K1 := hidIt (q12.out _ _ bd1 dk1.trim (fun k h => h.2)); have a := hAt.out _ m2; clear hcg igg; have hcg := a.cell; have igg := a.inB; clear a; clear m2 dk1 nb1)
        | (go_at_call 12; clear T3; refine K1.out.mono ?_; rintro _ w3 ⟨G1, q1, rfl, r1, b1, n1, l1, z1, s1, m3⟩; have M3 := hidIt (M2.out.step m3 (fun k hk => .inr hk.1)); have R1 := hidIt r1; have a := hAt.out _ M3.out; clear hcg igg; have hcg := a.cell; have igg := a.inB; clear a; clear m3 s1 r1 b1 n1 l1 z1 K1)
        | (go_at_call 14; refine (q14.out _ _ _ R1.out).mono ?_; rintro _ w4 ⟨rfl, m4⟩; have M4 := hidIt (M3.out.trans m4); have R4 := hidIt (R1.out.frame m4 (fun _ _ f => f)); have a := hAt.out _ M4.out; clear hcg igg; have hcg := a.cell; have igg := a.inB; clear a; clear m4)
        | (go_at_call 27; refine (q27.out _ _ _ R4.out M4.out).mono ?_; rintro _ w5 ⟨j, rfl, jz, ja, jk, m5⟩; have M5 := hidIt (M4.out.trans m5); have R5 := hidIt (R4.out.frame m5 (fun _ _ f => f)); have a := hAt.out _ M5.out; clear hcg igg; have hcg := a.cell; have igg := a.inB; clear a; have dj : decide (j < 0) = false := (by simp; omega); have JA := hidIt ja; skip; clear m5 ja jk jz)
        | (go_at_call 18; refine (q18.out _ M5.out).mono ?_; rintro _ w6 ⟨rfl, e⟩; obtain rfl := e.symm)
        | (go_at_call 29; clear T4; refine (q29.out _ (M5.out.mono fun _ f => f.elim) _).mono ?_; rintro _ w7 ⟨b', bs', bl', be', bk', G7, rfl, nb7, mo7, gg7, m7⟩; have M7 := hidIt (M5.out.trans m7); have Q28 := hidIt (q28.out _ _ _ _ ⟨b', bs', bl', be', bk'⟩ _ (R5.out.frame m7 (fun _ _ f => f)) mo7); have a := hAt.out _ M7.out; clear hcg igg; have hcg := a.cell; have igg := a.inB; clear a; clear m7 mo7 gg7 nb7)
        | (go_at_call 28; refine Q28.out.mono ?_; rintro _ w8 ⟨b, rfl, hb, m8⟩; obtain rfl := hb (hall.out HKN.out); have M8 := hidIt (M7.out.trans m8); have a := hAt.out _ M8.out; clear hcg igg; have hcg := a.cell; have igg := a.inB; clear a; clear m8 hb Q28)
        | (go_at_call 29; clear T5; refine (q29.out _ (M8.out.mono fun _ f => f.elim) j).mono ?_; rintro _ w9 ⟨pb, pbs, pbl, pbe, pbk, G9, rfl, nb9, mo9, gg9, m9⟩; rw [JA.out] at mo9; have M9 := hidIt (M8.out.trans m9); have a := hAt.out _ M9.out; clear hcg igg; have s9 : W.heap.size ≤ w8.heap.size := M8.out.size; have ngg : ¬ G9 g := (fun f => by have := gg9 _ f; have := LG.out; omega); have GG9 : Hid (∀ k, G9 k → W.heap.size ≤ k) := (fun k hk => Nat.le_trans s9 (gg9 k hk)); have WI9 := hidIt mo9.wi; obtain ⟨y9, rfl, iy9⟩ := a.door; have HM9 : Hid (∀ c, ModP (fun x => x = g) W (y9.put g c 41)) := (fun c => by have := ModP.put (M9.out.mono (G := fun x => x = g) fun _ f => f.elim) (.inl rfl) c 41; rw [World.put_put_same] at this; exact this); have MO9 := hidIt mo9; have NGG := hidIt ngg; clear m9 mo9 gg9 nb9 s9 ngg a)
        | (go_at_call 10; clear T6; refine (q10.out _ (HM9.out _)).mono ?_; rintro _ w10 ⟨bd2, nb2, rfl, dk2, m10⟩; have M10 := hidIt m10; have a := m10.at (World.At_put_same iy9) (fun f => f); have LF : Hid (∀ x, (y9.heap.size ≤ x) → x ≠ g) := (fun x hx e => by have : g < y9.heap.size := iy9; omega); obtain ⟨y10, rfl, iy10⟩ := a.door; have DK2 := hidIt dk2.trim; clear m10 dk2 a nb2))
      refine Ord.region1 [0] [1, 2, 3, 4, 5, 6, 7, 8] [9, 10, 11, 12] (by kernel_rfl) (by kernel_rfl) (fun _ _ d _ _ h => by cases d <;> exact h) ?_
      simp only [Ord.pickO, Ord.nth]
      repeat (go_big_quiet_step (fail))
      refine wpQuiet_nil ?_
      repeat (go_big_quiet_step (fail))
      refine wpQuiet_nil ?_
      go_wp2_with (first
        | (go_at_call 12; clear T7; refine (q12.out _ _ bd2 (DK2.out.frame ((put_re y10 g _ _ 41).drew) (fun k a e => LF.out k (by have := a.1; rw [World.size_put] at this; exact this) e)) (fun k h => by have := h.2; rw [World.size_put] at this; show k < (y10.put g _ 41).heap.size; rw [World.size_put]; exact this)).mono ?_; rintro _ w11 ⟨G11, q11', rfl, r11, b11, n11, l11, z11, s11, m11⟩; have nf : ¬ ((y9.put g (baseC cur o ⟨id, vp q.s.bd, vp q.b, vp pb⟩) 41).heap.size ≤ g ∧ g < (y10.put g (baseC cur o ⟨id, vp q.s.bd, vp q.b, vp pb⟩) 41).heap.size) := (fun h => LF.out g (by have := h.1; rw [World.size_put] at this; exact this) rfl); have a := m11.at (World.At_drew.2 (World.At_put_same iy10)) nf; have SZ : Hid (y9.heap.size ≤ y10.heap.size) := (by have := M10.out.size; rw [World.size_put, World.size_put] at this; exact this); have hG : ∀ k, G11 k → y9.heap.size ≤ k := (fun k hk => (s11 k hk).elim (fun h => by have := h.1; rw [World.size_put] at this; exact this) (fun h => by have h2 : (y10.put g (baseC cur o ⟨id, vp bd2, vp q.b, vp pb⟩) 41).heap.size ≤ k := h; rw [World.size_put] at h2; exact Nat.le_trans SZ.out h2)); obtain ⟨y11, rfl, iy11⟩ := a.door; obtain ⟨Fd2, D2, dk3, fs3, tie3, -⟩ := r11.disk; have hw := tie3.idle HI2.out; obtain ⟨rI, hrI⟩ : ∃ x : Int, (q11'.s.r : Int) = x := ⟨_, rfl⟩; have K11 : Hid (∀ c, Calls Tryz.prog 11 #[vp bd2] (y11.put g c 41) fun r w' => r = .returned (vi rI) ∧ w' = y11.put g c 41) := (fun c => by have := k11 (dk3.frame (put_re y11 g _ c 41) (fun k a e => LF.out k (hG _ (fs3 k a)) e)); rw [b11, hw, hrI] at this; exact this); have dr : (rI == 0) = true := (by have := z11 HKN.out; simp; omega); have HG11 := hidIt hG; have B11 := hidIt b11; have N11 := hidIt n11; have M11 := hidIt m11; have R11 := hidIt r11; clear r11 b11 n11 m11 hG dk3 fs3 tie3 hw hrI a nf s11 l11 z11)
        | (go_at_call 11; refine (K11.out _).mono ?_; rintro _ w12 ⟨rfl, e⟩; obtain rfl := e.symm))
      go_ret
      have MM : ∀ c0 c, ModP (fun x => x = g) (y9.put g c0 41) (y11.put g c 41) := by
        intro c0 c
        have e1 := put_re y9 g c0 (baseC cur o ⟨id, vp q.s.bd, vp q.b, vp pb⟩) 41
        have e2 := e1.step M10.out (fun _ f => f.elim)
        have e3 := e2.step (put_re y10 g _ (baseC cur o ⟨id, vp bd2, vp q.b, vp pb⟩) 41) (fun _ h => .inl h)
        have e4 := e3.drew.step M11.out (fun k hk => .inr (by have := hk.1; rw [World.size_put] at this ⊢; exact this))
        exact e4.step (put_re y11 g _ c 41) (fun _ h => .inl h)
      have hsz : W.heap.size ≤ y9.heap.size := by have := (HM9.out #[]).size; rw [World.size_put] at this; exact this
      refine ⟨rfl, q11', ⟨pb, pbs, pbl, pbe, pbk⟩, x0, G11, G9, ?_⟩
      refine ⟨by rw [B11.out]; exact World.At_put_same iy11, R11.out.frame (put_re y11 g _ _ 41) (fun k a e => LF.out k (HG11.out k a) e), MO9.out.frame (MM _ _) (fun k a e => NGG.out (e ▸ a)), fun k hk => Nat.le_trans hsz (HG11.out k hk), GG9.out, fun k hk h9 => ?_, HGd.out, HI1.out, HI2.out, N11.out, (HM9.out #[]).trans (MM _ _)⟩
      have h1 := WI9.out k h9
      rw [World.size_put] at h1
      have h2 := HG11.out k hk
      omega
    · have dn : decide (nw ≤ k) = false := by simpa using hkn
      clear hkn
      go_enter Tryz.func9, Tryz.ntmps9
      go_wp2_with (first
        | (go_at_call 11; clear T1; refine q11.out.mono ?_; rintro _ w1 ⟨rfl, e⟩; obtain rfl := e.symm)
        | (go_at_call 10; clear T2; refine (q10.out _ (ModP.refl _ _)).mono ?_; rintro _ w2 ⟨bd1, nb1, rfl, dk1, m2⟩; have M2 := hidIt m2; have K1 := hidIt (q12.out _ _ bd1 dk1.trim (fun k h => h.2)); have a := hAt.out _ m2; clear hcg igg; have hcg := a.cell; have igg := a.inB; clear a; clear m2 dk1 nb1)
        | (go_at_call 12; clear T3; refine K1.out.mono ?_; rintro _ w3 ⟨G1, q1, rfl, r1, b1, n1, l1, z1, s1, m3⟩; have M3 := hidIt (M2.out.step m3 (fun k hk => .inr hk.1)); have R1 := hidIt r1; have a := hAt.out _ M3.out; clear hcg igg; have hcg := a.cell; have igg := a.inB; clear a; clear m3 s1 r1 b1 n1 l1 z1 K1)
        | (go_at_call 14; refine (q14.out _ _ _ R1.out).mono ?_; rintro _ w4 ⟨rfl, m4⟩; have M4 := hidIt (M3.out.trans m4); have R4 := hidIt (R1.out.frame m4 (fun _ _ f => f)); have a := hAt.out _ M4.out; clear hcg igg; have hcg := a.cell; have igg := a.inB; clear a; clear m4)
        | (go_at_call 27; refine (q27.out _ _ _ R4.out M4.out).mono ?_; rintro _ w5 ⟨j, rfl, jz, ja, jk, m5⟩; have M5 := hidIt (M4.out.trans m5); have R5 := hidIt (R4.out.frame m5 (fun _ _ f => f)); have a := hAt.out _ M5.out; clear hcg igg; have hcg := a.cell; have igg := a.inB; clear a; have dj : decide (j < 0) = false := (by simp; omega); have JA := hidIt ja; skip; clear m5 ja jk jz)
        | (go_at_call 18; refine (q18.out _ M5.out).mono ?_; rintro _ w6 ⟨rfl, e⟩; obtain rfl := e.symm)
        | (go_at_call 29; clear T4; refine (q29.out _ (M5.out.mono fun _ f => f.elim) _).mono ?_; rintro _ w7 ⟨b', bs', bl', be', bk', G7, rfl, nb7, mo7, gg7, m7⟩; have M7 := hidIt (M5.out.trans m7); have Q28 := hidIt (q28.out _ _ _ _ ⟨b', bs', bl', be', bk'⟩ _ (R5.out.frame m7 (fun _ _ f => f)) mo7); have a := hAt.out _ M7.out; clear hcg igg; have hcg := a.cell; have igg := a.inB; clear a; clear m7 mo7 gg7 nb7)
        | (go_at_call 28; refine Q28.out.mono ?_; rintro _ w8 ⟨b, rfl, hb, m8⟩; skip; have M8 := hidIt (M7.out.trans m8); have a := hAt.out _ M8.out; clear hcg igg; have hcg := a.cell; have igg := a.inB; clear a; clear m8 hb Q28)
        | (go_at_call 29; clear T5; refine (q29.out _ (M8.out.mono fun _ f => f.elim) j).mono ?_; rintro _ w9 ⟨pb, pbs, pbl, pbe, pbk, G9, rfl, nb9, mo9, gg9, m9⟩; rw [JA.out] at mo9; have M9 := hidIt (M8.out.trans m9); have a := hAt.out _ M9.out; clear hcg igg; have s9 : W.heap.size ≤ w8.heap.size := M8.out.size; have ngg : ¬ G9 g := (fun f => by have := gg9 _ f; have := LG.out; omega); have GG9 : Hid (∀ k, G9 k → W.heap.size ≤ k) := (fun k hk => Nat.le_trans s9 (gg9 k hk)); have WI9 := hidIt mo9.wi; obtain ⟨y9, rfl, iy9⟩ := a.door; have HM9 : Hid (∀ c, ModP (fun x => x = g) W (y9.put g c 41)) := (fun c => by have := ModP.put (M9.out.mono (G := fun x => x = g) fun _ f => f.elim) (.inl rfl) c 41; rw [World.put_put_same] at this; exact this); have MO9 := hidIt mo9; have NGG := hidIt ngg; clear m9 mo9 gg9 nb9 s9 ngg a)
        | (go_at_call 10; clear T6; refine (q10.out _ (HM9.out _)).mono ?_; rintro _ w10 ⟨bd2, nb2, rfl, dk2, m10⟩; have M10 := hidIt m10; have a := m10.at (World.At_put_same iy9) (fun f => f); have LF : Hid (∀ x, (y9.heap.size ≤ x) → x ≠ g) := (fun x hx e => by have : g < y9.heap.size := iy9; omega); obtain ⟨y10, rfl, iy10⟩ := a.door; have DK2 := hidIt dk2.trim; clear m10 dk2 a nb2))
      refine Ord.region1 [0] [1, 2, 3, 4, 5, 6, 7, 8] [9, 10, 11, 12] (by kernel_rfl) (by kernel_rfl) (fun _ _ d _ _ h => by cases d <;> exact h) ?_
      simp only [Ord.pickO, Ord.nth]
      repeat (go_big_quiet_step (fail))
      refine wpQuiet_nil ?_
      repeat (go_big_quiet_step (fail))
      refine wpQuiet_nil ?_
      go_wp2_with (first
        | (go_at_call 12; clear T7; refine (q12.out _ _ bd2 (DK2.out.frame ((put_re y10 g _ _ 41).drew) (fun k a e => LF.out k (by have := a.1; rw [World.size_put] at this; exact this) e)) (fun k h => by have := h.2; rw [World.size_put] at this; show k < (y10.put g _ 41).heap.size; rw [World.size_put]; exact this)).mono ?_; rintro _ w11 ⟨G11, q11', rfl, r11, b11, n11, l11, z11, s11, m11⟩; have nf : ¬ ((y9.put g (baseC cur o ⟨id, vp q.s.bd, vp q.b, vp pb⟩) 41).heap.size ≤ g ∧ g < (y10.put g (baseC cur o ⟨id, vp q.s.bd, vp q.b, vp pb⟩) 41).heap.size) := (fun h => LF.out g (by have := h.1; rw [World.size_put] at this; exact this) rfl); have a := m11.at (World.At_drew.2 (World.At_put_same iy10)) nf; have SZ : Hid (y9.heap.size ≤ y10.heap.size) := (by have := M10.out.size; rw [World.size_put, World.size_put] at this; exact this); have hG : ∀ k, G11 k → y9.heap.size ≤ k := (fun k hk => (s11 k hk).elim (fun h => by have := h.1; rw [World.size_put] at this; exact this) (fun h => by have h2 : (y10.put g (baseC cur o ⟨id, vp bd2, vp q.b, vp pb⟩) 41).heap.size ≤ k := h; rw [World.size_put] at h2; exact Nat.le_trans SZ.out h2)); obtain ⟨y11, rfl, iy11⟩ := a.door; obtain ⟨Fd2, D2, dk3, fs3, tie3, -⟩ := r11.disk; have hw := tie3.idle HI2.out; obtain ⟨rI, hrI⟩ : ∃ x : Int, (q11'.s.r : Int) = x := ⟨_, rfl⟩; have K11 : Hid (∀ c, Calls Tryz.prog 11 #[vp bd2] (y11.put g c 41) fun r w' => r = .returned (vi rI) ∧ w' = y11.put g c 41) := (fun c => by have := k11 (dk3.frame (put_re y11 g _ c 41) (fun k a e => LF.out k (hG _ (fs3 k a)) e)); rw [b11, hw, hrI] at this; exact this); have dr : decide (rI ≤ 12) = true := (by simp; omega); have HG11 := hidIt hG; have B11 := hidIt b11; have N11 := hidIt n11; have M11 := hidIt m11; have R11 := hidIt r11; clear r11 b11 n11 m11 hG dk3 fs3 tie3 hw hrI a nf s11 l11 z11)
        | (go_at_call 11; refine (K11.out _).mono ?_; rintro _ w12 ⟨rfl, e⟩; obtain rfl := e.symm))
      go_ret
      have MM : ∀ c0 c, ModP (fun x => x = g) (y9.put g c0 41) (y11.put g c 41) := by
        intro c0 c
        have e1 := put_re y9 g c0 (baseC cur o ⟨id, vp q.s.bd, vp q.b, vp pb⟩) 41
        have e2 := e1.step M10.out (fun _ f => f.elim)
        have e3 := e2.step (put_re y10 g _ (baseC cur o ⟨id, vp bd2, vp q.b, vp pb⟩) 41) (fun _ h => .inl h)
        have e4 := e3.drew.step M11.out (fun k hk => .inr (by have := hk.1; rw [World.size_put] at this ⊢; exact this))
        exact e4.step (put_re y11 g _ c 41) (fun _ h => .inl h)
      have hsz : W.heap.size ≤ y9.heap.size := by have := (HM9.out #[]).size; rw [World.size_put] at this; exact this
      refine ⟨rfl, q11', ⟨pb, pbs, pbl, pbe, pbk⟩, x0, G11, G9, ?_⟩
      refine ⟨by rw [B11.out]; exact World.At_put_same iy11, R11.out.frame (put_re y11 g _ _ 41) (fun k a e => LF.out k (HG11.out k a) e), MO9.out.frame (MM _ _) (fun k a e => NGG.out (e ▸ a)), fun k hk => Nat.le_trans hsz (HG11.out k hk), GG9.out, fun k hk h9 => ?_, HGd.out, HI1.out, HI2.out, N11.out, (HM9.out #[]).trans (MM _ _)⟩
      have h1 := WI9.out k h9
      rw [World.size_put] at h1
      have h2 := HG11.out k hk
      omega
end
end Go.Proofs.Qxb6500990aGreat
