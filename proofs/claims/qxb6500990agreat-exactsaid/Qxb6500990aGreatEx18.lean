/- package towerexact: owner, KOut -/
import Derived.Test.Qxb6500990aGreatEx17
import Derived.Test.Qxb6500990aGreatOrder5
import Derived.Test.Qxb6500990aGreatOrder7
import Derived.Deep.Cut
set_option linter.unusedVariables false
set_option linter.unusedSimpArgs false
namespace Go.Tw
open Go Go.Proofs Go.Proofs.Qxb6500990aGreat Go.RowKit
/-- the array of a row that is not empty -/
theorem row_arr {B e s n : Nat} {w : World} {v : Value} {xs : List Value} (h : w.ownsRow B e s v n xs) (hn : n ≠ 0) : ∃ (g cap : Nat) (cur : Array Value), v = .slice (some ⟨g, 0, none⟩) n cap ∧ w.At g cur e ∧ ∀ (k : Nat) (u : Value), xs[k]? = some u → cur[k]? = some u := by
  have hf := ownsRow_form h
  rcases id h.2 with ⟨hv, h0⟩ | ⟨g', cap, cur, hv, h3, h4, h5⟩
  · exact absurd h0 hn
  · obtain ⟨ad, cap2, e2, hc⟩ := hf
    have a0 : w.At g' cur e := h4
    refine ⟨g', cap, cur, hv, a0, fun k u hu => ?_⟩
    obtain ⟨g2, q1, q2, q3⟩ := hc k u hu
    rw [hv] at e2
    injection e2 with e2
    rw [← e2] at q1
    injection q1 with q1; injection q1 with q1
    subst q1
    rw [← q3, a0.cell k]
end Go.Tw
namespace Go.Proofs.Qxb6500990aGreat
open Go Go.RowKit Go.Tw
attribute [local go_sem] World.cell?_put_same World.cell?_put_ne World.cell?_put_ne' World.frozen?_put_same World.frozen?_put_ne World.frozen?_put_ne' World.setCell_put_same World.setCell_put_ne World.setCell_put_ne' World.inB_put World.inB_alloc World.inB_drew World.inB_drewN World.inB_new World.inB_setCell World.put_drew World.put_drewN World.q_setCell_drew World.q_setCell_drewN World.q_alloc_drew World.q_alloc_drewN World.put_put_same World.put_put_2 World.size_put World.q_cell?_alloc_old World.q_frozen?_alloc_old World.cell?_alloc_new' World.frozen?_alloc_new' World.q_setCell_alloc_old World.q_setCell_alloc_new World.q_put_alloc_old World.cell?_force_same World.frozen?_force_same World.cell?_force2_fst World.cell?_force2_snd OpR.g0 OpR.s0 OpR.g1 OpR.s1 OpR.g2 OpR.s2 OpR.g3 OpR.s3 OpR.g4 OpR.s4 OpR.g5 OpR.s5 WorldR.g0 WorldR.s0 WorldR.g1 WorldR.s1 WorldR.g2 WorldR.s2 WorldR.g3 WorldR.s3 WorldR.g4 WorldR.s4 WorldR.g5 WorldR.s5 WorldR.g6 WorldR.s6 WorldR.g7 WorldR.s7 WorldR.g8 WorldR.s8 OutM.g0 OutM.s0 OutM.g1 OutM.s1
attribute [local go_sem] ba_get ba_eq ba_beq World.cell?_force3_1 World.cell?_force3_2 World.cell?_force3_3
set_option maxHeartbeats 4000000
set_option maxRecDepth 100000
section
variable {B bw S : Nat} {W : World} {own : Own} {c : Conf} {vb vo vr vv : Value}
theorem c8_out (h : WI B W bw own c vb vo vr vv S) (o : OpR) (hw : OpWf o) (hk : o.kind = 104) (h0 : c.os.length ≠ 0) : Calls Tryz.prog 8 #[vp bw, .agg o.cells] W (OwnR B W bw S) := by
  obtain ⟨k, a, b, cc, s, t⟩ := o
  have ha := hw.a
  have hb := hw.b
  simp only [] at hk ha hb
  subst hk
  obtain ⟨adb, capb, rfl, -⟩ := ownsRow_form h.rb.1
  obtain ⟨g, capo, cur, rfl, ac, hcur⟩ := row_arr h.ro.1 h0
  obtain ⟨adr, capr, rfl, -⟩ := ownsRow_form h.rr.1
  obtain ⟨adv, capv, rfl, -⟩ := ownsRow_form h.rv.1
  have H := hidIt h
  have lo : c.os.length ≤ 1073741824 := by have := h.ln; have := h.sz; omega
  obtain ⟨n, hn⟩ : ∃ x, c.os.length = x := ⟨_, rfl⟩
  have hp := pickF_lt a (n := c.os.length) (by omega)
  obtain ⟨j, hj⟩ : ∃ x, pickF a c.os.length = x := ⟨_, rfl⟩
  rw [hj] at hp
  obtain ⟨⟨xg, xh, xs⟩, hxe⟩ : ∃ x, c.os[j]? = some x := ⟨_, List.getElem?_eq_getElem hp⟩
  have ok := h.os j _ hxe
  have hx := flat_get LC.cells 2 (fun _ => rfl) c.os j _ hxe
  have k0 : cur[j * 2]? = some (.slice (some ⟨xg, 0, none⟩) xs.length xs.length) := hcur _ _ (hx 0 (by omega))
  have k1 : cur[j * 2 + 1]? = some (.slice (some ⟨xh, 0, none⟩) xs.length xs.length) := hcur _ _ (hx 1 (by omega))
  have q25 : Hid (∀ w, Calls Tryz.prog 25 #[vi a, vi c.os.length] w fun r w' => r = .returned (vi j) ∧ w' = w) := fun w => by have := c25 w a c.os.length (by omega) (by omega) ha.1 ha.2; rw [hj] at this; exact this
  have n1 : W.heap.size ≠ bw := fun e => by have h1 : bw < W.heap.size := h.hw.inB; omega
  have n2 : W.heap.size ≠ g := fun e => by have h1 : g < W.heap.size := ac.inB; omega
  have n3 : bw ≠ g := At.neT h.hw ac (by decide)
  have d0 : decide (0 < c.os.length) = true := decide_eq_true (by omega)
  have c4 : (j : Int) < c.os.length := by omega
  have AC := hidIt ac
  have HX := hidIt hxe
  have OK := hidIt ok
  have hc0 := h.hw.cell
  have ic0 := h.hw.inB
  clear h hw hx hcur hxe ok ac hj hn h0
  go_enter Tryz.func8, Tryz.ntmps8
  go_upto_region 21 with fail
  have b1 : (W.alloc (.cells (OpR.cells ⟨104, a, b, cc, s, t⟩) 26)).At W.heap.size (OpR.cells ⟨104, a, b, cc, s, t⟩) 26 := World.At_alloc_new
  have b2 := World.At.alloc H.out.hw (.cells (OpR.cells ⟨104, a, b, cc, s, t⟩) 26)
  have b3 := World.At.alloc AC.out (.cells (OpR.cells ⟨104, a, b, cc, s, t⟩) 26)
  have B1 := hidIt b1
  have B2 := hidIt b2
  have B3 := hidIt b3
  have CX : Hid (∀ u, ModP (fun _ => False) (W.alloc (.cells (OpR.cells ⟨104, a, b, cc, s, t⟩) 26)) u → ∃ z : World, u = z.force3 W.heap.size (OpR.cells ⟨104, a, b, cc, s, t⟩) 26 bw (WorldR.cells ⟨.slice adb c.bs.length capb, c.k, c.ra, c.rb, c.old, .slice (some ⟨g, 0, none⟩) c.os.length capo, .slice adr c.rs.length capr, .slice adv c.vs.length capv, false⟩) 33 g cur 52) := fun u m => ca_of3 (m.at b1 (fun f => f)) (m.at b2 (fun f => f)) (m.at b3 (fun f => f))
  clear b1 b2 b3
  have hcg := B3.out.cell
  have icg := B3.out.inB
  have MW : Hid (ModP (fun _ => False) W (W.alloc (.cells (OpR.cells ⟨104, a, b, cc, s, t⟩) 26))) := (ModP.refl _ _).alloc _
  generalize hWB : W.alloc (.cells (OpR.cells ⟨104, a, b, cc, s, t⟩) 26) = WB at *
  clear hWB
  go_cut [8] from 21 (fun v8 wc => ∃ z, v8 = vp z ∧ Hid (WB.heap.size ≤ z) ∧ Hid (wc.At z #[.slice (some ⟨xg, 0, none⟩) xs.length xs.length, .slice (some ⟨xh, 0, none⟩) xs.length xs.length] 52) ∧ Hid (ModP (fun _ => False) WB wc))
  case first =>
    refine Ord.region3 (fun w' => ∃ u : World, w' = u.force3 W.heap.size (OpR.cells ⟨104, a, b, cc, s, t⟩) 26 bw (WorldR.cells ⟨.slice adb c.bs.length capb, c.k, c.ra, c.rb, c.old, .slice (some ⟨g, 0, none⟩) c.os.length capo, .slice adr c.rs.length capr, .slice adv c.vs.length capv, false⟩) 33 g cur 52) [0, 1, 2, 3, 4, 5, 6, 7, 8, 9, 10] [] (.two 11 true (.val 12 (.two 13 false (.one 14 true (.one 15 false .fin)) 14 true (.one 13 false (.one 15 false .fin)))) 14 true (.one 11 true (.val 12 (.one 13 false (.one 15 false .fin))))) false (fun h => by cases h) (by kernel_rfl) (Ord.in3q_3 (by kernel_rfl)) (fun _ _ d _ _ h => by cases d <;> exact h) ?ca21_1 ?_
    rotate_left
    simp only [Ord.pickO, Ord.nth]
    repeat (go_big_quiet_step (fail))
    refine wpQuiet_nil ?_
    refine wpQuiet_nil ?_
    -- steps: [['L11', 'V12', ['N13', 'L14', 'N15'], ['L14', 'N13', 'N15']], ['L14', 'L11', 'V12', 'N13', 'N15']]
    rotate_left
    · exact CX.out _ (ModP.refl _ _).drew
    refine Ord.wpS_two ?_ ?_
    · skip
      refine Ord.wpS_loose rfl ?_
      intro K hK
      dsimp only [Ord.nth]
      go_wp2_with (first
        | (go_at_call 25; refine (q25.out _).mono ?_; rintro _ w5 ⟨rfl, e⟩; obtain rfl := e.symm))
      refine hK _ _ (CX.out _ (ModP.refl _ _).drew) ?_
      clear hK K
      refine Ord.wpS_val rfl ?_
      dsimp only [Ord.nth]
      go_big_quiet_step (fail)
      refine wpQuiet_nil ?_
      refine Ord.wpS_two ?_ ?_
      · skip
        refine Ord.wpS_next rfl ?_
        intro K hK
        dsimp only [Ord.nth]
        go_wp2_with fail
        refine Ord.wpS_loose rfl ?_
        intro K hK
        dsimp only [Ord.nth]
        go_wp2_with fail
        refine hK _ _ (CX.out _ ((ModP.refl _ _).drew.alloc _)) ?_
        clear hK K
        refine Ord.wpS_next rfl ?_
        intro K hK
        dsimp only [Ord.nth]
        go_wp2_with fail
        refine Ord.wpS_fin ?_
        go_wp2_with fail
        go_meet
        case rel => exact ⟨_, rfl, Nat.le_refl _, World.At_drew.2 World.At_alloc_new, ((ModP.refl _ _).alloc _).drew⟩
      · skip
        refine Ord.wpS_loose rfl ?_
        intro K hK
        dsimp only [Ord.nth]
        go_wp2_with fail
        refine hK _ _ (CX.out _ ((ModP.refl _ _).drew.alloc _)) ?_
        clear hK K
        refine Ord.wpS_next rfl ?_
        intro K hK
        dsimp only [Ord.nth]
        go_wp2_with fail
        refine Ord.wpS_next rfl ?_
        intro K hK
        dsimp only [Ord.nth]
        go_wp2_with fail
        refine Ord.wpS_fin ?_
        go_wp2_with fail
        go_meet
        case rel => exact ⟨_, rfl, Nat.le_refl _, World.At_drew.2 World.At_alloc_new, ((ModP.refl _ _).alloc _).drew⟩
    · skip
      refine Ord.wpS_loose rfl ?_
      intro K hK
      dsimp only [Ord.nth]
      go_wp2_with fail
      refine hK _ _ (CX.out _ ((ModP.refl _ _).drew.alloc _)) ?_
      clear hK K
      refine Ord.wpS_loose rfl ?_
      intro K hK
      dsimp only [Ord.nth]
      go_wp2_with (first
        | (go_at_call 25; refine (q25.out _).mono ?_; rintro _ w5 ⟨rfl, e⟩; obtain rfl := e.symm))
      refine hK _ _ (CX.out _ ((ModP.refl _ _).drew.alloc _)) ?_
      clear hK K
      refine Ord.wpS_val rfl ?_
      dsimp only [Ord.nth]
      go_big_quiet_step (fail)
      refine wpQuiet_nil ?_
      refine Ord.wpS_next rfl ?_
      intro K hK
      dsimp only [Ord.nth]
      go_wp2_with fail
      refine Ord.wpS_next rfl ?_
      intro K hK
      dsimp only [Ord.nth]
      go_wp2_with fail
      refine Ord.wpS_fin ?_
      go_wp2_with fail
      go_meet
      case rel => exact ⟨_, rfl, Nat.le_refl _, World.At_drew.2 World.At_alloc_new, ((ModP.refl _ _).alloc _).drew⟩
  case rest =>
    obtain ⟨z, rfl, nz, az, mz⟩ := hcut
    have M0 : Hid (ModP (fun _ => False) W wc) := MW.out.trans mz.out
    have ag : wc.At xg (outsC xs).toArray 72 := M0.out.at OK.out.a (fun f => f)
    have ah : wc.At xh (outsC xs).toArray 72 := M0.out.at OK.out.a' (fun f => f)
    have bb := mz.out.at B1.out (fun f => f)
    have az := az.out
    have ngh : xg ≠ xh := fun e => by have h1 := OK.out.t; have h2 := OK.out.t'; simp only [] at h1 h2; rw [e, h2] at h1; cases h1
    have nzg : z ≠ xg := At.neT az ag (by decide)
    have nzh : z ≠ xh := At.neT az ah (by decide)
    have nbg : W.heap.size ≠ xg := At.neT bb ag (by decide)
    have nbh : W.heap.size ≠ xh := At.neT bb ah (by decide)
    obtain ⟨y, hy, i1, i2⟩ := open2 ag ah ngh
    clear nz mz CX B1 B2 B3 hcg icg hc0 ic0 k0 k1 q25 ag ah
    subst hy
    have az := (World.At_put_ne' nzg).1 ((World.At_put_ne' nzh).1 az)
    have bb := (World.At_put_ne' nbg).1 ((World.At_put_ne' nbh).1 bb)
    have cz := az.cell
    have iz := az.inB
    have cb := bb.cell
    have ib := bb.inB
    have lx : xs.length ≤ 1000 := OK.out.l
    have px : 0 < xs.length := OK.out.p
    have hpi := pickF_lt b px
    obtain ⟨i, hi⟩ : ∃ x, pickF b xs.length = x := ⟨_, rfl⟩
    rw [hi] at hpi
    have q25 : Hid (∀ w, Calls Tryz.prog 25 #[vi b, vi xs.length] w fun r w' => r = .returned (vi i) ∧ w' = w) := fun w => by have := c25 w b xs.length px (by omega) hb.1 hb.2; rw [hi] at this; exact this
    have d1 : decide (0 < xs.length) = true := decide_eq_true (by omega)
    have c5 : (i : Int) < xs.length := by omega
    obtain ⟨x0, hx0⟩ : ∃ x, xs[i]? = some x := ⟨_, List.getElem?_eq_getElem hpi⟩
    have kk := outsC_get hx0
    have kl0 := kk.1
    have kl1 := kk.2
    have kk0 : (outsC xs).toArray[i * 2]? = some (.int .i64 x0.to) := by simpa using kk.1
    have kk1 : (outsC xs).toArray[i * 2 + 1]? = some (.string (ByteArray.mk x0.raw.toArray)) := by simpa using kk.2
    have HPI := hidIt hpi
    clear az bb hi hpi px kk hx0
    go_wp2_with (first
      | (go_at_call 25; refine (q25.out _).mono ?_; rintro _ w6 ⟨rfl, e⟩; obtain rfl := e.symm))
    go_ret
    have h := H.out
    have hs := outsC_set HPI.out cc s
    simp only [List.setIfInBounds_toArray] at hs
    have m : ∀ cx, ModP (fun k => k = xg ∨ k = xh) W ((y.put xg cx 72).put xh cx 72) := fun cx => (((M0.out.mono (fun _ f => f.elim)).unput (.inl (.inr rfl))).unput (.inl (.inl rfl))).put (.inl (.inl rfl)) cx 72 |>.put (.inl (.inr rfl)) cx 72
    rw [hs]
    have wi := h.setOut HX.out (ys := xs.set i ⟨cc, s⟩) (by simp) (m (outsC (xs.set i ⟨cc, s⟩)).toArray) (fun k f => f.elim (fun e => .inl (by rw [e]; exact OK.out.t)) (fun e => .inr (.inl (by rw [e]; exact OK.out.t')))) ((World.At_put_ne' ngh).2 (World.At_put_same i1)) (World.At_put_same (World.inB_put.2 i2))
    exact ⟨rfl, own, _, _, _, _, _, wi, (m _).mono (fun k f => f.elim (fun e => (h.lo k (by rw [e, OK.out.t]; exact nofun)).1) (fun e => (h.lo k (by rw [e, OK.out.t']; exact nofun)).1))⟩
end
end Go.Proofs.Qxb6500990aGreat
