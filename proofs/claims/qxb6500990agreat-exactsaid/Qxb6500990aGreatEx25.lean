/- package towerexact: owner, KSync -/
import Derived.Test.Qxb6500990aGreatEx18
import Derived.Test.Qxb6500990aGreatEx22
set_option linter.unusedVariables false
set_option linter.unusedSimpArgs false
namespace Go.Tw
open Go Go.Proofs Go.Proofs.Qxb6500990aGreat Go.RowKit
theorem VC.set_at (x : VC) (o : Option Nat) : VC.cells { x with at_ := o } = x.cells.set 2 (ptr o) := rfl
section
variable {B bw S j : Nat} {w w' : World} {own : Own} {c : Conf} {vb vo vr vv : Value} {F : Nat → Prop}
theorem WI.atV (h : WI B w bw own c vb vo vr vv S) {x : VC} (hx : c.vs[j]? = some x) (o : Option Nat) {gv : Nat} (hv : vv.ownBlock = some gv) {cur : Array Value} (ac : w.At gv cur 66) (m : ModP F w w') (hF : ∀ k, F k → k = x.br ∨ k = x.bs ∨ k = gv)
    (a : w'.At x.br ((NodeV.cells { x.nv with sync := ptr x.at_ }).setIfInBounds 0 (ptr o)) 62) (a' : w'.At x.bs x.sv.cells 64) (ag : w'.At gv (cur.setIfInBounds (j * 34 + 2) (ptr o)) 66) :
    WI B w' bw own { c with vs := c.vs.set j { x with at_ := o } } vb vo vr vv S := by
  have ok := h.vs j x hx
  refine h.setView (x' := { x with at_ := o }) hx rfl rfl ok.e m (fun k f => ?_) a a' ?_
  · rcases hF k f with e | e | e
    · rw [e]; exact .inl ok.t
    · rw [e]; exact .inr (.inl ok.t')
    · rw [e]; exact .inr (.inr (.inl (h.rv.2 gv hv)))
  · have := ownsRow_set h.rv.1 hv ac ag
    rw [flat_set VC.cells 34 VC.len c.vs j x { x with at_ := o } _ (ptr o) hx (by omega) (VC.set_at x o)] at this
    exact this
end
end Go.Tw
namespace Go.Proofs.Qxb6500990aGreat
open Go Go.RowKit Go.Tw
attribute [local go_sem] World.cell?_put_same World.cell?_put_ne World.cell?_put_ne' World.frozen?_put_same World.frozen?_put_ne World.frozen?_put_ne' World.setCell_put_same World.setCell_put_ne World.setCell_put_ne' World.inB_put World.inB_alloc World.inB_drew World.inB_drewN World.inB_new World.inB_setCell World.put_drew World.put_drewN World.q_setCell_drew World.q_setCell_drewN World.q_alloc_drew World.q_alloc_drewN World.put_put_same World.put_put_2 World.size_put World.q_cell?_alloc_old World.q_frozen?_alloc_old World.cell?_alloc_new' World.frozen?_alloc_new' World.q_setCell_alloc_old World.q_setCell_alloc_new World.q_put_alloc_old World.cell?_force_same World.frozen?_force_same World.cell?_force2_fst World.cell?_force2_snd OpR.g0 OpR.s0 OpR.g1 OpR.s1 OpR.g2 OpR.s2 OpR.g3 OpR.s3 OpR.g4 OpR.s4 OpR.g5 OpR.s5 WorldR.g0 WorldR.s0 WorldR.g1 WorldR.s1 WorldR.g2 WorldR.s2 WorldR.g3 WorldR.s3 WorldR.g4 WorldR.s4 WorldR.g5 WorldR.s5 WorldR.g6 WorldR.s6 WorldR.g7 WorldR.s7 WorldR.g8 WorldR.s8
attribute [local go_sem] ba_get ba_eq ba_beq
set_option maxHeartbeats 4000000
set_option maxRecDepth 100000
section
variable {B bw S : Nat} {W : World} {own : Own} {c : Conf} {vb vo vr vv : Value}
theorem c8_sync (h : WI B W bw own c vb vo vr vv S) (o : OpR) (hwf : OpWf o) (hk : o.kind = 109) (h0 : c.vs.length ≠ 0) : Calls Tryz.prog 8 #[vp bw, .agg o.cells] W (OwnR B W bw S) := by
  obtain ⟨k, a, b, cc, s, t⟩ := o
  have ha := hwf.a
  have hb := hwf.b
  simp only [] at hk ha hb
  subst hk
  obtain ⟨adb, capb, rfl, -⟩ := ownsRow_form h.rb.1
  obtain ⟨ado, capo, rfl, -⟩ := ownsRow_form h.ro.1
  obtain ⟨adr, capr, rfl, -⟩ := ownsRow_form h.rr.1
  obtain ⟨g, capv, cur, rfl, ac, hcur⟩ := row_arr h.rv.1 h0
  have H := hidIt h
  have lv : c.vs.length ≤ 1073741824 := by have := h.ln; have := h.sz; omega
  have hp := pickF_lt a (n := c.vs.length) (by omega)
  obtain ⟨j, hj⟩ : ∃ x, pickF a c.vs.length = x := ⟨_, rfl⟩
  rw [hj] at hp
  obtain ⟨x, hxe⟩ : ∃ x, c.vs[j]? = some x := ⟨_, List.getElem?_eq_getElem hp⟩
  have ok := h.vs j _ hxe
  have hx := flat_get VC.cells 34 VC.len c.vs j _ hxe
  have k0 : cur[j * 34]? = some (vp x.br) := hcur _ _ (hx 0 (by omega))
  have k1 : cur[j * 34 + 1]? = some (vp x.bs) := hcur _ _ (hx 1 (by omega))
  have q25 : Hid (∀ w, Calls Tryz.prog 25 #[vi a, vi c.vs.length] w fun r w' => r = .returned (vi j) ∧ w' = w) := fun w => by have := c25 w a c.vs.length (by omega) (by omega) ha.1 ha.2; rw [hj] at this; exact this
  have d0 : decide (0 < c.vs.length) = true := decide_eq_true (by omega)
  have c4 : (j : Int) < c.vs.length := by omega
  have HX := hidIt hxe
  have hlen : ∀ q, q < 34 → ∃ u, cur[j * 34 + q]? = some u := fun q hq => by
    obtain ⟨u, hu⟩ : ∃ u, (x.cells)[q]? = some u := ⟨_, List.getElem?_eq_getElem (by rw [VC.len]; exact hq)⟩
    exact ⟨u, hcur _ _ (by rw [hx q hq]; exact hu)⟩
  have hp2 := pickF_lt b (n := c.vs.length) (by omega)
  have qB : Hid (∀ w, Calls Tryz.prog 25 #[vi b, vi c.vs.length] w fun r w' => r = .returned (vi (pickF b c.vs.length)) ∧ w' = w) := fun w => c25 w b c.vs.length (by omega) (by omega) hb.1 hb.2
  generalize pickF b c.vs.length = j2 at *
  have c5 : (j2 : Int) < c.vs.length := by omega
  obtain ⟨x2, hxe2⟩ : ∃ x, c.vs[j2]? = some x := ⟨_, List.getElem?_eq_getElem hp2⟩
  have r1 : cur[j2 * 34 + 1]? = some (vp x2.bs) := hcur _ _ (by rw [flat_get VC.cells 34 VC.len c.vs j2 _ hxe2 1 (by omega)]; rfl)
  have lz : j * 34 + 2 < cur.size := by
    obtain ⟨u, hu⟩ := hlen 2 (by omega)
    exact (Array.getElem?_eq_some_iff.1 hu).1
  obtain ⟨u2, k3⟩ := hlen 2 (by omega)
  have kf : ∀ v, (cur.setIfInBounds (j * 34 + 2) v)[j2 * 34 + 1]? = some (vp x2.bs) := fun v => by rw [Array.getElem?_setIfInBounds_ne (by omega)]; exact r1
  have kg : ∀ v, (cur.setIfInBounds (j * 34 + 2) v)[j * 34]? = some (vp x.br) := fun v => by rw [Array.getElem?_setIfInBounds_ne (by omega)]; exact k0
  have kh : ∀ v, (cur.setIfInBounds (j * 34 + 2) v)[j * 34 + 2]? = some v := fun v => by rw [Array.getElem?_setIfInBounds_self_of_lt lz]
  have k2 : (NodeV.cells { x.nv with sync := ptr x.at_ })[0]? = some (ptr x.at_) := NodeV.g0 _
  have ss : ∀ v v', (cur.setIfInBounds (j * 34 + 2) v).setIfInBounds (j * 34 + 2) v' = cur.setIfInBounds (j * 34 + 2) v' := fun v v' => by simp
  clear hwf hcur hj hxe hx hlen lz hp2 hxe2
  by_cases hcc : cc = 0
  · subst hcc
    have n1 : x.br ≠ x.bs := At.neT ok.a ok.a' (by decide)
    have n2 : x.br ≠ g := At.neT ok.a ac (by decide)
    have n3 : x.bs ≠ g := At.neT ok.a' ac (by decide)
    have w1 : bw ≠ x.br := At.neT h.hw ok.a (by decide)
    have w2 : bw ≠ x.bs := At.neT h.hw ok.a' (by decide)
    have w3 : bw ≠ g := At.neT h.hw ac (by decide)
    have AC := hidIt ac
    have hw := h.hw
    obtain ⟨y, hy, i1, i2, i3⟩ := open3 ok.a ok.a' ac n1 n2 n3
    clear h ok ac
    subst hy
    have hw := (World.At_put_ne' w1).1 ((World.At_put_ne' w2).1 ((World.At_put_ne' w3).1 hw))
    have hc0 := hw.cell
    have ic0 := hw.inB
    clear hw
    go_enter Tryz.func8, Tryz.ntmps8
    go_wp2_with fail
    refine Ord.region1 [] [0, 1, 2, 3, 4, 5, 6, 7, 8, 9, 10, 11, 12] [13] (by kernel_rfl) (by kernel_rfl) (fun _ _ d _ _ h => by cases d <;> exact h) ?_
    simp only [Ord.pickO, Ord.nth]
    refine wpQuiet_nil ?_
    repeat (first | go_big_quiet_step (fail) | (go_big_quiet_want; go_big_quiet_op; refine Exists.intro _ ⟨by first | (go_at_call 25; exact q25.out _), ?_⟩; go_big_quiet_on))
    refine wpQuiet_nil ?_
    go_wp2_with fail
    refine Ord.region1 [] [0, 1, 2, 3, 4, 5, 6, 7, 8, 9] [10] (by kernel_rfl) (by kernel_rfl) (fun _ _ d _ _ h => by cases d <;> exact h) ?_
    simp only [Ord.pickO, Ord.nth]
    refine wpQuiet_nil ?_
    repeat (go_big_quiet_step (fail))
    refine wpQuiet_nil ?_
    go_wp2_with fail
    go_ret
    have h := H.out
    have m : ∀ c1 c2 c3 ob, ModP (fun k => k = x.br ∨ k = x.bs ∨ k = g) _ ((((y.put x.br c1 62).put x.bs c2 64).put g c3 66).alloc ob) := fun c1 c2 c3 ob => ((((((ModP.refl _ (((y.put x.br (NodeV.cells { x.nv with sync := ptr x.at_ }) 62).put x.bs x.sv.cells 64).put g cur 66)).unput (.inl (.inr (.inr rfl)))).unput (.inl (.inr (.inl rfl)))).unput (.inl (.inl rfl))).put (.inl (.inl rfl)) c1 62 |>.put (.inl (.inr (.inl rfl))) c2 64).put (.inl (.inr (.inr rfl))) c3 66).alloc ob
    have aa : ∀ c1 c2 c3 ob, ((((y.put x.br c1 62).put x.bs c2 64).put g c3 66).alloc ob).At x.br c1 62 := fun c1 c2 c3 ob => World.At.alloc ((World.At_put_ne' n2).2 ((World.At_put_ne' n1).2 (World.At_put_same i1))) ob
    have ab : ∀ c1 c2 c3 ob, ((((y.put x.br c1 62).put x.bs c2 64).put g c3 66).alloc ob).At x.bs c2 64 := fun c1 c2 c3 ob => World.At.alloc ((World.At_put_ne' n3).2 (World.At_put_same (World.inB_put.2 i2))) ob
    have ag : ∀ c1 c2 c3 ob, ((((y.put x.br c1 62).put x.bs c2 64).put g c3 66).alloc ob).At g c3 66 := fun c1 c2 c3 ob => World.At.alloc (World.At_put_same (World.inB_put.2 (World.inB_put.2 i3))) ob
    have lo : ∀ k, (k = x.br ∨ k = x.bs ∨ k = g) → B ≤ k := fun k f => by
      have ok := h.vs j x HX.out
      rcases f with e | e | e
      · exact (h.lo k (by rw [e, ok.t]; exact nofun)).1
      · exact (h.lo k (by rw [e, ok.t']; exact nofun)).1
      · exact (h.lo k (by rw [e, h.rv.2 g rfl]; exact nofun)).1
    refine ⟨rfl, own, _, _, _, _, _, h.atV (F := fun k => k = x.br ∨ k = x.bs ∨ k = g) HX.out none rfl AC.out ?_ (fun k f => f) ?_ ?_ ?_, ?_⟩
    · repeat (first | exact m _ _ _ _ | apply ModP.drew)
    · repeat (first | exact aa _ _ _ _ | refine World.At_drew.2 ?_)
    · repeat (first | exact ab _ _ _ _ | refine World.At_drew.2 ?_)
    · repeat (first | exact ag _ _ _ _ | refine World.At_drew.2 ?_)
    · refine ModP.mono (F := fun k => k = x.br ∨ k = x.bs ∨ k = g) ?_ lo
      repeat (first | exact m _ _ _ _ | apply ModP.drew)
  · have dcc : (cc == 0) = false := by simpa using hcc
    clear hcc
    have n1 : x.br ≠ x.bs := At.neT ok.a ok.a' (by decide)
    have n2 : x.br ≠ g := At.neT ok.a ac (by decide)
    have n3 : x.bs ≠ g := At.neT ok.a' ac (by decide)
    have w1 : bw ≠ x.br := At.neT h.hw ok.a (by decide)
    have w2 : bw ≠ x.bs := At.neT h.hw ok.a' (by decide)
    have w3 : bw ≠ g := At.neT h.hw ac (by decide)
    have AC := hidIt ac
    have hw := h.hw
    obtain ⟨y, hy, i1, i2, i3⟩ := open3 ok.a ok.a' ac n1 n2 n3
    clear h ok ac
    subst hy
    have hw := (World.At_put_ne' w1).1 ((World.At_put_ne' w2).1 ((World.At_put_ne' w3).1 hw))
    have hc0 := hw.cell
    have ic0 := hw.inB
    clear hw
    go_enter Tryz.func8, Tryz.ntmps8
    go_wp2_with fail
    refine Ord.region1 [] [0, 1, 2, 3, 4, 5, 6, 7, 8, 9, 10, 11, 12] [13] (by kernel_rfl) (by kernel_rfl) (fun _ _ d _ _ h => by cases d <;> exact h) ?_
    simp only [Ord.pickO, Ord.nth]
    refine wpQuiet_nil ?_
    repeat (first | go_big_quiet_step (fail) | (go_big_quiet_want; go_big_quiet_op; refine Exists.intro _ ⟨by first | (go_at_call 25; exact q25.out _), ?_⟩; go_big_quiet_on))
    refine wpQuiet_nil ?_
    go_wp2_with fail
    refine Ord.region1 [] [0, 1, 2, 3, 4, 5, 6, 7, 8, 9, 10, 11, 12, 13, 14, 15, 16, 17] [18] (by kernel_rfl) (by kernel_rfl) (fun _ _ d _ _ h => by cases d <;> exact h) ?_
    simp only [Ord.pickO, Ord.nth]
    refine wpQuiet_nil ?_
    repeat (first | go_big_quiet_step (fail) | (go_big_quiet_want; go_big_quiet_op; refine Exists.intro _ ⟨by first | (go_at_call 25; exact qB.out _), ?_⟩; go_big_quiet_on))
    refine wpQuiet_nil ?_
    go_wp2_with fail
    refine Ord.region1 [] [0, 1, 2, 3, 4, 5, 6, 7, 8, 9] [10] (by kernel_rfl) (by kernel_rfl) (fun _ _ d _ _ h => by cases d <;> exact h) ?_
    simp only [Ord.pickO, Ord.nth]
    refine wpQuiet_nil ?_
    repeat (go_big_quiet_step (fail))
    refine wpQuiet_nil ?_
    go_wp2_with fail
    go_ret
    have h := H.out
    have m : ∀ c1 c2 c3 ob, ModP (fun k => k = x.br ∨ k = x.bs ∨ k = g) _ ((((y.put x.br c1 62).put x.bs c2 64).put g c3 66).alloc ob) := fun c1 c2 c3 ob => ((((((ModP.refl _ (((y.put x.br (NodeV.cells { x.nv with sync := ptr x.at_ }) 62).put x.bs x.sv.cells 64).put g cur 66)).unput (.inl (.inr (.inr rfl)))).unput (.inl (.inr (.inl rfl)))).unput (.inl (.inl rfl))).put (.inl (.inl rfl)) c1 62 |>.put (.inl (.inr (.inl rfl))) c2 64).put (.inl (.inr (.inr rfl))) c3 66).alloc ob
    have aa : ∀ c1 c2 c3 ob, ((((y.put x.br c1 62).put x.bs c2 64).put g c3 66).alloc ob).At x.br c1 62 := fun c1 c2 c3 ob => World.At.alloc ((World.At_put_ne' n2).2 ((World.At_put_ne' n1).2 (World.At_put_same i1))) ob
    have ab : ∀ c1 c2 c3 ob, ((((y.put x.br c1 62).put x.bs c2 64).put g c3 66).alloc ob).At x.bs c2 64 := fun c1 c2 c3 ob => World.At.alloc ((World.At_put_ne' n3).2 (World.At_put_same (World.inB_put.2 i2))) ob
    have ag : ∀ c1 c2 c3 ob, ((((y.put x.br c1 62).put x.bs c2 64).put g c3 66).alloc ob).At g c3 66 := fun c1 c2 c3 ob => World.At.alloc (World.At_put_same (World.inB_put.2 (World.inB_put.2 i3))) ob
    have lo : ∀ k, (k = x.br ∨ k = x.bs ∨ k = g) → B ≤ k := fun k f => by
      have ok := h.vs j x HX.out
      rcases f with e | e | e
      · exact (h.lo k (by rw [e, ok.t]; exact nofun)).1
      · exact (h.lo k (by rw [e, ok.t']; exact nofun)).1
      · exact (h.lo k (by rw [e, h.rv.2 g rfl]; exact nofun)).1
    refine ⟨rfl, own, _, _, _, _, _, h.atV (F := fun k => k = x.br ∨ k = x.bs ∨ k = g) HX.out (some x2.bs) rfl AC.out ?_ (fun k f => f) ?_ ?_ ?_, ?_⟩
    · repeat (first | exact m _ _ _ _ | apply ModP.drew)
    · repeat (first | exact aa _ _ _ _ | refine World.At_drew.2 ?_)
    · repeat (first | exact ab _ _ _ _ | refine World.At_drew.2 ?_)
    · repeat (first | exact ag _ _ _ _ | refine World.At_drew.2 ?_)
    · refine ModP.mono (F := fun k => k = x.br ∨ k = x.bs ∨ k = g) ?_ lo
      repeat (first | exact m _ _ _ _ | apply ModP.drew)
end
end Go.Proofs.Qxb6500990aGreat
