/- package sync: flush -/
import Derived.Test.Qxb6500990aGreatSy5
import Derived.Test.Qxb6500990aGreatStructs3
import Derived.Deep.Cut
set_option linter.unusedVariables false
set_option linter.unusedSimpArgs false
namespace Go.Tw
open Go Go.Proofs Go.Proofs.Qxb6500990aGreat
/-- the core behind an event, and the messages that have left it -/
def RSm (G0 : Nat → Prop) (W : World) (p : SyP) (A : AS) (ms : List Msg) (w : World) (v : Value) : Prop :=
  ∃ G bx B, RSp w G p A A.lg.now.last (A.lg.now.termAt A.lg.now.last).1 bx 0 ∧ Grows G0 W G ∧ ModP G0 W w ∧ MsgsAt B w v ms ∧ (∀ k, G k → k < B) ∧ W.heap.size ≤ B
def zB (bx : Nat → MsgR) (k i : Nat) : MsgR := if i < k then zMR else bx i
def oB (bx : Nat → MsgR) (k i : Nat) : MsgR := if i < k then bx i else zMR
theorem zB_0 (bx : Nat → MsgR) : zB bx 0 = bx := by funext i; simp [zB]
theorem oB_0 (bx : Nat → MsgR) : oB bx 0 = fun _ => zMR := by funext i; simp [oB]
theorem zB_k (bx : Nat → MsgR) (k : Nat) : zB bx k k = bx k := by simp [zB]
theorem zB_set (bx : Nat → MsgR) (k : Nat) : upd (zB bx k) k zMR = zB bx (k + 1) := by
  funext i; unfold upd zB
  by_cases e : i = k
  · subst e; simp
  · simp only [e, if_false]
    by_cases c : i < k
    · rw [if_pos c, if_pos (by omega)]
    · rw [if_neg c, if_neg (by omega)]
theorem oB_set (bx : Nat → MsgR) (k : Nat) : upd (oB bx k) k (bx k) = oB bx (k + 1) := by
  funext i; unfold upd oB
  by_cases e : i = k
  · subst e; simp
  · simp only [e, if_false]
    by_cases c : i < k
    · rw [if_pos c, if_pos (by omega)]
    · rw [if_neg c, if_neg (by omega)]
end Go.Tw
namespace Go.Proofs.Qxb6500990aGreat
open Go Go.RowKit Go.Tw
theorem inf159 : ∃ i, Tryz.prog.info? 159 = some i ∧ i.zero = some (.agg (MsgR.cells zMR)) ∧ i.size = 10 ∧ i.bytes = 104 :=
  ⟨(Tryz.prog.info? 159).getD default, by kernel_rfl, by kernel_rfl, by kernel_rfl, by kernel_rfl⟩
theorem mk219_1 (w : World) : (Instr.makeSlice 219 (.int .i64 1) (.int .i64 1)).run Tryz.prog w = .ok (.slice (some ⟨w.heap.size, 0, none⟩) 1 1) (w.alloc (.cells (Box1.cells ⟨fun _ => zMR⟩) 159)) := by
  obtain ⟨i, hi, hz, hsz, hby⟩ := inf159
  rw [run_make w 219 159 i (.agg (MsgR.cells zMR)) Tryz.underlying219 hi hz .i64 .i64 1 1 (by omega) (by omega) (by rw [hby]; decide) (by decide), hsz, show madeCells (Value.agg (MsgR.cells zMR)).cells ((1 : Int).toNat * 10) = Box1.cells ⟨fun _ => zMR⟩ from by kernel_rfl]
  rfl
theorem mk219_2 (w : World) : (Instr.makeSlice 219 (.int .i64 2) (.int .i64 2)).run Tryz.prog w = .ok (.slice (some ⟨w.heap.size, 0, none⟩) 2 2) (w.alloc (.cells (Box2.cells ⟨fun _ => zMR⟩) 159)) := by
  obtain ⟨i, hi, hz, hsz, hby⟩ := inf159
  rw [run_make w 219 159 i (.agg (MsgR.cells zMR)) Tryz.underlying219 hi hz .i64 .i64 2 2 (by omega) (by omega) (by rw [hby]; decide) (by decide), hsz, show madeCells (Value.agg (MsgR.cells zMR)).cells ((2 : Int).toNat * 10) = Box2.cells ⟨fun _ => zMR⟩ from by kernel_rfl]
  rfl
theorem mk219_3 (w : World) : (Instr.makeSlice 219 (.int .i64 3) (.int .i64 3)).run Tryz.prog w = .ok (.slice (some ⟨w.heap.size, 0, none⟩) 3 3) (w.alloc (.cells (Box3.cells ⟨fun _ => zMR⟩) 159)) := by
  obtain ⟨i, hi, hz, hsz, hby⟩ := inf159
  rw [run_make w 219 159 i (.agg (MsgR.cells zMR)) Tryz.underlying219 hi hz .i64 .i64 3 3 (by omega) (by omega) (by rw [hby]; decide) (by decide), hsz, show madeCells (Value.agg (MsgR.cells zMR)).cells ((3 : Int).toNat * 10) = Box3.cells ⟨fun _ => zMR⟩ from by kernel_rfl]
  rfl
attribute [local go_sem] World.cell?_put_same World.cell?_put_ne World.cell?_put_ne' World.frozen?_put_same World.frozen?_put_ne World.frozen?_put_ne' World.setCell_put_same World.setCell_put_ne World.setCell_put_ne' World.inB_put World.inB_alloc World.inB_drew World.inB_drewN World.inB_new World.inB_setCell World.put_drew World.put_drewN World.q_setCell_drew World.q_setCell_drewN World.q_alloc_drew World.q_alloc_drewN World.put_put_same World.put_put_2 World.size_put World.q_cell?_alloc_old World.q_frozen?_alloc_old World.cell?_alloc_new' World.frozen?_alloc_new' World.q_setCell_alloc_old World.q_setCell_alloc_new World.q_put_alloc_old World.cell?_force_same World.frozen?_force_same World.cell?_force2_fst World.cell?_force2_snd SyncR.g0 SyncR.s0 SyncR.g1 SyncR.s1 SyncR.g2 SyncR.s2 SyncR.g3 SyncR.s3 SyncR.g4 SyncR.s4 SyncR.g5 SyncR.s5 SyncR.g6 SyncR.s6 SyncR.g7 SyncR.s7 SyncR.g8 SyncR.s8 SyncR.g9 SyncR.s9 SyncR.g10 SyncR.s10 SyncR.g11 SyncR.s11 SyncR.g12 SyncR.s12 SyncR.g13 SyncR.s13 SyncR.g14 SyncR.s14 SyncR.g15 SyncR.s15 SyncR.g16 SyncR.s16 SyncR.g17 SyncR.s17 SyncR.g18 SyncR.s18 SyncR.g19 SyncR.s19 SyncR.g20 SyncR.s20 SyncR.g21 SyncR.s21 SyncR.g22 SyncR.s22 SyncR.g23 SyncR.s23 SyncR.g24 SyncR.s24 SyncR.g25 SyncR.s25 SyncR.g26 SyncR.s26 SyncR.g27 SyncR.s27 SyncR.g28 SyncR.s28 SyncR.g29 SyncR.s29 SyncR.g30 SyncR.s30 SyncR.g31 SyncR.s31 SyncR.g32 SyncR.s32 SyncR.g33 SyncR.s33 SyncR.g34 SyncR.s34 SyncR.g35 SyncR.s35 SyncR.g36 SyncR.s36 SyncR.g37 SyncR.s37 SyncR.g38 SyncR.s38 SyncR.g39 SyncR.s39 SyncR.g40 SyncR.s40 SyncR.g41 SyncR.s41 SyncR.gi_next_0 SyncR.si_next_0 SyncR.gi_mtch_0 SyncR.si_mtch_0 SyncR.gi_box_0 SyncR.si_box_0 SyncR.gi_box_1 SyncR.si_box_1 SyncR.gi_box_2 SyncR.si_box_2 SyncR.gi_box_3 SyncR.si_box_3 SyncR.gi_box_4 SyncR.si_box_4 SyncR.gi_box_5 SyncR.si_box_5 SyncR.gi_box_6 SyncR.si_box_6 SyncR.gi_box_7 SyncR.si_box_7 SyncR.gi_box_8 SyncR.si_box_8 SyncR.gi_box_9 SyncR.si_box_9 MsgR.g0 MsgR.s0 MsgR.g1 MsgR.s1 MsgR.g2 MsgR.s2 MsgR.g3 MsgR.s3 MsgR.g4 MsgR.s4 MsgR.g5 MsgR.s5 MsgR.g6 MsgR.s6 MsgR.g7 MsgR.s7 MsgR.g8 MsgR.s8 MsgR.g9 MsgR.s9
attribute [local go_sem] SyncR.gia_box_1 SyncR.sia_box_1 SyncR.gia_box_2 SyncR.sia_box_2 SyncR.gia_box_3 SyncR.sia_box_3 SyncR.gia_box_4 SyncR.sia_box_4 SyncR.gia_box_5 SyncR.sia_box_5 SyncR.gia_box_6 SyncR.sia_box_6 SyncR.gia_box_7 SyncR.sia_box_7 SyncR.gia_box_8 SyncR.sia_box_8 SyncR.gia_box_9 SyncR.sia_box_9
attribute [local go_sem] ba_get upd_same upd_upd mk219_1 mk219_2 mk219_3 Box1.ga0 Box1.sa0 Box1.ga1 Box1.sa1 Box1.ga2 Box1.sa2 Box1.ga3 Box1.sa3 Box1.ga4 Box1.sa4 Box1.ga5 Box1.sa5 Box1.ga6 Box1.sa6 Box1.ga7 Box1.sa7 Box1.ga8 Box1.sa8 Box1.ga9 Box1.sa9 Box2.ga0 Box2.sa0 Box2.ga1 Box2.sa1 Box2.ga2 Box2.sa2 Box2.ga3 Box2.sa3 Box2.ga4 Box2.sa4 Box2.ga5 Box2.sa5 Box2.ga6 Box2.sa6 Box2.ga7 Box2.sa7 Box2.ga8 Box2.sa8 Box2.ga9 Box2.sa9 Box3.ga0 Box3.sa0 Box3.ga1 Box3.sa1 Box3.ga2 Box3.sa2 Box3.ga3 Box3.sa3 Box3.ga4 Box3.sa4 Box3.ga5 Box3.sa5 Box3.ga6 Box3.sa6 Box3.ga7 Box3.sa7 Box3.ga8 Box3.sa8 Box3.ga9 Box3.sa9
set_option maxHeartbeats 4000000
set_option maxRecDepth 100000
section
variable {W w : World} {G : Nat → Prop} {p : SyP} {A : AS} {ms : List Msg}
theorem c189_0 (h : RS G W p A [] w) : Calls Tryz.prog 189 #[vp p.b] w fun r w' => ∃ v, r = .returned v ∧ RSm G W p A [] w' v := by
  obtain ⟨bx, hb⟩ := RB.hb h
  have hc := hb.cell
  have ib := hb.inB
  unfold RSy at hc
  have H := hidIt h
  simp only [List.length_nil] at hc
  clear h hb
  go_enter Tryz.func189, Tryz.ntmps189
  go_wp2_with fail
  go_ret
  obtain ⟨G1, bx1, B, h1, h2, h3, h4, h5, h6, h7⟩ := H.out
  exact ⟨_, rfl, G1, bx1, B, h1, h3, h4, MsgsAt.nil _ _, h5, h6⟩
theorem c189_1 {x0 : Msg} (h : RS G W p A [x0] w) : Calls Tryz.prog 189 #[vp p.b] w fun r w' => ∃ v, r = .returned v ∧ RSm G W p A [x0] w' v := by
  obtain ⟨G1, bx, B, h1, h2, h3, h4, h5, h6, h7⟩ := h
  have hb0 : p.b < w.heap.size := h1.hb.inB
  have m0 : ModP (fun _ => False) w (w.alloc (.cells (Box1.cells ⟨fun _ => zMR⟩) 159)) := (ModP.refl _ _).alloc _
  have hbx : ∀ k : Nat, k < 1 → ∃ x ad le cap, bx k = Msg.r x (.slice ad le cap) := by
    intro k hk
    obtain ⟨x, hx⟩ : ∃ x, [x0][k]? = some x := ⟨_, List.getElem?_eq_getElem (by simpa using hk)⟩
    obtain ⟨v, e1, e2⟩ := h2 k x hx
    obtain ⟨ad, cap, rfl, _⟩ := EntsAt.form e2
    exact ⟨x, ad, _, cap, e1⟩
  obtain ⟨o, ho⟩ : ∃ o, o = w.heap.size := ⟨_, rfl⟩
  have nb : p.b ≠ o := by omega
  obtain ⟨y, hy, i1, i2⟩ := open2 (World.At.alloc h1.hb (.cells (Box1.cells ⟨fun _ => zMR⟩) 159)) (at_new (c := Box1.cells ⟨fun _ => zMR⟩) (T := 159) ho) nb
  unfold RSy at hy
  simp only [List.length_cons, List.length_nil] at hy
  have Hy := hidIt hy
  have HB := hidIt hbx
  have hc := h1.hb.cell
  have ib := h1.hb.inB
  unfold RSy at hc
  simp only [List.length_cons, List.length_nil] at hc
  have FIN := hidIt (And.intro h1 (And.intro h2 (And.intro h3 (And.intro h4 (And.intro h5 (And.intro h6 h7))))))
  have HO := hidIt ho
  have M0 := hidIt m0
  generalize hla : A.lg.now.last = la at *
  generalize hlt : (A.lg.now.termAt la).1 = lt at *
  have Hla := hidIt hla
  have Hlt := hidIt hlt
  clear h1 h2 h3 h4 h5 h6 h7 hbx hy m0 ho hla hlt
  go_enter Tryz.func189, Tryz.ntmps189
  go_upto_region 4 with fail
  rw [Hy.out, ← HO.out]
  go_wp2_with fail
  go_loopw [4] (fun v u => ∃ k : Nat, k ≤ 1 ∧ v = vi k ∧ u = (y.put p.b (SyncR.cells ⟨vp p.bl, vp p.be, A.commit, A.next, A.mtch, la, lt, zB bx k, 1⟩) 162).put o (Box1.cells ⟨oB bx k⟩) 159) (fun v _ => 1 - (intOf v).toNat)
  case atStart => exact ⟨0, by omega, rfl, by rw [zB_0, oB_0]; rfl⟩
  case round =>
    obtain ⟨k, hk, rfl, rfl⟩ := hrel
    by_cases hkn : k < 1
    · have k3 : (k : Int) < 1 := by omega
      have k4 : (k : Int) < 3 := by omega
      have k5 : k < 3 := by omega
      obtain ⟨x, ad, le, cap, e⟩ := HB.out k hkn
      have z1 := hidIt (zB_set bx k)
      have z2 := hidIt (oB_set bx k)
      have hzk : zB bx k k = ⟨x.kind, x.frm, x.to, x.term, x.index, x.logTerm, x.commit, x.ok, .slice ad le cap, x.data⟩ := by rw [zB_k, e]; rfl
      rw [e] at z2
      unfold Msg.r at z2
      unfold zMR at z1
      clear e hk
      generalize oB bx k = ob at *
      generalize zB bx k = zb at *
      go_wp2_with fail
      go_roundw
      case rel => exact ⟨k + 1, by omega, by go_num, by rw [← z1.out, ← z2.out]⟩
      case measure => simp [intOf]; omega
    · obtain rfl : k = 1 := by omega
      go_wp2_with fail
      go_ret
      obtain rfl := Hla.out
      obtain rfl := Hlt.out
      obtain ⟨h1, h2, h3, h4, h5, h6, h7⟩ := FIN.out
      obtain ⟨v0, e0, f0⟩ := h2 0 x0 rfl
      have hob : B ≤ o := by rw [HO.out]; exact h7
      have ng : ∀ k, G1 k → k ≠ o := fun k a e => by have := h1.wi k a; rw [e, HO.out] at this; omega
      have k1 := (h1.frame M0.out (fun _ _ f => f)).own A.commit A.next A.mtch A.lg.now.last (A.lg.now.termAt A.lg.now.last).1 (zB bx 1) 0
      rw [Hy.out, World.put_put_2 nb] at k1
      have m1 : ModP (fun k => k = p.b) ((y.put p.b (SyncR.cells ⟨vp p.bl, vp p.be, A.commit, A.next, A.mtch, A.lg.now.last, (A.lg.now.termAt A.lg.now.last).1, bx, 1⟩) 162).put o (Box1.cells ⟨fun _ => zMR⟩) 159) ((y.put p.b (RSy p A A.lg.now.last (A.lg.now.termAt A.lg.now.last).1 (zB bx 1) 0).cells 162).put o (Box1.cells ⟨fun _ => zMR⟩) 159) := by
        have := ((ModP.refl (fun k => k = p.b) ((y.put p.b (SyncR.cells ⟨vp p.bl, vp p.be, A.commit, A.next, A.mtch, A.lg.now.last, (A.lg.now.termAt A.lg.now.last).1, bx, 1⟩) 162).put o (Box1.cells ⟨fun _ => zMR⟩) 159)).put (b := p.b) (.inl rfl) (RSy p A A.lg.now.last (A.lg.now.termAt A.lg.now.last).1 (zB bx 1) 0).cells 162)
        rw [World.put_put_2 nb] at this
        exact this
      have m2 : ModP (fun k => k = o) ((y.put p.b (RSy p A A.lg.now.last (A.lg.now.termAt A.lg.now.last).1 (zB bx 1) 0).cells 162).put o (Box1.cells ⟨fun _ => zMR⟩) 159) ((y.put p.b (RSy p A A.lg.now.last (A.lg.now.termAt A.lg.now.last).1 (zB bx 1) 0).cells 162).put o (Box1.cells ⟨oB bx 1⟩) 159) := by
        have := ((ModP.refl (fun k => k = o) ((y.put p.b (RSy p A A.lg.now.last (A.lg.now.termAt A.lg.now.last).1 (zB bx 1) 0).cells 162).put o (Box1.cells ⟨fun _ => zMR⟩) 159)).put (b := o) (.inl rfl) (Box1.cells ⟨oB bx 1⟩) 159)
        rw [World.put_put_same] at this
        exact this
      have M1 := M0.out
      rw [Hy.out] at M1
      have low : ∀ k, B ≤ k → k < w.heap.size → k ≠ p.b ∧ k ≠ o := fun k a b => ⟨fun e => by have := h5 _ h1.fb; omega, fun e => by rw [e, HO.out] at b; omega⟩
      have fr : ∀ (v : Value) (es : List Entry), EntsAt B w v es → EntsAt B ((y.put p.b (RSy p A A.lg.now.last (A.lg.now.termAt A.lg.now.last).1 (zB bx 1) 0).cells 162).put o (Box1.cells ⟨oB bx 1⟩) 159) v es := by
        intro v es hv
        have hg : ∀ g, v.ownBlock = some g → g ≠ p.b ∧ g ≠ o := fun g hg => low g (ownsRow_block hv hg).2 (ownsRow_block hv hg).1
        exact ownsRow_frame (ownsRow_frame (ownsRow_frame hv M1 (fun _ _ f => f)) m1 (fun g q => (hg g q).1)) m2 (fun g q => (hg g q).2)
      refine ⟨_, rfl, G1, zB bx 1, B, k1.frame m2 (fun k a e => ng k a e), h3, ((h4.trans (M1.mono fun _ f => f.elim)).step m1 (fun k e => e ▸ h3 _ h1.fb)).step m2 (fun k e => .inr (by rw [e]; omega)), ⟨[(x0, v0)], rfl, ⟨rfl, .inr ⟨o, 1, _, rfl, hob, World.At_put_same (World.inB_put.2 i2), Nat.le_refl _, by unfold maxLen; omega, rfl, ?_⟩⟩, ?_⟩, h5, h6⟩
      · show List.take (1 * 10) (Box1.cells ⟨oB bx 1⟩).toList = _
        have g0 : oB bx 1 0 = x0.r v0 := by unfold oB; rw [if_pos (by omega)]; exact e0
        unfold Box1.cells
        simp only [g0]
        rfl
      · intro q hq
        simp only [List.mem_cons, List.not_mem_nil, or_false] at hq
        subst hq
        exact fr _ _ f0
theorem c189_2 {x0 x1 : Msg} (h : RS G W p A [x0, x1] w) : Calls Tryz.prog 189 #[vp p.b] w fun r w' => ∃ v, r = .returned v ∧ RSm G W p A [x0, x1] w' v := by
  obtain ⟨G1, bx, B, h1, h2, h3, h4, h5, h6, h7⟩ := h
  have hb0 : p.b < w.heap.size := h1.hb.inB
  have m0 : ModP (fun _ => False) w (w.alloc (.cells (Box2.cells ⟨fun _ => zMR⟩) 159)) := (ModP.refl _ _).alloc _
  have hbx : ∀ k : Nat, k < 2 → ∃ x ad le cap, bx k = Msg.r x (.slice ad le cap) := by
    intro k hk
    obtain ⟨x, hx⟩ : ∃ x, [x0, x1][k]? = some x := ⟨_, List.getElem?_eq_getElem (by simpa using hk)⟩
    obtain ⟨v, e1, e2⟩ := h2 k x hx
    obtain ⟨ad, cap, rfl, _⟩ := EntsAt.form e2
    exact ⟨x, ad, _, cap, e1⟩
  obtain ⟨o, ho⟩ : ∃ o, o = w.heap.size := ⟨_, rfl⟩
  have nb : p.b ≠ o := by omega
  obtain ⟨y, hy, i1, i2⟩ := open2 (World.At.alloc h1.hb (.cells (Box2.cells ⟨fun _ => zMR⟩) 159)) (at_new (c := Box2.cells ⟨fun _ => zMR⟩) (T := 159) ho) nb
  unfold RSy at hy
  simp only [List.length_cons, List.length_nil] at hy
  have Hy := hidIt hy
  have HB := hidIt hbx
  have hc := h1.hb.cell
  have ib := h1.hb.inB
  unfold RSy at hc
  simp only [List.length_cons, List.length_nil] at hc
  have FIN := hidIt (And.intro h1 (And.intro h2 (And.intro h3 (And.intro h4 (And.intro h5 (And.intro h6 h7))))))
  have HO := hidIt ho
  have M0 := hidIt m0
  generalize hla : A.lg.now.last = la at *
  generalize hlt : (A.lg.now.termAt la).1 = lt at *
  have Hla := hidIt hla
  have Hlt := hidIt hlt
  clear h1 h2 h3 h4 h5 h6 h7 hbx hy m0 ho hla hlt
  go_enter Tryz.func189, Tryz.ntmps189
  go_upto_region 4 with fail
  rw [Hy.out, ← HO.out]
  go_wp2_with fail
  go_loopw [4] (fun v u => ∃ k : Nat, k ≤ 2 ∧ v = vi k ∧ u = (y.put p.b (SyncR.cells ⟨vp p.bl, vp p.be, A.commit, A.next, A.mtch, la, lt, zB bx k, 2⟩) 162).put o (Box2.cells ⟨oB bx k⟩) 159) (fun v _ => 2 - (intOf v).toNat)
  case atStart => exact ⟨0, by omega, rfl, by rw [zB_0, oB_0]; rfl⟩
  case round =>
    obtain ⟨k, hk, rfl, rfl⟩ := hrel
    by_cases hkn : k < 2
    · have k3 : (k : Int) < 2 := by omega
      have k4 : (k : Int) < 3 := by omega
      have k5 : k < 3 := by omega
      obtain ⟨x, ad, le, cap, e⟩ := HB.out k hkn
      have z1 := hidIt (zB_set bx k)
      have z2 := hidIt (oB_set bx k)
      have hzk : zB bx k k = ⟨x.kind, x.frm, x.to, x.term, x.index, x.logTerm, x.commit, x.ok, .slice ad le cap, x.data⟩ := by rw [zB_k, e]; rfl
      rw [e] at z2
      unfold Msg.r at z2
      unfold zMR at z1
      clear e hk
      generalize oB bx k = ob at *
      generalize zB bx k = zb at *
      go_wp2_with fail
      go_roundw
      case rel => exact ⟨k + 1, by omega, by go_num, by rw [← z1.out, ← z2.out]⟩
      case measure => simp [intOf]; omega
    · obtain rfl : k = 2 := by omega
      go_wp2_with fail
      go_ret
      obtain rfl := Hla.out
      obtain rfl := Hlt.out
      obtain ⟨h1, h2, h3, h4, h5, h6, h7⟩ := FIN.out
      obtain ⟨v0, e0, f0⟩ := h2 0 x0 rfl
      obtain ⟨v1, e1, f1⟩ := h2 1 x1 rfl
      have hob : B ≤ o := by rw [HO.out]; exact h7
      have ng : ∀ k, G1 k → k ≠ o := fun k a e => by have := h1.wi k a; rw [e, HO.out] at this; omega
      have k1 := (h1.frame M0.out (fun _ _ f => f)).own A.commit A.next A.mtch A.lg.now.last (A.lg.now.termAt A.lg.now.last).1 (zB bx 2) 0
      rw [Hy.out, World.put_put_2 nb] at k1
      have m1 : ModP (fun k => k = p.b) ((y.put p.b (SyncR.cells ⟨vp p.bl, vp p.be, A.commit, A.next, A.mtch, A.lg.now.last, (A.lg.now.termAt A.lg.now.last).1, bx, 2⟩) 162).put o (Box2.cells ⟨fun _ => zMR⟩) 159) ((y.put p.b (RSy p A A.lg.now.last (A.lg.now.termAt A.lg.now.last).1 (zB bx 2) 0).cells 162).put o (Box2.cells ⟨fun _ => zMR⟩) 159) := by
        have := ((ModP.refl (fun k => k = p.b) ((y.put p.b (SyncR.cells ⟨vp p.bl, vp p.be, A.commit, A.next, A.mtch, A.lg.now.last, (A.lg.now.termAt A.lg.now.last).1, bx, 2⟩) 162).put o (Box2.cells ⟨fun _ => zMR⟩) 159)).put (b := p.b) (.inl rfl) (RSy p A A.lg.now.last (A.lg.now.termAt A.lg.now.last).1 (zB bx 2) 0).cells 162)
        rw [World.put_put_2 nb] at this
        exact this
      have m2 : ModP (fun k => k = o) ((y.put p.b (RSy p A A.lg.now.last (A.lg.now.termAt A.lg.now.last).1 (zB bx 2) 0).cells 162).put o (Box2.cells ⟨fun _ => zMR⟩) 159) ((y.put p.b (RSy p A A.lg.now.last (A.lg.now.termAt A.lg.now.last).1 (zB bx 2) 0).cells 162).put o (Box2.cells ⟨oB bx 2⟩) 159) := by
        have := ((ModP.refl (fun k => k = o) ((y.put p.b (RSy p A A.lg.now.last (A.lg.now.termAt A.lg.now.last).1 (zB bx 2) 0).cells 162).put o (Box2.cells ⟨fun _ => zMR⟩) 159)).put (b := o) (.inl rfl) (Box2.cells ⟨oB bx 2⟩) 159)
        rw [World.put_put_same] at this
        exact this
      have M1 := M0.out
      rw [Hy.out] at M1
      have low : ∀ k, B ≤ k → k < w.heap.size → k ≠ p.b ∧ k ≠ o := fun k a b => ⟨fun e => by have := h5 _ h1.fb; omega, fun e => by rw [e, HO.out] at b; omega⟩
      have fr : ∀ (v : Value) (es : List Entry), EntsAt B w v es → EntsAt B ((y.put p.b (RSy p A A.lg.now.last (A.lg.now.termAt A.lg.now.last).1 (zB bx 2) 0).cells 162).put o (Box2.cells ⟨oB bx 2⟩) 159) v es := by
        intro v es hv
        have hg : ∀ g, v.ownBlock = some g → g ≠ p.b ∧ g ≠ o := fun g hg => low g (ownsRow_block hv hg).2 (ownsRow_block hv hg).1
        exact ownsRow_frame (ownsRow_frame (ownsRow_frame hv M1 (fun _ _ f => f)) m1 (fun g q => (hg g q).1)) m2 (fun g q => (hg g q).2)
      refine ⟨_, rfl, G1, zB bx 2, B, k1.frame m2 (fun k a e => ng k a e), h3, ((h4.trans (M1.mono fun _ f => f.elim)).step m1 (fun k e => e ▸ h3 _ h1.fb)).step m2 (fun k e => .inr (by rw [e]; omega)), ⟨[(x0, v0), (x1, v1)], rfl, ⟨rfl, .inr ⟨o, 2, _, rfl, hob, World.At_put_same (World.inB_put.2 i2), Nat.le_refl _, by unfold maxLen; omega, rfl, ?_⟩⟩, ?_⟩, h5, h6⟩
      · show List.take (2 * 10) (Box2.cells ⟨oB bx 2⟩).toList = _
        have g0 : oB bx 2 0 = x0.r v0 := by unfold oB; rw [if_pos (by omega)]; exact e0
        have g1 : oB bx 2 1 = x1.r v1 := by unfold oB; rw [if_pos (by omega)]; exact e1
        unfold Box2.cells
        simp only [g0, g1]
        rfl
      · intro q hq
        simp only [List.mem_cons, List.not_mem_nil, or_false] at hq
        rcases hq with rfl | rfl
        · exact fr _ _ f0
        · exact fr _ _ f1
theorem c189_3 {x0 x1 x2 : Msg} (h : RS G W p A [x0, x1, x2] w) : Calls Tryz.prog 189 #[vp p.b] w fun r w' => ∃ v, r = .returned v ∧ RSm G W p A [x0, x1, x2] w' v := by
  obtain ⟨G1, bx, B, h1, h2, h3, h4, h5, h6, h7⟩ := h
  have hb0 : p.b < w.heap.size := h1.hb.inB
  have m0 : ModP (fun _ => False) w (w.alloc (.cells (Box3.cells ⟨fun _ => zMR⟩) 159)) := (ModP.refl _ _).alloc _
  have hbx : ∀ k : Nat, k < 3 → ∃ x ad le cap, bx k = Msg.r x (.slice ad le cap) := by
    intro k hk
    obtain ⟨x, hx⟩ : ∃ x, [x0, x1, x2][k]? = some x := ⟨_, List.getElem?_eq_getElem (by simpa using hk)⟩
    obtain ⟨v, e1, e2⟩ := h2 k x hx
    obtain ⟨ad, cap, rfl, _⟩ := EntsAt.form e2
    exact ⟨x, ad, _, cap, e1⟩
  obtain ⟨o, ho⟩ : ∃ o, o = w.heap.size := ⟨_, rfl⟩
  have nb : p.b ≠ o := by omega
  obtain ⟨y, hy, i1, i2⟩ := open2 (World.At.alloc h1.hb (.cells (Box3.cells ⟨fun _ => zMR⟩) 159)) (at_new (c := Box3.cells ⟨fun _ => zMR⟩) (T := 159) ho) nb
  unfold RSy at hy
  simp only [List.length_cons, List.length_nil] at hy
  have Hy := hidIt hy
  have HB := hidIt hbx
  have hc := h1.hb.cell
  have ib := h1.hb.inB
  unfold RSy at hc
  simp only [List.length_cons, List.length_nil] at hc
  have FIN := hidIt (And.intro h1 (And.intro h2 (And.intro h3 (And.intro h4 (And.intro h5 (And.intro h6 h7))))))
  have HO := hidIt ho
  have M0 := hidIt m0
  generalize hla : A.lg.now.last = la at *
  generalize hlt : (A.lg.now.termAt la).1 = lt at *
  have Hla := hidIt hla
  have Hlt := hidIt hlt
  clear h1 h2 h3 h4 h5 h6 h7 hbx hy m0 ho hla hlt
  go_enter Tryz.func189, Tryz.ntmps189
  go_upto_region 4 with fail
  rw [Hy.out, ← HO.out]
  go_wp2_with fail
  go_loopw [4] (fun v u => ∃ k : Nat, k ≤ 3 ∧ v = vi k ∧ u = (y.put p.b (SyncR.cells ⟨vp p.bl, vp p.be, A.commit, A.next, A.mtch, la, lt, zB bx k, 3⟩) 162).put o (Box3.cells ⟨oB bx k⟩) 159) (fun v _ => 3 - (intOf v).toNat)
  case atStart => exact ⟨0, by omega, rfl, by rw [zB_0, oB_0]; rfl⟩
  case round =>
    obtain ⟨k, hk, rfl, rfl⟩ := hrel
    by_cases hkn : k < 3
    · have k3 : (k : Int) < 3 := by omega
      have k4 : (k : Int) < 3 := by omega
      have k5 : k < 3 := by omega
      obtain ⟨x, ad, le, cap, e⟩ := HB.out k hkn
      have z1 := hidIt (zB_set bx k)
      have z2 := hidIt (oB_set bx k)
      have hzk : zB bx k k = ⟨x.kind, x.frm, x.to, x.term, x.index, x.logTerm, x.commit, x.ok, .slice ad le cap, x.data⟩ := by rw [zB_k, e]; rfl
      rw [e] at z2
      unfold Msg.r at z2
      unfold zMR at z1
      clear e hk
      generalize oB bx k = ob at *
      generalize zB bx k = zb at *
      go_wp2_with fail
      go_roundw
      case rel => exact ⟨k + 1, by omega, by go_num, by rw [← z1.out, ← z2.out]⟩
      case measure => simp [intOf]; omega
    · obtain rfl : k = 3 := by omega
      go_wp2_with fail
      go_ret
      obtain rfl := Hla.out
      obtain rfl := Hlt.out
      obtain ⟨h1, h2, h3, h4, h5, h6, h7⟩ := FIN.out
      obtain ⟨v0, e0, f0⟩ := h2 0 x0 rfl
      obtain ⟨v1, e1, f1⟩ := h2 1 x1 rfl
      obtain ⟨v2, e2, f2⟩ := h2 2 x2 rfl
      have hob : B ≤ o := by rw [HO.out]; exact h7
      have ng : ∀ k, G1 k → k ≠ o := fun k a e => by have := h1.wi k a; rw [e, HO.out] at this; omega
      have k1 := (h1.frame M0.out (fun _ _ f => f)).own A.commit A.next A.mtch A.lg.now.last (A.lg.now.termAt A.lg.now.last).1 (zB bx 3) 0
      rw [Hy.out, World.put_put_2 nb] at k1
      have m1 : ModP (fun k => k = p.b) ((y.put p.b (SyncR.cells ⟨vp p.bl, vp p.be, A.commit, A.next, A.mtch, A.lg.now.last, (A.lg.now.termAt A.lg.now.last).1, bx, 3⟩) 162).put o (Box3.cells ⟨fun _ => zMR⟩) 159) ((y.put p.b (RSy p A A.lg.now.last (A.lg.now.termAt A.lg.now.last).1 (zB bx 3) 0).cells 162).put o (Box3.cells ⟨fun _ => zMR⟩) 159) := by
        have := ((ModP.refl (fun k => k = p.b) ((y.put p.b (SyncR.cells ⟨vp p.bl, vp p.be, A.commit, A.next, A.mtch, A.lg.now.last, (A.lg.now.termAt A.lg.now.last).1, bx, 3⟩) 162).put o (Box3.cells ⟨fun _ => zMR⟩) 159)).put (b := p.b) (.inl rfl) (RSy p A A.lg.now.last (A.lg.now.termAt A.lg.now.last).1 (zB bx 3) 0).cells 162)
        rw [World.put_put_2 nb] at this
        exact this
      have m2 : ModP (fun k => k = o) ((y.put p.b (RSy p A A.lg.now.last (A.lg.now.termAt A.lg.now.last).1 (zB bx 3) 0).cells 162).put o (Box3.cells ⟨fun _ => zMR⟩) 159) ((y.put p.b (RSy p A A.lg.now.last (A.lg.now.termAt A.lg.now.last).1 (zB bx 3) 0).cells 162).put o (Box3.cells ⟨oB bx 3⟩) 159) := by
        have := ((ModP.refl (fun k => k = o) ((y.put p.b (RSy p A A.lg.now.last (A.lg.now.termAt A.lg.now.last).1 (zB bx 3) 0).cells 162).put o (Box3.cells ⟨fun _ => zMR⟩) 159)).put (b := o) (.inl rfl) (Box3.cells ⟨oB bx 3⟩) 159)
        rw [World.put_put_same] at this
        exact this
      have M1 := M0.out
      rw [Hy.out] at M1
      have low : ∀ k, B ≤ k → k < w.heap.size → k ≠ p.b ∧ k ≠ o := fun k a b => ⟨fun e => by have := h5 _ h1.fb; omega, fun e => by rw [e, HO.out] at b; omega⟩
      have fr : ∀ (v : Value) (es : List Entry), EntsAt B w v es → EntsAt B ((y.put p.b (RSy p A A.lg.now.last (A.lg.now.termAt A.lg.now.last).1 (zB bx 3) 0).cells 162).put o (Box3.cells ⟨oB bx 3⟩) 159) v es := by
        intro v es hv
        have hg : ∀ g, v.ownBlock = some g → g ≠ p.b ∧ g ≠ o := fun g hg => low g (ownsRow_block hv hg).2 (ownsRow_block hv hg).1
        exact ownsRow_frame (ownsRow_frame (ownsRow_frame hv M1 (fun _ _ f => f)) m1 (fun g q => (hg g q).1)) m2 (fun g q => (hg g q).2)
      refine ⟨_, rfl, G1, zB bx 3, B, k1.frame m2 (fun k a e => ng k a e), h3, ((h4.trans (M1.mono fun _ f => f.elim)).step m1 (fun k e => e ▸ h3 _ h1.fb)).step m2 (fun k e => .inr (by rw [e]; omega)), ⟨[(x0, v0), (x1, v1), (x2, v2)], rfl, ⟨rfl, .inr ⟨o, 3, _, rfl, hob, World.At_put_same (World.inB_put.2 i2), Nat.le_refl _, by unfold maxLen; omega, rfl, ?_⟩⟩, ?_⟩, h5, h6⟩
      · show List.take (3 * 10) (Box3.cells ⟨oB bx 3⟩).toList = _
        have g0 : oB bx 3 0 = x0.r v0 := by unfold oB; rw [if_pos (by omega)]; exact e0
        have g1 : oB bx 3 1 = x1.r v1 := by unfold oB; rw [if_pos (by omega)]; exact e1
        have g2 : oB bx 3 2 = x2.r v2 := by unfold oB; rw [if_pos (by omega)]; exact e2
        unfold Box3.cells
        simp only [g0, g1, g2]
        rfl
      · intro q hq
        simp only [List.mem_cons, List.not_mem_nil, or_false] at hq
        rcases hq with rfl | rfl | rfl
        · exact fr _ _ f0
        · exact fr _ _ f1
        · exact fr _ _ f2
theorem c189 (h : RS G W p A ms w) (h3 : ms.length ≤ 3) : Calls Tryz.prog 189 #[vp p.b] w fun r w' => ∃ v, r = .returned v ∧ RSm G W p A ms w' v := by
  match ms, h, h3 with
  | [], h, _ => exact c189_0 h
  | [_], h, _ => exact c189_1 h
  | [_, _], h, _ => exact c189_2 h
  | [_, _, _], h, _ => exact c189_3 h
  | _ :: _ :: _ :: _ :: _, _, h3 => simp at h3
end
end Go.Proofs.Qxb6500990aGreat
