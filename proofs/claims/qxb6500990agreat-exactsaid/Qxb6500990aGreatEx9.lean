/- package towerexact: seen -/
import Derived.Test.Qxb6500990aGreatEx8
import Derived.Test.Qxb6500990aGreatOrder6
import Derived.Test.Qxb6500990aGreatLa9
import Derived.Test.Qxb6500990aGreatEx6
import Derived.Deep.Cut
set_option linter.unusedVariables false
set_option linter.unusedSimpArgs false
namespace Go.Tw
open Go Go.Proofs Go.Proofs.Qxb6500990aGreat Go.RowKit
theorem rk31 : RowK 31 66 34 248 := ⟨by kernel_rfl, ⟨(Tryz.prog.info? 66).getD default, ((Tryz.prog.info? 66).getD default).zero.getD default, by kernel_rfl, by kernel_rfl, by kernel_rfl, by kernel_rfl, by kernel_rfl⟩, by decide⟩
section
variable {B bw S S' i g h' : Nat} {w w' : World} {own : Own} {c : Conf} {vb vo vr vv vv' : Value} {F : Nat → Prop}
theorem WI.addView (h : WI B w bw own c vb vo vr vv S) (m : ModP F w w') (hF : ∀ k, F k → own k = .no ∨ own k = .law ∨ own k = .rv) (hS : S ≤ S') (hz : S' ≤ 1073741824) (hl : c.vs.length + 1 ≤ S')
    (hw : w'.At bw (WorldR.cells ⟨vb, c.k, c.ra, c.rb, c.old, vo, vr, vv', false⟩) 33) {x0 : VC} (hrow : w'.ownsRow B 66 34 vv' (c.vs.length + 1) (c.vs.flatMap VC.cells ++ VC.cells x0))
    (hnew : ∀ k, vv'.ownBlock = some k → vv.ownBlock = some k ∨ w.heap.size ≤ k) (eg0 : x0.br = g) (eh0 : x0.bs = h') (es : x0.nv.sync = vp x0.bs) (a : w'.At g (NodeV.cells { x0.nv with sync := ptr x0.at_ }) 62) (a' : w'.At h' x0.sv.cells 64) (tg : own g = .no) (th : own h' = .no) (ne : g ≠ h')
    (bg : B ≤ g) (bh : B ≤ h') : ∃ own', WI B w' bw own' { c with vs := c.vs ++ [x0] } vb vo vr vv' S' ∧ ∀ k, k ≠ g → k ≠ h' → k < w.heap.size → own' k = own k := by
  have no_of : ∀ k, w.heap.size ≤ k → own k = .no := fun k hk => by
    rcases e : own k with _ | _ | _ | _ | _ | _ | _ | _ | _ | _ | _ | _ | _ | _
    · rfl
    all_goals (have := (h.lo k (by rw [e]; exact nofun)).2; omega)
  have nb : ∀ k, vv'.ownBlock = some k → k ≠ g ∧ k ≠ h' := fun k hk => by
    rcases id hrow.2 with ⟨hv, h0⟩ | ⟨g', cap, cur, hv, h3, h4, h5⟩
    · omega
    · rw [hv] at hk
      have : g' = k := by simpa [Value.ownBlock] using hk
      subst this
      have a0 : w'.At g' cur 66 := h4
      exact ⟨At.neT a0 a (by decide), At.neT a0 a' (by decide)⟩
  have s1 : Same w own (growO own vv' .rv) := growO_same (v := vv) h.rv.2 (fun k hk => (hnew k hk).imp id (no_of k))
  have e1 : growO own vv' .rv g = .no := by rw [growO_ne (fun e => (nb g e).1 rfl)]; exact tg
  have s2 : Same w (growO own vv' .rv) (setO (growO own vv' .rv) g (.v c.vs.length)) := setO_same (.inl e1)
  have e2 : setO (growO own vv' .rv) g (.v c.vs.length) h' = .no := by rw [setO_ne (Ne.symm ne), growO_ne (fun e => (nb h' e).2 rfl)]; exact th
  have s3 : Same w (setO (growO own vv' .rv) g (.v c.vs.length)) (setO (setO (growO own vv' .rv) g (.v c.vs.length)) h' (.vs c.vs.length)) := setO_same (.inl e2)
  have sm : Same w own (setO (setO (growO own vv' .rv) g (.v c.vs.length)) h' (.vs c.vs.length)) := (s1.trans (w1 := w) s2).trans (w1 := w) s3
  have eg : setO (setO (growO own vv' .rv) g (.v c.vs.length)) h' (.vs c.vs.length) g = .v c.vs.length := by rw [setO_ne ne, setO_eq]
  obtain ⟨p1, p2, p3, p4⟩ := h.parts (own' := setO (setO (growO own vv' .rv) g (.v c.vs.length)) h' (.vs c.vs.length)) m (fun k f => by rcases hF k f with e | e | e <;> rw [e] <;> trivial) sm hS
  refine ⟨setO (setO (growO own vv' .rv) g (.v c.vs.length)) h' (.vs c.vs.length), ⟨hw, by rw [sm _ (by rw [h.tw]; exact nofun)]; exact h.tw, h.rb.frame m (fun k f e => by rcases hF k f with q | q | q <;> rw [q] at e <;> cases e) sm, h.ro.frame m (fun k f e => by rcases hF k f with q | q | q <;> rw [q] at e <;> cases e) sm, h.rr.frame m (fun k f e => by rcases hF k f with q | q | q <;> rw [q] at e <;> cases e) sm, ⟨?_, fun k hk => ?_⟩, fun k hk => ?_, h.kb, p1, p2, p3, fun i x hx => ?_, ?_, hz⟩, fun k k1 k2 k3 => ?_⟩
  · show w'.ownsRow B 66 34 vv' (c.vs ++ [x0]).length ((c.vs ++ [x0]).flatMap VC.cells)
    rw [List.length_append, List.flatMap_append]
    simpa using hrow
  · rw [setO_ne (nb k hk).2, setO_ne (nb k hk).1]; exact growO_eq hk
  · by_cases k1 : k = h'
    · subst k1; exact ⟨bh, a'.inB⟩
    · rw [setO_ne k1] at hk
      by_cases k2 : k = g
      · subst k2; exact ⟨bg, a.inB⟩
      · rw [setO_ne k2] at hk
        by_cases k3 : vv'.ownBlock = some k
        · have := ownsRow_block hrow k3; exact ⟨this.2, this.1⟩
        · rw [growO_ne k3] at hk
          exact ⟨(h.lo k hk).1, Nat.lt_of_lt_of_le (h.lo k hk).2 m.size⟩
  · rcases getElem?_snoc hx with q | ⟨rfl, rfl⟩
    · exact p4 i x q
    · exact ⟨by rw [eg0]; exact a, by rw [eg0]; exact eg, by rw [eh0]; exact a', by rw [eh0]; exact setO_eq, es⟩
  · have := h.ln
    show c.bs.length ≤ S' ∧ c.os.length ≤ S' ∧ c.rs.length ≤ S' ∧ (c.vs ++ [x0]).length ≤ S'
    rw [List.length_append]
    simp only [List.length_cons, List.length_nil]
    omega
  · rw [setO_ne k2, setO_ne k1]
    by_cases k4 : vv'.ownBlock = some k
    · rcases hnew k k4 with q | q
      · rw [growO_eq k4, h.rv.2 k q]
      · omega
    · exact growO_ne k4
end
theorem wpQuiet_load_arr {P : Program} {ops : Array Oper} {C : World → Prop} {Q : Act → Prop} {rest : List Oper} {op : Oper} {a : Act} (hw : Region.wanted op (yielded ops a.tmps) = true) (ty : TypeId) (x : Operand) (ho : op.op = .load ty x)
    (b o : Nat) (hx : a.eval x = .pointer (some ⟨b, o, none⟩)) (cs : Array Value) (d : TypeDesc) (hc : ∀ w, C w → ∀ j v, cs[j]? = some v → w.cell? ⟨b, o + j, none⟩ = some v)
    (hu : P.underlying ty = some d) (hd : d.isRow = true) (hi : (P.info? ty).map (·.size) = some cs.size)
    (h : wpQuiet P ops C Q rest (a.put op.dst (.agg cs))) : wpQuiet P ops C Q (op :: rest) a := by
  unfold wpQuiet
  rw [if_pos hw]
  refine ⟨.agg cs, fun w hC => ?_, h⟩
  unfold Oper.quietAt execOp
  have := run_loadVar_mid (P := P) w b o ty cs.toList d (fun j v hv => hc w hC j v (by simpa using hv)) hu hd (by simpa using hi)
  simp only [ho, hx, Instr.loadAt, Instr.sureAddr, Sem.run_bind, Sem.run_pure, Result.andThen_ok, this]
  simp [Oper.quietUpon]
theorem eqlP {w : World} {a b : Nat} {ca cb : Array Value} {ta tb : TypeId} (ha : w.At a ca ta) (hb : w.At b cb tb) (hne : a ≠ b) (t te : TypeId) (hp : Tryz.prog.underlying t = some (.pointer te)) {j : TypeInfo} (hte : Tryz.prog.info? te = some j) (hj : j.size ≠ 0) :
    (binOp .eql t (.pointer (some ⟨a, 0, none⟩)) (.pointer (some ⟨b, 0, none⟩))).run Tryz.prog w = .ok (.bool false) w := by
  have h : ∀ d : Nat, (Op.equalIn (d + 1) t (.pointer (some ⟨a, 0, none⟩)) (.pointer (some ⟨b, 0, none⟩))).run Tryz.prog w = .ok false w := fun d => by
    simp [Op.equalIn, run_underlying hp, sizeOf, typeInfo, hte, hj, run_sameAddr_other w (a := ⟨a, 0, none⟩) (b := ⟨b, 0, none⟩) (by simp [hne]) ha hb]
  simp only [binOp]
  simp [Op.equal, Op.maxDepth, h 9999]
end Go.Tw
namespace Go.Proofs.Qxb6500990aGreat
open Go Go.RowKit Go.Tw
attribute [local go_sem] World.cell?_put_same World.cell?_put_ne World.cell?_put_ne' World.frozen?_put_same World.frozen?_put_ne World.frozen?_put_ne' World.setCell_put_same World.setCell_put_ne World.setCell_put_ne' World.inB_put World.inB_alloc World.inB_drew World.inB_drewN World.inB_new World.inB_setCell World.put_drew World.put_drewN World.q_setCell_drew World.q_setCell_drewN World.q_alloc_drew World.q_alloc_drewN World.put_put_same World.put_put_2 World.size_put World.q_cell?_alloc_old World.q_frozen?_alloc_old World.cell?_alloc_new' World.frozen?_alloc_new' World.q_setCell_alloc_old World.q_setCell_alloc_new World.q_put_alloc_old World.cell?_force_same World.frozen?_force_same World.cell?_force2_fst World.cell?_force2_snd WorldR.g0 WorldR.s0 WorldR.g1 WorldR.s1 WorldR.g2 WorldR.s2 WorldR.g3 WorldR.s3 WorldR.g4 WorldR.s4 WorldR.g5 WorldR.s5 WorldR.g6 WorldR.s6 WorldR.g7 WorldR.s7 WorldR.g8 WorldR.s8 NodeV.g0 NodeV.s0 NodeV.g1 NodeV.s1 NodeV.g2 NodeV.s2 NodeV.g3 NodeV.s3 NodeV.g4 NodeV.s4 NodeV.g5 NodeV.s5 NodeV.g6 NodeV.s6 NodeV.g7 NodeV.s7 NodeV.g8 NodeV.s8 NodeV.g9 NodeV.s9 NodeV.g10 NodeV.s10 NodeV.gi_used_0 NodeV.si_used_0 NodeV.gi_seq_0 NodeV.si_seq_0 NodeV.gi_idx_0 NodeV.si_idx_0 SyncV.g0 SyncV.s0 SyncV.g1 SyncV.s1 SyncV.g2 SyncV.s2 SyncV.g3 SyncV.s3 SyncV.g4 SyncV.s4 SyncV.g5 SyncV.s5 SyncV.g6 SyncV.s6 SyncV.g7 SyncV.s7 SyncV.g8 SyncV.s8 SyncV.g9 SyncV.s9 SyncV.g10 SyncV.s10 SyncV.g11 SyncV.s11 SyncV.g12 SyncV.s12 SyncV.g13 SyncV.s13 SyncV.g14 SyncV.s14 SyncV.g15 SyncV.s15 SyncV.g16 SyncV.s16 SyncV.g17 SyncV.s17 SyncV.g18 SyncV.s18 SyncV.g19 SyncV.s19 SyncV.gi_got_0 SyncV.si_got_0 SyncV.gi_next_0 SyncV.si_next_0 SyncV.gi_mtch_0 SyncV.si_mtch_0
attribute [local go_sem] ba_get ba_eq ba_beq upd_same upd_upd
set_option maxHeartbeats 4000000
set_option maxRecDepth 100000
section
variable {B bw S i g : Nat} {W : World} {own : Own} {c : Conf} {vb vo vr vv : Value} {b : BC}
theorem vc_one (b1 v1 : Nat) (a : Int) (u : Nat → Bool) (s i : Nat → Int) (x : SyncV) : ∀ y ∈ VC.cells ⟨b1, v1, some v1, ⟨vp v1, a, u, s, i⟩, x⟩, y.oneCell' = true := by
  have h : (VC.cells ⟨b1, v1, some v1, ⟨vp v1, a, u, s, i⟩, x⟩).all (fun y => y.oneCell') = true := rfl
  exact List.all_eq_true.1 h
theorem c48 (h : WI B W bw own c vb vo vr vv S) (hz : S + 1 ≤ 1073741824) (hb : c.bs[i]? = some b) (hg : vb.ownBlock = some g) :
    Calls Tryz.prog 48 #[vp bw, .pointer (some ⟨g, i * 4, none⟩)] W fun r w' => r = .returned (.bool true) ∧ ∃ own' c' vv', WI B w' bw own' c' vb vo vr vv' (S + 1) ∧ c'.bs = c.bs ∧ c'.k = c.k ∧ ModP (fun k => B ≤ k) W w' := by
  obtain ⟨adb, capb, rfl, -⟩ := ownsRow_form h.rb.1
  obtain ⟨ado, capo, rfl, -⟩ := ownsRow_form h.ro.1
  obtain ⟨adr, capr, rfl, -⟩ := ownsRow_form h.rr.1
  obtain ⟨adv, capv, rfl, -⟩ := ownsRow_form h.rv.1
  have bo := h.bs i b hb
  have rd := Rd.of_row h.rb.1
  have hx := flat_get BC.cells 4 (fun _ => rfl) c.bs i b hb
  have hne : c.bs.flatMap BC.cells ≠ [] := fun e => by have := hx 0 (by omega); rw [e] at this; cases this
  obtain ⟨_, _, e1, q1⟩ := rd
  injection e1 with e1 e1b e1c
  subst e1 e1c
  obtain ⟨g1, rfl, g2, g3⟩ := q1 hne
  have hgg : g1 = g := by simpa [Value.ownBlock] using hg
  subst hgg
  have u2 : Hid (W.cell? ⟨g1, i * 4 + 2, none⟩ = some (vp b.q.b)) := g3 (i * 4 + 2) (vp b.q.b) (hx 2 (by omega))
  have u3 : Hid (W.cell? ⟨g1, i * 4 + 3, none⟩ = some (vp b.p.b)) := g3 (i * 4 + 3) (vp b.p.b) (hx 3 (by omega))
  have IG := hidIt g2
  have h100 := hidIt (by obtain ⟨G, R, hr, -⟩ := bo.rn; exact c100 hr bo.gd.ok.sy.el)
  have h101 := hidIt (fun w' (e : ModP (fun _ => False) W w') => by obtain ⟨G, hm, -⟩ := bo.mo; exact c101 (hm.frame e (fun _ _ f => f)) bo.gd.ok.sy.lg)
  have H := hidIt h
  have hw0 := h.hw.cell
  have iw0 := h.hw.inB
  have HSz := hidIt hz
  have HLv : Hid (c.vs.length + 1 ≤ S + 1) := by have := h.ln; unfold Hid; omega
  unfold ViewAt at h100 h101
  generalize b.n.sy.view = x at *
  generalize b.n.used = xu at *
  generalize b.n.seq = xs at *
  generalize b.n.idx = xi at *
  generalize b.n.applied = xa at *
  generalize b.q.b = qb at *
  generalize b.p.b = pb at *
  have uu2 := u2.out
  have uu3 := u3.out
  clear h hb bo hx hne q1 g3 e1b hg hz
  go_enter Tryz.func48, Tryz.ntmps48
  go_upto_region 3 with (first
    | (go_at_call 100; refine h100.out.mono ?_; rintro _ w1 ⟨b1, v1, rfl, ⟨l1, l2, a1, a2⟩, m1⟩; have M1 := hidIt m1; have A1 := hidIt a1; have A2 := hidIt a2; have L1 := hidIt l1; have L2 := hidIt l2; have uu3 : w1.cell? ⟨g1, i * 4 + 3, none⟩ = some (vp pb) := (by rw [m1.cell IG.out (fun f => f)]; exact u3.out); have ig1 := m1.inB IG.out; clear m1 a1 a2 l1 l2 uu2)
    | (go_at_call 101; refine (h101.out _ M1.out).mono ?_; rintro _ w2 ⟨b2, v2, rfl, ⟨l1, l2, a1, a2⟩, m2⟩; have M2 := hidIt m2; have B1 := hidIt a1; have B2 := hidIt a2; have ca := M2.out.at A1.out (fun f => f); have hca := ca.cell; have ica := ca.inB; have hcb := a1.cell; have icb := a1.inB; clear m2 a1 a2 l1 l2 ca))
  go_cut [48] from 8 (fun t wc => t = .bool false ∧ Hid (ModP (fun _ => False) w2 wc))
  case first =>
    have q21 := hidIt (fun u => c21 u (vp v1) (vp v2) xa xu xs xi)
    refine Ord.region3g (fun _ => True) [] [0, 1, 2, 3, 4, 5, 6, 7, 8, 9, 10, 11, 12, 13, 14, 15] (.one 16 false (.val 17 (.val 18 (.val 19 (.val 20 (.val 21 (.val 22 (.val 24 (.val 25 (.val 26 (.two 23 false (.one 27 false (.one 28 false (.val 29 (.val 30 .fin)))) 27 false (.one 23 false (.one 28 false (.val 29 (.val 30 .fin))))))))))))))) true (fun _ _ => trivial) (by kernel_rfl) (by kernel_rfl) (fun _ _ d _ _ h => by cases d <;> exact h) trivial ?_
    simp only [Ord.pickO, Ord.nth]
    refine wpQuiet_nil ?_
    repeat (go_big_quiet_step (fail))
    refine wpQuiet_nil ?_
    -- steps: ['N16', 'V17', 'V18', 'V19', 'V20', 'V21', 'V22', 'V24', 'V25', 'V26', ['N23', 'N27', 'N28', 'V29', 'V30'], ['N27', 'N23', 'N28', 'V29', 'V30']]
    refine Ord.wpG_next rfl (by first | rfl | simp [Region.wanted, yielded]) ?_
    intro K hK
    dsimp only [Ord.nth]
    go_wp2_with (first
      | (go_at_call 21; refine (q21.out _).mono ?_; rintro _ w5 ⟨rfl, m5⟩; have M5 := hidIt ((ModP.drew (ModP.refl _ _)).trans m5); clear m5))
    have ca := M5.out.at (M2.out.at A1.out (fun f => f)) (fun f => f)
    have cb := M5.out.at B1.out (fun f => f)
    have CA1 := hidIt ca
    clear hca ica hcb icb
    have hca := ca.cell
    have ica := ca.inB
    have hcb := cb.cell
    have icb := cb.inB
    have q22 := hidIt (c22 (M5.out.at (M2.out.at A2.out (fun f => f)) (fun f => f)) (M5.out.at B2.out (fun f => f)))
    clear ca cb
    refine Ord.wpG_val rfl ?_
    dsimp only [Ord.nth]
    go_big_quiet_step (fail)
    refine wpQuiet_nil ?_
    refine Ord.wpG_val rfl ?_
    dsimp only [Ord.nth]
    go_big_quiet_step (fail)
    refine wpQuiet_nil ?_
    refine Ord.wpG_val rfl ?_
    dsimp only [Ord.nth]
    go_big_quiet_step (fail)
    refine wpQuiet_nil ?_
    refine Ord.wpG_val rfl ?_
    dsimp only [Ord.nth]
    go_big_quiet_step (fail)
    refine wpQuiet_nil ?_
    refine Ord.wpG_val rfl ?_
    dsimp only [Ord.nth]
    go_big_quiet_step (fail)
    refine wpQuiet_nil ?_
    refine Ord.wpG_val rfl ?_
    dsimp only [Ord.nth]
    go_big_quiet_step (fail)
    refine wpQuiet_nil ?_
    refine Ord.wpG_val rfl ?_
    dsimp only [Ord.nth]
    go_big_quiet_step (fail)
    refine wpQuiet_nil ?_
    refine Ord.wpG_val rfl ?_
    dsimp only [Ord.nth]
    go_big_quiet_step (fail)
    refine wpQuiet_nil ?_
    refine Ord.wpG_val rfl ?_
    dsimp only [Ord.nth]
    go_big_quiet_step (fail)
    refine wpQuiet_nil ?_
    refine Ord.wpG_two ?_ ?_
    · skip
      refine Ord.wpG_next rfl (by first | rfl | simp [Region.wanted, yielded]) ?_
      intro K hK
      dsimp only [Ord.nth]
      go_wp2_with fail
      refine Ord.wpG_next rfl (by first | rfl | simp [Region.wanted, yielded]) ?_
      intro K hK
      dsimp only [Ord.nth]
      go_wp2_with fail
      refine Ord.wpG_next rfl (by first | rfl | simp [Region.wanted, yielded]) ?_
      intro K hK
      dsimp only [Ord.nth]
      go_wp2_with (first
        | (go_at_call 22; refine q22.out.mono ?_; rintro _ w6 ⟨b6, rfl, hb6, m6⟩; obtain rfl := hb6.2 (SyncV.Like.refl _); have M6 := hidIt m6; clear m6 hb6))
      refine Ord.wpG_val rfl ?_
      dsimp only [Ord.nth]
      go_big_quiet_step (fail)
      refine wpQuiet_nil ?_
      refine Ord.wpG_val rfl ?_
      dsimp only [Ord.nth]
      go_big_quiet_step (fail)
      refine wpQuiet_nil ?_
      refine Ord.wpG_fin ?_
      go_wp2_with fail
      go_meet
      case rel => exact ⟨rfl, M5.out.trans M6.out⟩
    · skip
      refine Ord.wpG_next rfl (by first | rfl | simp [Region.wanted, yielded]) ?_
      intro K hK
      dsimp only [Ord.nth]
      go_wp2_with fail
      refine Ord.wpG_next rfl (by first | rfl | simp [Region.wanted, yielded]) ?_
      intro K hK
      dsimp only [Ord.nth]
      go_wp2_with fail
      refine Ord.wpG_next rfl (by first | rfl | simp [Region.wanted, yielded]) ?_
      intro K hK
      dsimp only [Ord.nth]
      go_wp2_with (first
        | (go_at_call 22; refine q22.out.mono ?_; rintro _ w6 ⟨b6, rfl, hb6, m6⟩; obtain rfl := hb6.2 (SyncV.Like.refl _); have M6 := hidIt m6; clear m6 hb6))
      refine Ord.wpG_val rfl ?_
      dsimp only [Ord.nth]
      go_big_quiet_step (fail)
      refine wpQuiet_nil ?_
      refine Ord.wpG_val rfl ?_
      dsimp only [Ord.nth]
      go_big_quiet_step (fail)
      refine wpQuiet_nil ?_
      refine Ord.wpG_fin ?_
      go_wp2_with fail
      go_meet
      case rel => exact ⟨rfl, M5.out.trans M6.out⟩
  case rest =>
    obtain ⟨rfl, MC⟩ := hcut
    clear hca ica hcb icb hw0 iw0
    have ca := MC.out.at (M2.out.at A1.out (fun f => f)) (fun f => f)
    have aw := ((M1.out.trans M2.out).trans MC.out).at H.out.hw (fun f => f)
    have hca := ca.cell
    have ica := ca.inB
    have hw0 := aw.cell
    have iw0 := aw.inB
    have CA1 := hidIt ca
    clear ca aw
    go_wp2_with fail
    go_loopw [7] (fun cv u => ∃ j : Nat, j ≤ c.vs.length ∧ cv = vi j ∧ Hid (ModP (fun _ => False) wc u)) (fun cv _ => c.vs.length - (intOf cv).toNat)
    case atStart => exact ⟨0, by omega, rfl, ModP.refl _ _⟩
    case round =>
      obtain ⟨j, hj3, rfl, M⟩ := hrel
      have MW : Hid (ModP (fun _ => False) W wr) := ((M1.out.trans M2.out).trans MC.out).trans M.out
      have ca := M.out.at CA1.out (fun f => f)
      have aw := MW.out.at H.out.hw (fun f => f)
      have asx := ((M2.out.trans MC.out).trans M.out).at A2.out (fun f => f)
      clear hca ica hw0 iw0
      have hca := ca.cell
      have ica := ca.inB
      have hw0 := aw.cell
      have iw0 := aw.inB
      have CA2 := hidIt ca
      have CS2 := hidIt asx
      clear ca aw asx
      by_cases hjn : j < c.vs.length
      · have d6 : decide (j < c.vs.length) = true := by simpa using hjn
        have c4 : (j : Int) < c.vs.length := by omega
        obtain ⟨⟨xbr, xbs, xat, xnv, xsv⟩, hxe⟩ : ∃ x, c.vs[j]? = some x := ⟨_, List.getElem?_eq_getElem hjn⟩
        have ok0 := H.out.vs j _ hxe
        have ok := ok0.frame MW.out (fun _ f => f.elim) (.refl _ _)
        have n1 : xbr ≠ b1 := fun e => by have h1 : xbr < W.heap.size := ok0.a.inB; have := L1.out; omega
        have n2 : xbs ≠ v1 := fun e => by have h1 : xbs < W.heap.size := ok0.a'.inB; have := L2.out; omega
        have q1 := eqlP (World.At_drew.2 ok.a) (World.At_drew.2 CA2.out) n1 57 62 (by kernel_rfl) (j := (Tryz.prog.info? 62).getD default) (by kernel_rfl) (by decide)
        have q2 := eqlP (World.At_drew.2 ok.a') (World.At_drew.2 CS2.out) n2 58 64 (by kernel_rfl) (j := (Tryz.prog.info? 64).getD default) (by kernel_rfl) (by decide)
        have hx := flat_get VC.cells 34 VC.len c.vs j _ hxe
        have hne : c.vs.flatMap VC.cells ≠ [] := fun e => by have := hx 0 (by omega); rw [e] at this; cases this
        have r1 := (Rd.of_row H.out.rv.1).mod MW.out (fun _ _ f => f)
        obtain ⟨_, _, e1, q3⟩ := r1
        injection e1 with e1 e1b e1c
        subst e1 e1c
        obtain ⟨gv, rfl, gv2, gv3⟩ := q3 hne
        have k0 : wr.cell? ⟨gv, j * 34, none⟩ = some (vp xbr) := gv3 (j * 34) _ (hx 0 (by omega))
        have k1 : wr.cell? ⟨gv, j * 34 + 1, none⟩ = some (vp xbs) := gv3 (j * 34 + 1) _ (hx 1 (by omega))
        have HC := hidIt hjn
        clear hx hxe hne q3 gv3 ok ok0 e1b n1 n2
        go_wp2_with fail
        refine Ord.region3 (fun _ => True) [] [0, 1, 2, 3, 4, 5, 6, 7, 8, 9, 10, 11, 12, 13, 14, 15, 16, 17, 18, 19, 20, 21, 22, 23, 24] .fin true (fun _ _ => trivial) (by kernel_rfl) (Ord.in3q_3 (by kernel_rfl)) (fun _ _ d _ _ h => by cases d <;> exact h) trivial ?_
        simp only [Ord.pickO, Ord.nth]
        refine wpQuiet_nil ?_
        repeat (go_big_quiet_step (fail))
        refine wpQuiet_nil ?_
        refine Ord.wpS_fin ?_
        go_wp2_with fail
        go_roundw
        case rel => exact ⟨j + 1, by have := HC.out; omega, by rw [w64i HC.out (by have := HLv.out; have := HSz.out; omega)]; rfl, M.out.drew⟩
        case measure => have := HC.out; rw [w64i HC.out (by have := HLv.out; have := HSz.out; omega)]; simp [intOf]; omega
      · have d6 : decide (j < c.vs.length) = false := by simpa using hjn
        clear hjn
        have hcs := CS2.out.cell
        have ics := CS2.out.inB
        have AW := hidIt (MW.out.at H.out.hw (fun f => f))
        have nox : ∀ k, (Value.slice adv c.vs.length capv).ownBlock = some k → k ≠ bw := fun k hk e => by have h1 := H.out.rv.2 k hk; rw [e, H.out.tw] at h1; cases h1
        have NOX := hidIt nox
        have hRow : Hid (wr.ownsRow B 66 34 (.slice adv c.vs.length capv) c.vs.length (c.vs.flatMap VC.cells)) := ownsRow_frame H.out.rv.1 MW.out (fun _ _ f => f)
        have lB : Hid (B ≤ wr.heap.size) := by have h1 := H.out.lo bw (by rw [H.out.tw]; exact nofun); have := MW.out.size; unfold Hid; omega
        clear nox
        go_wp2_with fail
        refine Ord.region3 (fun w' => ∃ u : World, w' = u.force bw (WorldR.cells ⟨.slice (some ⟨g1, 0, none⟩) c.bs.length capb, c.k, c.ra, c.rb, c.old, .slice ado c.os.length capo, .slice adr c.rs.length capr, .slice adv c.vs.length capv, false⟩) 33) [0, 1, 2, 3, 4] [5, 6, 7, 8, 9, 10, 11, 12, 13, 14, 15, 16, 17, 18, 19, 20, 21, 22, 23] (.one 24 true (.one 25 true (.val 26 (.val 27 (.one 28 false .fin))))) false (fun h => by cases h) (by kernel_rfl) (Ord.in3q_3 (by kernel_rfl)) (fun _ _ d _ _ h => by cases d <;> exact h) ?ca10_1 ?_
        rotate_left
        simp only [Ord.pickO, Ord.nth]
        repeat (go_big_quiet_step (fail))
        refine wpQuiet_nil ?_
        iterate 17 (go_big_quiet_step (fail))
        refine wpQuiet_load_arr rfl 64 _ rfl v1 0 rfl x.cells (.struct (Tryz.prog.fieldsOf 64)) (by rintro _ rfl j v hv; rw [Nat.zero_add]; exact (hcs j).trans hv) (by kernel_rfl) rfl (by kernel_rfl) ?_
        simp only [Act.put, List.setIfInBounds_toArray, List.set_cons_succ, List.set_cons_zero]
        unfold Tw.SyncV.cells
        repeat (go_big_quiet_step (fail))
        refine wpQuiet_nil ?_
        rotate_left
        · exact ca_of (World.At_drew.2 AW.out)
        refine Ord.wpS_loose rfl ?_
        intro K hK
        dsimp only [Ord.nth]
        go_wp2_with fail
        refine hK _ _ (ca_of (World.At.alloc (World.At_drew.2 AW.out) _)) ?_
        clear hK K
        refine Ord.wpS_loose rfl ?_
        intro K hK
        dsimp only [Ord.nth]
        refine op_app rk31 _ _ rfl (B := B) (v := .slice adv c.vs.length capv) (n := c.vs.length) (xs := c.vs.flatMap VC.cells) (VC.cells ⟨b1, v1, some v1, ⟨vp v1, xa, xu, xs, xi⟩, x⟩) rfl rfl (at_new' rfl) rfl (vc_one b1 v1 xa xu xs xi x) (ownsRow_alloc (ownsRow_frame hRow.out ((ModP.refl (fun _ => False) _).drew) (fun _ _ f => f)) _) (by have := lB.out; simp; omega) (by have := HLv.out; have := HSz.out; unfold maxLen; omega) (by have := HLv.out; have := HSz.out; omega) ?_
        intro g' cap' w3 o3 m3 n3 l3
        simp only [Act.put, List.setIfInBounds_toArray, List.set_cons_succ, List.set_cons_zero]
        have p3 : ModP (fun k => (Value.slice adv c.vs.length capv).ownBlock = some k) _ w3 := ⟨m3.os, m3.tape, m3.output, m3.size, fun k hk hn => m3.block k hk (fun e => hn (by simpa using e))⟩
        have aw := p3.at (World.At.alloc (World.At_drew.2 AW.out) _) (fun e => NOX.out bw e rfl)
        refine hK _ _ (ca_of aw) ?_
        clear hK K
        obtain ⟨y3, rfl, iy3⟩ := aw.door
        have O3 := hidIt o3
        have P3 := hidIt p3
        have N3 := hidIt n3
        clear o3 p3 n3 m3 aw l3 hca ica hcs ics hw0 iw0
        refine Ord.wpS_val rfl ?_
        dsimp only [Ord.nth]
        go_big_quiet_step (fail)
        refine wpQuiet_nil ?_
        refine Ord.wpS_val rfl ?_
        dsimp only [Ord.nth]
        go_big_quiet_step (fail)
        refine wpQuiet_nil ?_
        refine Ord.wpS_next rfl ?_
        intro K hK
        dsimp only [Ord.nth]
        go_wp2_with fail
        refine Ord.wpS_fin ?_
        go_wp2_with fail
        go_ret
        have h := H.out
        have lW := MW.out.size
        have hno : ∀ k, W.heap.size ≤ k → own k = .no := fun k hk => by
          rcases e : own k with _ | _ | _ | _ | _ | _ | _ | _ | _ | _ | _ | _ | _ | _
          · rfl
          all_goals (have := (h.lo k (by rw [e]; exact nofun)).2; omega)
        have lvv : ∀ k, (Value.slice adv c.vs.length capv).ownBlock = some k → k < W.heap.size := fun k hk => (ownsRow_block h.rv.1 hk).1
        have m0 : ∀ c', ModP (fun k => k = bw ∨ (Value.slice adv c.vs.length capv).ownBlock = some k) W (y3.put bw c' 33) := fun c' =>
          ((((MW.out.mono (fun _ f => f.elim)).drew).alloc _).step P3.out (fun k hk => .inl (.inr hk))).step (put_re y3 bw _ c' 33) (fun k hk => .inl (.inl hk))
        have lbw : bw < W.heap.size := h.hw.inB
        have z1 := L1.out
        have z2 := L2.out
        have lB2 := (h.lo bw (by rw [h.tw]; exact nofun)).1
        obtain ⟨own', w1', -⟩ := h.addView (g := b1) (h' := v1) (x0 := ⟨b1, v1, some v1, ⟨vp v1, xa, xu, xs, xi⟩, x⟩) (S' := S + 1) (vv' := .slice (some ⟨g', 0, none⟩) (c.vs.length + 1) cap') (m0 (WorldR.cells ⟨.slice (some ⟨g1, 0, none⟩) c.bs.length capb, c.k, c.ra, c.rb, c.old, .slice ado c.os.length capo, .slice adr c.rs.length capr, .slice (some ⟨g', 0, none⟩) (c.vs.length + 1) cap', false⟩)) (fun k f => by
          rcases f with e | e
          · rw [e]; exact .inr (.inl h.tw)
          · exact .inr (.inr (h.rv.2 k e))) (by omega) HSz.out HLv.out (World.At_put_same iy3) (ownsRow_frame O3.out (put_re y3 bw _ _ 33) (fun k hk e => by
            have hk' : g' = k := by simpa [Value.ownBlock] using hk
            rcases N3.out with q | q
            · exact NOX.out g' q (by rw [hk', e])
            · have q2 : wr.heap.size < g' := (by rw [q]; simp)
              omega)) (fun k hk => by
            have hk' : g' = k := by simpa [Value.ownBlock] using hk
            rcases N3.out with q | q
            · exact .inl (by rw [← hk']; exact q)
            · right; have q2 : wr.heap.size < g' := (by rw [q]; simp); omega) rfl rfl rfl
            ((put_re y3 bw _ _ 33).at (P3.out.at (World.At.alloc (World.At_drew.2 CA2.out) _) (fun e => by have := lvv _ e; omega)) (fun e => by omega))
            ((put_re y3 bw _ _ 33).at (P3.out.at (World.At.alloc (World.At_drew.2 CS2.out) _) (fun e => by have := lvv _ e; omega)) (fun e => by omega))
            (hno _ z1) (hno _ z2) (At.neT CA2.out CS2.out (by decide)) (by omega) (by omega)
        exact ⟨rfl, own', _, _, w1', rfl, rfl, (m0 _).mono (fun k f => by rcases f with e | e; exact (h.lo k (by rw [e, h.tw]; exact nofun)).1; exact (h.lo k (by rw [h.rv.2 k e]; exact nofun)).1)⟩
end
end Go.Proofs.Qxb6500990aGreat
