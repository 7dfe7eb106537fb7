/- package node: did -/
import Derived.Test.Qxb6500990aGreatNo12
import Derived.Deep.Cut
set_option linter.unusedVariables false
set_option linter.unusedSimpArgs false
namespace Go.Tw
open Go Go.Proofs Go.Proofs.Qxb6500990aGreat Go.RowKit
def rGet (R : List Reply) (j : Nat) : Reply := R.getD j zReply
theorem rGet_in (R : List Reply) {j : Nat} (h : j < R.length) : rGet R j = R[j] := by unfold rGet; simp [List.getD_eq_getElem?_getD, h]
def oGet (ms : List Msg) (j : Nat) : OutM := (ms.map outM).getD j zOut
theorem oGet_in (ms : List Msg) {j : Nat} (h : j < ms.length) : oGet ms j = outM ms[j] := by unfold oGet; simp [List.getD_eq_getElem?_getD, h]
/-- the list v lies among the blocks ex -/
def RowIs (ex : List (Nat × Array Value × TypeId)) (T : TypeId) (v : Value) (n : Nat) (xs : List Value) : Prop := (n = 0 ∧ v = .slice none 0 0) ∨ (0 < n ∧ ∃ g, v = .slice (some ⟨g, 0, none⟩) n n ∧ (g, xs.toArray, T) ∈ ex)
section
variable {G : Nat → Prop} {W w w1 : World} {q : NoP} {n : AN} {R : List Reply} {vm : Value} {ms : List Msg} {ex : List (Nat × Array Value × TypeId)}
theorem DiB.hb (h : DiB G W q n R vm ms ex w) : ∃ rs, w.At q.b (NodeR.cells ⟨vp q.s.b, vp q.bk, n.sy.el.id, n.applied, n.used, n.seq, n.idx, rs, R.length, vp q.bw⟩) 111 ∧ (∀ i (h : i < R.length), rs i = R[i]) ∧ R.length ≤ 3 := by
  obtain ⟨X, h1, _⟩ := h
  exact h1.hb
theorem DiB.msgs (h : DiB G W q n R vm ms ex w) : ∃ X, MsgsX X w vm ms := by obtain ⟨X, _, h2, _⟩ := h; exact ⟨X, h2⟩
theorem DiB.enc (h : DiB G W q n R vm ms ex w) (he : EncS w1 q.bw) (m : ModP (fun x => x = q.bw) w w1) : DiB G W q n R vm ms ex w1 := by
  obtain ⟨X, h1, h2, h3, h4⟩ := h
  obtain ⟨s1, s2⟩ := h1.enc he m
  exact ⟨X, s1, h2.step s2 (fun k hk hn => hn hk) (fun _ h => h), fun e he => ⟨(h3 e he).1, s2.at (h3 e he).2 (fun hn => hn (h3 e he).1)⟩, h4⟩
theorem DiB.es (h : DiB G W q n R vm ms ex w) : EncS w q.bw := by obtain ⟨X, ⟨G1, h1, _⟩, _⟩ := h; exact h1.hw
theorem DiB.nv (h : DiB G W q n R vm ms ex w) {i : Nat} (hi : i < ms.length) : ∃ v, (∃ g ad cap, vm = .slice ad ms.length cap ∧ ad = some ⟨g, 0, none⟩ ∧ w.inB g ∧ (∀ j, j < 10 → w.cell? ⟨g, i * 10 + j, none⟩ = ((ms[i]).r v).cells[j]?)) ∧ EntsAt 0 w v (ms[i]).ents ∧ ∀ g, v.ownBlock = some g → g ≠ q.bw := by
  obtain ⟨X, h1, ⟨ps, p1, p2, p3⟩, h3, h4⟩ := h
  have hl : ps.length = ms.length := by rw [← p1]; simp
  have hpi : i < ps.length := by omega
  have hm : ms[i] = (ps[i]).1 := by subst p1; simp
  obtain ⟨ad, cap, hv, hcell⟩ := ownsRow_form p2.1
  have hg := msgsC_get ps i _ (List.getElem?_eq_getElem hpi)
  obtain ⟨g, hg1, hg2, -⟩ := hcell (i * 10 + 0) _ (by rw [hg 0 (by omega)]; rfl)
  refine ⟨(ps[i]).2, ⟨g, ad, cap, by rw [hv, hl], hg1, hg2, ?_⟩, ?_, ?_⟩
  · intro j hj
    rw [hm]
    have h9 := hg j hj
    have hsz : j < ((ps[i]).1.r (ps[i]).2).cells.size := hj
    rw [Array.getElem?_eq_getElem hsz] at h9 ⊢
    obtain ⟨g', e1, -, e3⟩ := hcell _ _ h9
    rw [hg1] at e1
    injection e1 with e1; injection e1 with e1
    subst e1
    exact e3
  · rw [hm]; exact (p3 _ (List.getElem_mem hpi)).1
  · intro g0 hg0
    obtain ⟨G1, k1, -, -, k4⟩ := h1
    have := (p3 _ (List.getElem_mem hpi)).2 g0 hg0
    intro e
    exact (k4 g0 this).2 (e ▸ k1.fw)
end
end Go.Tw
namespace Go.Proofs.Qxb6500990aGreat
open Go Go.RowKit Go.Tw
attribute [local go_sem] World.cell?_put_same World.cell?_put_ne World.cell?_put_ne' World.frozen?_put_same World.frozen?_put_ne World.frozen?_put_ne' World.setCell_put_same World.setCell_put_ne World.setCell_put_ne' World.inB_put World.inB_alloc World.inB_drew World.inB_drewN World.inB_new World.inB_setCell World.put_drew World.put_drewN World.q_setCell_drew World.q_setCell_drewN World.q_alloc_drew World.q_alloc_drewN World.put_put_same World.put_put_2 World.size_put World.q_cell?_alloc_old World.q_frozen?_alloc_old World.cell?_alloc_new' World.frozen?_alloc_new' World.q_setCell_alloc_old World.q_setCell_alloc_new World.q_put_alloc_old World.cell?_force_same World.frozen?_force_same World.cell?_force2_fst World.cell?_force2_snd NodeR.g0 NodeR.s0 NodeR.g1 NodeR.s1 NodeR.g2 NodeR.s2 NodeR.g3 NodeR.s3 NodeR.g4 NodeR.s4 NodeR.g5 NodeR.s5 NodeR.g6 NodeR.s6 NodeR.g7 NodeR.s7 NodeR.g8 NodeR.s8 NodeR.g9 NodeR.s9 NodeR.g10 NodeR.s10 NodeR.g11 NodeR.s11 NodeR.g12 NodeR.s12 NodeR.g13 NodeR.s13 NodeR.g14 NodeR.s14 NodeR.g15 NodeR.s15 NodeR.g16 NodeR.s16 NodeR.g17 NodeR.s17 NodeR.g18 NodeR.s18 NodeR.g19 NodeR.s19 NodeR.g20 NodeR.s20 NodeR.g21 NodeR.s21 NodeR.g22 NodeR.s22 NodeR.g23 NodeR.s23 NodeR.g24 NodeR.s24 NodeR.g25 NodeR.s25 NodeR.g26 NodeR.s26 NodeR.gi_used_0 NodeR.si_used_0 NodeR.gi_seq_0 NodeR.si_seq_0 NodeR.gi_idx_0 NodeR.si_idx_0 NodeR.gi_reps_0 NodeR.si_reps_0 NodeR.gi_reps_1 NodeR.si_reps_1 NodeR.gi_reps_2 NodeR.si_reps_2 NodeR.gi_reps_3 NodeR.si_reps_3 DidR.g0 DidR.s0 DidR.g1 DidR.s1 DidR.g2 DidR.s2 MsgR.g0 MsgR.s0 MsgR.g1 MsgR.s1 MsgR.g2 MsgR.s2 MsgR.g3 MsgR.s3 MsgR.g4 MsgR.s4 MsgR.g5 MsgR.s5 MsgR.g6 MsgR.s6 MsgR.g7 MsgR.s7 MsgR.g8 MsgR.s8 MsgR.g9 MsgR.s9
attribute [local go_sem] NodeR.gia_reps_1 NodeR.sia_reps_1 NodeR.gia_reps_2 NodeR.sia_reps_2 NodeR.gia_reps_3 NodeR.sia_reps_3
attribute [local go_sem] ba_get upd_same upd_upd mk54 mk50 repC_g0 repC_g1 repC_g2 repC_g3 repC_s0 repC_s1 repC_s2 repC_s3 outC_g0 outC_g1 outC_s0 outC_s1
set_option maxHeartbeats 4000000
set_option maxRecDepth 100000
section
variable {W w : World} {G X : Nat → Prop} {q : NoP} {n : AN} {R : List Reply} {vm : Value} {ms : List Msg}
def zDid : DidR := ⟨0, .slice none 0 0, .slice none 0 0⟩
theorem c146 (h : RN G W X q n R w) (hm : MsgsX X w vm ms) (hmo : ∀ m ∈ ms, MsgOk m) (h3 : ms.length ≤ 3) : Calls Tryz.prog 146 #[vp q.b, vm] w fun r w' => ∃ vo vr X', r = .returned (.agg (DidR.cells ⟨0, vo, vr⟩)) ∧ RN G W X' q n R w' ∧ DRow W.heap.size X' w' 72 vo ms.length (outsC (ms.map outM)) ∧ DRow W.heap.size X' w' 77 vr R.length (repsC R) := by
  have H0 : Hid (DiB G W q n R vm ms [] w) := ⟨X, h, hm, by simp, by simp⟩
  have H1 : Hid (DiB G W q n R vm ms [(w.heap.size + 1, zDid.cells, 117), (w.heap.size, zDid.cells, 117)] ((w.alloc (.cells zDid.cells 117)).alloc (.cells zDid.cells 117))) := by
    have := (H0.out.new zDid.cells 117).new zDid.cells 117
    rw [show (w.alloc (.cells zDid.cells 117)).heap.size = w.heap.size + 1 by simp] at this
    exact this
  obtain ⟨ad, cap, rfl, -⟩ := MsgsX.form ⟨X, hm⟩
  obtain ⟨rs0, -, -, hR3⟩ := h.hb
  have n45 : w.heap.size + 1 ≠ w.heap.size := by omega
  clear h hm H0
  go_enter Tryz.func146, Tryz.ntmps146
  go_upto_region 2 with fail
  generalize hwA : (w.alloc (.cells zDid.cells 117)).alloc (.cells zDid.cells 117) = wA at *
  have hwA2 : (w.alloc (.cells #[.int .i64 0, .slice none 0 0, .slice none 0 0] 117)).alloc (.cells #[.int .i64 0, .slice none 0 0, .slice none 0 0] 117) = wA := hwA
  rw [hwA2]
  generalize w.heap.size + 1 = t5 at *
  generalize w.heap.size = t4 at *
  clear hwA hwA2
  obtain ⟨rs, hb, hrs, -⟩ := H1.out.hb
  have hc := hb.cell
  have ib := hb.inB
  clear hb hrs
  go_upto_if 13 with fail
  go_cut [] from 6 (fun wc => ∃ vr exR, Hid (DiB G W q n R (.slice ad ms.length cap) ms ((t5, DidR.cells ⟨0, .slice none 0 0, vr⟩, 117) :: (t4, zDid.cells, 117) :: exR) wc) ∧ Hid (RowIs exR 77 vr R.length (repsC R)) ∧ Hid (∀ e ∈ exR, e.2.2 = 77))
  case first =>
    by_cases hR0 : R.length = 0
    · have d0 : decide (0 < R.length) = false := decide_eq_false (by omega)
      have HR0 := hidIt hR0
      clear hR0
      simp only [d0]
      go_wp2_with fail
      go_meet
      case rel => exact ⟨.slice none 0 0, [], H1, .inl ⟨HR0.out, rfl⟩, fun e he => by simp at he⟩
    · have d0 : decide (0 < R.length) = true := decide_eq_true (by omega)
      have HR0 := hidIt hR0
      obtain ⟨y, rfl, iy, ho, HD⟩ := H1.out.door (by intro e he; simp at he; subst he; exact n45.symm) (by decide) (by decide)
      have hb2 : Hid (∃ rs, y.At q.b (NodeR.cells ⟨vp q.s.b, vp q.bk, n.sy.el.id, n.applied, n.used, n.seq, n.idx, rs, R.length, vp q.bw⟩) 111 ∧ q.b ≠ t5) := by
        obtain ⟨rs, hb, -⟩ := H1.out.hb
        have hne : q.b ≠ t5 := At.neT hb (H1.out.get List.mem_cons_self) (show (111 : Nat) ≠ 117 by decide)
        exact ⟨rs, ho _ _ _ hb hne, hne⟩
      obtain ⟨rs1, hb1, nq5⟩ := hb2.out
      have hcb := hb1.cell
      have icb := hb1.inB
      unfold zDid
      have hl3 := hR3
      clear hc ib hR0 hb1 ho
      simp only [d0]
      go_wp2_with fail
      have HL : Hid (DiB G W q n R (.slice ad ms.length cap) ms (((y.put t5 (DidR.cells ⟨0, .slice none 0 0, .slice (some ⟨y.heap.size, 0, none⟩) R.length R.length⟩) 117).heap.size, repC (fun _ => zReply) R.length, 77) :: (t5, DidR.cells ⟨0, .slice none 0 0, .slice (some ⟨y.heap.size, 0, none⟩) R.length R.length⟩, 117) :: (t4, zDid.cells, 117) :: []) ((y.put t5 (DidR.cells ⟨0, .slice none 0 0, .slice (some ⟨y.heap.size, 0, none⟩) R.length R.length⟩) 117).alloc (.cells (repC (fun _ => zReply) R.length) 77))) := (HD.out _).new _ _
      rw [World.size_put] at HL
      have ng5 : y.heap.size ≠ t5 := by have : t5 < y.heap.size := iy; omega
      generalize y.heap.size = gR at *
      go_loopw [6] (fun iv u => ∃ i : Nat, i ≤ R.length ∧ iv = vi i ∧ Hid (DiB G W q n R (.slice ad ms.length cap) ms ((gR, repC (cpF (rGet R) (fun _ => zReply) i) R.length, 77) :: (t5, DidR.cells ⟨0, .slice none 0 0, .slice (some ⟨gR, 0, none⟩) R.length R.length⟩, 117) :: (t4, zDid.cells, 117) :: []) u)) (fun iv _ => R.length - (intOf iv).toNat)
      case atStart => exact ⟨0, by omega, rfl, by rw [cpF_0]; exact HL⟩
      case round =>
        clear HL hcb icb HD hb2 nq5 iy H1
        clear y rs1
        obtain ⟨i, hi, rfl, HL⟩ := hrel
        obtain ⟨rs2, hb2, hrs2, -⟩ := HL.out.hb
        have h5 : wr.At t5 _ 117 := HL.out.get (List.mem_cons_of_mem _ List.mem_cons_self)
        have h4 : wr.At t4 _ 117 := HL.out.get (List.mem_cons_of_mem _ (List.mem_cons_of_mem _ List.mem_cons_self))
        have hgq : q.b ≠ gR := At.neT hb2 (HL.out.get List.mem_cons_self) (show (111 : Nat) ≠ 77 by decide)
        have hg5 : t5 ≠ gR := ng5.symm
        have hg4 : t4 ≠ gR := At.neT h4 (HL.out.get List.mem_cons_self) (show (117 : Nat) ≠ 77 by decide)
        obtain ⟨y, rfl, iy, ho, HD⟩ := HL.out.door (by intro e he; simp at he; rcases he with rfl | rfl; exact hg5; exact hg4) (show (77 : Nat) ≠ 159 by decide) (show (77 : Nat) ≠ 232 by decide)
        have hcb := (ho _ _ _ hb2 hgq).cell
        have icb := (ho _ _ _ hb2 hgq).inB
        have hc5 := (ho _ _ _ h5 hg5).cell
        have ic5 := (ho _ _ _ h5 hg5).inB
        have HRS := hidIt hrs2
        clear hb2 h5 h4 ho hrs2
        by_cases hin : i < R.length
        · have i3 : i < 3 := by omega
          have i4 : (i : Int) < 3 := by omega
          have hri : rs2 i = rGet R i := by rw [HRS.out i hin, rGet_in R hin]
          have hst := hidIt (cpF_step (rGet R) (fun _ => zReply) i)
          go_wp2_with fail
          refine Ord.region1 [] [0, 1, 2, 3, 4, 5, 6, 7, 8, 9] [10] (by kernel_rfl) (by kernel_rfl) (fun _ _ d _ _ h => by cases d <;> exact h) ?_
          simp only [Ord.pickO, Ord.nth]
          refine wpQuiet_nil ?_
          repeat (go_big_quiet_step (fail))
          refine wpQuiet_nil ?_
          go_wp2_with fail
          go_roundw
          case rel => exact ⟨i + 1, by omega, by go_num, by rw [← hst.out]; exact (HD.out _).fr ((ModP.refl _ _).drew)⟩
          case measure => simp [intOf]; omega
        · have di : decide (i < R.length) = false := decide_eq_false hin
          have hie : Hid (i = R.length) := by unfold Hid; omega
          go_wp2_with fail
          go_meet
          case rel =>
            refine ⟨.slice (some ⟨gR, 0, none⟩) R.length R.length, [(gR, (repsC R).toArray, 77)], ?_, .inr ⟨by have := HR0.out; omega, gR, rfl, by simp⟩, fun e he => by simp at he; subst he; rfl⟩
            have e1 : repC (cpF (rGet R) (fun _ => zReply) i) R.length = (repsC R).toArray := by
              refine repC_list R (fun j hj => ?_)
              unfold cpF
              rw [if_pos (by have := hie.out; omega), rGet_in R hj]
            have := HL.out
            rw [e1] at this
            rw [e1]
            exact this.perm (fun e he => by simp at he ⊢; rcases he with rfl | rfl | rfl <;> simp)
  case rest =>
    clear H1 hc ib
    obtain ⟨vr, exR, H1, HRow, HRT⟩ := hcut
    have hvr : ∃ ad l c, vr = .slice ad l c := by
      rcases HRow.out with ⟨-, h⟩ | ⟨-, g, h, -⟩
      · exact ⟨_, _, _, h⟩
      · exact ⟨_, _, _, h⟩
    obtain ⟨adr, lr, cr, rfl⟩ := hvr
    have dist : Hid (∀ (u : World) (x : Nat) (c : Array Value) (exq : List (Nat × Array Value × TypeId)), (∀ e ∈ exR, e ∈ exq) → DiB G W q n R (.slice ad ms.length cap) ms exq u → ∀ T : TypeId, T ≠ 77 → u.At x c T → ∀ e ∈ exR, e.1 ≠ x) := by
      intro u x c exq hsub hd T hT hat e he
      have := hd.get (hsub e he)
      rw [HRT.out e he] at this
      exact At.neT this hat (fun e => hT e.symm)
    go_upto_if 40 with fail
    go_cut [] from 6 (fun wc => ∃ vo exO, Hid (DiB G W q n R (.slice ad ms.length cap) ms ((t5, DidR.cells ⟨0, vo, .slice adr lr cr⟩, 117) :: (t4, zDid.cells, 117) :: (exO ++ exR)) wc) ∧ Hid (RowIs exO 72 vo ms.length (outsC (ms.map outM))) ∧ Hid (∀ e ∈ exO, e.2.2 = 72))
    case first =>
      by_cases hM0 : ms.length = 0
      · have d0 : decide (0 < ms.length) = false := decide_eq_false (by omega)
        have HM0 := hidIt hM0
        clear hM0
        simp only [d0]
        go_wp2_with fail
        go_meet
        case rel => exact ⟨.slice none 0 0, [], H1, .inl ⟨HM0.out, rfl⟩, fun e he => by simp at he⟩
      · have d0 : decide (0 < ms.length) = true := decide_eq_true (by omega)
        have HM0 := hidIt hM0
        have h45 : wc.At t4 zDid.cells 117 := H1.out.get (List.mem_cons_of_mem _ List.mem_cons_self)
        have h55 : wc.At t5 _ 117 := H1.out.get List.mem_cons_self
        obtain ⟨y, rfl, iy, ho, HD⟩ := H1.out.door (by
          intro e he
          rcases List.mem_cons.1 he with rfl | he
          · exact n45.symm
          · exact dist.out _ _ _ _ (fun e he => List.mem_cons_of_mem _ (List.mem_cons_of_mem _ he)) H1.out 117 (by decide) h55 e he) (show (117 : Nat) ≠ 159 by decide) (show (117 : Nat) ≠ 232 by decide)
        clear hM0 ho h45 h55
        simp only [d0]
        go_wp2_with fail
        have HL : Hid (DiB G W q n R (.slice ad ms.length cap) ms (((y.put t5 (DidR.cells ⟨0, .slice (some ⟨y.heap.size, 0, none⟩) ms.length ms.length, .slice adr lr cr⟩) 117).heap.size, outC (fun _ => zOut) ms.length, 72) :: (t5, DidR.cells ⟨0, .slice (some ⟨y.heap.size, 0, none⟩) ms.length ms.length, .slice adr lr cr⟩, 117) :: (t4, zDid.cells, 117) :: exR) ((y.put t5 (DidR.cells ⟨0, .slice (some ⟨y.heap.size, 0, none⟩) ms.length ms.length, .slice adr lr cr⟩) 117).alloc (.cells (outC (fun _ => zOut) ms.length) 72))) := (HD.out _).new _ _
        rw [World.size_put] at HL
        have ng5 : y.heap.size ≠ t5 := by have : t5 < y.heap.size := iy; omega
        generalize y.heap.size = gO at *
        go_loopw [7, 8] (fun iv _ u => ∃ i : Nat, i ≤ ms.length ∧ iv = vi i ∧ Hid (DiB G W q n R (.slice ad ms.length cap) ms ((gO, outC (cpF (oGet ms) (fun _ => zOut) i) ms.length, 72) :: (t5, DidR.cells ⟨0, .slice (some ⟨gO, 0, none⟩) ms.length ms.length, .slice adr lr cr⟩, 117) :: (t4, zDid.cells, 117) :: exR) u)) (fun iv _ _ => ms.length - (intOf iv).toNat)
        case atStart => exact ⟨0, by omega, rfl, by rw [cpF_0]; exact HL⟩
        case round =>
          clear HL HD iy H1
          clear y
          obtain ⟨i, hi, rfl, HL⟩ := hrel
          by_cases hin : i < ms.length
          · obtain ⟨v9, ⟨g, ad9, cap9, hvm, had, ig, hcg⟩, he9, hnv9⟩ := HL.out.nv hin
            injection hvm with hva hvb hvc
            subst hva
            subst had
            obtain ⟨ade, cape, rfl, -⟩ := ownsRow_form he9
            have hmok := hmo _ (List.getElem_mem hin)
            have hog := oGet_in ms hin
            have k2' : Hid (∀ u, DiB G W q n R (.slice (some ⟨g, 0, none⟩) ms.length cap) ms ((gO, outC (cpF (oGet ms) (fun _ => zOut) i) ms.length, 72) :: (t5, DidR.cells ⟨0, .slice (some ⟨gO, 0, none⟩) ms.length ms.length, .slice adr lr cr⟩, 117) :: (t4, zDid.cells, 117) :: exR) u → u.inB g ∧ u.cell? ⟨g, i * 10 + 2, none⟩ = some (vi (ms[i]).to)) := by
              intro u hu
              obtain ⟨v8, ⟨g8, ad8, cap8, hvm8, had8, ig8, hcg8⟩, -, -⟩ := hu.nv hin
              injection hvm8 with a8
              rw [had8] at a8
              injection a8 with a8; injection a8 with a8
              subst a8
              exact ⟨ig8, hcg8 2 (by omega)⟩
            rcases hmi : ms[i] with ⟨mk, mf, mt, mtm, mi, ml, mc, mo, me, md⟩
            rw [hmi] at hcg he9 hmok hog k2' hnv9
            have hEn := hidIt (fun w' (mm : ModP (fun _ => False) wr w') => c220 (HL.out.fr mm).es (ownsRow_frame he9 mm (fun _ _ f => f)) hnv9 hmok)
            have hog2 : oGet ms i = ⟨mt, encMsg ⟨mk, mf, mt, mtm, mi, ml, mc, mo, me, md⟩⟩ := hog
            have HOG := hidIt hog2
            generalize encMsg ⟨mk, mf, mt, mtm, mi, ml, mc, mo, me, md⟩ = raw at *
            have g0 := hcg 0 (by omega)
            have g1 := hcg 1 (by omega)
            have g2 := hcg 2 (by omega)
            have g3 := hcg 3 (by omega)
            have g4 := hcg 4 (by omega)
            have g5 := hcg 5 (by omega)
            have g6 := hcg 6 (by omega)
            have g7 := hcg 7 (by omega)
            have g8 := hcg 8 (by omega)
            have g9 := hcg 9 (by omega)
            simp only [Msg.r, Nat.add_zero] at g0 g1 g2 g3 g4 g5 g6 g7 g8 g9 hEn
            obtain ⟨rs2, hb2, -, -⟩ := HL.out.hb
            have hcb := hb2.cell
            have icb := hb2.inB
            have i3 : i < 3 := by omega
            have hst := hidIt (cpF_step (oGet ms) (fun _ => zOut) i)
            clear hcg he9 hmok hmi hog hog2 hnv9 hvb hvc hb2
            go_wp2_with fail
            refine Ord.region1 [] [0, 1, 2, 3, 4, 5, 6, 7] [8, 9] (by kernel_rfl) (by kernel_rfl) (fun _ _ d _ _ h => by cases d <;> exact h) ?_
            simp only [Ord.pickO, Ord.nth]
            refine wpQuiet_nil ?_
            repeat (go_big_quiet_step (fail))
            refine wpQuiet_nil ?_
            go_wp2_with (first
              | (go_at_call 220; refine (hEn.out _ ((ModP.refl _ _).drew)).mono ?_; rintro _ w4 ⟨rfl, e4, m4⟩; have S4 := hidIt (HL.out.enc e4 m4.undrew); clear e4 m4 g0 g1 g2 g3 g4 g5 g6 g7 g8 g9 hcb icb))
            have h5 : w4.At t5 _ 117 := S4.out.get (List.mem_cons_of_mem _ List.mem_cons_self)
            have h4 : w4.At t4 _ 117 := S4.out.get (List.mem_cons_of_mem _ (List.mem_cons_of_mem _ List.mem_cons_self))
            have hgO : w4.At gO _ 72 := S4.out.get List.mem_cons_self
            have hg4 : t4 ≠ gO := At.neT h4 hgO (by decide)
            have kk := k2'.out _ S4.out
            have hgm : g ≠ gO := by
              obtain ⟨X9, hX9⟩ := S4.out.msgs
              obtain ⟨ps, p1, p2, p3⟩ := hX9
              intro e
              exact ownsRow_neT p2.1 hgO (by decide) (show (Value.slice (some ⟨g, 0, none⟩) ms.length cap).ownBlock = some g from rfl) e.symm
            obtain ⟨y, rfl, iy, ho, HD⟩ := S4.out.door (by
              intro e he
              rcases List.mem_cons.1 he with rfl | he
              · exact ng5.symm
              · rcases List.mem_cons.1 he with rfl | he
                · exact hg4
                · exact dist.out _ _ _ _ (fun e he => List.mem_cons_of_mem _ (List.mem_cons_of_mem _ (List.mem_cons_of_mem _ he))) S4.out 72 (by decide) hgO e he) (show (72 : Nat) ≠ 159 by decide) (show (72 : Nat) ≠ 232 by decide)
            have hc5 := (ho _ _ _ h5 ng5.symm).cell
            have ic5 := (ho _ _ _ h5 ng5.symm).inB
            have kk2 : y.cell? ⟨g, i * 10 + 2, none⟩ = some (vi mt) := by rw [← kk.2, World.cell?_put_ne (Ne.symm hgm)]
            have kk3 : y.inB g := World.inB_put.1 kk.1
            clear h5 h4 hgO ho kk hEn
            refine Ord.region1 [] [0, 1, 2, 3, 4, 5, 6, 7, 8, 9, 10] [11] (by kernel_rfl) (by kernel_rfl) (fun _ _ d _ _ h => by cases d <;> exact h) ?_
            simp only [Ord.pickO, Ord.nth]
            refine wpQuiet_nil ?_
            repeat (go_big_quiet_step (fail))
            refine wpQuiet_nil ?_
            go_wp2_with fail
            go_roundw
            case rel => exact ⟨i + 1, by omega, by go_num, by rw [← hst.out, HOG.out]; exact (HD.out _).fr ((ModP.refl _ _).drew)⟩
            case measure => simp [intOf]; omega
          · have di : decide (i < ms.length) = false := decide_eq_false hin
            have hie : Hid (i = ms.length) := by unfold Hid; omega
            go_wp2_with fail
            go_meet
            case rel =>
              refine ⟨.slice (some ⟨gO, 0, none⟩) ms.length ms.length, [(gO, (outsC (ms.map outM)).toArray, 72)], ?_, .inr ⟨by have := HM0.out; omega, gO, rfl, by simp⟩, fun e he => by simp at he; subst he; rfl⟩
              have e1 : outC (cpF (oGet ms) (fun _ => zOut) i) ms.length = (outsC (ms.map outM)).toArray := by
                have := outC_list (f := cpF (oGet ms) (fun _ => zOut) i) (ms.map outM) (fun j hj => by
                  unfold cpF
                  rw [List.length_map] at hj
                  rw [if_pos (by have := hie.out; omega), oGet_in ms hj, List.getElem_map])
                rw [List.length_map] at this
                exact this
              have := HL.out
              rw [e1] at this
              exact this.perm (fun e he => by simp at he ⊢; rcases he with rfl | rfl | rfl | he <;> simp_all)
    case rest =>
      clear H1
      obtain ⟨vo, exO, H1, HO, HOT⟩ := hcut
      have hvo : ∃ ad l c, vo = .slice ad l c := by
        rcases HO.out with ⟨-, h⟩ | ⟨-, g, h, -⟩
        · exact ⟨_, _, _, h⟩
        · exact ⟨_, _, _, h⟩
      obtain ⟨ado, lo, co, rfl⟩ := hvo
      have H2 := hidIt (H1.out.perm (ex' := (t4, zDid.cells, 117) :: (t5, DidR.cells ⟨0, .slice ado lo co, .slice adr lr cr⟩, 117) :: (exO ++ exR)) (fun e he => by simp at he ⊢; rcases he with h | h | h | h <;> simp [h]))
      have h4 : wc.At t4 _ 117 := H2.out.get List.mem_cons_self
      have h5 : wc.At t5 _ 117 := H2.out.get (List.mem_cons_of_mem _ List.mem_cons_self)
      obtain ⟨y, rfl, iy, ho, HD⟩ := H2.out.door (by
        intro e he
        rcases List.mem_cons.1 he with rfl | he
        · exact n45
        · rcases List.mem_append.1 he with he | he
          · have hat := H2.out.get (List.mem_cons_of_mem _ (List.mem_cons_of_mem _ (List.mem_append_left _ he)))
            rw [HOT.out e he] at hat
            exact At.neT hat h4 (by decide)
          · exact dist.out _ _ _ _ (fun e he => List.mem_cons_of_mem _ (List.mem_cons_of_mem _ (List.mem_append_right _ he))) H2.out 117 (by decide) h4 e he) (show (117 : Nat) ≠ 159 by decide) (show (117 : Nat) ≠ 232 by decide)
      have hc5 := (ho _ _ _ h5 n45).cell
      have ic5 := (ho _ _ _ h5 n45).inB
      clear h4 h5 ho H1 H2
      unfold zDid
      go_wp2_with fail
      refine bodyPost_ret (v := .agg (DidR.cells ⟨0, .slice ado lo co, .slice adr lr cr⟩)) ?_ rfl ?_
      · simp [results, Tryz.results146, go_sem, DidR.cells, iy]
      · obtain ⟨X9, f1, f2, f3, f4⟩ := HD.out (DidR.cells ⟨0, .slice ado lo co, .slice adr lr cr⟩)
        refine ⟨_, _, rfl, X9, f1, ?_, ?_⟩
        · rcases HO.out with ⟨h, e⟩ | ⟨h, g, e, hmem⟩
          · exact .inl ⟨h, e⟩
          · have := f3 _ (List.mem_cons_of_mem _ (List.mem_cons_of_mem _ (List.mem_append_left _ hmem)))
            have hlow := f4 _ (List.mem_cons_of_mem _ (List.mem_cons_of_mem _ (List.mem_append_left _ hmem)))
            exact .inr ⟨h, g, e, this.2, this.1, hlow⟩
        · rcases HRow.out with ⟨h, e⟩ | ⟨h, g, e, hmem⟩
          · exact .inl ⟨h, e⟩
          · have := f3 _ (List.mem_cons_of_mem _ (List.mem_cons_of_mem _ (List.mem_append_right _ hmem)))
            have hlow := f4 _ (List.mem_cons_of_mem _ (List.mem_cons_of_mem _ (List.mem_append_right _ hmem)))
            exact .inr ⟨h, g, e, this.2, this.1, hlow⟩
end
end Go.Proofs.Qxb6500990aGreat
