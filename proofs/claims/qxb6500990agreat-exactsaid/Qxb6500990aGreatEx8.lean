/- package towerexact: keep -/
import Derived.Test.Qxb6500990aGreatEx7
import Derived.Deep.Cut
set_option linter.unusedVariables false
set_option linter.unusedSimpArgs false
namespace Go.Tw
open Go Go.Proofs Go.Proofs.Qxb6500990aGreat Go.RowKit
theorem rk29 : RowK 29 52 2 48 := ⟨by kernel_rfl, ⟨(Tryz.prog.info? 52).getD default, .agg #[.slice none 0 0, .slice none 0 0], by kernel_rfl, by kernel_rfl, by kernel_rfl, by kernel_rfl, by kernel_rfl⟩, by decide⟩
theorem rk30 : RowK 30 56 2 48 := ⟨by kernel_rfl, ⟨(Tryz.prog.info? 56).getD default, .agg #[.slice none 0 0, .slice none 0 0], by kernel_rfl, by kernel_rfl, by kernel_rfl, by kernel_rfl, by kernel_rfl⟩, by decide⟩
section
variable {B bw S S' : Nat} {w : World} {own : Own} {c : Conf} {vb vo vr vv : Value}
theorem WI.up (h : WI B w bw own c vb vo vr vv S) (hS : S ≤ S') (hz : S' ≤ 1073741824) : WI B w bw own c vb vo vr vv S' := by
  have := h.ln
  exact ⟨h.hw, h.tw, h.rb, h.ro, h.rr, h.rv, h.lo, h.kb, fun i b hb => (h.bs i b hb).frame (ModP.refl (fun _ => False) w) (fun _ f => f.elim) (.refl _ _) hS, h.os, h.rs, h.vs, by omega, hz⟩
theorem repC_size (f : Nat → Reply) (n : Nat) : (repC f n).size = n * 4 := by
  have := repC_list (f := f) ((List.range n).map f) (fun i h => by simp)
  simp only [List.length_map, List.length_range] at this
  rw [this]
  have h2 := flat_len (fun r : Reply => r.cells.toList) 4 (fun _ => rfl) ((List.range n).map f)
  simpa [repsC] using h2
theorem outC_size (f : Nat → OutM) (n : Nat) : (outC f n).size = n * 2 := by
  have := outC_list (f := f) ((List.range n).map f) (fun i h => by simp)
  simp only [List.length_map, List.length_range] at this
  rw [this]
  have h2 := flat_len (fun r : OutM => r.cells.toList) 2 (fun _ => rfl) ((List.range n).map f)
  simpa [outsC] using h2
theorem outsC_one (l : List OutM) : ∀ v ∈ outsC l, v.oneCell' = true := by
  intro v hv
  unfold outsC at hv
  obtain ⟨x, _, hx⟩ := List.mem_flatMap.1 hv
  simp [OutM.cells] at hx
  rcases hx with rfl | rfl <;> rfl
theorem repsC_one (l : List Reply) : ∀ v ∈ repsC l, v.oneCell' = true := by
  intro v hv
  unfold repsC at hv
  obtain ⟨x, _, hx⟩ := List.mem_flatMap.1 hv
  simp [Reply.cells] at hx
  rcases hx with rfl | rfl | rfl | rfl <;> rfl
theorem outsC_len (l : List OutM) : (outsC l).length = l.length * 2 := flat_len (fun r : OutM => r.cells.toList) 2 (fun _ => rfl) l
theorem repsC_len (l : List Reply) : (repsC l).length = l.length * 4 := flat_len (fun r : Reply => r.cells.toList) 4 (fun _ => rfl) l
/-- behind the first half of keep -/
structure KeepR (B : Nat) (W : World) (bw : Nat) (c : Conf) (vb vr vv : Value) (S : Nat) (cd : Array Value) (ve : Value) (rs : List Reply) (X : Nat → Prop) (B0 : Nat) (w : World) : Prop where
  wi : ∃ own' c' vo', WI B w bw own' c' vb vo' vr vv (S + 1) ∧ c'.bs = c.bs ∧ c'.rs = c.rs ∧ c'.k = c.k ∧ ∀ g, ve.ownBlock = some g → own' g = .no
  bx : w.At W.heap.size cd 117
  dr : DRow B0 X w 77 ve rs.length (repsC rs)
  mo : ModP (fun k => B ≤ k) W w
end
end Go.Tw
namespace Go.Proofs.Qxb6500990aGreat
open Go Go.RowKit Go.Tw
attribute [local go_sem] World.cell?_put_same World.cell?_put_ne World.cell?_put_ne' World.frozen?_put_same World.frozen?_put_ne World.frozen?_put_ne' World.setCell_put_same World.setCell_put_ne World.setCell_put_ne' World.inB_put World.inB_alloc World.inB_drew World.inB_drewN World.inB_new World.inB_setCell World.put_drew World.put_drewN World.q_setCell_drew World.q_setCell_drewN World.q_alloc_drew World.q_alloc_drewN World.put_put_same World.put_put_2 World.size_put World.q_cell?_alloc_old World.q_frozen?_alloc_old World.cell?_alloc_new' World.frozen?_alloc_new' World.q_setCell_alloc_old World.q_setCell_alloc_new World.q_put_alloc_old World.cell?_force_same World.frozen?_force_same World.cell?_force2_fst World.cell?_force2_snd WorldR.g0 WorldR.s0 WorldR.g1 WorldR.s1 WorldR.g2 WorldR.s2 WorldR.g3 WorldR.s3 WorldR.g4 WorldR.s4 WorldR.g5 WorldR.s5 WorldR.g6 WorldR.s6 WorldR.g7 WorldR.s7 WorldR.g8 WorldR.s8 DidR.g0 DidR.s0 DidR.g1 DidR.s1 DidR.g2 DidR.s2
attribute [local go_sem] ba_get ba_eq ba_beq upd_same upd_upd mk50 mk54
set_option maxHeartbeats 4000000
set_option maxRecDepth 100000
section
variable {B bw S B0 : Nat} {W : World} {own : Own} {c : Conf} {vb vo vr vv vd ve : Value} {X : Nat → Prop}
theorem at_new' {w : World} {c : Array Value} {T k : Nat} (h : k = w.heap.size) : (w.alloc (.cells c T)).At k c T := by subst h; exact World.At_alloc_new
theorem c45 (h : WI B W bw own c vb vo vr vv S) (hz : S + 1 ≤ 1073741824) {D : Did} (ho : DRow B0 X W 72 vd D.outs.length (outsC D.outs)) (hr : DRow B0 X W 77 ve D.reps.length (repsC D.reps)) (hX : ∀ k, X k → own k = .no) (hB : B ≤ B0) (l1 : D.outs.length ≤ 3) (l2 : D.reps.length ≤ 3) :
    Calls Tryz.prog 45 #[vp bw, .agg (DidR.cells ⟨D.err, vd, ve⟩)] W fun r w' => r = .returned (.tuple #[]) ∧ ∃ own' c' vo' vr', WI B w' bw own' c' vb vo' vr' vv (S + 1) ∧ c'.bs = c.bs ∧ c'.k = c.k ∧ ModP (fun k => B ≤ k) W w' := by
  obtain ⟨de, os, rs⟩ := D
  simp only [] at *
  obtain ⟨adb, capb, rfl, -⟩ := ownsRow_form h.rb.1
  obtain ⟨ado, capo, rfl, -⟩ := ownsRow_form h.ro.1
  obtain ⟨adr, capr, rfl, -⟩ := ownsRow_form h.rr.1
  obtain ⟨adv, capv, rfl, -⟩ := ownsRow_form h.rv.1
  obtain ⟨a2, n2, k2, rfl⟩ := hr.form
  have lB : B ≤ W.heap.size := by have := (h.lo bw (by rw [h.tw]; exact nofun)); omega
  have nw : Hid (∀ g, (Value.slice ado c.os.length capo).ownBlock = some g → g ≠ bw) := fun g hg e => by have h1 := h.ro.2 g hg; rw [e, h.tw] at h1; cases h1
  have nox : own W.heap.size = .no := by
    rcases e : own W.heap.size with _ | _ | _ | _ | _ | _ | _ | _ | _ | _ | _ | _ | _ | _
    · rfl
    all_goals (have := (h.lo W.heap.size (by rw [e]; exact nofun)).2; omega)
  rcases ho with ⟨h0, rfl⟩ | ⟨h0, gO, rfl, aO, xO, bO⟩
  · have HLr : Hid (c.rs.length + 1 ≤ S + 1) := by have := h.ln; unfold Hid; omega
    have HSz := hidIt hz
    have T1 : Hid True := trivial
    have T2 : Hid True := trivial
    have K0 : Hid (KeepR B W bw c (.slice adb c.bs.length capb) (.slice adr c.rs.length capr) (.slice adv c.vs.length capv) S (DidR.cells ⟨de, .slice none 0 0, .slice a2 n2 k2⟩) (.slice a2 n2 k2) rs X B0 (W.alloc (.cells (DidR.cells ⟨de, .slice none 0 0, .slice a2 n2 k2⟩) 117))) := by
      have m : ModP (fun _ => False) W (W.alloc (.cells (DidR.cells ⟨de, .slice none 0 0, .slice a2 n2 k2⟩) 117)) := (ModP.refl _ _).alloc _
      refine ⟨⟨own, c, _, (h.frame m).up (by omega) hz, rfl, rfl, rfl, fun g hg => ?_⟩, World.At_alloc_new, ?_, m.mono (fun _ f => f.elim)⟩
      · rcases hr with ⟨_, e⟩ | ⟨_, g2, e, a, x, b⟩
        · rw [e] at hg; cases hg
        · rw [e] at hg
          have hg' : g2 = g := by simpa [Value.ownBlock] using hg
          subst hg'
          exact hX _ x
      · rcases hr with e | ⟨p1, g2, e, a, x, b⟩
        · exact .inl e
        · exact .inr ⟨p1, g2, e, m.at a (fun f => f), x, b⟩
    clear h hr hX hz nox nw
    go_enter Tryz.func45, Tryz.ntmps45
    go_upto_if 10 with fail
    go_cut [] from 8 (fun wc => Hid (KeepR B W bw c (.slice adb c.bs.length capb) (.slice adr c.rs.length capr) (.slice adv c.vs.length capv) S (DidR.cells ⟨de, .slice none 0 0, .slice a2 n2 k2⟩) (.slice a2 n2 k2) rs X B0 wc))
    case first =>
      go_wp2_with fail
      go_meet
      case rel => exact K0
    case rest =>
      obtain ⟨yz, hyz⟩ : ∃ x, x = W.heap.size := ⟨_, rfl⟩
      rw [← hyz]
      obtain ⟨⟨own1, c1, vo1, h1, e1, e2, e3, t1⟩, bx, dr, mo⟩ := hcut
      have MO := hidIt mo
      clear mo
      obtain ⟨ado1, capo1, rfl, -⟩ := ownsRow_form h1.ro.1
      have ZZ : W.heap.size = yz := hyz.symm
      rw [ZZ] at bx
      clear ZZ hyz
      rcases dr with ⟨q0, qe⟩ | ⟨q0, gR, qe, aR, xR, bR⟩
      · injection qe with qa qb qc
        subst qa qb qc
        have hcx := bx.cell
        have icx := bx.inB
        have H1 := hidIt h1
        have E1 := hidIt e1
        have E3 := hidIt e3
        clear bx h1 e1 e2 e3 t1
        go_wp2_with fail
        go_end0
        exact ⟨rfl, own1, c1, _, _, H1.out, E1.out, E3.out, MO.out⟩
      · injection qe with qa qb qc
        subst qa qb qc
        have tR := t1 gR rfl
        have lb : bw < wc.heap.size := h1.hw.inB
        have hRow := hidIt h1.rr.1
        have HW := hidIt h1
        have nw : Hid (∀ g, (Value.slice adr c.rs.length capr).ownBlock = some g → g ≠ bw) := fun g hg e => by have h2 := h1.rr.2 g hg; rw [e, h1.tw] at h2; cases h2
        have lB1 : B ≤ wc.heap.size := by have := (h1.lo bw (by rw [h1.tw]; exact nofun)); omega
        have HLn : Hid (c1.rs.length + 1 ≤ S + 1) := by have h2 := HLr.out; have h3 : c1.rs.length = c.rs.length := (by rw [e2]); unfold Hid; omega
        have E1 := hidIt e1
        have E3 := hidIt e3
        obtain ⟨y1, hy1, iy1⟩ := h1.hw.door
        subst hy1
        have AR := hidIt aR
        have cR := aR.cell
        have icR := aR.inB
        have lR : gR < y1.heap.size := by have := aR.inB; unfold World.inB at this; rw [World.size_put] at this; exact this
        have hcx := bx.cell
        have icx := bx.inB
        have nbx : yz ≠ bw := At.neT bx (World.At_put_same iy1 (c := WorldR.cells ⟨.slice adb c.bs.length capb, c1.k, c1.ra, c1.rb, c1.old, .slice ado1 c1.os.length capo1, .slice adr c.rs.length capr, .slice adv c.vs.length capv, false⟩) (T := 33)) (by decide)
        clear h1 aR bx e1 e2 e3 t1
        go_upto_region 9 with fail
        iterate 7 go_step
        refine wpList_copy_all (P := Tryz.prog) rfl _ _ 54 rfl 77 77 4 rs.length rs.length rs.length gR (repC (fun _ => zReply) rs.length) (repsC rs) (by kernel_rfl) (by kernel_rfl) y1.heap.size (by simp [World.size_put]) rfl rfl (by rw [repC_size, repsC_len]) (repsC_len rs) (fun j v hv => by rw [World.cell?_alloc_past _ _ _ (by rw [World.size_put]; exact lR), cR]; simpa using hv) (repsC_one rs) ?_
        go_wp2_with (first
          | (at_builtin; clear T2; refine wp_app rk30 rfl _ _ rfl (B := B) (v := .slice adr c.rs.length capr) (n := c1.rs.length) (xs := c1.rs.flatMap LC.cells) [.slice (some ⟨gR, 0, none⟩) rs.length rs.length, .slice (some ⟨y1.heap.size, 0, none⟩) rs.length rs.length] rfl rfl (by repeat (first | assumption | exact World.At_alloc_new | exact at_new (by first | rfl | (simp [World.size_put]; done) | (simp [World.size_put]; omega)) | refine World.At.alloc ?_ _ | refine World.At_drew.2 ?_ | refine (World.At_drewN _).2 ?_ | exact World.At_put_same (by first | assumption | (simp only [World.inB, World.size_put, World.alloc, World.drew, World.drewN, Array.size_push] at *; omega)) | refine (World.At_put_ne' (by first | assumption | (exact Ne.symm (by assumption)) | (simp only [World.inB, World.size_put] at *; omega))).2 ?_)) rfl (by simp [Value.oneCell']) (ownsRow_alloc (ownsRow_alloc hRow.out _) _) (by have := lB1; simp [World.size_put] at this ⊢; omega) (by have := HLn.out; have := HSz.out; unfold maxLen; omega) (by have := HLn.out; have := HSz.out; omega) ?_; intro g' cap' w3 o3 m3 n3 l3; have p3 : ModP (fun k => (Value.slice adr c.rs.length capr).ownBlock = some k) _ w3 := ⟨m3.os, m3.tape, m3.output, m3.size, fun k hk hn => m3.block k hk (fun e => hn (by simpa using e))⟩; have aw := p3.at (World.At.alloc (World.At.alloc (World.At_put_same iy1) _) _) (fun e => nw.out bw e rfl); obtain ⟨y3, rfl, iy3⟩ := aw.door; have O3 := hidIt o3; have P3 := hidIt p3; have N3 := hidIt n3; clear o3 m3 n3 p3 aw))
        go_end0
        have lW : (y1.put bw (WorldR.cells ⟨.slice adb c.bs.length capb, c1.k, c1.ra, c1.rb, c1.old, .slice ado1 c1.os.length capo1, .slice adr c.rs.length capr, .slice adv c.vs.length capv, false⟩) 33).heap.size = y1.heap.size := World.size_put ..
        have lB' : B ≤ y1.heap.size := by rw [← lW]; exact lB1
        have h := HW.out
        have hno : ∀ k, y1.heap.size ≤ k → own1 k = .no := fun k hk => by
          rcases e : own1 k with _ | _ | _ | _ | _ | _ | _ | _ | _ | _ | _ | _ | _ | _
          · rfl
          all_goals (have := (h.lo k (by rw [e]; exact nofun)).2; rw [lW] at this; omega)
        have lvo : ∀ k, (Value.slice adr c.rs.length capr).ownBlock = some k → k < y1.heap.size := fun k hk => by have := (ownsRow_block h.rr.1 hk).1; rw [lW] at this; exact this
        have m0 : ∀ c', ModP (fun k => k = bw ∨ (Value.slice adr c.rs.length capr).ownBlock = some k) (y1.put bw (WorldR.cells ⟨.slice adb c.bs.length capb, c1.k, c1.ra, c1.rb, c1.old, .slice ado1 c1.os.length capo1, .slice adr c.rs.length capr, .slice adv c.vs.length capv, false⟩) 33) (y3.put bw c' 33) := fun c' =>
          (((ModP.refl _ _).alloc _).alloc _).step P3.out (fun k hk => .inl (.inr hk)) |>.step (put_re y3 bw _ c' 33) (fun k hk => .inl (.inl hk))
        have nF : ∀ k, own1 k = .no → ¬ (k = bw ∨ (Value.slice adr c.rs.length capr).ownBlock = some k) := fun k hk f => by
          rcases f with e | e
          · rw [e, h.tw] at hk; cases hk
          · rw [h.rr.2 k e] at hk; cases hk
        have lbw : bw < y1.heap.size := by rw [← lW]; exact lb
        have nP : ∀ k cc1 c2, y1.heap.size ≤ k → (y3.put bw cc1 33).At k c2 77 → ∀ c', (y3.put bw c' 33).At k c2 77 := fun k cc1 c2 hk a c' => (put_re y3 bw cc1 c' 33).at a (fun e => by omega)
        obtain ⟨own', w1, w2⟩ := h.addRep (g := gR) (h' := y1.heap.size) (xs := rs) (S' := S + 1) (vr' := .slice (some ⟨g', 0, none⟩) (c1.rs.length + 1) cap') (m0 (WorldR.cells ⟨.slice adb c.bs.length capb, c1.k, c1.ra, c1.rb, c1.old, .slice ado1 c1.os.length capo1, .slice (some ⟨g', 0, none⟩) (c1.rs.length + 1) cap', .slice adv c.vs.length capv, false⟩)) (fun k f => by
          rcases f with e | e
          · rw [e]; exact .inr (.inl h.tw)
          · exact .inr (.inr (h.rr.2 k e))) (by omega) HSz.out HLn.out (World.At_put_same iy3) (ownsRow_frame O3.out (put_re y3 bw _ _ 33) (fun k hk e => by
            have hk' : g' = k := by simpa [Value.ownBlock] using hk
            rcases N3.out with q | q
            · exact nw.out g' q (by rw [hk', e])
            · simp [World.size_put] at q; omega)) (fun k hk => by
            have hk' : g' = k := by simpa [Value.ownBlock] using hk
            rcases N3.out with q | q
            · exact .inl (by rw [← hk']; exact q)
            · right; rw [lW]; simp [World.size_put] at q; omega) ((m0 _).at AR.out (nF gR tR)) (by
            refine nP _ _ _ (by omega) (P3.out.at (World.At.alloc (at_new' (by simp [World.size_put])) _) (fun e => by have := lvo _ e; omega)) _) tR (hno _ (by omega)) (by omega) (Nat.le_trans hB bR) (by omega) (by omega) q0
        exact ⟨rfl, own', _, _, _, w1, E1.out, E3.out, MO.out.trans ((m0 _).mono (fun k f => by rcases f with e | e; exact (h.lo k (by rw [e, h.tw]; exact nofun)).1; exact (h.lo k (by rw [h.rr.2 k e]; exact nofun)).1))⟩
  · have lb : bw < W.heap.size := h.hw.inB
    have tO := hX gO xO
    have nO : gO ≠ bw := fun e => by rw [e, h.tw] at tO; cases tO
    have hRow := hidIt h.ro.1
    have HW := hidIt h
    obtain ⟨y, hy, iy⟩ := h.hw.door
    subst hy
    have AO := hidIt aO
    have cO := aO.cell
    have icO := aO.inB
    have lO : gO < y.heap.size := by have := aO.inB; unfold World.inB at this; rw [World.size_put] at this; exact this
    have HLn : Hid (c.os.length + 1 ≤ S + 1) := by have := h.ln; unfold Hid; omega
    have HLr : Hid (c.rs.length + 1 ≤ S + 1) := by have := h.ln; unfold Hid; omega
    have HSz := hidIt hz
    have T1 : Hid True := trivial
    have T2 : Hid True := trivial
    clear h aO hz
    have HR := hidIt hr
    have HX := hidIt hX
    clear hr hX
    go_enter Tryz.func45, Tryz.ntmps45
    go_upto_if 10 with fail
    go_cut [] from 8 (fun wc => Hid (KeepR B (y.put bw (WorldR.cells ⟨.slice adb c.bs.length capb, c.k, c.ra, c.rb, c.old, .slice ado c.os.length capo, .slice adr c.rs.length capr, .slice adv c.vs.length capv, false⟩) 33) bw c (.slice adb c.bs.length capb) (.slice adr c.rs.length capr) (.slice adv c.vs.length capv) S (DidR.cells ⟨de, .slice (some ⟨gO, 0, none⟩) os.length os.length, .slice a2 n2 k2⟩) (.slice a2 n2 k2) rs X B0 wc))
    case first =>
      go_upto_region 4 with fail
      iterate 7 go_step
      refine wpList_copy_all (P := Tryz.prog) rfl _ _ 50 rfl 72 72 2 os.length os.length os.length gO (outC (fun _ => zOut) os.length) (outsC os) (by kernel_rfl) (by kernel_rfl) (y.heap.size + 1) (by simp [World.size_put]) rfl rfl (by rw [outC_size, outsC_len]) (outsC_len os) (fun j v hv => by rw [World.cell?_alloc_past _ _ _ (Nat.lt_of_lt_of_le lO (by simp [World.size_put])), World.cell?_alloc_past _ _ _ (by rw [World.size_put]; exact lO), cO]; simpa using hv) (outsC_one os) ?_
      go_wp2_with (first
        | (at_builtin; clear T2; refine wp_app rk29 rfl _ _ rfl (B := B) (v := .slice ado c.os.length capo) (n := c.os.length) (xs := c.os.flatMap LC.cells) [.slice (some ⟨gO, 0, none⟩) os.length os.length, .slice (some ⟨y.heap.size + 1, 0, none⟩) os.length os.length] rfl rfl (by repeat (first | assumption | exact World.At_alloc_new | exact at_new (by first | rfl | (simp [World.size_put]; done) | (simp [World.size_put]; omega)) | refine World.At.alloc ?_ _ | refine World.At_drew.2 ?_ | refine (World.At_drewN _).2 ?_ | exact World.At_put_same (by first | assumption | (simp only [World.inB, World.size_put, World.alloc, World.drew, World.drewN, Array.size_push] at *; omega)) | refine (World.At_put_ne' (by first | assumption | (exact Ne.symm (by assumption)) | (simp only [World.inB, World.size_put] at *; omega))).2 ?_)) rfl (by simp [Value.oneCell']) (ownsRow_alloc (ownsRow_alloc (ownsRow_alloc hRow.out _) _) _) (by have := lB; simp [World.size_put] at this ⊢; omega) (by have := HLn.out; have := HSz.out; unfold maxLen; omega) (by have := HLn.out; have := HSz.out; omega) ?_; intro g' cap' w3 o3 m3 n3 l3; have p3 : ModP (fun k => (Value.slice ado c.os.length capo).ownBlock = some k) _ w3 := ⟨m3.os, m3.tape, m3.output, m3.size, fun k hk hn => m3.block k hk (fun e => hn (by simpa using e))⟩; have aw := p3.at (World.At.alloc (World.At.alloc (World.At.alloc (World.At_put_same iy) _) _) _) (fun e => nw.out bw e rfl); obtain ⟨y3, rfl, iy3⟩ := aw.door; have O3 := hidIt o3; have P3 := hidIt p3; have N3 := hidIt n3; clear o3 m3 n3 p3 aw))
      go_meet
      case rel =>
        have lW : (y.put bw (WorldR.cells ⟨.slice adb c.bs.length capb, c.k, c.ra, c.rb, c.old, .slice ado c.os.length capo, .slice adr c.rs.length capr, .slice adv c.vs.length capv, false⟩) 33).heap.size = y.heap.size := World.size_put ..
        have lB' : B ≤ y.heap.size := by rw [← lW]; exact lB
        have h := HW.out
        have hno : ∀ k, y.heap.size ≤ k → own k = .no := fun k hk => by
          rcases e : own k with _ | _ | _ | _ | _ | _ | _ | _ | _ | _ | _ | _ | _ | _
          · rfl
          all_goals (have := (h.lo k (by rw [e]; exact nofun)).2; rw [lW] at this; omega)
        have lvo : ∀ k, (Value.slice ado c.os.length capo).ownBlock = some k → k < y.heap.size := fun k hk => by have := (ownsRow_block h.ro.1 hk).1; rw [lW] at this; exact this
        have m0 : ∀ c', ModP (fun k => k = bw ∨ (Value.slice ado c.os.length capo).ownBlock = some k) (y.put bw (WorldR.cells ⟨.slice adb c.bs.length capb, c.k, c.ra, c.rb, c.old, .slice ado c.os.length capo, .slice adr c.rs.length capr, .slice adv c.vs.length capv, false⟩) 33) (y3.put bw c' 33) := fun c' =>
          ((((ModP.refl _ _).alloc _).alloc _).alloc _).step P3.out (fun k hk => .inl (.inr hk)) |>.step (put_re y3 bw _ c' 33) (fun k hk => .inl (.inl hk))
        have nF : ∀ k, own k = .no → ¬ (k = bw ∨ (Value.slice ado c.os.length capo).ownBlock = some k) := fun k hk f => by
          rcases f with e | e
          · rw [e, h.tw] at hk; cases hk
          · rw [h.ro.2 k e] at hk; cases hk
        have lbw : bw < y.heap.size := by rw [← lW]; exact lb
        have nP : ∀ k c1 c2, y.heap.size ≤ k → (y3.put bw c1 33).At k c2 72 → ∀ c', (y3.put bw c' 33).At k c2 72 := fun k c1 c2 hk a c' => (put_re y3 bw c1 c' 33).at a (fun e => by omega)
        obtain ⟨own', w1, w2⟩ := h.addOut (g := gO) (h' := y.heap.size + 1) (xs := os) (S' := S + 1) (vo' := .slice (some ⟨g', 0, none⟩) (c.os.length + 1) cap') (m0 (WorldR.cells ⟨.slice adb c.bs.length capb, c.k, c.ra, c.rb, c.old, .slice (some ⟨g', 0, none⟩) (c.os.length + 1) cap', .slice adr c.rs.length capr, .slice adv c.vs.length capv, false⟩)) (fun k f => by
          rcases f with e | e
          · rw [e]; exact .inr (.inl h.tw)
          · exact .inr (.inr (h.ro.2 k e))) (by omega) HSz.out HLn.out (World.At_put_same iy3) (ownsRow_frame O3.out (put_re y3 bw _ _ 33) (fun k hk e => by
            have hk' : g' = k := by simpa [Value.ownBlock] using hk
            rcases N3.out with q | q
            · exact nw.out g' q (by rw [hk', e])
            · simp [World.size_put] at q; omega)) (fun k hk => by
            have hk' : g' = k := by simpa [Value.ownBlock] using hk
            rcases N3.out with q | q
            · exact .inl (by rw [← hk']; exact q)
            · right; rw [lW]; simp [World.size_put] at q; omega) ((m0 _).at AO.out (nF gO tO)) (by
            refine nP _ _ _ (by omega) (P3.out.at (World.At.alloc (at_new' (by simp [World.size_put])) _) (fun e => by have := lvo _ e; omega)) _) tO (hno _ (by omega)) (by omega) (Nat.le_trans hB bO) (by omega) (by omega) h0
        refine ⟨⟨own', _, _, w1, rfl, rfl, rfl, fun g hg => ?_⟩, ?_, ?_, (m0 _).mono (fun k f => by rcases f with e | e; exact (h.lo k (by rw [e, h.tw]; exact nofun)).1; exact (h.lo k (by rw [h.ro.2 k e]; exact nofun)).1)⟩
        · rcases HR.out with ⟨_, e⟩ | ⟨_, g2, e, a, x, b⟩
          · rw [e] at hg; cases hg
          · rw [e] at hg
            have hg' : g2 = g := by simpa [Value.ownBlock] using hg
            subst hg'
            have l2' : g2 < y.heap.size := by have := a.inB; unfold World.inB at this; rw [lW] at this; exact this
            rw [w2 g2 (At.neT a AO.out (by decide)) (by omega) (by rw [lW]; exact l2')]
            exact HX.out _ x
        · rw [lW]
          refine (put_re y3 bw _ _ 33).at (P3.out.at (World.At.alloc (World.At.alloc (at_new' (by simp [World.size_put])) _) _) (fun e => by have := lvo _ e; omega)) (fun e => by omega)
        · rcases HR.out with e | ⟨p1, g2, e, a, x, b⟩
          · exact .inl e
          · exact .inr ⟨p1, g2, e, (m0 _).at a (nF g2 (HX.out _ x)), x, b⟩
    case rest =>
      obtain ⟨yz, hyz⟩ : ∃ x, x = y.heap.size := ⟨_, rfl⟩
      rw [← hyz]
      obtain ⟨⟨own1, c1, vo1, h1, e1, e2, e3, t1⟩, bx, dr, mo⟩ := hcut
      have MO := hidIt mo
      clear mo
      obtain ⟨ado1, capo1, rfl, -⟩ := ownsRow_form h1.ro.1
      have ZZ : (y.put bw (WorldR.cells ⟨.slice adb c.bs.length capb, c.k, c.ra, c.rb, c.old, .slice ado c.os.length capo, .slice adr c.rs.length capr, .slice adv c.vs.length capv, false⟩) 33).heap.size = yz := (by rw [hyz]; exact World.size_put ..)
      rw [ZZ] at bx
      clear ZZ hyz
      rcases dr with ⟨q0, qe⟩ | ⟨q0, gR, qe, aR, xR, bR⟩
      · injection qe with qa qb qc
        subst qa qb qc
        have hcx := bx.cell
        have icx := bx.inB
        have H1 := hidIt h1
        have E1 := hidIt e1
        have E3 := hidIt e3
        clear bx h1 e1 e2 e3 t1
        go_wp2_with fail
        go_end0
        exact ⟨rfl, own1, c1, _, _, H1.out, E1.out, E3.out, MO.out⟩
      · injection qe with qa qb qc
        subst qa qb qc
        have tR := t1 gR rfl
        have lb : bw < wc.heap.size := h1.hw.inB
        have hRow := hidIt h1.rr.1
        have HW := hidIt h1
        have nw : Hid (∀ g, (Value.slice adr c.rs.length capr).ownBlock = some g → g ≠ bw) := fun g hg e => by have h2 := h1.rr.2 g hg; rw [e, h1.tw] at h2; cases h2
        have lB1 : B ≤ wc.heap.size := by have := (h1.lo bw (by rw [h1.tw]; exact nofun)); omega
        have HLn : Hid (c1.rs.length + 1 ≤ S + 1) := by have h2 := HLr.out; have h3 : c1.rs.length = c.rs.length := (by rw [e2]); unfold Hid; omega
        have E1 := hidIt e1
        have E3 := hidIt e3
        obtain ⟨y1, hy1, iy1⟩ := h1.hw.door
        subst hy1
        have AR := hidIt aR
        have cR := aR.cell
        have icR := aR.inB
        have lR : gR < y1.heap.size := by have := aR.inB; unfold World.inB at this; rw [World.size_put] at this; exact this
        have hcx := bx.cell
        have icx := bx.inB
        have nbx : yz ≠ bw := At.neT bx (World.At_put_same iy1 (c := WorldR.cells ⟨.slice adb c.bs.length capb, c1.k, c1.ra, c1.rb, c1.old, .slice ado1 c1.os.length capo1, .slice adr c.rs.length capr, .slice adv c.vs.length capv, false⟩) (T := 33)) (by decide)
        clear h1 aR bx e1 e2 e3 t1
        go_upto_region 9 with fail
        iterate 7 go_step
        refine wpList_copy_all (P := Tryz.prog) rfl _ _ 54 rfl 77 77 4 rs.length rs.length rs.length gR (repC (fun _ => zReply) rs.length) (repsC rs) (by kernel_rfl) (by kernel_rfl) y1.heap.size (by simp [World.size_put]) rfl rfl (by rw [repC_size, repsC_len]) (repsC_len rs) (fun j v hv => by rw [World.cell?_alloc_past _ _ _ (by rw [World.size_put]; exact lR), cR]; simpa using hv) (repsC_one rs) ?_
        go_wp2_with (first
          | (at_builtin; clear T2; refine wp_app rk30 rfl _ _ rfl (B := B) (v := .slice adr c.rs.length capr) (n := c1.rs.length) (xs := c1.rs.flatMap LC.cells) [.slice (some ⟨gR, 0, none⟩) rs.length rs.length, .slice (some ⟨y1.heap.size, 0, none⟩) rs.length rs.length] rfl rfl (by repeat (first | assumption | exact World.At_alloc_new | exact at_new (by first | rfl | (simp [World.size_put]; done) | (simp [World.size_put]; omega)) | refine World.At.alloc ?_ _ | refine World.At_drew.2 ?_ | refine (World.At_drewN _).2 ?_ | exact World.At_put_same (by first | assumption | (simp only [World.inB, World.size_put, World.alloc, World.drew, World.drewN, Array.size_push] at *; omega)) | refine (World.At_put_ne' (by first | assumption | (exact Ne.symm (by assumption)) | (simp only [World.inB, World.size_put] at *; omega))).2 ?_)) rfl (by simp [Value.oneCell']) (ownsRow_alloc (ownsRow_alloc hRow.out _) _) (by have := lB1; simp [World.size_put] at this ⊢; omega) (by have := HLn.out; have := HSz.out; unfold maxLen; omega) (by have := HLn.out; have := HSz.out; omega) ?_; intro g' cap' w3 o3 m3 n3 l3; have p3 : ModP (fun k => (Value.slice adr c.rs.length capr).ownBlock = some k) _ w3 := ⟨m3.os, m3.tape, m3.output, m3.size, fun k hk hn => m3.block k hk (fun e => hn (by simpa using e))⟩; have aw := p3.at (World.At.alloc (World.At.alloc (World.At_put_same iy1) _) _) (fun e => nw.out bw e rfl); obtain ⟨y3, rfl, iy3⟩ := aw.door; have O3 := hidIt o3; have P3 := hidIt p3; have N3 := hidIt n3; clear o3 m3 n3 p3 aw))
        go_end0
        have lW : (y1.put bw (WorldR.cells ⟨.slice adb c.bs.length capb, c1.k, c1.ra, c1.rb, c1.old, .slice ado1 c1.os.length capo1, .slice adr c.rs.length capr, .slice adv c.vs.length capv, false⟩) 33).heap.size = y1.heap.size := World.size_put ..
        have lB' : B ≤ y1.heap.size := by rw [← lW]; exact lB1
        have h := HW.out
        have hno : ∀ k, y1.heap.size ≤ k → own1 k = .no := fun k hk => by
          rcases e : own1 k with _ | _ | _ | _ | _ | _ | _ | _ | _ | _ | _ | _ | _ | _
          · rfl
          all_goals (have := (h.lo k (by rw [e]; exact nofun)).2; rw [lW] at this; omega)
        have lvo : ∀ k, (Value.slice adr c.rs.length capr).ownBlock = some k → k < y1.heap.size := fun k hk => by have := (ownsRow_block h.rr.1 hk).1; rw [lW] at this; exact this
        have m0 : ∀ c', ModP (fun k => k = bw ∨ (Value.slice adr c.rs.length capr).ownBlock = some k) (y1.put bw (WorldR.cells ⟨.slice adb c.bs.length capb, c1.k, c1.ra, c1.rb, c1.old, .slice ado1 c1.os.length capo1, .slice adr c.rs.length capr, .slice adv c.vs.length capv, false⟩) 33) (y3.put bw c' 33) := fun c' =>
          (((ModP.refl _ _).alloc _).alloc _).step P3.out (fun k hk => .inl (.inr hk)) |>.step (put_re y3 bw _ c' 33) (fun k hk => .inl (.inl hk))
        have nF : ∀ k, own1 k = .no → ¬ (k = bw ∨ (Value.slice adr c.rs.length capr).ownBlock = some k) := fun k hk f => by
          rcases f with e | e
          · rw [e, h.tw] at hk; cases hk
          · rw [h.rr.2 k e] at hk; cases hk
        have lbw : bw < y1.heap.size := by rw [← lW]; exact lb
        have nP : ∀ k cc1 c2, y1.heap.size ≤ k → (y3.put bw cc1 33).At k c2 77 → ∀ c', (y3.put bw c' 33).At k c2 77 := fun k cc1 c2 hk a c' => (put_re y3 bw cc1 c' 33).at a (fun e => by omega)
        obtain ⟨own', w1, w2⟩ := h.addRep (g := gR) (h' := y1.heap.size) (xs := rs) (S' := S + 1) (vr' := .slice (some ⟨g', 0, none⟩) (c1.rs.length + 1) cap') (m0 (WorldR.cells ⟨.slice adb c.bs.length capb, c1.k, c1.ra, c1.rb, c1.old, .slice ado1 c1.os.length capo1, .slice (some ⟨g', 0, none⟩) (c1.rs.length + 1) cap', .slice adv c.vs.length capv, false⟩)) (fun k f => by
          rcases f with e | e
          · rw [e]; exact .inr (.inl h.tw)
          · exact .inr (.inr (h.rr.2 k e))) (by omega) HSz.out HLn.out (World.At_put_same iy3) (ownsRow_frame O3.out (put_re y3 bw _ _ 33) (fun k hk e => by
            have hk' : g' = k := by simpa [Value.ownBlock] using hk
            rcases N3.out with q | q
            · exact nw.out g' q (by rw [hk', e])
            · simp [World.size_put] at q; omega)) (fun k hk => by
            have hk' : g' = k := by simpa [Value.ownBlock] using hk
            rcases N3.out with q | q
            · exact .inl (by rw [← hk']; exact q)
            · right; rw [lW]; simp [World.size_put] at q; omega) ((m0 _).at AR.out (nF gR tR)) (by
            refine nP _ _ _ (by omega) (P3.out.at (World.At.alloc (at_new' (by simp [World.size_put])) _) (fun e => by have := lvo _ e; omega)) _) tR (hno _ (by omega)) (by omega) (Nat.le_trans hB bR) (by omega) (by omega) q0
        exact ⟨rfl, own', _, _, _, w1, E1.out, E3.out, MO.out.trans ((m0 _).mono (fun k f => by rcases f with e | e; exact (h.lo k (by rw [e, h.tw]; exact nofun)).1; exact (h.lo k (by rw [h.rr.2 k e]; exact nofun)).1))⟩
end
end Go.Proofs.Qxb6500990aGreat
