/- package sync: Open -/
import Derived.Test.Qxb6500990aGreatSy24
set_option linter.unusedVariables false
set_option linter.unusedSimpArgs false
namespace Go.Proofs.Qxb6500990aGreat
open Go Go.RowKit Go.Tw
attribute [local go_sem] World.cell?_put_same World.cell?_put_ne World.cell?_put_ne' World.frozen?_put_same World.frozen?_put_ne World.frozen?_put_ne' World.setCell_put_same World.setCell_put_ne World.setCell_put_ne' World.inB_put World.inB_alloc World.inB_drew World.inB_drewN World.inB_new World.inB_setCell World.put_drew World.put_drewN World.q_setCell_drew World.q_setCell_drewN World.q_alloc_drew World.q_alloc_drewN World.put_put_same World.put_put_2 World.size_put World.q_cell?_alloc_old World.q_frozen?_alloc_old World.cell?_alloc_new' World.frozen?_alloc_new' World.q_setCell_alloc_old World.q_setCell_alloc_new World.q_put_alloc_old World.cell?_force_same World.frozen?_force_same World.cell?_force2_fst World.cell?_force2_snd SyncR.g0 SyncR.s0 SyncR.g1 SyncR.s1 SyncR.g2 SyncR.s2 SyncR.g3 SyncR.s3 SyncR.g4 SyncR.s4 SyncR.g5 SyncR.s5 SyncR.g6 SyncR.s6 SyncR.g7 SyncR.s7 SyncR.g8 SyncR.s8 SyncR.g9 SyncR.s9 SyncR.g10 SyncR.s10 SyncR.g11 SyncR.s11 SyncR.g12 SyncR.s12 SyncR.g13 SyncR.s13 SyncR.g14 SyncR.s14 SyncR.g15 SyncR.s15 SyncR.g16 SyncR.s16 SyncR.g17 SyncR.s17 SyncR.g18 SyncR.s18 SyncR.g19 SyncR.s19 SyncR.g20 SyncR.s20 SyncR.g21 SyncR.s21 SyncR.g22 SyncR.s22 SyncR.g23 SyncR.s23 SyncR.g24 SyncR.s24 SyncR.g25 SyncR.s25 SyncR.g26 SyncR.s26 SyncR.g27 SyncR.s27 SyncR.g28 SyncR.s28 SyncR.g29 SyncR.s29 SyncR.g30 SyncR.s30 SyncR.g31 SyncR.s31 SyncR.g32 SyncR.s32 SyncR.g33 SyncR.s33 SyncR.g34 SyncR.s34 SyncR.g35 SyncR.s35 SyncR.g36 SyncR.s36 SyncR.g37 SyncR.s37 SyncR.g38 SyncR.s38 SyncR.g39 SyncR.s39 SyncR.g40 SyncR.s40 SyncR.g41 SyncR.s41 SyncR.gi_next_0 SyncR.si_next_0 SyncR.gi_mtch_0 SyncR.si_mtch_0 SyncR.gi_box_0 SyncR.si_box_0 SyncR.gi_box_1 SyncR.si_box_1 SyncR.gi_box_2 SyncR.si_box_2 SyncR.gi_box_3 SyncR.si_box_3 SyncR.gi_box_4 SyncR.si_box_4 SyncR.gi_box_5 SyncR.si_box_5 SyncR.gi_box_6 SyncR.si_box_6 SyncR.gi_box_7 SyncR.si_box_7 SyncR.gi_box_8 SyncR.si_box_8 SyncR.gi_box_9 SyncR.si_box_9 EL.g0 EL.s0 EL.g1 EL.s1 EL.g2 EL.s2 EL.g3 EL.s3 EL.g4 EL.s4 EL.g5 EL.s5
attribute [local go_sem] ba_get upd_same upd_upd
set_option maxHeartbeats 4000000
set_option maxRecDepth 100000
section
variable {W w : World} {bl be bd N r : Nat}
theorem c34 {F1 : Nat → Prop} {lg : AL} {el : EM} (hL : RLK W F1 bl bd lg N r) (hw : Within F1 W) (he : W.At be el.el.cells 155) (hbe : ¬ F1 be) (e0 : 0 ≤ el.id) (e1 : el.id < 3) :
    Calls Tryz.prog 34 #[vp bl, vp be] W fun x w' => x = .returned (vp W.heap.size) ∧ (∃ G bx, RSp w' G ⟨W.heap.size, bl, be, bd, N, r⟩ (AS.open lg el) (AS.open lg el).lg.now.last ((AS.open lg el).lg.now.termAt (AS.open lg el).lg.now.last).1 bx 0 ∧ ∀ k, G k → F1 k ∨ k = be ∨ W.heap.size ≤ k) ∧ ModP (fun k => F1 k ∨ k = be) W w' := by
  have ok := hL.ok
  have HL := hidIt (fun w' (m : ModP (fun k => k = be) W w') => hL.frame m (fun k a e => hbe (e ▸ a)))
  have HE := hidIt he
  have ibe := he.inB
  have lbe : be < W.heap.size := ibe
  have nbe : be ≠ W.heap.size := by omega
  have HW := hidIt hw
  have Hbe := hidIt hbe
  have Hok := hidIt ok
  have mp : ∀ m, ModP (fun k => k = be) W (((W.put be (el.restore lg.now.term lg.now.vote).el.cells 155).alloc (.cells (SyncR.cells ⟨vp bl, vp be, lg.now.base, fun _ => 0, fun _ => 0, 0, 0, fun _ => zMR, 0⟩) 162)).drewN m) := fun m => ((((ModP.refl (fun k => k = be) W).put (.inl rfl) _ _).alloc _).drewN m)
  have HR : ∀ m, RSp (((W.put be (el.restore lg.now.term lg.now.vote).el.cells 155).alloc (.cells (SyncR.cells ⟨vp bl, vp be, lg.now.base, fun _ => 0, fun _ => 0, 0, 0, fun _ => zMR, 0⟩) 162)).drewN m) (fun k => F1 k ∨ k = be ∨ k = W.heap.size) ⟨W.heap.size, bl, be, bd, N, r⟩ (AS.open lg el) 0 0 (fun _ => zMR) 0 := by
    intro m
    have hz : W.heap.size < ((((W.put be (el.restore lg.now.term lg.now.vote).el.cells 155).alloc (.cells (SyncR.cells ⟨vp bl, vp be, lg.now.base, fun _ => 0, fun _ => 0, 0, 0, fun _ => zMR, 0⟩) 162)).drewN m)).heap.size := by
      show W.heap.size < ((W.put be (el.restore lg.now.term lg.now.vote).el.cells 155).heap.push _).size
      rw [Array.size_push, World.size_put]; omega
    refine ⟨(World.At_drewN _).2 (at_new (by rw [World.size_put])), (World.At_drewN _).2 ((World.At_put_same ibe).alloc _), ⟨F1, HL.out _ (mp m), fun k h => .inl h, fun h => ?_, Hbe.out, hw.mono (mp m).size⟩, .inr (.inr rfl), .inr (.inl rfl), ?_⟩
    · have := hw _ h; simp only [] at this; omega
    · rintro k (hk | rfl | rfl)
      · exact Nat.lt_of_lt_of_le (hw _ hk) (mp m).size
      · exact Nat.lt_of_lt_of_le lbe (mp m).size
      · exact hz
  have Q70 : Hid (∀ m, Calls Tryz.prog 70 #[vp W.heap.size] (((W.put be (el.restore lg.now.term lg.now.vote).el.cells 155).alloc (.cells (SyncR.cells ⟨vp bl, vp be, lg.now.base, fun _ => 0, fun _ => 0, 0, 0, fun _ => zMR, 0⟩) 162)).drewN m) fun x w' => x = .returned (.tuple #[]) ∧ RS (fun k => F1 k ∨ k = be ∨ k = W.heap.size) (((W.put be (el.restore lg.now.term lg.now.vote).el.cells 155).alloc (.cells (SyncR.cells ⟨vp bl, vp be, lg.now.base, fun _ => 0, fun _ => 0, 0, 0, fun _ => zMR, 0⟩) 162)).drewN m) ⟨W.heap.size, bl, be, bd, N, r⟩ (AS.open lg el) [] w') := fun m => c70 (RSp.start (HR m))
  have MP := hidIt mp
  simp only [SyncR.cells, zMR] at Q70 MP
  clear hL he hw hbe ok mp HR
  go_enter Tryz.func34, Tryz.ntmps34
  go_wp2_with (first
    | (go_at_call 66; refine (k66 (HL.out _ (by repeat (first | assumption | exact ModP.refl _ _ | refine ModP.fromPut ?_ (by assumption) | apply ModP.alloc | apply ModP.drew | apply ModP.drewN | refine ModP.put ?_ (by first | (left; assumption) | (left; rfl) | (right; simp only [World.inB, World.size_put] at *; omega)) _ _)))).mono ?_; rintro _ w0 ⟨rfl, e⟩; obtain rfl := e.symm)
    | (go_at_call 67; refine (k67 (HL.out _ (by repeat (first | assumption | exact ModP.refl _ _ | refine ModP.fromPut ?_ (by assumption) | apply ModP.alloc | apply ModP.drew | apply ModP.drewN | refine ModP.put ?_ (by first | (left; assumption) | (left; rfl) | (right; simp only [World.inB, World.size_put] at *; omega)) _ _)))).mono ?_; rintro _ w0 ⟨rfl, e⟩; obtain rfl := e.symm)
    | (go_at_call 68; refine (c68 (HE.out.alloc _) e0 e1 Hok.out.t0 Hok.out.t1 Hok.out.v0 Hok.out.v1).mono ?_; rintro _ _ ⟨rfl, m, rfl⟩)
    | (go_at_call 69; refine (k69 (HL.out _ (by repeat (first | assumption | exact ModP.refl _ _ | refine ModP.fromPut ?_ (by assumption) | apply ModP.alloc | apply ModP.drew | apply ModP.drewN | refine ModP.put ?_ (by first | (left; assumption) | (left; rfl) | (right; simp only [World.inB, World.size_put] at *; omega)) _ _)))).mono ?_; rintro _ w0 ⟨rfl, e⟩; obtain rfl := e.symm)
    | (go_at_call 70; refine (Q70.out m).mono ?_; rintro _ w9 ⟨rfl, s9⟩; have S9 := hidIt s9; clear s9))
  go_ret
  obtain ⟨G', bx', B', k1, k2, k3, k4, k5, k6, k7⟩ := S9.out
  have z9 := (MP.out m).size
  refine ⟨rfl, ⟨G', bx', k1, fun k hk => ?_⟩, ((MP.out m).mono (fun k e => .inr e)).step k4 ?_⟩
  · rcases k3 k hk with (a | a | a) | a
    · exact .inl a
    · exact .inr (.inl a)
    · exact .inr (.inr (by omega))
    · exact .inr (.inr (by omega))
  · rintro k (a | a | a)
    · exact .inl (.inl a)
    · exact .inl (.inr a)
    · exact .inr (by omega)
end
end Go.Proofs.Qxb6500990aGreat
