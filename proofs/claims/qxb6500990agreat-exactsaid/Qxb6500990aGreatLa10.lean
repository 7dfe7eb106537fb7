/- package nodelaw: Look -/
import Derived.Test.Qxb6500990aGreatLa9
import Derived.Test.Qxb6500990aGreatNo20
set_option linter.unusedVariables false
set_option linter.unusedSimpArgs false
namespace Go.Proofs.Qxb6500990aGreat
open Go Go.RowKit Go.Tw
attribute [local go_sem] World.cell?_put_same World.cell?_put_ne World.cell?_put_ne' World.frozen?_put_same World.frozen?_put_ne World.frozen?_put_ne' World.setCell_put_same World.setCell_put_ne World.setCell_put_ne' World.inB_put World.inB_alloc World.inB_drew World.inB_drewN World.inB_new World.inB_setCell World.put_drew World.put_drewN World.q_setCell_drew World.q_setCell_drewN World.q_alloc_drew World.q_alloc_drewN World.put_put_same World.put_put_2 World.size_put World.q_cell?_alloc_old World.q_frozen?_alloc_old World.cell?_alloc_new' World.frozen?_alloc_new' World.q_setCell_alloc_old World.q_setCell_alloc_new World.q_put_alloc_old World.cell?_force_same World.frozen?_force_same World.cell?_force2_fst World.cell?_force2_snd OpR.g0 OpR.s0 OpR.g1 OpR.s1 OpR.g2 OpR.s2 OpR.g3 OpR.s3 OpR.g4 OpR.s4 OpR.g5 OpR.s5
attribute [local go_sem] ba_get ba_eq ba_beq upd_same upd_upd
set_option maxHeartbeats 4000000
set_option maxRecDepth 100000
section
variable {W w : World} {q : NoP} {p : MoP} {n : AN}
theorem boolTrue {b : Bool} {E : Prop} (hb : b = true ↔ E) (he : E) : b = true := hb.2 he
theorem c49 (h : Two W q p n n) (hi : n.In) (o : OpR) (hk : o.kind = 6 ∨ o.kind = 7 ∨ o.kind = 8 ∨ o.kind = 21 ∨ o.kind = 22 ∨ o.kind = 23 ∨ o.kind = 24 ∨ o.kind = 25) :
    Calls Tryz.prog 49 #[vp q.b, vp p.b, .agg o.cells] W fun r w' => r = .returned (.bool true) ∧ ModP (fun _ => False) W w' := by
  obtain ⟨k, a, b, c, s, t⟩ := o
  simp only [] at hk
  have h1 := h.fr ((ModP.refl _ _).alloc (.cells (OpR.cells ⟨k, a, b, c, s, t⟩) 26))
  clear h
  have M0 : Hid (ModP (fun _ => False) W (W.alloc (.cells (OpR.cells ⟨k, a, b, c, s, t⟩) 26))) := (ModP.refl _ _).alloc _
  rcases hk with rfl | rfl | rfl | rfl | rfl | rfl | rfl | rfl
  · have q1 := hidIt (c102 h1 a)
    clear h1 hi
    go_enter Tryz.func49, Tryz.ntmps49
    go_wp2_with (first
      | (go_at_call 102; refine q1.out.mono ?_; rintro _ w1 ⟨b, rfl, hb, m1⟩; obtain rfl := boolTrue hb (by first | trivial | exact rfl); have M1 := hidIt (M0.out.trans m1); clear m1 hb))
    go_ret
    exact ⟨rfl, M1.out⟩
  · have q1 := hidIt (c103 h1 a)
    clear h1 hi
    go_enter Tryz.func49, Tryz.ntmps49
    go_wp2_with (first
      | (go_at_call 103; refine q1.out.mono ?_; rintro _ w1 ⟨b, rfl, hb, m1⟩; obtain rfl := boolTrue hb (by first | trivial | exact rfl); have M1 := hidIt (M0.out.trans m1); clear m1 hb))
    go_ret
    exact ⟨rfl, M1.out⟩
  · have q1 := hidIt (c104 h1 s)
    clear h1 hi
    go_enter Tryz.func49, Tryz.ntmps49
    go_wp2_with (first
      | (go_at_call 104; refine q1.out.mono ?_; rintro _ w1 ⟨b, rfl, hb, m1⟩; obtain rfl := boolTrue hb (by first | trivial | exact rfl); have M1 := hidIt (M0.out.trans m1); clear m1 hb))
    go_ret
    exact ⟨rfl, M1.out⟩
  · have q1 := hidIt (c105 h1 rfl rfl rfl)
    clear h1 hi
    go_enter Tryz.func49, Tryz.ntmps49
    go_wp2_with (first
      | (go_at_call 105; refine q1.out.mono ?_; rintro _ w1 ⟨b, rfl, hb, m1⟩; obtain rfl := boolTrue hb (by first | trivial | exact ⟨.refl _, rfl⟩); have M1 := hidIt (M0.out.trans m1); clear m1 hb))
    go_ret
    exact ⟨rfl, M1.out⟩
  · have q1 := hidIt (c106 h1)
    clear h1 hi
    go_enter Tryz.func49, Tryz.ntmps49
    go_wp2_with (first
      | (go_at_call 106; refine q1.out.mono ?_; rintro _ w1 ⟨b, rfl, hb, m1⟩; obtain rfl := boolTrue hb (by first | trivial | exact rfl); have M1 := hidIt (M0.out.trans m1); clear m1 hb))
    go_ret
    exact ⟨rfl, M1.out⟩
  · have q1 := hidIt (c107 h1 a)
    clear h1 hi
    go_enter Tryz.func49, Tryz.ntmps49
    go_wp2_with (first
      | (go_at_call 107; refine q1.out.mono ?_; rintro _ w1 ⟨b, rfl, hb, m1⟩; obtain rfl := boolTrue hb (by first | trivial | exact rfl); have M1 := hidIt (M0.out.trans m1); clear m1 hb))
    go_ret
    exact ⟨rfl, M1.out⟩
  · have q1 := hidIt (c108 h1 a)
    clear h1 hi
    go_enter Tryz.func49, Tryz.ntmps49
    go_wp2_with (first
      | (go_at_call 108; refine q1.out.mono ?_; rintro _ w1 ⟨b, rfl, hb, m1⟩; obtain rfl := boolTrue hb (by first | trivial | exact rfl); have M1 := hidIt (M0.out.trans m1); clear m1 hb))
    go_ret
    exact ⟨rfl, M1.out⟩
  · have q1 := hidIt (by obtain ⟨G, R, hr⟩ := h1.r; exact c14 hr h1.nk hi)
    clear h1 hi
    go_enter Tryz.func49, Tryz.ntmps49
    go_wp2_with (first
      | (go_at_call 14; refine q1.out.mono ?_; rintro _ w1 ⟨rfl, m1⟩; have M1 := hidIt (M0.out.trans m1); clear m1))
    go_ret
    exact ⟨rfl, M1.out⟩
end
end Go.Proofs.Qxb6500990aGreat
