/- package tower: Open -/
import Derived.Test.Qxb6500990aGreatNo20
set_option linter.unusedVariables false
set_option linter.unusedSimpArgs false
namespace Go.Tw
open Go Go.Proofs Go.Proofs.Qxb6500990aGreat Go.RowKit
/-- what Open gives over the disk l at bd, in whose log s stands -/
structure Opened (W : World) (F : Nat → Prop) (bd : Nat) (l : List Bs) (s : Lg) (N : Nat) (id : Int) (G : Nat → Prop) (q : NoP) (w : World) : Prop where
  rn : RNp w G q (AN.open (AS.open s.al (EM.new id))) []
  bd : q.s.bd = bd
  n : q.s.N = N
  r : q.s.r ≤ 12
  cl : CleanS (stOf (vp 0) l) s → q.s.r = 0
  nb : W.heap.size ≤ q.b
  g : ∀ k, G k → F k ∨ W.heap.size ≤ k
  m : ModP F W w
end Go.Tw
namespace Go.Proofs.Qxb6500990aGreat
open Go Go.RowKit Go.Tw
attribute [local go_sem] World.cell?_put_same World.cell?_put_ne World.cell?_put_ne' World.frozen?_put_same World.frozen?_put_ne World.frozen?_put_ne' World.setCell_put_same World.setCell_put_ne World.setCell_put_ne' World.inB_put World.inB_alloc World.inB_drew World.inB_drewN World.inB_new World.inB_setCell World.put_drew World.put_drewN World.q_setCell_drew World.q_setCell_drewN World.q_alloc_drew World.q_alloc_drewN World.put_put_same World.put_put_2 World.size_put World.q_cell?_alloc_old World.q_frozen?_alloc_old World.cell?_alloc_new' World.frozen?_alloc_new' World.q_setCell_alloc_old World.q_setCell_alloc_new World.q_put_alloc_old World.cell?_force_same World.frozen?_force_same World.cell?_force2_fst World.cell?_force2_snd
set_option maxHeartbeats 4000000
set_option maxRecDepth 100000
section
variable {W w : World} {F : Nat → Prop} {bd N : Nat} {l : List Bs} {s : Lg}
theorem c12 (hd : DK W F bd ⟨l, l, []⟩) (hF : Within F W) (g : Tw.Good l s N) (hN : N ≤ 1125899906842624) (id : Int) :
    Calls Tryz.prog 12 #[vp bd, vi id] W fun x w' => ∃ G q, x = .returned (vp q.b) ∧ Opened W F bd l s N id G q w' := by
  have HD := hidIt hd
  have HF := hidIt hF
  have HG := hidIt g
  have h31 := hidIt (c31 (D := ⟨l, l, []⟩) hd g.sa)
  clear hd hF g
  go_enter Tryz.func12, Tryz.ntmps12
  go_wp2_with (first
    | (go_at_call 31; refine h31.out.mono ?_; rintro _ w1 ⟨rfl, t1, m1⟩
       have sk : Hid (SK w1 F W.heap.size bd ⟨l, l, []⟩) := ⟨t1, HD.out.frame m1 (fun _ _ f => f), fun f => absurd (HF.out _ f) (Nat.lt_irrefl _), HF.out.mono m1.size⟩
       have M1 := hidIt m1
       have q32 := hidIt (c32 sk.out HG.out hN)
       clear t1 m1 h31)
    | (go_at_call 32; refine q32.out.mono ?_; rintro _ w2 ⟨bl, r, rfl, nl, r12, rl, m2, hcl⟩
       have RL := hidIt rl.within
       have M2 := hidIt m2
       have HC := hidIt hcl
       have NL := hidIt nl
       have R12 := hidIt r12
       have q33 := hidIt (c33 w2 id)
       clear rl m2 q32 hcl nl r12)
    | (go_at_call 33; refine q33.out.mono ?_; rintro _ w3 ⟨rfl, d3⟩
       have m3 : ModP (fun _ => False) w2 w3 := ((ModP.refl _ _).alloc _).trans d3.toP
       have a3 : w3.At w2.heap.size (EM.new id).el.cells 155 := d3.at World.At_alloc_new
       have s3 : w2.heap.size < w3.heap.size := a3.inB
       have oe := EM.ok_new id
       have q34 := hidIt (c34 (RL.out.frame m3 (fun _ _ f => f)) (fun k hk => Nat.lt_trans hk.2 s3) a3 (fun f => absurd f.2 (Nat.lt_irrefl _)) oe.id0 oe.id1)
       have M3 := hidIt m3
       have S3 := hidIt s3
       clear d3 m3 a3 s3 oe q33 RL)
    | (go_at_call 34; refine q34.out.mono ?_; rintro _ w4 ⟨rfl, ⟨G, bx, rs, hg⟩, m4⟩
       have RS := hidIt rs
       have HGG := hidIt hg
       have M4 := hidIt m4
       clear rs hg m4 q34)
    | (go_at_call 35; refine (c35 _).mono ?_; rintro _ w5 ⟨rfl, e5⟩
       have m5 : ModP (fun _ => False) w4 w5 := by rw [e5]; exact (ModP.refl _ _).alloc _
       have a5 : w5.At w4.heap.size zKv.cells 175 := by rw [e5]; exact World.At_alloc_new
       have oo : (AS.open s.al (EM.new id)).el.Ok := by
         have oe := EM.ok_new id
         have og := HG.out.ok
         exact ⟨oe.id0, oe.id1, og.t0, og.t1, og.v0, og.v1, by show (0:Int) ≤ 0; omega, by show (0:Int) < 3; omega, by show (-1:Int) ≤ -1; omega, by show (-1:Int) < 3; omega, by show (0:Int) ≤ 0; omega, by show (0:Int) < tmo _; have := oe.id0; unfold tmo; show (0:Int) < 3 + 2 * (EM.new id).id; omega⟩
       have q36 := hidIt (c36 (RS.out.frame m5 (fun _ _ f => f)) a5 KvRel.new (fun f => absurd (RS.out.wi _ f) (Nat.lt_irrefl _)) oo HG.out.ok.sn)
       have M5 := hidIt m5
       have S5 : Hid (w4.heap.size ≤ w5.heap.size) := m5.size
       clear m5 a5 oo e5)
    | (go_at_call 36; refine q36.out.mono ?_; rintro _ w6 ⟨b, bw, rfl, nb, G', k1, k2, k3, k4⟩
       have K1 := hidIt k1
       have K2 := hidIt k2
       have K3 := hidIt k3
       have NB6 := hidIt nb
       clear k1 k2 k3 k4 q36 nb))
  go_ret
  have z1 := M1.out.size
  have z2 := M2.out.size
  have z3 := M3.out.size
  have z4 := M4.out.size
  have z5 := M5.out.size
  have nl := NL.out
  have nb := NB6.out
  have hgw : ∀ k, G k → F k ∨ W.heap.size ≤ k := fun k hk => by
    rcases HGG.out k hk with a | a | a
    · rcases a.1 with b | b | b
      · exact .inl b
      · exact .inr (by omega)
      · exact .inr (by omega)
    · exact .inr (by omega)
    · exact .inr (by omega)
  refine ⟨_, ⟨b, _, bw, _⟩, rfl, K1.out, rfl, rfl, R12.out, HC.out, by show W.heap.size ≤ b; omega, fun k hk => ?_, ?_⟩
  · rcases K2.out k hk with a | a
    · rcases a with a | a
      · exact hgw k a
      · exact .inr (by omega)
    · exact .inr (by omega)
  · have c1 : ModP F W w1 := M1.out.mono (fun _ f => f.elim)
    have c2 : ModP F W w2 := c1.step M2.out (fun k hk => hk.elim .inl (fun e => .inr (by omega)))
    have c3 : ModP F W w3 := c2.step M3.out (fun _ f => f.elim)
    have c4 : ModP F W w4 := c3.step M4.out (fun k hk => by
      rcases hk with a | a
      · rcases a.1 with b | b | b
        · exact .inl b
        · exact .inr (by omega)
        · exact .inr (by omega)
      · exact .inr (by omega))
    have c5 : ModP F W w5 := c4.step M5.out (fun _ f => f.elim)
    exact c5.step K3.out (fun k hk => hk.elim (hgw k) (fun e => .inr (by omega)))
end
end Go.Proofs.Qxb6500990aGreat
