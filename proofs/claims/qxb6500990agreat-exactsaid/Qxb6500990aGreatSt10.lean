/- package store: write -/
import Derived.Test.Qxb6500990aGreatSt9
import Derived.Test.Qxb6500990aGreatStructs2
import Derived.Test.Qxb6500990aGreatSym
set_option linter.unusedVariables false
set_option linter.unusedSimpArgs false
namespace Go.Tw
open Go
def nextS (y : UInt8) : UInt8 := UInt8.ofNat (y.toNat % 255 + 1)
theorem nextS_nat (y : UInt8) : (nextS y).toNat = y.toNat % 255 + 1 := by
  unfold nextS
  exact UInt8.toNat_ofNat_of_lt' (by have : y.toNat % 255 < 255 := Nat.mod_lt _ (by decide); show y.toNat % 255 + 1 < 256; omega)
def stampX (x : Bs) (s : UInt8) : Bs := (x.set 0 s).set 63 s
end Go.Tw
namespace Go.Proofs.Qxb6500990aGreat
open Go Go.RowKit Go.Tw
attribute [local go_sem] World.cell?_put_same World.cell?_put_ne World.cell?_put_ne' World.frozen?_put_same World.frozen?_put_ne World.frozen?_put_ne' World.setCell_put_same World.setCell_put_ne World.setCell_put_ne' World.inB_put World.inB_alloc World.inB_drew World.inB_drewN World.inB_new World.inB_setCell World.put_drew World.put_drewN World.q_setCell_drew World.q_setCell_drewN World.q_alloc_drew World.q_alloc_drewN World.put_put_same World.put_put_2 World.size_put World.q_cell?_alloc_old World.q_frozen?_alloc_old World.cell?_alloc_new' World.frozen?_alloc_new' World.q_setCell_alloc_old World.q_setCell_alloc_new World.q_put_alloc_old World.cell?_force_same World.frozen?_force_same World.cell?_force2_fst World.cell?_force2_snd StoreR.g0 StoreR.s0 StoreR.g1 StoreR.s1 StoreR.g2 StoreR.s2 StoreR.g3 StoreR.s3 StoreR.g4 StoreR.s4 StoreR.g5 StoreR.s5 StoreR.g6 StoreR.s6 StoreR.g7 StoreR.s7 StoreR.g8 StoreR.s8 StoreR.g9 StoreR.s9 StoreR.g10 StoreR.s10 StoreR.g11 StoreR.s11 StoreR.g12 StoreR.s12 StoreR.g13 StoreR.s13 StoreR.g14 StoreR.s14 StoreR.g15 StoreR.s15 StoreR.g16 StoreR.s16 StoreR.g17 StoreR.s17 StoreR.g18 StoreR.s18 StoreR.g19 StoreR.s19 StoreR.g20 StoreR.s20 StoreR.g21 StoreR.s21 StoreR.g22 StoreR.s22 StoreR.g23 StoreR.s23 StoreR.g24 StoreR.s24 StoreR.g25 StoreR.s25 StoreR.g26 StoreR.s26 StoreR.g27 StoreR.s27 StoreR.g28 StoreR.s28 StoreR.g29 StoreR.s29 StoreR.g30 StoreR.s30 StoreR.g31 StoreR.s31 StoreR.g32 StoreR.s32 StoreR.g33 StoreR.s33 StoreR.g34 StoreR.s34 StoreR.g35 StoreR.s35 StoreR.g36 StoreR.s36 StoreR.g37 StoreR.s37 StoreR.g38 StoreR.s38 StoreR.g39 StoreR.s39 StoreR.g40 StoreR.s40 StoreR.g41 StoreR.s41 StoreR.g42 StoreR.s42 StoreR.g43 StoreR.s43 StoreR.g44 StoreR.s44 StoreR.g45 StoreR.s45 StoreR.g46 StoreR.s46 StoreR.g47 StoreR.s47 StoreR.g48 StoreR.s48 StoreR.g49 StoreR.s49 StoreR.g50 StoreR.s50 StoreR.g51 StoreR.s51 StoreR.gi_stamp_0 StoreR.si_stamp_0 StoreR.gi_used_0 StoreR.si_used_0 StoreR.gi_recs_0 StoreR.si_recs_0 StoreR.gi_recs_1 StoreR.si_recs_1 StoreR.gi_recs_2 StoreR.si_recs_2
attribute [local go_sem] StoreR.gia_recs_1 StoreR.sia_recs_1 StoreR.gia_recs_2 StoreR.sia_recs_2
attribute [local go_sem] ba_get byA_set upd_same upd_upd
set_option maxHeartbeats 4000000
set_option maxRecDepth 100000
theorem k234 (W : World) (y : UInt8) : Calls Tryz.prog 234 #[.int .u8 y.toNat] W fun r w' => r = .returned (.int .u8 ((nextS y).toNat : Int)) ∧ w' = W := by
  have h := c234 W y
  have e : ((nextS y).toNat : Int) = (y.toNat : Int) % 255 + 1 := by rw [nextS_nat]; omega
  rw [e]
  exact h
theorem c176 {W : World} {F : Nat → Prop} {bt bd g : Nat} {D : Dk} {S : StoreR} (hd : DK W F bd D) (ht : W.At bt S.cells 139) (hS : S.d = vp bd) (nt : ¬ F bt) {x : Bs} (hg : W.At g (byA x) 5) (ng : ¬ F g) (hx : x.length = 64) (b : Nat) (hb : b < 14) (hw : D.wr.length ≤ 9000) :
    Calls Tryz.prog 176 #[vp bt, vi b, .slice (some ⟨g, 0, none⟩) 64 64] W fun r w' => r = .returned (.tuple #[]) ∧ DK w' (grow F W) bd (D.write b (stampX x (nextS (S.stamp b)))) ∧ w'.At bt (StoreR.cells { S with stamp := upd S.stamp b (nextS (S.stamp b)) }) 139 ∧ ModP (fun k => F k ∨ k = bt ∨ k = g) W w' := by
  have ne : bt ≠ g := At.neT ht hg (by decide)
  have HD := hidIt (fun w' (m : ModP (fun k => k = bt ∨ k = g) W w') => hd.frame m (fun k a e => by rcases e with e | e; exact nt (e ▸ a); exact ng (e ▸ a)))
  obtain ⟨y, rfl, it, ig⟩ := open2 ht hg ne
  obtain ⟨sd, stamp, m, mSlot, h, hSlot, snap, used, recs⟩ := S
  simp only [] at hS
  subst hS
  have Hx := hidIt hx
  have hb' : (b : Int) < 14 := by omega
  have hxl : (stampX x (nextS (stamp b))).length = 64 := by unfold stampX; rw [List.length_set, List.length_set]; exact hx
  have Hxl := hidIt hxl
  obtain ⟨o1, hg0⟩ : ∃ old, (byA x)[0]? = some (.int .u8 old) := ⟨_, byA_get x 0 (by omega)⟩
  obtain ⟨o2, hg63⟩ : ∃ old, (byA (x.set 0 (nextS (stamp b))))[63]? = some (.int .u8 old) := ⟨_, byA_get _ 63 (by rw [List.length_set]; omega)⟩
  clear hd ht hg hx hxl
  simp only [] at *
  go_enter Tryz.func176, Tryz.ntmps176
  go_wp2_with fail
  refine Ord.region1 [] [0, 1, 2, 3, 4, 5, 6, 7, 8, 9, 10, 11] [12] (by kernel_rfl) (by kernel_rfl) (fun _ _ d _ _ h => by cases d <;> exact h) ?_
  simp only [Ord.pickO, Ord.nth]
  refine wpQuiet_nil ?_
  repeat (first | go_big_quiet_step (fail) | (go_big_quiet_want; go_big_quiet_op; refine Exists.intro _ ⟨by first | (go_at_call 234; exact k234 _ _), ?_⟩; go_big_quiet_on))
  refine wpQuiet_nil ?_
  go_wp2_with fail
  refine Ord.region1 [1] [0, 2, 3, 4, 5, 6, 7, 8, 9, 10, 11, 12, 13, 14] [15, 16, 17] (by kernel_rfl) (by kernel_rfl) (fun _ _ d _ _ h => by cases d <;> exact h) ?_
  simp only [Ord.pickO, Ord.nth]
  repeat (go_big_quiet_step (fail))
  refine wpQuiet_nil ?_
  repeat (go_big_quiet_step (fail))
  refine wpQuiet_nil ?_
  go_wp2_with fail
  have hcv : ∀ w : World, w.At g (byA ((x.set 0 (nextS (stamp b))).set 63 (nextS (stamp b)))) 5 → (convert 127 9 (.slice (some ⟨g, 0, none⟩) 64 64)).run Tryz.prog w = .ok (vs (stampX x (nextS (stamp b)))) w := by
    intro w hw
    have h9 := byA_bytes (l := stampX x (nextS (stamp b))) hw (by rw [Hxl.out]; unfold maxLen; omega)
    rw [Hxl.out] at h9
    have h8 := run_strB h9
    rw [ib_bi] at h8
    rw [run_convert_bytes_string w 127 9 5 _ 64 64 Tryz.underlying127 Tryz.underlying5 Tryz.underlying9]
    exact h8
  have hcv2 := hcv (((y.put bt (StoreR.cells ⟨vp bd, upd stamp b (nextS (stamp b)), m, mSlot, h, hSlot, snap, used, recs⟩) 139).put g (byA ((x.set 0 (nextS (stamp b))).set 63 (nextS (stamp b)))) 5).drew.drew.drew) (World.At_drew.2 (World.At_drew.2 (World.At_drew.2 (World.At_put_same (World.inB_put.2 ig)))))
  clear hcv
  refine Ord.region3 (fun _ => True) [] [0, 1, 2, 3, 4, 5, 6] (.one 7 false .fin) true (fun _ _ => trivial) (by kernel_rfl) (by kernel_rfl) (fun _ _ d _ _ h => by cases d <;> exact h) trivial ?_
  simp only [Ord.pickO, Ord.nth]
  refine wpQuiet_nil ?_
  repeat (go_big_quiet_step (fail))
  refine wpQuiet_nil ?_
  -- steps: ['N7']
  clear hcv2
  have MM : Hid (ModP (fun k => k = bt ∨ k = g) ((y.put bt (StoreR.cells ⟨vp bd, stamp, m, mSlot, h, hSlot, snap, used, recs⟩) 139).put g (byA x) 5) (((y.put bt (StoreR.cells ⟨vp bd, upd stamp b (nextS (stamp b)), m, mSlot, h, hSlot, snap, used, recs⟩) 139).put g (byA ((x.set 0 (nextS (stamp b))).set 63 (nextS (stamp b)))) 5).drew.drew.drew)) :=
    (((((ModP.refl (fun k => k = bt ∨ k = g) y).put (.inl (.inl rfl)) _ _).put (.inl (.inr rfl)) _ _).drew.drew.drew).fromPut (.inl rfl)).fromPut (.inr rfl)
  have hat := hidIt (show (((y.put bt (StoreR.cells ⟨vp bd, upd stamp b (nextS (stamp b)), m, mSlot, h, hSlot, snap, used, recs⟩) 139).put g (byA ((x.set 0 (nextS (stamp b))).set 63 (nextS (stamp b)))) 5).drew.drew.drew).At bt (StoreR.cells ⟨vp bd, upd stamp b (nextS (stamp b)), m, mSlot, h, hSlot, snap, used, recs⟩) 139 from World.At_drew.2 (World.At_drew.2 (World.At_drew.2 ((World.At_put_ne' ne).2 (World.At_put_same it)))))
  refine Ord.wpS_next rfl ?_
  intro K hK
  dsimp only [Ord.nth]
  go_wp2_with fail
  refine (k235 (HD.out _ MM.out) b hb (stampX x (nextS (stamp b))) Hxl.out hw).mono ?_
  rintro _ w5 ⟨rfl, hD5, m5⟩
  refine hK _ _ ?_
  clear hK K
  refine Ord.wpS_fin ?_
  go_wp2_with fail
  go_end0
  refine ⟨rfl, hD5.mono (fun k a => a.elim .inl (fun c => .inr (by simpa [World.size_put] using c))), m5.at hat.out nt, ?_⟩
  exact (MM.out.mono (fun k a => .inr a)).trans (m5.mono (fun k a => .inl a))
end Go.Proofs.Qxb6500990aGreat
