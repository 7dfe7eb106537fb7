/- package nodelaw: Match -/
import Derived.Test.Qxb6500990aGreatLa8
import Derived.Test.Qxb6500990aGreatInv2
set_option linter.unusedVariables false
set_option linter.unusedSimpArgs false
namespace Go.Tw
open Go Go.Proofs Go.Proofs.Qxb6500990aGreat Go.RowKit
theorem SyncV.Like.refl (x : SyncV) : x.Like x := ⟨⟨rfl, rfl, rfl, rfl, rfl, rfl, rfl, rfl, rfl, rfl, rfl⟩, fun _ _ => ⟨rfl, rfl, rfl⟩⟩
theorem LogLike.refl (n : AN) : LogLike n n := ⟨⟨.refl _, rfl⟩, fun _ _ _ => ⟨rfl, rfl⟩⟩
/-- two nodes just opened that look alike hold the same log -/
theorem LogLike.eq {s s' : Lg} {e e' : EM} (h : LogLike (AN.open (AS.open s.al e)) (AN.open (AS.open s'.al e'))) : s = s' := by
  have h1 : (AN.open (AS.open s.al e)).sy = AS.open s.al e := AN.catchUp_sy _
  have h2 : (AN.open (AS.open s'.al e')).sy = AS.open s'.al e' := AN.catchUp_sy _
  obtain ⟨⟨⟨⟨_, a2, a3, _, _, _, _, a8, a9, a10, a11⟩, _⟩, _⟩, b⟩ := h
  rw [h1, h2] at a2 a3 a8 a9 a10 a11 b
  have t : s.term = s'.term := a2
  have v : s.vote = s'.vote := a3
  have bs : s.base = s'.base := a8
  have bt : s.baseTerm = s'.baseTerm := a9
  have la : s.last = s'.last := a10
  have sn : s.snap = s'.snap := a11
  have en : s.ents = s'.ents := by
    unfold Lg.last at la
    apply List.ext_getElem (by omega)
    intro i i1 i2
    have := (b (s'.base + 1 + i) (by show s'.base - 1 ≤ _; omega) (by show _ ≤ s'.last + 1; unfold Lg.last; omega)).1
    have e1 : (AS.open s.al e).lg.now = s := rfl
    have e2 : (AS.open s'.al e').lg.now = s' := rfl
    rw [e1, e2] at this
    unfold Lg.at_ at this
    rw [if_neg (by omega), if_neg (by unfold Lg.last; omega), if_neg (by omega), if_neg (by unfold Lg.last; omega)] at this
    have h3 := congrArg Prod.fst this
    simp only [Lg.ent] at h3
    have n1 : (s'.base + 1 + (i : Int) - s.base - 1).toNat = i := by omega
    have n2 : (s'.base + 1 + (i : Int) - s'.base - 1).toNat = i := by omega
    rw [n1, n2] at h3
    simpa [List.getD, i1, i2] using h3
  cases s; cases s'
  simp only [] at *
  subst t v bs bt sn en
  rfl
end Go.Tw
namespace Go.Proofs.Qxb6500990aGreat
open Go Go.RowKit Go.Tw
attribute [local go_sem] World.cell?_put_same World.cell?_put_ne World.cell?_put_ne' World.frozen?_put_same World.frozen?_put_ne World.frozen?_put_ne' World.setCell_put_same World.setCell_put_ne World.setCell_put_ne' World.inB_put World.inB_alloc World.inB_drew World.inB_drewN World.inB_new World.inB_setCell World.put_drew World.put_drewN World.q_setCell_drew World.q_setCell_drewN World.q_alloc_drew World.q_alloc_drewN World.put_put_same World.put_put_2 World.size_put World.q_cell?_alloc_old World.q_frozen?_alloc_old World.cell?_alloc_new' World.frozen?_alloc_new' World.q_setCell_alloc_old World.q_setCell_alloc_new World.q_put_alloc_old World.cell?_force_same World.frozen?_force_same World.cell?_force2_fst World.cell?_force2_snd
attribute [local go_sem] ba_get ba_eq ba_beq upd_same upd_upd
set_option maxHeartbeats 4000000
set_option maxRecDepth 100000
section
variable {W w : World} {q : NoP} {p : MoP} {n m : AN} {G G' : Nat → Prop} {R : List Reply}
/-- what Match finds -/
def Found (n m : AN) (j : Int) : Prop := ∀ j0 : Nat, j0 ≤ m.sy.lg.hist.length → n = m.atk j0 → 0 ≤ j ∧ j ≤ j0 ∧ LogLike n (m.atk j)
theorem c27 (h : RNp W G q n R) (hm : NMp W G' p.b p.bs p.bl p.be p.bk m) (nk : n.Gd) (mk : m.Gd) (hu : n.used = fun _ => false) (hs : n.seq = fun _ => 0) (hi : n.idx = fun _ => 0) (hl : m.sy.lg.hist.length ≤ 400) :
    Calls Tryz.prog 27 #[vp q.b, vp p.b] W fun r w' => ∃ j, r = .returned (vi j) ∧ Found n m j ∧ ModP (fun _ => False) W w' := by
  have h1 := hidIt (c18 hm)
  have h2 := hidIt (fun w' (e : ModP (fun _ => False) W w') (k : Int) => c29 (hm.frame e (fun _ _ f => f)) (by omega) k (AL.state_ok mk.mrk mk.hs k))
  have h3 := hidIt (fun w' (e : ModP (fun _ => False) W w') (k : Int) (p' : MoP) (hx : ∃ G, NMp w' G p'.b p'.bs p'.bl p'.be p'.bk (m.atk k)) =>
    c28 (W := w') (q := q) (p := p') (n := n) (m := m.atk k) ⟨⟨G, R, h.frame e (fun _ _ f => f)⟩, hx, nk.ok, (mk.atk k).ok⟩ (by rw [hu]; exact (AN.open_rows _).1.symm) (by rw [hs]; exact (AN.open_rows _).2.1.symm) (by rw [hi]; exact (AN.open_rows _).2.2.symm) [])
  clear h hm nk mk hu hs hi
  generalize hP : (fun (r : Ending) (w' : World) => ∃ j, r = .returned (vi j) ∧ Found n m j ∧ ModP (fun _ => False) W w') = P
  have HP : Hid (∀ w' j, Found n m j → ModP (fun _ => False) W w' → P (.returned (vi j)) w') := by subst hP; exact fun w' j a b => ⟨j, rfl, a, b⟩
  clear hP
  unfold Found at HP
  obtain ⟨H, hH⟩ : ∃ x, m.sy.lg.hist.length = x := ⟨_, rfl⟩
  rw [hH] at h1 hl HP
  clear hH
  go_enter Tryz.func27, Tryz.ntmps27
  go_wp2_with (first
    | (go_at_call 18; refine h1.out.mono ?_; rintro _ w1 ⟨rfl, e⟩; obtain rfl := e.symm))
  go_loopw [6] (fun iv u => ∃ j : Nat, iv = vi j ∧ j ≤ H + 1 ∧ Hid (ModP (fun _ => False) W u) ∧ Hid (∀ k : Nat, k < j → n ≠ m.atk k)) (fun iv _ => H + 1 - (intOf iv).toNat)
  case atStart => exact ⟨0, rfl, by omega, ModP.refl _ _, fun k hk => by omega⟩
  case round =>
    obtain ⟨j, rfl, hj, M, HE⟩ := hrel
    by_cases hjn : j ≤ H
    · have dj : decide (j ≤ H) = true := by simpa using hjn
      have HJ := hidIt hjn
      clear hjn
      go_wp2_with (first
        | (go_at_call 29; refine (h2.out _ M.out j).mono ?_; rintro _ w2 ⟨b', bs', bl', be', bk', G2, rfl, nb, k1, k2, m2⟩; have M2 := hidIt (M.out.trans m2); have q3 := hidIt (h3.out _ M2.out j ⟨b', bs', bl', be', bk'⟩ ⟨G2, k1⟩); clear k1 k2 m2 nb)
        | (go_at_call 28; refine q3.out.mono ?_; rintro _ w3 ⟨b, rfl, hb1, hb2, m3⟩; have M3 := hidIt (M2.out.trans m3); have hb' : (b = false ∧ n ≠ m.atk j) ∨ (b = true ∧ LogLike n (m.atk j)) := (by cases b; exact .inl ⟨rfl, fun e => by have := hb2 (by rw [← e]; exact LogLike.refl n) (by rw [← e]); cases this⟩; exact .inr ⟨rfl, hb1 rfl⟩); clear m3 hb1 hb2; rcases hb' with ⟨rfl, hl⟩ | ⟨rfl, hl⟩ <;> (have HL := hidIt hl; clear hl)))
      · go_roundw
        case rel =>
          have hj9 := HJ.out
          refine ⟨j + 1, by go_num, by omega, M3, fun k hk => ?_⟩
          by_cases e : k = j
          · subst e; exact HL.out
          · exact HE.out k (by omega)
        case measure => have hj9 := HJ.out; simp [intOf]; omega
      · refine HP.out _ _ (fun j0 h0 he => ⟨by omega, ?_, HL.out⟩) M3.out
        by_cases e : j0 < j
        · exact absurd he (HE.out j0 e)
        · omega
    · have dj : decide (j ≤ H) = false := by simpa using hjn
      have HJ := hidIt hjn
      clear hjn
      go_wp2_with fail
      exact HP.out _ _ (fun j0 h0 he => absurd he (HE.out j0 (by have := HJ.out; omega))) M.out
end
end Go.Proofs.Qxb6500990aGreat
