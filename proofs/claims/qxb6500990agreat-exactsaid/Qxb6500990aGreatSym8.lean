/- package syncm: advance -/
import Derived.Test.Qxb6500990aGreatSym7
set_option linter.unusedVariables false
set_option linter.unusedSimpArgs false
namespace Go.Tw
open Go Go.Proofs Go.Proofs.Qxb6500990aGreat Go.RowKit
def AS.haveK (A : AS) (n : Int) : Nat → Int
  | 0 => 1
  | j + 1 => A.haveK n j + (if (j : Int) ≠ A.el.id ∧ n ≤ A.mtch j then 1 else 0)
def AS.good (A : AS) (n : Int) : Prop := (A.lg.now.termAt n).1 = A.el.term ∧ 2 ≤ A.haveK n 3
instance (A : AS) (n : Int) : Decidable (A.good n) := by unfold AS.good; exact inferInstance
def AS.advF (A : AS) : Nat → Int
  | 0 => A.commit
  | k + 1 => if A.good (A.commit + (k + 1 : Nat)) then A.commit + (k + 1 : Nat) else A.advF k
def AS.advance (A : AS) : AS := { A with commit := A.advF (A.lg.now.last - A.commit).toNat }
theorem AS.haveK_bd (A : AS) (n : Int) : ∀ j, 1 ≤ A.haveK n j ∧ A.haveK n j ≤ 1 + j
  | 0 => by simp [AS.haveK]
  | j + 1 => by have := AS.haveK_bd A n j; unfold AS.haveK; split <;> omega
end Go.Tw
namespace Go.Proofs.Qxb6500990aGreat
open Go Go.RowKit Go.Tw
attribute [local go_sem] World.cell?_put_same World.cell?_put_ne World.cell?_put_ne' World.frozen?_put_same World.frozen?_put_ne World.frozen?_put_ne' World.setCell_put_same World.setCell_put_ne World.setCell_put_ne' World.inB_put World.inB_alloc World.inB_drew World.inB_drewN World.inB_new World.inB_setCell World.put_drew World.put_drewN World.q_setCell_drew World.q_setCell_drewN World.q_alloc_drew World.q_alloc_drewN World.put_put_same World.put_put_2 World.size_put World.q_cell?_alloc_old World.q_frozen?_alloc_old World.cell?_alloc_new' World.frozen?_alloc_new' World.q_setCell_alloc_old World.q_setCell_alloc_new World.q_put_alloc_old SyncM.g0 SyncM.s0 SyncM.g1 SyncM.s1 SyncM.g2 SyncM.s2 SyncM.g3 SyncM.s3 SyncM.g4 SyncM.s4 SyncM.g5 SyncM.s5 SyncM.g6 SyncM.s6 SyncM.g7 SyncM.s7 SyncM.g8 SyncM.s8 SyncM.gi_next_0 SyncM.si_next_0 SyncM.gi_mtch_0 SyncM.si_mtch_0
attribute [local go_sem] ba_get upd_same upd_upd
set_option maxHeartbeats 4000000
set_option maxRecDepth 100000
section
variable {W w : World} {G : Nat → Prop} {b bl be : Nat} {A : AS}
theorem c211 (h : SB G W b bl be A w) (ok : A.lg.now.Ok) (c0 : 0 ≤ A.commit) (c1 : A.commit ≤ maxT) : Calls Tryz.prog 211 #[vp b] w fun r w' => r = .returned (.tuple #[]) ∧ SB G W b bl be A.advance w' := by
  have hc := h.hb.cell
  have ib := h.hb.inB
  unfold SyR at hc
  have hE := hidIt h.he
  have hS := hidIt (fun w' (m : ModP (fun _ => False) w w') => h.fr m)
  obtain ⟨G1, h1⟩ := h.lk
  have hL := hidIt (fun w' (m : ModP (fun _ => False) w w') => h1.frame m (fun _ _ f => f))
  have hb := hidIt h.hb
  have Hok := hidIt ok
  have l1 : A.lg.now.last ≤ 72057594037927936 := by have := ok.lm; unfold maxT at this; unfold Lg.last; omega
  have l0 : 0 ≤ A.lg.now.last := by have := ok.b0; unfold Lg.last; omega
  unfold maxT at c1
  obtain ⟨K, hK⟩ : ∃ K, K = (A.lg.now.last - A.commit).toNat := ⟨_, rfl⟩
  have hk : Hid (A.advance = { A with commit := A.advF K }) := by unfold Hid AS.advance; rw [hK]
  clear h h1 ok
  go_enter Tryz.func211, Tryz.ntmps211
  go_wp2_with (first
    | (go_at_call 114; refine (c114 hE.out).mono ?_; rintro _ w' ⟨rfl, e⟩; obtain rfl := e.symm)
    | (go_at_call 147; refine (c147 hE.out).mono ?_; rintro _ w' ⟨rfl, e⟩; obtain rfl := e.symm)
    | (go_at_call 154; refine (c154 (hL.out _ (ModP.refl _ _)) (by have := Hok.out.n6; omega) Hok.out.b0 (by have := Hok.out.lm; omega)).mono ?_; rintro _ _ ⟨rfl, m2, rfl⟩))
  have HK := hidIt hK
  clear hK hc
  go_loopw [5] (fun i u => ∃ n : Int, i = vi n ∧ n ≤ A.lg.now.last ∧ -1 ≤ n ∧ Hid (A.advF K = A.advF (n - A.commit).toNat) ∧ Hid (ModP (fun _ => False) w u)) (fun i _ => (intOf i - A.commit).toNat)
  case atStart => exact ⟨A.lg.now.last, rfl, Int.le_refl _, by omega, by rw [HK.out]; exact rfl, (show ModP _ _ _ from (by repeat (first | assumption | exact ModP.refl _ _ | refine ModP.fromPut ?_ (by assumption) | apply ModP.alloc | apply ModP.drew | apply ModP.drewN | refine ModP.put ?_ (by first | (left; assumption) | (left; rfl) | (right; simp only [World.inB, World.size_put] at *; omega)) _ _)))⟩
  case round =>
    obtain ⟨n, rfl, hn1, hn2, H1, H2⟩ := hrel
    have hbu := H2.out.at hb.out (by simp)
    have hcu := hbu.cell
    have ibu := hbu.inB
    unfold SyR at hcu
    by_cases hgt : A.commit < n
    · obtain ⟨k, hkn⟩ : ∃ k : Nat, n = A.commit + (k + 1 : Nat) := ⟨(n - A.commit - 1).toNat, by omega⟩
      have hstep : A.advF (n - A.commit).toNat = if A.good n then n else A.advF k := by
        rw [hkn, show (A.commit + ((k + 1 : Nat) : Int) - A.commit).toNat = k + 1 by omega]; rfl
      have HT := hidIt (c203 (hL.out _ H2.out) Hok.out n)
      obtain ⟨⟨tt, te⟩, htt⟩ : ∃ x, A.lg.now.termAt n = x := ⟨_, rfl⟩
      have hgood : A.good n ↔ (tt = A.el.term ∧ 2 ≤ A.haveK n 3) := by unfold AS.good; rw [htt]
      rw [htt] at HT
      have Hg := hidIt hgood
      have Hst := hidIt hstep
      have Hkn := hidIt hkn
      clear htt hgood hstep hkn hbu
      go_wp2_with (first
        | (go_at_call 203; refine HT.out.mono ?_; rintro _ w3 ⟨rfl, m3⟩; have M3 := hidIt (H2.out.trans m3.toP0); have hb3 := M3.out.at hb.out (by simp); have hc3 := hb3.cell; have ib3 := hb3.inB; unfold SyR at hc3; clear m3 hb3 hcu))
      go_loop [8, 9] (fun hv pv => ∃ j : Nat, j ≤ 3 ∧ pv = vi j ∧ hv = vi (A.haveK n j)) (fun _ pv => 3 - (intOf pv).toNat)
      case atStart => exact ⟨0, by omega, rfl, rfl⟩
      case round =>
        obtain ⟨j, hj, rfl, rfl⟩ := hrel
        have hbd := A.haveK_bd n j
        obtain ⟨bd0, bd1⟩ := hbd
        by_cases hj3 : j < 3
        · have hsu : A.haveK n (j + 1) = A.haveK n j + (if (j : Int) ≠ A.el.id ∧ n ≤ A.mtch j then 1 else 0) := rfl
          by_cases hid : (j : Int) = A.el.id
          · have Hsu : Hid (A.haveK n (j + 1) = A.haveK n j) := by unfold Hid; rw [hsu, if_neg (fun h => h.1 hid)]; omega
            clear hsu
            generalize A.haveK n j = hv at *
            go_wp2_with fail
            go_round
            case rel => exact ⟨j + 1, by omega, by go_num, by rw [Hsu.out]⟩
            case measure => simp [intOf]; omega
          · have hid' : ((j : Int) == A.el.id) = false := by simpa using hid
            by_cases hge : n ≤ A.mtch j
            · have Hsu : Hid (A.haveK n (j + 1) = A.haveK n j + 1) := by unfold Hid; rw [hsu, if_pos ⟨hid, hge⟩]
              clear hsu
              generalize A.haveK n j = hv at *
              go_wp2_with fail
              go_round
              case rel => exact ⟨j + 1, by omega, by go_num, by rw [Hsu.out]⟩
              case measure => simp [intOf]; omega
            · have Hsu : Hid (A.haveK n (j + 1) = A.haveK n j) := by unfold Hid; rw [hsu, if_neg (fun h => hge h.2)]; omega
              clear hsu
              generalize A.haveK n j = hv at *
              go_wp2_with fail
              go_round
              case rel => exact ⟨j + 1, by omega, by go_num, by rw [Hsu.out]⟩
              case measure => simp [intOf]; omega
        · obtain rfl : j = 3 := by omega
          clear hj3 hj
          by_cases hgd : A.good n
          · obtain ⟨g1, g2⟩ := Hg.out.1 hgd
            have hz : Hid (A.advF K = n) := by unfold Hid; rw [H1.out, Hst.out, if_pos hgd]
            have hown := hidIt ((hS.out _ M3.out).own n A.next A.mtch)
            have hb3 := M3.out.at hb.out (by simp)
            clear hgd hc3 ib3 H1 Hst Hg M3 HT
            generalize A.haveK n 3 = hv at *
            obtain ⟨y, rfl, iy⟩ := hb3.door
            rw [World.put_put_same] at hown
            clear hb3
            unfold SyR at *
            go_wp2_with fail
            refine bodyPost_ret (v := .tuple #[]) (by simp [results, Tryz.results211, go_sem]) rfl ?_
            rw [hk.out, hz.out]
            exact ⟨rfl, hown.out⟩
          · have hz : Hid (A.advF K = A.advF (n - 1 - A.commit).toNat) := by
              unfold Hid; rw [H1.out, Hst.out, if_neg hgd, show (n - 1 - A.commit).toNat = k by have := Hkn.out; omega]
            by_cases g1 : tt = A.el.term
            · have g2 : A.haveK n 3 < 2 := by
                rcases Int.lt_or_le (A.haveK n 3) 2 with h | h
                · exact h
                · exact absurd (Hg.out.2 ⟨g1, h⟩) hgd
              clear hgd Hg
              generalize A.haveK n 3 = hv at *
              go_wp2_with fail
              go_roundw
              case rel => exact ⟨n - 1, by go_num, by omega, by omega, hz, M3⟩
              case measure => simp only [intOf]; omega
            · have g1' : (tt == A.el.term) = false := by simpa using g1
              clear hgd Hg
              generalize A.haveK n 3 = hv at *
              go_wp2_with fail
              go_roundw
              case rel => exact ⟨n - 1, by go_num, by omega, by omega, hz, M3⟩
              case measure => simp only [intOf]; omega
    · have hz : Hid (A.advF K = A.commit) := by
        unfold Hid; rw [H1.out, show (n - A.commit).toNat = 0 by omega]; rfl
      go_wp2_with fail
      go_end0
      rw [hk.out, hz.out]
      exact ⟨rfl, hS.out _ H2.out⟩
end
end Go.Proofs.Qxb6500990aGreat
