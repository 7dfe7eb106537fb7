/- package rlog: what only reads -/
import Derived.Test.Qxb6500990aGreatRl
import Derived.Test.Qxb6500990aGreatStructs2
set_option linter.unusedVariables false
set_option linter.unusedSimpArgs false
namespace Go.Tw
open Go Go.Proofs Go.Proofs.Qxb6500990aGreat
/-- the log's cells L mirror s -/
structure LR (L : LogR) (s : Lg) : Prop where
  t : L.term = s.term
  v : L.vote = s.vote
  b : L.base = s.base
  bt : L.baseTerm = s.baseTerm
  sn : L.snap = s.snap
  l : L.last = s.last
  e : ∀ (i : Nat) (x : Entry), s.ents[i]? = some x → L.terms (slN (s.base + 1 + i)) = x.term ∧ L.data (slN (s.base + 1 + i)) = x.data
theorem LR.at_ {L : LogR} {s : Lg} (h : LR L s) {i : Int} (h1 : s.base < i) (h2 : i ≤ s.last) : s.at_ i = (⟨L.terms (slN i), L.data (slN i)⟩, 0) := by
  unfold Lg.at_
  rw [if_neg (by omega), if_neg (by omega)]
  unfold Lg.last at h2
  have hi : (i - s.base - 1).toNat < s.ents.length := by omega
  have := h.e _ _ (List.getElem?_eq_getElem hi)
  rw [show s.base + 1 + ((i - s.base - 1).toNat : Int) = i by omega] at this
  unfold Lg.ent
  rw [List.getD_eq_getElem?_getD, List.getElem?_eq_getElem hi, this.1, this.2]
  rfl
end Go.Tw
namespace Go.Proofs.Qxb6500990aGreat
open Go Go.RowKit Go.Tw
attribute [local go_sem] World.cell?_put_same World.cell?_put_ne World.cell?_put_ne' World.frozen?_put_same World.frozen?_put_ne World.frozen?_put_ne' World.setCell_put_same World.setCell_put_ne World.setCell_put_ne' World.inB_put World.inB_alloc World.inB_drew World.inB_drewN World.inB_new World.inB_setCell World.put_drew World.put_drewN World.q_setCell_drew World.q_setCell_drewN World.q_alloc_drew World.q_alloc_drewN World.put_put_same World.put_put_2 World.size_put World.q_cell?_alloc_old World.q_frozen?_alloc_old World.cell?_alloc_new' World.frozen?_alloc_new' World.q_setCell_alloc_old World.q_setCell_alloc_new World.q_put_alloc_old World.cell?_force_same World.frozen?_force_same World.cell?_force2_fst World.cell?_force2_snd LogR.g0 LogR.s0 LogR.g1 LogR.s1 LogR.g2 LogR.s2 LogR.g3 LogR.s3 LogR.g4 LogR.s4 LogR.g5 LogR.s5 LogR.g6 LogR.s6 LogR.g7 LogR.s7 LogR.g8 LogR.s8 LogR.g9 LogR.s9 LogR.g10 LogR.s10 LogR.g11 LogR.s11 LogR.g12 LogR.s12 LogR.g13 LogR.s13 LogR.g14 LogR.s14 LogR.g15 LogR.s15 LogR.g16 LogR.s16 LogR.g17 LogR.s17 LogR.g18 LogR.s18 LogR.gi_terms_0 LogR.si_terms_0 LogR.gi_data_0 LogR.si_data_0 Entry.g0 Entry.s0 Entry.g1 Entry.s1
attribute [local go_sem] ba_get
set_option maxHeartbeats 4000000
set_option maxRecDepth 100000
theorem c118 (W : World) (i : Int) (h0 : 0 ≤ i) (h1 : i < 9223372036854775807) : Calls Tryz.prog 118 #[vi i] W fun r w' => r = .returned (vi ((slN i : Nat) : Int)) ∧ w' = W := by
  have hk : Hid (((slN i : Nat) : Int) = i % 6) := by unfold Hid slN; omega
  go_enter Tryz.func118, Tryz.ntmps118
  go_wp2_with fail
  go_ret
  rw [hk.out]
  exact ⟨rfl, rfl⟩
section
variable {W : World} {b : Nat} {L : LogR} {s : Lg}
theorem c66 (h : W.At b L.cells 149) : Calls Tryz.prog 66 #[vp b] W fun r w' => r = .returned (vi L.term) ∧ w' = W := by
  have hc := h.cell
  have ib := h.inB
  clear h
  go_enter Tryz.func66, Tryz.ntmps66
  go_wp2_with fail
  go_ret
  exact ⟨rfl, rfl⟩
theorem c67 (h : W.At b L.cells 149) : Calls Tryz.prog 67 #[vp b] W fun r w' => r = .returned (vi L.vote) ∧ w' = W := by
  have hc := h.cell
  have ib := h.inB
  clear h
  go_enter Tryz.func67, Tryz.ntmps67
  go_wp2_with fail
  go_ret
  exact ⟨rfl, rfl⟩
theorem c69 (h : W.At b L.cells 149) : Calls Tryz.prog 69 #[vp b] W fun r w' => r = .returned (vi L.base) ∧ w' = W := by
  have hc := h.cell
  have ib := h.inB
  clear h
  go_enter Tryz.func69, Tryz.ntmps69
  go_wp2_with fail
  go_ret
  exact ⟨rfl, rfl⟩
theorem c84 (h : W.At b L.cells 149) : Calls Tryz.prog 84 #[vp b] W fun r w' => r = .returned (vi L.baseTerm) ∧ w' = W := by
  have hc := h.cell
  have ib := h.inB
  clear h
  go_enter Tryz.func84, Tryz.ntmps84
  go_wp2_with fail
  go_ret
  exact ⟨rfl, rfl⟩
theorem c85 (h : W.At b L.cells 149) : Calls Tryz.prog 85 #[vp b] W fun r w' => r = .returned (vs L.snap) ∧ w' = W := by
  have hc := h.cell
  have ib := h.inB
  clear h
  go_enter Tryz.func85, Tryz.ntmps85
  go_wp2_with fail
  go_ret
  exact ⟨rfl, rfl⟩
theorem c123 (h : W.At b L.cells 149) : Calls Tryz.prog 123 #[vp b] W fun r w' => r = .returned (vi L.last) ∧ w' = W := by
  have hc := h.cell
  have ib := h.inB
  clear h
  go_enter Tryz.func123, Tryz.ntmps123
  go_wp2_with fail
  go_ret
  exact ⟨rfl, rfl⟩
theorem c177 (h : W.At b L.cells 149) (hL : LR L s) (ok : s.Ok) (i : Int) : Calls Tryz.prog 177 #[vp b, vi i] W fun r w' => r = .returned (.tuple #[.agg (s.at_ i).1.cells, vi (s.at_ i).2]) ∧ ModP (fun _ => False) W w' := by
  have hc := h.cell
  have ib := h.inB
  have lb := hL.b
  have ll := hL.l
  have b0 := ok.b0
  have lm : s.last ≤ maxT := ok.lm
  unfold maxT at lm
  by_cases h1 : i ≤ s.base
  · have hk : Hid (s.at_ i = (zEnt, 7)) := by unfold Hid Lg.at_; rw [if_pos h1]
    have h1' : i ≤ L.base := by omega
    clear lb ll h
    go_enter Tryz.func177, Tryz.ntmps177
    go_wp2_with fail
    refine bodyPost_ret (v := .tuple #[.agg (Entry.cells ⟨0, []⟩), vi 7]) (by simp [results, Tryz.results177, go_sem, Entry.cells]) rfl ?_
    rw [hk.out]
    exact ⟨rfl, (by repeat (first | assumption | exact ModP.refl _ _ | refine ModP.fromPut ?_ (by assumption) | apply ModP.alloc | apply ModP.drew | apply ModP.drewN | refine ModP.put ?_ (by first | (left; assumption) | (left; rfl) | (right; simp only [World.inB, World.size_put] at *; omega)) _ _))⟩
  by_cases h2 : s.last < i
  · have hk : Hid (s.at_ i = (zEnt, 2)) := by unfold Hid Lg.at_; rw [if_neg h1, if_pos h2]
    have h1' : L.base < i := by omega
    have h2' : L.last < i := by omega
    clear lb ll h
    go_enter Tryz.func177, Tryz.ntmps177
    go_wp2_with fail
    refine bodyPost_ret (v := .tuple #[.agg (Entry.cells ⟨0, []⟩), vi 2]) (by simp [results, Tryz.results177, go_sem, Entry.cells]) rfl ?_
    rw [hk.out]
    exact ⟨rfl, (by repeat (first | assumption | exact ModP.refl _ _ | refine ModP.fromPut ?_ (by assumption) | apply ModP.alloc | apply ModP.drew | apply ModP.drewN | refine ModP.put ?_ (by first | (left; assumption) | (left; rfl) | (right; simp only [World.inB, World.size_put] at *; omega)) _ _))⟩
  have hk : Hid (s.at_ i = (⟨L.terms (slN i), L.data (slN i)⟩, 0)) := hL.at_ (by omega) (by omega)
  have h1' : L.base < i := by omega
  have h2' : i ≤ L.last := by omega
  have hsl := hidIt (fun w => c118 w i (by omega) (by omega))
  have c6 : (slN i : Int) < 6 := by have := slN_lt i; omega
  have c6n := slN_lt i
  clear lb ll h h1 h2
  generalize slN i = c at *
  go_enter Tryz.func177, Tryz.ntmps177
  go_wp2_with (first
    | (go_at_call 118; refine (hsl.out _).mono ?_; rintro _ _ ⟨rfl, rfl⟩))
  refine Ord.region1 [] [0, 1, 2, 3, 4, 5, 6, 7, 8, 9, 10, 11, 12] [13, 14] (by kernel_rfl) (by kernel_rfl) (fun _ _ d _ _ h => by cases d <;> exact h) ?_
  simp only [Ord.pickO, Ord.nth]
  refine wpQuiet_nil ?_
  repeat (go_big_quiet_step (fail))
  refine wpQuiet_nil ?_
  go_wp2_with fail
  refine bodyPost_ret (v := .tuple #[.agg (Entry.cells ⟨L.terms c, L.data c⟩), vi 0]) (by simp [results, Tryz.results177, go_sem, Entry.cells]) rfl ?_
  rw [hk.out]
  exact ⟨rfl, (by repeat (first | assumption | exact ModP.refl _ _ | refine ModP.fromPut ?_ (by assumption) | apply ModP.alloc | apply ModP.drew | apply ModP.drewN | refine ModP.put ?_ (by first | (left; assumption) | (left; rfl) | (right; simp only [World.inB, World.size_put] at *; omega)) _ _))⟩
theorem c124 (h : W.At b L.cells 149) (hL : LR L s) (ok : s.Ok) (i : Int) : Calls Tryz.prog 124 #[vp b, vi i] W fun r w' => r = .returned (.tuple #[vi (s.termAt i).1, vi (s.termAt i).2]) ∧ ModP (fun _ => False) W w' := by
  have hat := hidIt (c177 h hL ok i)
  have hc := h.cell
  have ib := h.inB
  have lb := hL.b
  have lt := hL.bt
  by_cases h1 : i = s.base
  · have hk : Hid (s.termAt i = (L.baseTerm, 0)) := by unfold Hid Lg.termAt; rw [if_pos h1, lt]
    have h1' : i = L.base := by omega
    clear lb lt h hat h1
    subst h1'
    go_enter Tryz.func124, Tryz.ntmps124
    go_wp2_with fail
    go_ret2
    rw [hk.out]
    exact ⟨rfl, (by repeat (first | assumption | exact ModP.refl _ _ | refine ModP.fromPut ?_ (by assumption) | apply ModP.alloc | apply ModP.drew | apply ModP.drewN | refine ModP.put ?_ (by first | (left; assumption) | (left; rfl) | (right; simp only [World.inB, World.size_put] at *; omega)) _ _))⟩
  · have hk : Hid (s.termAt i = ((s.at_ i).1.term, (s.at_ i).2)) := by unfold Hid Lg.termAt; rw [if_neg h1]
    have h1' : (i == L.base) = false := by simp; omega
    generalize s.at_ i = q at *
    obtain ⟨⟨qt, qd⟩, qe⟩ := q
    simp only [Entry.cells] at hat
    clear lb lt h h1
    go_enter Tryz.func124, Tryz.ntmps124
    go_wp2_with (first
      | (go_at_call 177; refine hat.out.mono ?_; rintro _ w1 ⟨rfl, m1⟩; have M1 := hidIt m1; clear m1))
    go_ret2
    rw [hk.out]
    exact ⟨rfl, M1.out.alloc _⟩
/-- what indexIn answers -/
def InAt (s : Lg) (c : Nat) (j : Int) : Prop := (∃ i : Nat, i < s.ents.length ∧ slN (s.base + 1 + i) = c ∧ j = s.base + 1 + i) ∨ (j = 0 ∧ ∀ i : Nat, i < s.ents.length → slN (s.base + 1 + i) ≠ c)
theorem c120 (h : W.At b L.cells 149) (lb : L.base = s.base) (ll : L.last = s.last) (ok : s.Ok) (c : Nat) (h6 : c < 6) : Calls Tryz.prog 120 #[vp b, vi c] W fun r w' => ∃ j, r = .returned (vi j) ∧ w' = W ∧ InAt s c j := by
  have hc := h.cell
  have ib := h.inB
  have b0 := ok.b0
  have lm : s.last ≤ maxT := ok.lm
  have n6 := ok.n6
  unfold maxT at lm
  obtain ⟨n, hn⟩ : ∃ n : Nat, n = s.ents.length := ⟨_, rfl⟩
  have hl : L.last = s.base + n := by rw [ll, hn]; rfl
  have lm' : s.base + n ≤ 72057594037927936 := by have : s.last = s.base + n := by rw [hn]; rfl
                                                  omega
  unfold InAt
  rw [← hn] at *
  generalize s.base = B at *
  clear h ll lm hn
  go_enter Tryz.func120, Tryz.ntmps120
  go_wp2_with fail
  go_loop [5] (fun v => ∃ k : Nat, k ≤ n ∧ v = vi (B + 1 + k) ∧ Hid (∀ i : Nat, i < k → slN (B + 1 + i) ≠ c)) (fun v => (B + 1 + n - intOf v).toNat)
  case atStart => exact ⟨0, by omega, by simp, by intro i hi; omega⟩
  case round =>
    obtain ⟨k, hk, rfl, hno⟩ := hrel
    by_cases hlt : k < n
    · have hle : B + 1 + (k : Int) ≤ L.last := by omega
      have hsl := hidIt (fun w => c118 w (B + 1 + k) (by omega) (by omega))
      by_cases he : slN (B + 1 + k) = c
      · have He := hidIt he
        rw [he] at hsl
        clear he
        go_wp2_with (first
          | (go_at_call 118; refine (hsl.out _).mono ?_; rintro _ _ ⟨rfl, rfl⟩))
        go_ret
        exact ⟨_, rfl, rfl, .inl ⟨k, hlt, He.out, rfl⟩⟩
      · have He := hidIt he
        have he' : (((slN (B + 1 + k) : Nat) : Int) == (c : Int)) = false := by simp; omega
        clear he
        obtain ⟨q, hq⟩ : ∃ q, q = slN (B + 1 + k) := ⟨_, rfl⟩
        rw [← hq] at hsl he'
        clear hq
        go_wp2_with (first
          | (go_at_call 118; refine (hsl.out _).mono ?_; rintro _ _ ⟨rfl, rfl⟩))
        go_round
        case rel => exact ⟨k + 1, by omega, by go_num, by
          intro i hi
          by_cases hik : i = k
          · subst hik; exact He.out
          · exact hno.out i (by omega)⟩
        case measure => simp [intOf]; omega
    · have hle : L.last < B + 1 + (k : Int) := by omega
      obtain rfl : k = n := by omega
      go_wp2_with fail
      go_ret
      exact ⟨_, rfl, rfl, .inr ⟨rfl, hno.out⟩⟩
end
end Go.Proofs.Qxb6500990aGreat
