/- package kv: find, room -/
import Derived.Test.Qxb6500990aGreatKv6
import Derived.Test.Qxb6500990aGreatKt2
set_option linter.unusedVariables false
set_option linter.unusedSimpArgs false
namespace Go.Proofs.Qxb6500990aGreat
open Go Go.RowKit Go.Tw
attribute [local go_sem] World.cell?_put_same World.cell?_put_ne World.cell?_put_ne' World.frozen?_put_same World.frozen?_put_ne World.frozen?_put_ne' World.setCell_put_same World.setCell_put_ne World.setCell_put_ne' World.inB_put World.inB_alloc World.inB_drew World.inB_drewN World.inB_new World.inB_setCell World.put_drew World.put_drewN World.q_setCell_drew World.q_setCell_drewN World.q_alloc_drew World.q_alloc_drewN World.put_put_same World.put_put_2 World.size_put World.q_cell?_alloc_old World.q_frozen?_alloc_old World.cell?_alloc_new' World.frozen?_alloc_new' World.q_setCell_alloc_old World.q_setCell_alloc_new World.q_put_alloc_old World.cell?_force_same World.frozen?_force_same World.cell?_force2_fst World.cell?_force2_snd KvX.g0 KvX.g1 KvX.g2 KvX.g3 KvX.g4 KvX.g5 KvX.g6 KvX.g7 KvX.g8 KvX.g9 KvX.g10 KvX.g11 KvX.g12 KvX.g13 KvX.g14 KvX.g15 KvX.g16 KvX.g17 KvX.g18 KvX.g19 KvX.g20 KvX.g21 KvX.g22 KvX.g23 KvX.g24 KvX.g25 KvX.g26 KvX.g27 KvX.g28 KvX.g29 KvX.g30 KvX.g31 KvX.g32 KvX.g33 KvX.g34 KvX.g35 KvX.g36 KvX.g37 KvX.g38 KvX.g39 KvX.g40 KvX.g41 KvX.g42 KvX.g43 KvX.g44 KvX.g45 KvX.g46 KvX.g47 KvX.g48 KvX.g49 KvX.g50 KvX.g51 KvX.g52 KvX.g53 KvX.g54 KvX.g55 KvX.g56 KvX.g57 KvX.g58 KvX.g59 KvX.g60 KvX.g61 KvX.g62 KvX.g63 KvX.g64 KvX.g65 KvX.g66 KvX.g67 KvX.g68 KvX.g69 KvX.g70 KvX.g71 KvX.g72 KvX.g73 KvX.g74 KvX.g75 KvX.g76 KvX.g77 KvX.g78 KvX.g79 KvX.g80 KvX.g81 KvX.g82 KvX.g83 KvX.gi_cells__0 KvX.gi_cells__1 KvX.gi_cells__2 KvX.gi_cells__3 KvX.gi_cells__4 KvX.gi_cells__5 KvX.gi_cells__6 KvX.gi_cells__7 KvX.gi_ss_0 KvX.gi_ss_1 KvX.gi_ss_2 KvX.gi_ss_3 KvX.gi_ss_4 KvX.gi_ss_5 KvX.gia_cells__1 KvX.gia_cells__2 KvX.gia_cells__3 KvX.gia_cells__4 KvX.gia_cells__5 KvX.gia_cells__6 KvX.gia_cells__7 KvX.gia_ss_1 KvX.gia_ss_2 KvX.gia_ss_3 KvX.gia_ss_4 KvX.gia_ss_5 KvX.pa_cells_ KvX.pa_ss KvX.s64 KvX.s65 Cell.g0 Cell.s0 Cell.g1 Cell.s1 Cell.g2 Cell.s2 Cell.g3 Cell.s3 Cell.g4 Cell.s4 Cell.g5 Cell.s5 Cell.g6 Cell.s6 Cell.g7 Cell.s7 Cell.gi_key_0 Cell.si_key_0 Cell.gi_val_0 Cell.si_val_0
attribute [local go_sem] ba_get
set_option maxHeartbeats 4000000
set_option maxRecDepth 100000
theorem c271 {W : World} {b : Nat} {K : KvX} (h : W.At b K.cells 175) {ps : List (Bs × Bs)} (T : Tab K.cells_ ps) (key : Bs) (hl : key.length ≤ 1000) : Calls Tryz.prog 271 #[vp b, vs key] W fun r w' => ∃ i : Int, r = .returned (vi i) ∧ ModP (fun _ => False) W w' ∧ ((i = -1 ∧ ∀ p ∈ ps, p.1 ≠ key) ∨ ∃ n, n < 8 ∧ i = (n : Nat) ∧ (K.cells_ n).state = 1 ∧ keyS (K.cells_ n) = key) := by
  have HT := hidIt T
  have H := hidIt h
  have q0 := hidIt (c272 W key hl)
  have hlt := hN_lt key
  have e0 := hidIt (hN_eq key)
  generalize eh : hN key = hn at *
  have Eh := hidIt eh
  clear h T eh
  go_enter Tryz.func271, Tryz.ntmps271
  go_wp2_with (go_at_call 272; refine q0.out.mono ?_; rintro _ w0 ⟨rfl, e⟩; obtain rfl := e.symm)
  go_loopw [5, 6] (fun tv nv u => ∃ n p : Nat, n ≤ 8 ∧ nv = vi n ∧ tv = vi p ∧ p < 8 ∧ Hid (p = (hn + n) % 8) ∧ Hid (∀ m, m < n → m < 8 → ¬ ((K.cells_ ((hn + m) % 8)).state = 1 ∧ keyS (K.cells_ ((hn + m) % 8)) = key)) ∧ Hid (u.At b K.cells 175) ∧ Hid (ModP (fun _ => False) W u)) (fun _ nv _ => 8 - (intOf nv).toNat)
  case atStart => exact ⟨0, hn, by omega, rfl, by rw [e0.out], hlt, by unfold Hid; omega, fun m hm => by omega, H, ModP.refl _ _⟩
  case round =>
    clear H q0
    obtain ⟨n, p, hn8, rfl, rfl, p8, ep, H1, H2, H3⟩ := hrel
    have hc := H2.out.cell
    have ib := H2.out.inB
    by_cases hn1 : n < 8
    · have n1 : (n : Int) < 8 := by omega
      have p1 : (p : Int) < 8 := by omega
      have qn := hidIt (fun u => c273 u (p : Int) (by omega) (by omega))
      have en : Hid (vi (((p : Int) + 1) % 8) = vi ((((hn + (n + 1)) % 8 : Nat)) : Int)) := by
        unfold Hid
        rw [show (((p : Int) + 1) % 8) = (((hn + (n + 1)) % 8 : Nat) : Int) from by have := ep.out; omega]
      have stp : Hid (¬ ((K.cells_ p).state = 1 ∧ keyS (K.cells_ p) = key) → ∀ m, m < n + 1 → m < 8 → ¬ ((K.cells_ ((hn + m) % 8)).state = 1 ∧ keyS (K.cells_ ((hn + m) % 8)) = key)) := by
        intro hp m hm hm8
        by_cases e : m = n
        · rw [e, ← ep.out]; exact hp
        · exact H1.out m (by omega) hm8
      rcases HT.out.st p p8 with hs | hs | hs
      · go_wp2_with fail
        go_ret
        refine ⟨-1, rfl, ?_, .inl ⟨rfl, ?_⟩⟩
        · have := H3.out
          exact (by repeat (first | assumption | exact ModP.refl _ _ | refine ModP.fromPut ?_ (by assumption) | apply ModP.alloc | apply ModP.drew | apply ModP.drewN | refine ModP.put ?_ (by first | (left; assumption) | (left; rfl) | (right; simp only [World.inB, World.size_put] at *; omega)) _ _))
        · have ee := ep.out
          have e2 := Eh.out
          subst e2
          subst ee
          exact HT.out.absent (.inr hs) H1.out
      · obtain ⟨k1, k2, _, _⟩ := HT.out.kl p p8 hs
        have q1 := hidIt (fun u => c287 u (K.cells_ p) key (by omega) k2)
        simp only [Cell.cells, hs] at q1
        by_cases hk : keyS (K.cells_ p) = key
        · rw [decide_eq_true hk] at q1
          have hk' := hidIt hk
          clear hk
          go_wp2_with (first
            | (go_at_call 287; refine (q1.out _).mono ?_; rintro _ w1 ⟨rfl, m1⟩; have M1 := hidIt (ModP.trans (ModP.alloc H3.out _) m1); clear m1))
          go_ret
          exact ⟨p, rfl, M1.out, .inr ⟨p, p8, rfl, hs, hk'.out⟩⟩
        · rw [decide_eq_false hk] at q1
          have hk' := hidIt hk
          clear hk
          go_wp2_with (first
            | (go_at_call 287; refine (q1.out _).mono ?_; rintro _ w1 ⟨rfl, m1⟩; have M1 := hidIt (ModP.trans (ModP.alloc H3.out _) m1); have A1 := hidIt (m1.at (World.At.alloc H2.out _) (fun f => f)); clear m1)
            | (go_at_call 273; refine (qn.out _).mono ?_; rintro _ w0 ⟨rfl, e⟩; obtain rfl := e.symm))
          go_roundw
          case rel => exact ⟨n + 1, (hn + (n + 1)) % 8, by omega, by go_num, en.out, by omega, rfl, stp.out (fun x => hk'.out x.2), A1, M1⟩
          case measure => simp [intOf]; omega
      · go_wp2_with (first
            | (go_at_call 273; refine (qn.out _).mono ?_; rintro _ w0 ⟨rfl, e⟩; obtain rfl := e.symm))
        go_roundw
        case rel => exact ⟨n + 1, (hn + (n + 1)) % 8, by omega, by go_num, en.out, by omega, rfl, stp.out (fun x => by rw [hs] at x; exact absurd x.1 (by decide)), World.At.alloc H2.out _, ModP.alloc H3.out _⟩
        case measure => simp [intOf]; omega
    · obtain rfl : n = 8 := by omega
      go_wp2_with fail
      go_ret
      refine ⟨-1, rfl, H3.out, .inl ⟨rfl, ?_⟩⟩
      have e2 := Eh.out
      subst e2
      exact HT.out.absent (.inl rfl) H1.out
theorem c236 {W : World} {b : Nat} {K : KvX} (h : W.At b K.cells 175) {ps : List (Bs × Bs)} (T : Tab K.cells_ ps) (hp : ps.length < 8) (key : Bs) (hl : key.length ≤ 1000) : Calls Tryz.prog 236 #[vp b, vs key] W fun r w' => ∃ d, d < 8 ∧ r = .returned (vi (((hN key + d) % 8 : Nat) : Int)) ∧ w' = W ∧ (K.cells_ ((hN key + d) % 8)).state ≠ 1 ∧ ∀ m, m < d → (K.cells_ ((hN key + m) % 8)).state = 1 := by
  obtain ⟨i0, i08, hi0⟩ := prs_room (f := K.cells_) (by rw [T.len]; exact hp)
  have hlt := hN_lt key
  obtain ⟨d0, d08, ed0⟩ : ∃ d, d < 8 ∧ (hN key + d) % 8 = i0 := ⟨(i0 + 8 - hN key) % 8, by omega, by omega⟩
  have HR : Hid ((K.cells_ ((hN key + d0) % 8)).state ≠ 1) := by rw [ed0]; exact hi0
  have HT := hidIt T
  have hc := h.cell
  have ib := h.inB
  have q0 := hidIt (c272 W key hl)
  have e0 := hidIt (hN_eq key)
  generalize hN key = hn at *
  clear h T ed0 hi0 i08
  go_enter Tryz.func236, Tryz.ntmps236
  go_wp2_with (go_at_call 272; refine q0.out.mono ?_; rintro _ w0 ⟨rfl, e⟩; obtain rfl := e.symm)
  go_loop [5, 6] (fun tv nv => ∃ n p : Nat, n ≤ d0 ∧ nv = vi n ∧ tv = vi p ∧ p < 8 ∧ Hid (p = (hn + n) % 8) ∧ Hid (∀ m, m < n → (K.cells_ ((hn + m) % 8)).state = 1)) (fun _ nv => 8 - (intOf nv).toNat)
  case atStart => exact ⟨0, hn, by omega, rfl, by rw [e0.out], hlt, by unfold Hid; omega, fun m hm => by omega⟩
  case round =>
    clear q0
    obtain ⟨n, p, hn8, rfl, rfl, p8, ep, H1⟩ := hrel
    have n1 : (n : Int) < 8 := by omega
    have p1 : (p : Int) < 8 := by omega
    have qn := hidIt (fun u => c273 u (p : Int) (by omega) (by omega))
    have en : Hid (vi (((p : Int) + 1) % 8) = vi ((((hn + (n + 1)) % 8 : Nat)) : Int)) := by
      unfold Hid
      rw [show (((p : Int) + 1) % 8) = (((hn + (n + 1)) % 8 : Nat) : Int) from by have := ep.out; omega]
    by_cases hs : (K.cells_ p).state = 1
    · have hnd : n ≠ d0 := by
        intro e
        subst e
        exact HR.out (by rw [← ep.out]; exact hs)
      go_wp2_with (first
            | (go_at_call 273; refine (qn.out _).mono ?_; rintro _ w0 ⟨rfl, e⟩; obtain rfl := e.symm))
      go_round
      case rel =>
        refine ⟨n + 1, (hn + (n + 1)) % 8, by omega, by go_num, en.out, by omega, rfl, ?_⟩
        intro m hm
        by_cases e : m = n
        · rw [e, ← ep.out]; exact hs
        · exact H1.out m (by omega)
      case measure => simp [intOf]; omega
    · have d1 : ((K.cells_ p).state == 1) = false := by simpa using hs
      have hs' := hidIt hs
      clear hs
      go_wp2_with fail
      go_ret
      refine ⟨n, by omega, by rw [show ((hn : Int) + n) % 8 = (p : Int) from by have := ep.out; omega]; rfl, rfl, by rw [← ep.out]; exact hs'.out, H1.out⟩
theorem c236_at {W : World} {b : Nat} {K : KvX} (h : W.At b K.cells 175) {ps : List (Bs × Bs)} (T : Tab K.cells_ ps) (hp : ps.length < 8) (key : Bs) (hl : key.length ≤ 1000) {d : Nat} (hn : (K.cells_ ((hN key + d) % 8)).state ≠ 1) (hb : ∀ m, m < d → (K.cells_ ((hN key + m) % 8)).state = 1) : Calls Tryz.prog 236 #[vp b, vs key] W fun r w' => r = .returned (vi (((hN key + d) % 8 : Nat) : Int)) ∧ w' = W := by
  refine (c236 h T hp key hl).mono ?_
  rintro _ _ ⟨d', -, rfl, rfl, n1, b1⟩
  rw [room_one n1 b1 hn hb]
  exact ⟨rfl, rfl⟩
end Go.Proofs.Qxb6500990aGreat
namespace Go.Proofs.Qxb6500990aGreat
open Go Go.RowKit Go.Tw
attribute [local go_sem] World.cell?_put_same World.cell?_put_ne World.cell?_put_ne' World.frozen?_put_same World.frozen?_put_ne World.frozen?_put_ne' World.setCell_put_same World.setCell_put_ne World.setCell_put_ne' World.inB_put World.inB_alloc World.inB_drew World.inB_drewN World.inB_new World.inB_setCell World.put_drew World.put_drewN World.q_setCell_drew World.q_setCell_drewN World.q_alloc_drew World.q_alloc_drewN World.put_put_same World.put_put_2 World.size_put World.q_cell?_alloc_old World.q_frozen?_alloc_old World.cell?_alloc_new' World.frozen?_alloc_new' World.q_setCell_alloc_old World.q_setCell_alloc_new World.q_put_alloc_old World.cell?_force_same World.frozen?_force_same World.cell?_force2_fst World.cell?_force2_snd TableR.g0 TableR.g1 TableR.g2 TableR.g3 TableR.g4 TableR.g5 TableR.g6 TableR.g7 TableR.g8 TableR.g9 TableR.g10 TableR.g11 TableR.g12 TableR.g13 TableR.g14 TableR.g15 TableR.g16 TableR.g17 TableR.g18 TableR.g19 TableR.g20 TableR.g21 TableR.g22 TableR.g23 TableR.g24 TableR.g25 TableR.g26 TableR.g27 TableR.g28 TableR.g29 TableR.g30 TableR.g31 TableR.g32 TableR.g33 TableR.g34 TableR.g35 TableR.g36 TableR.g37 TableR.g38 TableR.g39 TableR.g40 TableR.g41 TableR.g42 TableR.g43 TableR.g44 TableR.g45 TableR.g46 TableR.g47 TableR.g48 TableR.g49 TableR.g50 TableR.g51 TableR.g52 TableR.g53 TableR.g54 TableR.g55 TableR.g56 TableR.g57 TableR.g58 TableR.g59 TableR.g60 TableR.g61 TableR.g62 TableR.g63 TableR.g64 TableR.g65 TableR.gi_cells__0 TableR.gi_cells__1 TableR.gi_cells__2 TableR.gi_cells__3 TableR.gi_cells__4 TableR.gi_cells__5 TableR.gi_cells__6 TableR.gi_cells__7 TableR.gia_cells__1 TableR.gia_cells__2 TableR.gia_cells__3 TableR.gia_cells__4 TableR.gia_cells__5 TableR.gia_cells__6 TableR.gia_cells__7 TableR.s64 TableR.s65 TableR.pa_cells_
attribute [local go_sem] ba_get
set_option maxHeartbeats 4000000
set_option maxRecDepth 100000
theorem t236 {W : World} {b : Nat} {K : TableR} (h : W.At b K.cells 170) {ps : List (Bs × Bs)} (T : Tab K.cells_ ps) (hp : ps.length < 8) (key : Bs) (hl : key.length ≤ 1000) : Calls Tryz.prog 236 #[vp b, vs key] W fun r w' => ∃ d, d < 8 ∧ r = .returned (vi (((hN key + d) % 8 : Nat) : Int)) ∧ w' = W ∧ (K.cells_ ((hN key + d) % 8)).state ≠ 1 ∧ ∀ m, m < d → (K.cells_ ((hN key + m) % 8)).state = 1 := by
  obtain ⟨i0, i08, hi0⟩ := prs_room (f := K.cells_) (by rw [T.len]; exact hp)
  have hlt := hN_lt key
  obtain ⟨d0, d08, ed0⟩ : ∃ d, d < 8 ∧ (hN key + d) % 8 = i0 := ⟨(i0 + 8 - hN key) % 8, by omega, by omega⟩
  have HR : Hid ((K.cells_ ((hN key + d0) % 8)).state ≠ 1) := by rw [ed0]; exact hi0
  have HT := hidIt T
  have hc := h.cell
  have ib := h.inB
  have q0 := hidIt (c272 W key hl)
  have e0 := hidIt (hN_eq key)
  generalize hN key = hn at *
  clear h T ed0 hi0 i08
  go_enter Tryz.func236, Tryz.ntmps236
  go_wp2_with (go_at_call 272; refine q0.out.mono ?_; rintro _ w0 ⟨rfl, e⟩; obtain rfl := e.symm)
  go_loop [5, 6] (fun tv nv => ∃ n p : Nat, n ≤ d0 ∧ nv = vi n ∧ tv = vi p ∧ p < 8 ∧ Hid (p = (hn + n) % 8) ∧ Hid (∀ m, m < n → (K.cells_ ((hn + m) % 8)).state = 1)) (fun _ nv => 8 - (intOf nv).toNat)
  case atStart => exact ⟨0, hn, by omega, rfl, by rw [e0.out], hlt, by unfold Hid; omega, fun m hm => by omega⟩
  case round =>
    clear q0
    obtain ⟨n, p, hn8, rfl, rfl, p8, ep, H1⟩ := hrel
    have n1 : (n : Int) < 8 := by omega
    have p1 : (p : Int) < 8 := by omega
    have qn := hidIt (fun u => c273 u (p : Int) (by omega) (by omega))
    have en : Hid (vi (((p : Int) + 1) % 8) = vi ((((hn + (n + 1)) % 8 : Nat)) : Int)) := by
      unfold Hid
      rw [show (((p : Int) + 1) % 8) = (((hn + (n + 1)) % 8 : Nat) : Int) from by have := ep.out; omega]
    by_cases hs : (K.cells_ p).state = 1
    · have hnd : n ≠ d0 := by
        intro e
        subst e
        exact HR.out (by rw [← ep.out]; exact hs)
      go_wp2_with (first
            | (go_at_call 273; refine (qn.out _).mono ?_; rintro _ w0 ⟨rfl, e⟩; obtain rfl := e.symm))
      go_round
      case rel =>
        refine ⟨n + 1, (hn + (n + 1)) % 8, by omega, by go_num, en.out, by omega, rfl, ?_⟩
        intro m hm
        by_cases e : m = n
        · rw [e, ← ep.out]; exact hs
        · exact H1.out m (by omega)
      case measure => simp [intOf]; omega
    · have d1 : ((K.cells_ p).state == 1) = false := by simpa using hs
      have hs' := hidIt hs
      clear hs
      go_wp2_with fail
      go_ret
      refine ⟨n, by omega, by rw [show ((hn : Int) + n) % 8 = (p : Int) from by have := ep.out; omega]; rfl, rfl, by rw [← ep.out]; exact hs'.out, H1.out⟩
theorem t236_at {W : World} {b : Nat} {K : TableR} (h : W.At b K.cells 170) {ps : List (Bs × Bs)} (T : Tab K.cells_ ps) (hp : ps.length < 8) (key : Bs) (hl : key.length ≤ 1000) {d : Nat} (hn : (K.cells_ ((hN key + d) % 8)).state ≠ 1) (hb : ∀ m, m < d → (K.cells_ ((hN key + m) % 8)).state = 1) : Calls Tryz.prog 236 #[vp b, vs key] W fun r w' => r = .returned (vi (((hN key + d) % 8 : Nat) : Int)) ∧ w' = W := by
  refine (t236 h T hp key hl).mono ?_
  rintro _ _ ⟨d', -, rfl, rfl, n1, b1⟩
  rw [room_one n1 b1 hn hb]
  exact ⟨rfl, rfl⟩
end Go.Proofs.Qxb6500990aGreat
