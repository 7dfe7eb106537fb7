/- package node: num, text, narrow, fits -/
import Derived.Test.Qxb6500990aGreatNo
set_option linter.unusedVariables false
set_option linter.unusedSimpArgs false
namespace Go.Proofs.Qxb6500990aGreat
open Go Go.RowKit Go.Tw
attribute [local go_sem] World.cell?_put_same World.cell?_put_ne World.cell?_put_ne' World.frozen?_put_same World.frozen?_put_ne World.frozen?_put_ne' World.setCell_put_same World.setCell_put_ne World.setCell_put_ne' World.inB_put World.inB_alloc World.inB_drew World.inB_drewN World.inB_new World.inB_setCell World.put_drew World.put_drewN World.q_setCell_drew World.q_setCell_drewN World.q_alloc_drew World.q_alloc_drewN World.put_put_same World.put_put_2 World.size_put World.q_cell?_alloc_old World.q_frozen?_alloc_old World.cell?_alloc_new' World.frozen?_alloc_new' World.q_setCell_alloc_old World.q_setCell_alloc_new World.q_put_alloc_old World.cell?_force_same World.frozen?_force_same World.cell?_force2_fst World.cell?_force2_snd MsgR.g0 MsgR.s0 MsgR.g1 MsgR.s1 MsgR.g2 MsgR.s2 MsgR.g3 MsgR.s3 MsgR.g4 MsgR.s4 MsgR.g5 MsgR.s5 MsgR.g6 MsgR.s6 MsgR.g7 MsgR.s7 MsgR.g8 MsgR.s8 MsgR.g9 MsgR.s9
attribute [local go_sem] ba_get w64_byte
set_option maxHeartbeats 4000000
set_option maxRecDepth 100000
section
variable {W : World} {bw : Nat} {l : List Int}
theorem c267 (h : EncAt W bw l) (hl : l.length + 8 ≤ 234) {v : Int} (v0 : 0 ≤ v) (v1 : v ≤ maxT) : Calls Tryz.prog 267 #[vp bw, vi v] W fun r w' => r = .returned (.tuple #[]) ∧ EncAt w' bw (l ++ be8 v) ∧ ModP (fun k => k = bw) W w' := by
  unfold maxT at v1
  have HC := hidIt h
  have MC := hidIt (ModP.refl (fun k => k = bw) W)
  have e9 : Hid (l ++ be8 v = l ++ [v / 72057594037927936] ++ [v / 281474976710656 % 256] ++ [v / 1099511627776 % 256] ++ [v / 4294967296 % 256] ++ [v / 16777216 % 256] ++ [v / 65536 % 256] ++ [v / 256 % 256] ++ [v % 256]) := by
    unfold Hid be8; simp
  clear h
  go_enter Tryz.func267, Tryz.ntmps267
  go_wp2_with (first
    | (go_at_call 266; refine (c266 HC.out (by first | omega | (simp only [List.length_append, List.length_cons, List.length_nil]; omega)) (by omega) (by omega)).mono ?_; rintro _ w1 ⟨rfl, h1, m1⟩; replace MC := hidIt (MC.out.trans m1); replace HC := hidIt h1; clear h1 m1))
  go_end0
  rw [e9.out]
  exact ⟨rfl, HC.out, MC.out⟩
theorem c268 (h : EncAt W bw l) (s : Bs) (hs : s.length ≤ 255) (hl : l.length + 1 + s.length ≤ 234) : Calls Tryz.prog 268 #[vp bw, vs s] W fun r w' => r = .returned (.tuple #[]) ∧ EncAt w' bw (l ++ (s.length : Int) :: bi s) ∧ ModP (fun k => k = bw) W w' := by
  have HC := hidIt h
  have MC := hidIt (ModP.refl (fun k => k = bw) W)
  clear h
  go_enter Tryz.func268, Tryz.ntmps268
  go_wp2_with (first
    | (go_at_call 266; refine (c266 HC.out (by first | omega | (simp only [List.length_append, List.length_cons, List.length_nil]; omega)) (by omega) (by omega)).mono ?_; rintro _ w1 ⟨rfl, h1, m1⟩; replace MC := hidIt (MC.out.trans m1); replace HC := hidIt h1; clear h1 m1))
  go_loopw [4] (fun kv u => ∃ k : Nat, k ≤ s.length ∧ kv = vi k ∧ Hid (EncAt u bw (l ++ (s.length : Int) :: bi (s.take k))) ∧ Hid (ModP (fun k => k = bw) W u)) (fun kv _ => s.length - (intOf kv).toNat)
  case atStart => exact ⟨0, by omega, rfl, by simpa [bi] using HC, MC⟩
  case round =>
    clear HC MC
    obtain ⟨k, hk, rfl, HC, MC⟩ := hrel
    by_cases hkn : k < s.length
    · have k1 : (k : Int) < s.length := by omega
      have hst := hidIt (take_snoc' s k hkn)
      have hb : (bi (s.take k)).length ≤ k := by rw [bi_length, List.length_take]; omega
      have hx : (s[k].toNat : Int) < 256 := by have := s[k].toNat_lt; omega
      go_wp2_with (first
        | (go_at_call 266; refine (c266 HC.out (by first | omega | (simp only [List.length_append, List.length_cons, List.length_nil]; omega)) (by omega) (by omega)).mono ?_; rintro _ w1 ⟨rfl, h1, m1⟩; replace MC := hidIt (MC.out.trans m1); replace HC := hidIt h1; clear h1 m1))
      go_roundw
      case rel => exact ⟨k + 1, by omega, by go_num, by rw [hst.out]; simpa using HC, MC⟩
      case measure => simp [intOf]; omega
    · have e : Hid (bi (s.take k) = bi s) := by unfold Hid; rw [List.take_of_length_le (by omega)]
      go_wp2_with fail
      go_end0
      have := HC.out
      rw [e.out] at this
      exact ⟨rfl, this, MC.out⟩
theorem c286 (W : World) (v : Int) (v0 : 0 ≤ v) (v1 : v ≤ maxT) : Calls Tryz.prog 286 #[vi v] W fun r w' => r = .returned (.bool true) ∧ w' = W := by
  unfold maxT at v1
  have d1 : decide (v ≥ 0) = true := by simpa using v0
  have d2 : decide (v ≤ 72057594037927936) = true := by simpa using v1
  go_enter Tryz.func286, Tryz.ntmps286
  go_wp2_with fail
  go_ret
  exact ⟨rfl, rfl⟩
theorem c265 {B : Nat} {v : Value} {m : Msg} (hv : EntsAt B W v m.ents) (ok : MsgOk m) : Calls Tryz.prog 265 #[.agg (m.r v).cells] W fun r w' => r = .returned (.bool true) ∧ ModP (fun _ => False) W w' := by
  obtain ⟨ad, cap, rfl, hc⟩ := hv.form
  clear hv
  obtain ⟨k0, k1, f0, f1, o0, o1, t0, t1, i0, i1, l0, l1, c0, c1, n, d, he⟩ := ok
  have q1 := hidIt (fun (u : World) => c286 u m.term t0 t1)
  have q2 := hidIt (fun (u : World) => c286 u m.index i0 i1)
  have q3 := hidIt (fun (u : World) => c286 u m.logTerm l0 l1)
  have q4 := hidIt (fun (u : World) => c286 u m.commit c0 c1)
  obtain ⟨kind, frm, to, term, index, logTerm, commit, okb, ents, data⟩ := m
  unfold Msg.r
  simp only [] at *
  have e1' : (ents.length : Int) ≤ 2 := by omega
  have e2' : (data.length : Int) ≤ 128 := by omega
  have dk0 : decide (kind < 1) = false := by simp; omega
  have dk1 : decide (kind > 5) = false := by simp; omega
  have df0 : decide (frm < 0) = false := by simp; omega
  have df1 : decide (frm ≥ 3) = false := by simp; omega
  have dt0 : decide (to < 0) = false := by simp; omega
  have dt1 : decide (to ≥ 3) = false := by simp; omega
  have Hc := hidIt hc
  have He := hidIt he
  clear hc he k0 k1 f0 f1 o0 o1 t0 t1 i0 i1 l0 l1 c0 c1
  go_enter Tryz.func265, Tryz.ntmps265
  go_wp2_with (first
    | (go_at_call 286; refine (q1.out _).mono ?_; rintro _ w1 ⟨rfl, e⟩; obtain rfl := e.symm; clear q1)
    | (go_at_call 286; refine (q2.out _).mono ?_; rintro _ w1 ⟨rfl, e⟩; obtain rfl := e.symm; clear q2)
    | (go_at_call 286; refine (q3.out _).mono ?_; rintro _ w1 ⟨rfl, e⟩; obtain rfl := e.symm; clear q3)
    | (go_at_call 286; refine (q4.out _).mono ?_; rintro _ w1 ⟨rfl, e⟩; obtain rfl := e.symm; clear q4))
  go_loop [3] (fun i => ∃ k : Nat, k ≤ ents.length ∧ i = vi k) (fun i => ents.length - (intOf i).toNat)
  case atStart => exact ⟨0, Nat.zero_le _, rfl⟩
  case round =>
    obtain ⟨k, hk, rfl⟩ := hrel
    by_cases hlt : k < ents.length
    · obtain ⟨g, rfl, ig, -, hc1, hc2⟩ := Hc.out k ents[k] (List.getElem?_eq_getElem hlt)
      obtain ⟨he1, he2, he3⟩ := He.out ents[k] (List.getElem_mem hlt)
      have q5 := hidIt (fun (u : World) => c286 u ents[k].term he1 he2)
      have he3' : (ents[k].data.length : Int) ≤ 24 := by omega
      generalize ents[k] = en at *
      have gl : g < W.heap.size := ig
      go_wp2_with (first
        | (go_at_call 286; refine (q5.out _).mono ?_; rintro _ w1 ⟨rfl, e⟩; obtain rfl := e.symm; clear q5))
      go_round
      case rel => exact ⟨k + 1, by omega, by go_num⟩
      case measure => simp [intOf]; omega
    · have d9 : decide (k < ents.length) = false := by simpa using hlt
      go_wp2_with fail
      go_ret
      exact ⟨rfl, (by repeat (first | assumption | exact ModP.refl _ _ | refine ModP.fromPut ?_ (by assumption) | apply ModP.alloc | apply ModP.drew | apply ModP.drewN | refine ModP.put ?_ (by first | (left; assumption) | (left; rfl) | (right; simp only [World.inB, World.size_put] at *; omega)) _ _))⟩
end
end Go.Proofs.Qxb6500990aGreat
