/- package nodelaw: AlikeKV, Alike, Match -/
import Derived.Test.Qxb6500990aGreatLa7
set_option linter.unusedVariables false
set_option linter.unusedSimpArgs false
namespace Go.Proofs.Qxb6500990aGreat
open Go Go.RowKit Go.Tw
attribute [local go_sem] World.cell?_put_same World.cell?_put_ne World.cell?_put_ne' World.frozen?_put_same World.frozen?_put_ne World.frozen?_put_ne' World.setCell_put_same World.setCell_put_ne World.setCell_put_ne' World.inB_put World.inB_alloc World.inB_drew World.inB_drewN World.inB_new World.inB_setCell World.put_drew World.put_drewN World.q_setCell_drew World.q_setCell_drewN World.q_alloc_drew World.q_alloc_drewN World.put_put_same World.put_put_2 World.size_put World.q_cell?_alloc_old World.q_frozen?_alloc_old World.cell?_alloc_new' World.frozen?_alloc_new' World.q_setCell_alloc_old World.q_setCell_alloc_new World.q_put_alloc_old World.cell?_force_same World.frozen?_force_same World.cell?_force2_fst World.cell?_force2_snd
attribute [local go_sem] ba_get ba_eq ba_beq upd_same upd_upd
set_option maxHeartbeats 4000000
set_option maxRecDepth 100000
section
variable {W w : World} {q : NoP} {p : MoP} {n m : AN}
theorem boolNe {b : Bool} {E K : Prop} (hb : b = true ↔ E) (he : K → E) : (b = false ∧ ¬ K) ∨ b = true := by
  cases b
  · exact .inl ⟨rfl, fun k => by have := hb.2 (he k); cases this⟩
  · exact .inr rfl
theorem c53 (h : Two W q p n m) (key : Bs) : Calls Tryz.prog 53 #[vp q.b, vp p.b, vs key] W fun r w' => ∃ b, r = .returned (.bool b) ∧ (n.kv = m.kv → b = true) ∧ ModP (fun _ => False) W w' := by
  have h1 := hidIt (c106 h)
  have h2 := hidIt (fun w' (e : ModP (fun _ => False) W w') => by obtain ⟨G, hm⟩ := (h.fr e).mo; exact c112 hm)
  have h3 := hidIt (fun w' (e : ModP (fun _ => False) W w') i => c107 (h.fr e) i)
  have h4 := hidIt (fun w' (e : ModP (fun _ => False) W w') i => by obtain ⟨G, hm⟩ := (h.fr e).mo; exact c113 hm h.ok.kv i)
  have h5 := hidIt (fun w' (e : ModP (fun _ => False) W w') k => c104 (h.fr e) k)
  have h6 := hidIt (fun w' (e : ModP (fun _ => False) W w') i => c108 (h.fr e) i)
  have l1 : m.kv.ps.length ≤ 4 := h.ok.kv.n4
  clear h
  generalize hP : (fun (r : Ending) (w' : World) => ∃ b, r = .returned (.bool b) ∧ (n.kv = m.kv → b = true) ∧ ModP (fun _ => False) W w') = P
  have HN : Hid (∀ w', n.kv ≠ m.kv → ModP (fun _ => False) W w' → P (.returned (.bool false)) w') := by
    subst hP; exact fun w' a b => ⟨false, rfl, fun e => absurd e a, b⟩
  have HY : Hid (∀ w', ModP (fun _ => False) W w' → P (.returned (.bool true)) w') := by
    subst hP; exact fun w' b => ⟨true, rfl, fun _ => rfl, b⟩
  clear hP
  go_enter Tryz.func53, Tryz.ntmps53
  go_wp2_with (first
    | (go_at_call 106; refine h1.out.mono ?_; rintro _ w1 ⟨b, rfl, hb, m1⟩; have M1 := hidIt m1; have hb' := boolNe (K := n.kv = m.kv) hb (fun e => by rw [e]); clear m1 hb; rcases hb' with ⟨rfl, hl⟩ | rfl)
    | (go_at_call 112; refine (h2.out _ M1.out).mono ?_; rintro _ w2 ⟨rfl, e⟩; obtain rfl := e.symm))
  · exact HN.out _ hl M1.out
  · obtain ⟨L, hL⟩ : ∃ L : Int, (m.kv.ps.length : Int) = L := ⟨_, rfl⟩
    have lb : 0 ≤ L ∧ L ≤ 4 := by omega
    rw [hL]
    clear hL l1
    go_loopw [8] (fun iv u => ∃ i : Int, iv = vi i ∧ (-1 ≤ i ∧ i ≤ L + 1) ∧ Hid (ModP (fun _ => False) W u)) (fun iv _ => (L + 1 - intOf iv).toNat)
    case atStart => exact ⟨-1, rfl, by omega, M1⟩
    case round =>
      obtain ⟨i, rfl, ⟨i0, i1⟩, M⟩ := hrel
      by_cases hi : i ≤ L
      · have di : decide (i ≤ L) = true := by simpa using hi
        have HI := hidIt hi
        clear hi
        go_wp2_with (first
          | (go_at_call 107; refine (h3.out _ M.out i).mono ?_; rintro _ w3 ⟨b, rfl, hb, m3⟩; have M3 := hidIt (M.out.trans m3); have hb' := boolNe (K := n.kv = m.kv) hb (fun e => by rw [e]); clear m3 hb; rcases hb' with ⟨rfl, hl⟩ | rfl)
          | (go_at_call 113; refine (h4.out _ M3.out i).mono ?_; rintro _ w4 ⟨rfl, e⟩; obtain rfl := e.symm)
          | (go_at_call 104; refine (h5.out _ M3.out (m.kv.keyAt i)).mono ?_; rintro _ w5 ⟨b, rfl, hb, m5⟩; have M5 := hidIt (M3.out.trans m5); have hb' := boolNe (K := n.kv = m.kv) hb (fun e => by rw [e]); clear m5 hb; rcases hb' with ⟨rfl, hl⟩ | rfl))
        · exact HN.out _ hl M3.out
        · exact HN.out _ hl M5.out
        · go_roundw
          case rel => exact ⟨i + 1, by go_num, by have := HI.out; omega, M5⟩
          case measure => have hi := HI.out; simp only [intOf]; omega
      · have di : decide (i ≤ L) = false := by simpa using hi
        clear hi
        go_wp2_with (first
          | (go_at_call 104; refine (h5.out _ M.out key).mono ?_; rintro _ w5 ⟨b, rfl, hb, m5⟩; have M5 := hidIt (M.out.trans m5); have hb' := boolNe (K := n.kv = m.kv) hb (fun e => by rw [e]); clear m5 hb; rcases hb' with ⟨rfl, hl⟩ | rfl))
        · exact HN.out _ hl M5.out
        · go_loopw [10] (fun iv u => ∃ i : Int, iv = vi i ∧ (-1 ≤ i ∧ i ≤ 4) ∧ Hid (ModP (fun _ => False) W u)) (fun iv _ => (4 - intOf iv).toNat)
          case atStart => exact ⟨-1, rfl, by omega, M5⟩
          case round =>
            obtain ⟨j, rfl, ⟨j0, j1⟩, M6⟩ := hrel
            by_cases hj : j ≤ 3
            · have dj : decide (j ≤ 3) = true := by simpa using hj
              have HJ := hidIt hj
              clear hj
              go_wp2_with (first
                | (go_at_call 108; refine (h6.out _ M6.out j).mono ?_; rintro _ w7 ⟨b, rfl, hb, m7⟩; have M7 := hidIt (M6.out.trans m7); have hb' := boolNe (K := n.kv = m.kv) hb (fun e => by rw [e]); clear m7 hb; rcases hb' with ⟨rfl, hl⟩ | rfl))
              · exact HN.out _ hl M7.out
              · go_roundw
                case rel => exact ⟨j + 1, by go_num, by have := HJ.out; omega, M7⟩
                case measure => have hi := HJ.out; simp only [intOf]; omega
            · have dj : decide (j ≤ 3) = false := by simpa using hj
              clear hj
              go_wp2_with fail
              exact HY.out _ M6.out
theorem c28 (h : Two W q p n m) (hu : n.used = m.used) (hs : n.seq = m.seq) (hi : n.idx = m.idx) (key : Bs) : Calls Tryz.prog 28 #[vp q.b, vp p.b, vs key] W fun r w' => ∃ b, r = .returned (.bool b) ∧ (b = true → LogLike n m) ∧ (LogLike n m → n.kv = m.kv → b = true) ∧ ModP (fun _ => False) W w' := by
  have h1 := hidIt (c52 h hu hs hi)
  have h2 := hidIt (fun w' (e : ModP (fun _ => False) W w') => c53 (h.fr e) key)
  clear h hu hs hi
  generalize LogLike n m = V at *
  generalize hP : (fun (r : Ending) (w' : World) => ∃ b, r = .returned (.bool b) ∧ (b = true → V) ∧ (V → n.kv = m.kv → b = true) ∧ ModP (fun _ => False) W w') = P
  have HP : Hid (∀ w' b, (b = true → V) → (V → n.kv = m.kv → b = true) → ModP (fun _ => False) W w' → P (.returned (.bool b)) w') := by
    subst hP; exact fun w' b a1 a2 a3 => ⟨b, rfl, a1, a2, a3⟩
  clear hP
  go_enter Tryz.func28, Tryz.ntmps28
  go_wp2_with (first
    | (go_at_call 52; refine h1.out.mono ?_; rintro _ w1 ⟨b, rfl, hb, m1⟩; have M1 := hidIt m1; have hb' : (b = false ∧ ¬ V) ∨ (b = true ∧ V) := (by cases b <;> simp_all); clear m1 hb; rcases hb' with ⟨rfl, hl⟩ | ⟨rfl, hl⟩ <;> (have HL := hidIt hl; clear hl))
    | (go_at_call 53; refine (h2.out _ M1.out).mono ?_; rintro _ w2 ⟨b, rfl, hb, m2⟩; have M2 := hidIt (M1.out.trans m2); have HB := hidIt hb; clear m2 hb))
  · exact HP.out _ _ (fun h => by cases h) (fun v => absurd v HL.out) M1.out
  · exact HP.out _ _ (fun _ => HL.out) (fun _ e => HB.out e) M2.out
end
end Go.Proofs.Qxb6500990aGreat
