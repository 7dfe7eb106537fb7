/- package rlog: load, sweep -/
import Derived.Test.Qxb6500990aGreatRl9
set_option linter.unusedVariables false
set_option linter.unusedSimpArgs false
namespace Go.Tw
open Go Go.Proofs Go.Proofs.Qxb6500990aGreat
/-- the sweep of Open has come to slot k -/
structure Cl (A : AL) (D0 D : Dk) (M k : Nat) : Prop where
  m : Mid A D M
  w : D.wr.length ≤ D0.wr.length + 2 * k
  c : ∀ c, c < k → stUsed D.now c = true → A.now.base < (stRec D.now c).idx
  z : CleanS (stOf (vp 0) D0.now) A.now → D = D0
section
variable {A : AL} {D0 D : Dk} {M k : Nat}
theorem Cl.skip (h : Cl A D0 D M k) (hk : stUsed D.now k = true → A.now.base < (stRec D.now k).idx) : Cl A D0 D M (k + 1) := by
  refine ⟨h.m, by have := h.w; omega, ?_, h.z⟩
  intro c hc hu
  by_cases e : c = k
  · subst e; exact hk hu
  · exact h.c c (by omega) hu
theorem Cl.live (h : Cl A D0 D M k) (hl : ∃ i : Nat, i < A.now.ents.length ∧ slN (A.now.base + 1 + i) = k) : Cl A D0 D M (k + 1) := by
  refine h.skip (fun _ => ?_)
  obtain ⟨i, hi, e⟩ := hl
  have := (h.m.g.rc.up i _ (List.getElem?_eq_getElem hi)).2
  rw [e] at this
  have e2 : stRec D.now k = ⟨A.now.base + 1 + i, _, _⟩ := this
  rw [e2]
  show A.now.base < A.now.base + 1 + i
  omega
theorem Cl.del (h : Cl A D0 D M k) (k6 : k < 6) (hu : stUsed D.now k = true) (hl : ∀ i : Nat, i < A.now.ents.length → slN (A.now.base + 1 + i) ≠ k) : Cl A D0 (D.write (8 + k) (delX D.now k)) M (k + 1) := by
  obtain ⟨u1, u2⟩ := del_used D h.m.g.bl k6
  refine ⟨h.m.del k6 (fun i e he => hl i (List.getElem?_eq_some_iff.1 he).1), ?_, ?_, ?_⟩
  · have := h.w
    simp only [Dk.write, List.length_append, List.length_cons, List.length_nil]; omega
  · intro c hc hu
    rw [u1] at hu
    rw [u2]
    by_cases e : c = k
    · rw [e, upd_same] at hu; cases hu
    · rw [upd_ne _ _ e] at hu ⊢
      exact h.c c (by omega) hu
  · intro hcl
    exfalso
    have e := h.z hcl
    subst e
    have h1 := hcl k k6 hu
    obtain ⟨d1, d2, d3⟩ := h.m.g.rc.dn k k6 hu
    have h1' : A.now.base < (stRec D.now k).idx := h1
    have d3' : (stRec D.now k).idx ≤ A.now.base + A.now.ents.length := d3
    have d1' : slN (stRec D.now k).idx = k := d1
    refine hl ((stRec D.now k).idx - A.now.base - 1).toNat (by omega) ?_
    rw [show A.now.base + 1 + (((stRec D.now k).idx - A.now.base - 1).toNat : Int) = (stRec D.now k).idx by omega]
    exact d1'
end
end Go.Tw
namespace Go.Proofs.Qxb6500990aGreat
open Go Go.RowKit Go.Tw
attribute [local go_sem] World.cell?_put_same World.cell?_put_ne World.cell?_put_ne' World.frozen?_put_same World.frozen?_put_ne World.frozen?_put_ne' World.setCell_put_same World.setCell_put_ne World.setCell_put_ne' World.inB_put World.inB_alloc World.inB_drew World.inB_drewN World.inB_new World.inB_setCell World.put_drew World.put_drewN World.q_setCell_drew World.q_setCell_drewN World.q_alloc_drew World.q_alloc_drewN World.put_put_same World.put_put_2 World.size_put World.q_cell?_alloc_old World.q_frozen?_alloc_old World.cell?_alloc_new' World.frozen?_alloc_new' World.q_setCell_alloc_old World.q_setCell_alloc_new World.q_put_alloc_old World.cell?_force_same World.frozen?_force_same World.cell?_force2_fst World.cell?_force2_snd LogR.g0 LogR.s0 LogR.g1 LogR.s1 LogR.g2 LogR.s2 LogR.g3 LogR.s3 LogR.g4 LogR.s4 LogR.g5 LogR.s5 LogR.g6 LogR.s6 LogR.g7 LogR.s7 LogR.g8 LogR.s8 LogR.g9 LogR.s9 LogR.g10 LogR.s10 LogR.g11 LogR.s11 LogR.g12 LogR.s12 LogR.g13 LogR.s13 LogR.g14 LogR.s14 LogR.g15 LogR.s15 LogR.g16 LogR.s16 LogR.g17 LogR.s17 LogR.g18 LogR.s18 LogR.gi_terms_0 LogR.si_terms_0 LogR.gi_data_0 LogR.si_data_0 Rec.g0 Rec.s0 Rec.g1 Rec.s1 Rec.g2 Rec.s2
attribute [local go_sem] ba_get upd_same upd_upd
set_option maxHeartbeats 4000000
set_option maxRecDepth 100000
section
variable {W : World} {F Fd : Nat → Prop} {bl bt bd : Nat} {A : AL} {D : Dk} {N r M : Nat} {L : LogR}
theorem c62_f (hl : W.At bl L.cells 149) (hst : L.st = vp bt) (sk : SK W Fd bt bd D) {i : Int} (i0 : 0 ≤ i) (i1 : i ≤ 72057594037927937) (hn : stUsed D.now (slN i) = true → (stRec D.now (slN i)).idx ≠ i) :
    Calls Tryz.prog 62 #[vp bl, vi i] W fun x w' => x = .returned (.bool false) ∧ ModP (fun _ => False) W w' := by
  have hc := hl.cell
  have ib := hl.inB
  have q118 := hidIt (fun w => c118 w i i0 (by omega))
  have q119 := hidIt (c119 sk.t ((slN i : Nat) : Int))
  have c6 := slN_lt i
  have hsl : (stOf (vp bd) D.now).slot ((slN i : Nat) : Int) = if stUsed D.now (slN i) = true then (stRec D.now (slN i), 0) else (zRec, 2) := by
    unfold StoreR.slot; rw [if_neg (by omega)]; simp only [Int.toNat_natCast]; rfl
  rw [hsl] at q119
  obtain ⟨st, lt, lv, lb', lbt, lsn, ll', lts, lds⟩ := L
  simp only [] at hst
  subst hst
  clear hl sk hsl i0
  generalize slN i = c at *
  by_cases hu : stUsed D.now c = true
  · have hne := hn hu
    rw [if_pos hu] at q119
    generalize stRec D.now c = q at *
    obtain ⟨qi, qt, qd⟩ := q
    simp only [Rec.cells] at q119 hne
    have e1 : (qi != i) = true := by simp [hne]
    clear hn hu hne
    go_enter Tryz.func62, Tryz.ntmps62
    go_wp2_with (first
      | (go_at_call 118; refine (q118.out _).mono ?_; rintro _ w0 ⟨rfl, e⟩; obtain rfl := e.symm)
      | (go_at_call 119; refine q119.out.mono ?_; rintro _ w1 ⟨rfl, m1⟩; have M1 := hidIt m1; clear m1))
    go_ret
    exact ⟨rfl, M1.out.alloc _⟩
  · rw [if_neg hu] at q119
    simp only [zRec, Rec.cells] at q119
    clear hn hu
    go_enter Tryz.func62, Tryz.ntmps62
    go_wp2_with (first
      | (go_at_call 118; refine (q118.out _).mono ?_; rintro _ w0 ⟨rfl, e⟩; obtain rfl := e.symm)
      | (go_at_call 119; refine q119.out.mono ?_; rintro _ w1 ⟨rfl, m1⟩; have M1 := hidIt m1; clear m1))
    go_ret
    exact ⟨rfl, M1.out.alloc _⟩
theorem c62_t (hl : W.At bl L.cells 149) (hst : L.st = vp bt) (sk : SK W Fd bt bd D) {i : Int} (i0 : 0 ≤ i) (i1 : i ≤ 72057594037927937) (hu : stUsed D.now (slN i) = true) {qt : Int} {qd : Bs} (hr : stRec D.now (slN i) = ⟨i, qt, qd⟩) :
    Calls Tryz.prog 62 #[vp bl, vi i] W fun x w' => x = .returned (.bool true) ∧ w'.At bl (LogR.cells { L with terms := upd L.terms (slN i) qt, data := upd L.data (slN i) qd }) 149 ∧ ModP (fun k => k = bl) W w' := by
  have q118 := hidIt (fun w => c118 w i i0 (by omega))
  have q119 := hidIt (c119 sk.t ((slN i : Nat) : Int))
  have c6 := slN_lt i
  have c6' : ((slN i : Nat) : Int) < 6 := by omega
  have hsl : (stOf (vp bd) D.now).slot ((slN i : Nat) : Int) = (⟨i, qt, qd⟩, 0) := by
    unfold StoreR.slot; rw [if_neg (by omega)]; simp only [Int.toNat_natCast]
    have e : (stOf (vp bd) D.now).used (slN i) = true := hu
    rw [if_pos e]
    exact congrArg (fun x => (x, (0 : Int))) hr
  rw [hsl] at q119
  simp only [Rec.cells] at q119
  have HA := hidIt hl
  have hc := hl.cell
  have ib := hl.inB
  have hlt : bl < W.heap.size := hl.inB
  obtain ⟨st, lt, lv, lb', lbt, lsn, ll', lts, lds⟩ := L
  simp only [] at hst
  subst hst
  clear hl sk hsl i0 hr hu
  generalize slN i = c at *
  go_enter Tryz.func62, Tryz.ntmps62
  go_wp2_with (first
    | (go_at_call 118; refine (q118.out _).mono ?_; rintro _ w0 ⟨rfl, e⟩; obtain rfl := e.symm)
    | (go_at_call 119; refine q119.out.mono ?_; rintro _ w1 ⟨rfl, m1⟩; have M1 := hidIt m1; have ha := m1.at HA.out (fun f => f); clear m1 hc ib; have hz : Hid (W.heap.size ≤ w1.heap.size) := M1.out.size; obtain ⟨y, rfl, iy⟩ := ha.door; clear ha))
  have nb : bl ≠ y.heap.size := by have : bl < y.heap.size := iy; omega
  refine Ord.region3 (fun _ => True) [] [0, 1, 2, 3, 4, 5, 6, 7] (.one 8 false .fin) true (fun _ _ => trivial) (by kernel_rfl) (by kernel_rfl) (fun _ _ d _ _ h => by cases d <;> exact h) trivial ?_
  simp only [Ord.pickO, Ord.nth]
  refine wpQuiet_nil ?_
  repeat (first | go_big_quiet_step (fail) | (go_big_quiet_want; go_big_quiet_op; refine Exists.intro _ ⟨by first | (go_at_call 118; exact q118.out _), ?_⟩; go_big_quiet_on))
  refine wpQuiet_nil ?_
  -- steps: ['N8']
  refine Ord.wpS_next rfl ?_
  intro K hK
  dsimp only [Ord.nth]
  go_wp2_with fail
  refine Ord.wpS_fin ?_
  go_wp2_with fail
  refine Ord.region3 (fun _ => True) [] [0, 1, 2, 3, 4, 5, 6, 7] (.one 8 false .fin) true (fun _ _ => trivial) (by kernel_rfl) (by kernel_rfl) (fun _ _ d _ _ h => by cases d <;> exact h) trivial ?_
  simp only [Ord.pickO, Ord.nth]
  refine wpQuiet_nil ?_
  repeat (first | go_big_quiet_step (fail) | (go_big_quiet_want; go_big_quiet_op; refine Exists.intro _ ⟨by first | (go_at_call 118; exact q118.out _), ?_⟩; go_big_quiet_on))
  refine wpQuiet_nil ?_
  -- steps: ['N8']
  refine Ord.wpS_next rfl ?_
  intro K hK
  dsimp only [Ord.nth]
  go_wp2_with fail
  refine Ord.wpS_fin ?_
  go_wp2_with fail
  go_ret
  refine ⟨rfl, ?_, ?_⟩
  · exact (by repeat (first | assumption | (with_reducible refine World.At_drew.2 ?_) | (with_reducible refine (World.At_drewN _).2 ?_) | (with_reducible exact World.At_put_same (by first | assumption | (simp only [World.inB, World.size_put, World.alloc, World.drew, World.drewN, Array.size_push] at *; omega))) | (with_reducible refine (World.At_put_ne' (by first | assumption | (exact Ne.symm (by assumption)) | (simp only [World.inB, World.size_put] at *; omega))).2 ?_) | (with_reducible exact World.At_alloc_new) | (with_reducible exact at_new (by first | rfl | (simp [World.size_put]; done) | (simp [World.size_put]; omega))) | (with_reducible refine World.At.alloc ?_ _)))
  · have hp : ModP (fun k => k = bl) W y := (M1.out.mono (G := fun k => k = bl) (fun _ f => f.elim)).unput (.inl rfl)
    exact ((((hp.put (.inl rfl) _ _).alloc _).drew.drew))
theorem c63 (hl : W.At bl L.cells 149) (hst : L.st = vp bt) (sk : SK W Fd bt bd D) (nl : ¬ Fd bl) (lb : L.base = A.now.base) (ll : L.last = A.now.last) (m : Mid A D M) (hw : D.wr.length ≤ 100) :
    Calls Tryz.prog 63 #[vp bl] W fun x w' => x = .returned (.tuple #[]) ∧ ∃ Gd D', SK w' Gd bt bd D' ∧ (∀ k, Gd k → Fd k ∨ W.heap.size ≤ k) ∧ Cl A D D' M 6 ∧ w'.At bl L.cells 149 ∧ ModP (fun k => Fd k ∨ k = bt) W w' := by
  have ok := m.g.ok
  have S0 : Hid (∃ Gd D', SK W Gd bt bd D' ∧ (∀ k, Gd k → Fd k ∨ W.heap.size ≤ k) ∧ Cl A D D' M 0) := ⟨Fd, D, sk, fun k a => .inl a, m, by omega, fun c hc => by omega, fun _ => rfl⟩
  have A0 := hidIt hl
  have M0 : Hid (ModP (fun k => Fd k ∨ k = bt) W W) := ModP.refl _ _
  have hbt : bt < W.heap.size := sk.t.inB
  have hbl : bl < W.heap.size := hl.inB
  have nlt : bl ≠ bt := At.neT hl sk.t (by decide)
  have NL := hidIt nl
  obtain ⟨st, lt, lv, lb', lbt, lsn, ll', lts, lds⟩ := L
  simp only [] at hst lb ll
  subst hst
  have hc120 := hidIt (fun (w : World) (ha : w.At bl (LogR.cells ⟨vp bt, lt, lv, lb', lbt, lsn, ll', lts, lds⟩) 149) (c : Nat) (h6 : c < 6) => c120 ha lb ll ok c h6)
  have b0 := ok.b0
  clear hl sk m lb ll ok nl
  go_enter Tryz.func63, Tryz.ntmps63
  go_wp2_with fail
  go_loopw [2] (fun v u => ∃ k : Nat, k ≤ 6 ∧ v = vi k ∧ Hid (∃ Gd D', SK u Gd bt bd D' ∧ (∀ k, Gd k → Fd k ∨ W.heap.size ≤ k) ∧ Cl A D D' M k) ∧ Hid (u.At bl (LogR.cells ⟨vp bt, lt, lv, lb', lbt, lsn, ll', lts, lds⟩) 149) ∧ Hid (ModP (fun k => Fd k ∨ k = bt) W u)) (fun v _ => 6 - (intOf v).toNat)
  case atStart => exact ⟨0, by omega, rfl, S0, A0, M0⟩
  case round =>
    clear S0 A0 M0
    obtain ⟨k, hk, rfl, H1, H2, H3⟩ := hrel
    by_cases hk6 : k < 6
    · obtain ⟨Gd, D', s1, g1, cl⟩ := H1.out
      have k6' : (k : Int) < 6 := by omega
      have hc := H2.out.cell
      have ib := H2.out.inB
      have q119 := hidIt (c119 s1.t (k : Int))
      have hsl : (stOf (vp bd) D'.now).slot (k : Int) = if stUsed D'.now k = true then (stRec D'.now k, 0) else (zRec, 2) := by
        unfold StoreR.slot; rw [if_neg (by omega)]; simp only [Int.toNat_natCast]; rfl
      rw [hsl] at q119
      have S1 := hidIt s1
      have G1 := hidIt g1
      have C1 := hidIt cl
      by_cases hu : stUsed D'.now k = true
      · rw [if_pos hu] at q119
        have hwl := cl.w
        by_cases hlv : ∃ i : Nat, i < A.now.ents.length ∧ slN (A.now.base + 1 + i) = k
        · have CL := hidIt (cl.live hlv)
          have q120 := hidIt (fun (w : World) (ha : w.At bl (LogR.cells ⟨vp bt, lt, lv, lb', lbt, lsn, ll', lts, lds⟩) 149) => (hc120.out w ha k hk6).mono (R' := fun r w' => ∃ j, (j == 0) = false ∧ r = .returned (vi j) ∧ w' = w) (by
            rintro _ w' ⟨j, rfl, rfl, hin⟩
            refine ⟨j, ?_, rfl, rfl⟩
            rcases hin with ⟨i, _, _, rfl⟩ | ⟨_, hno⟩
            · simp; omega
            · obtain ⟨i, h1, h2⟩ := hlv
              exact absurd h2 (hno i h1)))
          generalize stRec D'.now k = q at *
          obtain ⟨qi, qt, qd⟩ := q
          simp only [Rec.cells] at q119
          clear hsl s1 g1 cl hu H1 hc120 hlv
          go_wp2_with (first
            | (go_at_call 119; refine q119.out.mono ?_; rintro _ w1 ⟨rfl, m1⟩; have M1 := hidIt m1; have A1 := hidIt (m1.at H2.out (fun f => f)); have S2 := hidIt (S1.out.frame m1 (fun _ _ f => f) (fun f => f)); clear m1 hc ib; have hc := A1.out.cell; have ib := A1.out.inB)
            | (go_at_call 120; refine Calls.mono (q120.out _ (World.At.alloc A1.out _)) ?_; rintro _ w2 ⟨j, hj, rfl, e⟩; obtain rfl := e.symm))
          go_roundw
          case rel => exact ⟨k + 1, by omega, by go_num, ⟨Gd, D', S2.out.frame (ModP.alloc (ModP.refl (fun _ => False) _) _) (fun _ _ f => f) (fun f => f), G1.out, CL.out⟩, World.At.alloc A1.out _, ModP.alloc (H3.out.trans (M1.out.mono (fun _ f => f.elim))) _⟩
          case measure => simp [intOf]; omega
        · have hno : ∀ i : Nat, i < A.now.ents.length → slN (A.now.base + 1 + i) ≠ k := fun i hi e => hlv ⟨i, hi, e⟩
          have CL := hidIt (cl.del hk6 hu hno)
          have q120 := hidIt (fun (w : World) (ha : w.At bl (LogR.cells ⟨vp bt, lt, lv, lb', lbt, lsn, ll', lts, lds⟩) 149) => (hc120.out w ha k hk6).mono (R' := fun r w' => r = .returned (vi 0) ∧ w' = w) (by
            rintro _ w' ⟨j, rfl, rfl, hin⟩
            rcases hin with ⟨i, h1, h2, rfl⟩ | ⟨rfl, _⟩
            · exact absurd h2 (hno i h1)
            · exact ⟨rfl, rfl⟩))
          have q121 := hidIt (fun (w : World) (m : ModP (fun _ => False) _ w) => k121 (s1.frame m (fun _ _ f => f) (fun f => f)) (by omega) k hk6 hu)
          generalize stRec D'.now k = q at *
          obtain ⟨qi, qt, qd⟩ := q
          simp only [Rec.cells] at q119
          clear hsl s1 g1 cl hu H1 hc120 hlv hno
          go_wp2_with (first
            | (go_at_call 119; refine q119.out.mono ?_; rintro _ w1 ⟨rfl, m1⟩; have M1 := hidIt m1; have A1 := hidIt (m1.at H2.out (fun f => f)); have S2 := hidIt (S1.out.frame m1 (fun _ _ f => f) (fun f => f)); clear m1 hc ib; have hc := A1.out.cell; have ib := A1.out.inB)
            | (go_at_call 120; refine Calls.mono (q120.out _ (World.At.alloc A1.out _)) ?_; rintro _ w2 ⟨rfl, e⟩; obtain rfl := e.symm; clear hc ib; have hc := (World.At.alloc (ob := .cells #[Value.int IntKind.i64 qi, Value.int IntKind.i64 qt, Value.string { data := List.toArray qd }] 136) A1.out).cell; have ib := (World.At.alloc (ob := .cells #[Value.int IntKind.i64 qi, Value.int IntKind.i64 qt, Value.string { data := List.toArray qd }] 136) A1.out).inB)
            | (go_at_call 121; refine Calls.mono (q121.out _ (M1.out.alloc _)) ?_; rintro _ w3 ⟨rfl, sk3, m3⟩; have S3 := hidIt sk3; have M3 := hidIt m3; clear sk3 m3))
          go_roundw
          case rel =>
            have hz := M1.out.size
            have hz3 := H3.out.size
            refine ⟨k + 1, by omega, by go_num, ⟨_, _, S3.out, ?_, CL.out⟩, M3.out.at (World.At.alloc A1.out _) ?_, ?_⟩
            · rintro j (a | a)
              · exact G1.out j a
              · have a1 : (w1.heap.push _).size ≤ j := a.1
                rw [Array.size_push] at a1
                right; omega
            · rintro (a | a)
              · exact (G1.out _ a).elim NL.out (fun b => by omega)
              · exact nlt a
            · refine (ModP.alloc (H3.out.trans (M1.out.mono (fun _ f => f.elim))) _).step M3.out ?_
              rintro j (a | a)
              · exact (G1.out j a).elim (fun b => .inl (.inl b)) .inr
              · exact .inl (.inr a)
          case measure => simp [intOf]; omega
      · have CL := hidIt (cl.skip (fun a => absurd a hu))
        rw [if_neg hu] at q119
        simp only [zRec, Rec.cells] at q119
        clear hsl s1 g1 cl hu H1 hc120
        go_wp2_with (first
          | (go_at_call 119; refine q119.out.mono ?_; rintro _ w1 ⟨rfl, m1⟩; have M1 := hidIt m1; have A1 := hidIt (m1.at H2.out (fun f => f)); have S2 := hidIt (S1.out.frame m1 (fun _ _ f => f) (fun f => f)); clear m1 hc ib; have hc := A1.out.cell; have ib := A1.out.inB))
        go_roundw
        case rel => exact ⟨k + 1, by omega, by go_num, ⟨Gd, D', S2.out.frame (ModP.alloc (ModP.refl (fun _ => False) _) _) (fun _ _ f => f) (fun f => f), G1.out, CL.out⟩, World.At.alloc A1.out _, ModP.alloc (H3.out.trans (M1.out.mono (fun _ f => f.elim))) _⟩
        case measure => simp [intOf]; omega
    · obtain rfl : k = 6 := by omega
      obtain ⟨Gd, D', s1, g1, cl⟩ := H1.out
      have FIN := hidIt (And.intro s1 (And.intro g1 cl))
      clear s1 g1 cl H1 hk hk6
      go_wp2_with fail
      go_end0
      obtain ⟨f1, f2, f3⟩ := FIN.out
      exact ⟨rfl, Gd, D', f1, f2, f3, H2.out, H3.out⟩
end
end Go.Proofs.Qxb6500990aGreat
