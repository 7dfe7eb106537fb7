/- package node: decode -/
import Derived.Test.Qxb6500990aGreatNo5
set_option linter.unusedVariables false
set_option linter.unusedSimpArgs false
namespace Go.Tw
open Go Go.Proofs Go.Proofs.Qxb6500990aGreat Go.RowKit
def DecR (W : World) (l : Bs) (r : Ending) (w' : World) : Prop := ModP (fun _ => False) W w' ∧ match decMsg l with
  | none => r = .returned (.tuple #[.agg (zMsg.r (.slice none 0 0)).cells, .bool false])
  | some m => ∃ v, r = .returned (.tuple #[.agg (m.r v).cells, .bool true]) ∧ EntsAt W.heap.size w' v m.ents
theorem DecR.none {W : World} {l : Bs} {w' : World} (h : decMsg l = none) (m : ModP (fun _ => False) W w') : DecR W l (.returned (.tuple #[.agg (zMsg.r (.slice none 0 0)).cells, .bool false])) w' := by
  refine ⟨m, ?_⟩; rw [h]
/-- what lies where while a message is read -/
structure DcB (W : World) (l : Bs) (e p : Nat) (bad : Bool) (M : MsgR) (es : List Entry) (u : World) : Prop where
  dr : u.At (W.heap.size + 1) (Dec.cells ⟨l, p, e, bad⟩) 260
  t2 : u.At W.heap.size (zMsg.r (.slice none 0 0)).cells 159
  t7 : u.At (W.heap.size + 2) M.cells 159
  ea : EntsAt (W.heap.size + 3) u M.ents es
  md : ModP (fun _ => False) W u
section
variable {W u u' : World} {l : Bs} {e p p' : Nat} {bad bad' : Bool} {M : MsgR} {es : List Entry}
theorem DcB.rd (h : DcB W l e p bad M es u) (a : u'.At (W.heap.size + 1) (Dec.cells ⟨l, p', e, bad'⟩) 260) (m : ModP (fun x => x = W.heap.size + 1) u u') : DcB W l e p' bad' M es u' :=
  ⟨a, m.at h.t2 (by omega), m.at h.t7 (by omega), ownsRow_frame h.ea m (fun g hg e => by have := (ownsRow_block h.ea hg).2; omega), h.md.step m (fun k e => .inr (by omega))⟩
theorem DcB.door (h : DcB W l e p bad M es u) : ∃ y : World, u = y.put (W.heap.size + 2) M.cells 159 ∧ y.inB (W.heap.size + 2) ∧ ∀ M' : MsgR, M'.ents = M.ents → DcB W l e p bad M' es (y.put (W.heap.size + 2) M'.cells 159) := by
  obtain ⟨y, e1, i⟩ := h.t7.door
  refine ⟨y, e1, i, fun M' hM => ?_⟩
  subst e1
  have m : ModP (fun x => x = W.heap.size + 2) (y.put (W.heap.size + 2) M.cells 159) (y.put (W.heap.size + 2) M'.cells 159) := ModP.fromPut (ModP.put (F := fun x => x = W.heap.size + 2) (ModP.refl _ _) (.inl rfl) _ _) rfl
  refine ⟨m.at h.dr (by omega), m.at h.t2 (by omega), World.At_put_same i, ?_, h.md.step m (fun k e => .inr (by omega))⟩
  rw [hM]
  exact ownsRow_frame h.ea m (fun g hg e => by have := (ownsRow_block h.ea hg).2; omega)
/-- an entry is appended -/
theorem DcB.app (h : DcB W l e p bad M es u) {ob : Obj} (m : Mod M.ents.ownBlock.toList (u.alloc ob) u') {v' : Value} {en : Entry} (o : u'.ownsRow (W.heap.size + 3) 232 2 v' (es.length + 1) (entsC es ++ [vi en.term, vs en.data])) :
    ∃ z : World, u' = z.put (W.heap.size + 2) M.cells 159 ∧ z.inB (W.heap.size + 2) ∧ DcB W l e p bad { M with ents := v' } (es ++ [en]) (z.put (W.heap.size + 2) (MsgR.cells { M with ents := v' }) 159) := by
  have mp : ModP (fun k => W.heap.size + 3 ≤ k) u u' := ((ModP.refl _ _).alloc _).trans (m.toP fun g hg => (ownsRow_block h.ea (Option.mem_toList.1 hg)).2)
  have h7 := mp.at h.t7 (by omega)
  obtain ⟨z, e1, i⟩ := h7.door
  refine ⟨z, e1, i, ?_⟩
  subst e1
  have m2 : ModP (fun x => x = W.heap.size + 2) (z.put (W.heap.size + 2) M.cells 159) (z.put (W.heap.size + 2) (MsgR.cells { M with ents := v' }) 159) := ModP.fromPut (ModP.put (F := fun x => x = W.heap.size + 2) (ModP.refl _ _) (.inl rfl) _ _) rfl
  refine ⟨m2.at (mp.at h.dr (by omega)) (by omega), m2.at (mp.at h.t2 (by omega)) (by omega), World.At_put_same i, ?_, (h.md.step mp (fun k e => .inr (by omega))).step m2 (fun k e => .inr (by omega))⟩
  have o2 := ownsRow_frame o m2 (fun g hg e => by have := (ownsRow_block o hg).2; omega)
  unfold EntsAt
  rw [entsC_snoc, List.length_append]
  exact o2
theorem DcB.drew (h : DcB W l e p bad M es u) : DcB W l e p bad M es u.drew := ⟨h.dr, h.t2, h.t7, h.ea, h.md.drew⟩
end
end Go.Tw
namespace Go.Proofs.Qxb6500990aGreat
open Go Go.RowKit Go.Tw
attribute [local go_sem] World.cell?_put_same World.cell?_put_ne World.cell?_put_ne' World.frozen?_put_same World.frozen?_put_ne World.frozen?_put_ne' World.setCell_put_same World.setCell_put_ne World.setCell_put_ne' World.inB_put World.inB_alloc World.inB_drew World.inB_drewN World.inB_new World.inB_setCell World.put_drew World.put_drewN World.q_setCell_drew World.q_setCell_drewN World.q_alloc_drew World.q_alloc_drewN World.put_put_same World.put_put_2 World.size_put World.q_cell?_alloc_old World.q_frozen?_alloc_old World.cell?_alloc_new' World.frozen?_alloc_new' World.q_setCell_alloc_old World.q_setCell_alloc_new World.q_put_alloc_old World.cell?_force_same World.frozen?_force_same World.cell?_force2_fst World.cell?_force2_snd MsgR.g0 MsgR.s0 MsgR.g1 MsgR.s1 MsgR.g2 MsgR.s2 MsgR.g3 MsgR.s3 MsgR.g4 MsgR.s4 MsgR.g5 MsgR.s5 MsgR.g6 MsgR.s6 MsgR.g7 MsgR.s7 MsgR.g8 MsgR.s8 MsgR.g9 MsgR.s9 Dec.g0 Dec.s0 Dec.g1 Dec.s1 Dec.g2 Dec.s2 Dec.g3 Dec.s3
attribute [local go_sem] ba_get w64_byte ByteArray.extract_mk
set_option maxHeartbeats 4000000
set_option maxRecDepth 100000
section
variable {W : World} {bd : Nat} {l : Bs} {e p : Nat} {bad : Bool}
theorem k191 (h : W.At bd (Dec.cells ⟨l, p, e, bad⟩) 260) (he : e ≤ l.length) (hl : l.length ≤ 1000) (hp : p ≤ e) : Calls Tryz.prog 191 #[vp bd] W fun r w' => ∃ v p' b', oneD l e p bad = (v, p', b') ∧ p' ≤ e ∧ r = .returned (vi v) ∧ w'.At bd (Dec.cells ⟨l, p', e, b'⟩) 260 ∧ ModP (fun x => x = bd) W w' := by
  refine (c191 h he hl).mono ?_
  rintro r w' ⟨h1, h2, h3⟩
  exact ⟨_, _, _, rfl, (oneD_bd hp).2.2, h1, h2, h3⟩
theorem k192 (h : W.At bd (Dec.cells ⟨l, p, e, bad⟩) 260) (he : e ≤ l.length) (hl : l.length ≤ 1000) (hp : p ≤ e) : Calls Tryz.prog 192 #[vp bd] W fun r w' => ∃ v p' b', numD l e p bad = (v, p', b') ∧ p' ≤ e ∧ r = .returned (vi v) ∧ w'.At bd (Dec.cells ⟨l, p', e, b'⟩) 260 ∧ ModP (fun x => x = bd) W w' := by
  refine (c192 h he hl hp).mono ?_
  rintro r w' ⟨h1, h2, h3⟩
  exact ⟨_, _, _, rfl, (numD_bd hp).2.2, h1, h2, h3⟩
theorem textD_bd {most : Int} (hp : p ≤ e) : (textD l e most p bad).2.1 ≤ e := by
  have := oneD_bd (l := l) (bad := bad) hp
  unfold textD
  split
  · exact this.2.2
  · simp only []; omega
theorem k193 (h : W.At bd (Dec.cells ⟨l, p, e, bad⟩) 260) (he : e ≤ l.length) (hl : l.length ≤ 1000) (hp : p ≤ e) (most : Int) : Calls Tryz.prog 193 #[vp bd, vi most] W fun r w' => ∃ v p' b', textD l e most p bad = (v, p', b') ∧ p' ≤ e ∧ r = .returned (vs v) ∧ w'.At bd (Dec.cells ⟨l, p', e, b'⟩) 260 ∧ ModP (fun x => x = bd) W w' := by
  refine (c193 h he hl hp most).mono ?_
  rintro r w' ⟨h1, h2, h3⟩
  exact ⟨_, _, _, rfl, textD_bd hp, h1, h2, h3⟩
theorem c134_len (W : World) (l : Bs) (h : l.length < 40 ∨ 234 < l.length) : Calls Tryz.prog 134 #[vs l] W (DecR W l) := by
  have hk : Hid (decMsg l = none) := by unfold Hid decMsg; rw [if_pos h]
  rcases h with h | h
  · have d1 : decide ((l.length : Int) < 40) = true := by simp; omega
    clear h
    go_enter Tryz.func134, Tryz.ntmps134
    go_wp2_with fail
    refine bodyPost_ret (v := .tuple #[.agg (zMsg.r (.slice none 0 0)).cells, .bool false]) (by simp [results, Tryz.results134, go_sem, zMsg, Msg.r, MsgR.cells]) rfl (DecR.none hk.out (by repeat (first | assumption | exact ModP.refl _ _ | refine ModP.fromPut ?_ (by assumption) | apply ModP.alloc | apply ModP.drew | apply ModP.drewN | refine ModP.put ?_ (by first | (left; assumption) | (left; rfl) | (right; simp only [World.inB, World.size_put] at *; omega)) _ _)))
  · have d1 : decide ((l.length : Int) < 40) = false := by simp; omega
    have d2 : decide ((l.length : Int) > 234) = true := by simp; omega
    clear h
    go_enter Tryz.func134, Tryz.ntmps134
    go_wp2_with fail
    refine bodyPost_ret (v := .tuple #[.agg (zMsg.r (.slice none 0 0)).cells, .bool false]) (by simp [results, Tryz.results134, go_sem, zMsg, Msg.r, MsgR.cells]) rfl (DecR.none hk.out (by repeat (first | assumption | exact ModP.refl _ _ | refine ModP.fromPut ?_ (by assumption) | apply ModP.alloc | apply ModP.drew | apply ModP.drewN | refine ModP.put ?_ (by first | (left; assumption) | (left; rfl) | (right; simp only [World.inB, World.size_put] at *; omega)) _ _)))
theorem c134_sum (W : World) (l : Bs) (h0 : 40 ≤ l.length) (h1 : l.length ≤ 234) (hs : sumF (bi (l.take (l.length - 2))) ≠ byt l (l.length - 2) * 256 + byt l (l.length - 1)) : Calls Tryz.prog 134 #[vs l] W (DecR W l) := by
  have hk : Hid (decMsg l = none) := by unfold Hid decMsg; rw [if_neg (by omega), if_pos hs]
  obtain ⟨e, he⟩ : ∃ e, e = l.length - 2 := ⟨_, rfl⟩
  rw [← he] at hs
  have el : l.length = e + 2 := by omega
  have q := hidIt (fun u => c190 u l e (by omega) (by omega))
  have d1 : decide ((l.length : Int) < 40) = false := by simp; omega
  have d2 : decide ((l.length : Int) > 234) = false := by simp; omega
  have s1 : (l.length : Int) - 2 = (e : Int) := by omega
  obtain ⟨e1, he1⟩ : ∃ e1 : Nat, e1 = e + 1 := ⟨_, rfl⟩
  have s2 : (e : Int) + 1 = (e1 : Int) := by omega
  have i1 : e < l.length := by omega
  have i2 : e1 < l.length := by omega
  have i3 : (e : Int) < l.length := by omega
  have i4 : (e1 : Int) < l.length := by omega
  have b1 := byte_lt l[e]
  have b2 := byte_lt l[e1]
  have hb : byt l e = (l[e].toNat : Int) := by unfold byt; simp [List.getD_eq_getElem?_getD, i1]
  have hb2 : byt l (l.length - 1) = (l[e1].toNat : Int) := by rw [show l.length - 1 = e1 by omega]; unfold byt; simp [List.getD_eq_getElem?_getD, i2]
  rw [hb, hb2] at hs
  have ho : bits .or .i64 ((l[e].toNat : Int) * 256) (l[e1].toNat : Int) = (l[e].toNat : Int) * 256 + (l[e1].toNat : Int) := or_byte2 _ _ (by omega) (by omega) (by omega) (by omega)
  have dn : (sumF (bi (l.take e)) != (l[e].toNat : Int) * 256 + (l[e1].toNat : Int)) = true := by simpa using hs
  clear hb hb2 he he1 el hs
  generalize sumF (bi (l.take e)) = sm at *
  go_enter Tryz.func134, Tryz.ntmps134
  go_wp2_with (first
    | (go_at_call 190; refine (q.out _).mono ?_; rintro _ w1 ⟨rfl, ee⟩; obtain rfl := ee.symm))
  refine Ord.region1 [] [0, 1, 2, 3, 4, 5, 6, 7, 8, 9, 10, 11] [12] (by kernel_rfl) (by kernel_rfl) (fun _ _ d _ _ h => by cases d <;> exact h) ?_
  simp only [Ord.pickO, Ord.nth]
  refine wpQuiet_nil ?_
  repeat (go_big_quiet_step (fail))
  refine wpQuiet_nil ?_
  go_wp2_with fail
  refine bodyPost_ret (v := .tuple #[.agg (zMsg.r (.slice none 0 0)).cells, .bool false]) (by simp [results, Tryz.results134, go_sem, zMsg, Msg.r, MsgR.cells]) rfl (DecR.none hk.out (by repeat (first | assumption | exact ModP.refl _ _ | refine ModP.fromPut ?_ (by assumption) | apply ModP.alloc | apply ModP.drew | apply ModP.drewN | refine ModP.put ?_ (by first | (left; assumption) | (left; rfl) | (right; simp only [World.inB, World.size_put] at *; omega)) _ _)))
end
end Go.Proofs.Qxb6500990aGreat
