/- The real election rule: GotVote. -/
import Derived.Test.Qxb6500990aGreatElect3
set_option linter.unusedVariables false
set_option linter.unusedSimpArgs false
namespace Go.Proofs.Qxb6500990aGreat
open Go Go.RowKit Go.Tw
attribute [local go_sem] World.cell?_put_same World.cell?_put_ne World.cell?_put_ne' World.frozen?_put_same World.frozen?_put_ne World.frozen?_put_ne' World.setCell_put_same World.setCell_put_ne World.setCell_put_ne' World.inB_put World.inB_alloc World.inB_drew World.inB_drewN World.inB_new World.inB_setCell World.put_drew World.put_drewN World.q_setCell_drew World.q_setCell_drewN World.q_alloc_drew World.q_alloc_drewN World.put_put_same World.put_put_2 World.size_put World.q_cell?_alloc_old World.q_frozen?_alloc_old World.cell?_alloc_new' World.frozen?_alloc_new' World.q_setCell_alloc_old World.q_setCell_alloc_new World.q_put_alloc_old EL.g0 EL.s0 EL.g1 EL.s1 EL.g2 EL.s2 EL.g3 EL.s3 EL.g4 EL.s4 EL.g5 EL.s5
set_option maxHeartbeats 600000
theorem EM.votes_eq (e : EM) : e.votes = b2i (e.got 0) + b2i (e.got 1) + b2i (e.got 2) := rfl
theorem c245 {W : World} {b : Nat} {e : EM} (h : W.At b e.el.cells 155) (ok : e.Ok) {p t : Int} (g : Bool) (hp : e.peer p = true) (ht : t ≤ maxT) :
    Calls Tryz.prog 245 #[vp b, vi p, vi t, .bool g] W fun r w' => r = .returned (.bool (e.gotVote p t g).1) ∧ Dr (W.put b (e.gotVote p t g).2.el.cells 155) w' := by
  obtain ⟨w, rfl, hb⟩ := h.door
  clear h
  simp only [World.put_put_same]
  have hat : (w.put b e.el.cells 155).At b e.el.cells 155 := World.At_put_same hb
  have Hp : Hid (e.peer p = true) := hp
  have hp0 : 0 ≤ p ∧ p < 3 := by simp [EM.peer] at hp; omega
  obtain ⟨p0, p1⟩ := hp0
  clear hp
  unfold maxT at ht
  obtain ⟨i0, i1, u0, u1, v0, v1, r0, r1, l0, l1, k0, k1⟩ := id ok
  have hg : ∀ (x : EM) n, ((w.put b x.el.cells 155).drewN n).cell? ⟨b, 1, none⟩ = some (.int .i64 x.term) := fun x n => by simp [World.cell?_put_same hb, EL.g1, EM.el]
  cases hs : e.sees t
  case true =>
    have hs' : Hid (e.see t = e.seen t) := by unfold Hid EM.see; rw [hs]; rfl
    have hk : Hid (e.gotVote p t g = (false, e.seen t)) := by unfold Hid EM.gotVote; rw [hs]; rfl
    have Hs : Hid (e.sees t = true) := hs
    clear hs
    go_enter Tryz.func245, Tryz.ntmps245
    go_wp2_with (first
      | (go_at_call 275; refine (c275 hat _).mono ?_; rintro _ _ ⟨rfl, rfl⟩; rw [Hp.out])
      | (go_at_call 249; refine (c249 hat ok _).mono ?_; rintro _ _ ⟨rfl, n, rfl⟩; simp only [World.put_put_same]; rw [Hs.out, hs'.out]))
    go_ret
    rw [hk.out]
    exact ⟨rfl, (Dr.refl _).drewN _⟩
  case false =>
    have hs' : Hid (e.see t = e) := by unfold Hid EM.see; rw [hs]; rfl
    have Hs : Hid (e.sees t = false) := hs
    clear hs
    have hat2 : ∀ n, ((w.put b e.el.cells 155).drewN n).At b e.el.cells 155 := fun n => World.At_put_same hb
    by_cases hc : t < e.term ∨ e.role ≠ 1 ∨ g = false
    · have hk : Hid (e.gotVote p t g = (false, e)) := by unfold Hid EM.gotVote; rw [Hs.out]; simp only [Bool.false_eq_true, if_false]; rw [if_pos hc]
      by_cases h1 : e.role = 1
      · have hf : turnF e.role 2 = 1 := by simp [turnF, h1]
        have hc2 : t < e.term ∨ g = false := by rcases hc with h | h | h; exact .inl h; exact absurd h1 h; exact .inr h
        clear hc h1
        rcases hc2 with hc | hc
        · go_enter Tryz.func245, Tryz.ntmps245
          go_wp2_with (first
            | (go_at_call 275; refine (c275 hat _).mono ?_; rintro _ _ ⟨rfl, rfl⟩; rw [Hp.out])
            | (go_at_call 249; refine (c249 hat ok _).mono ?_; rintro _ _ ⟨rfl, n, rfl⟩; simp only [World.put_put_same]; rw [Hs.out, hs'.out])
            | (go_at_call 80; refine (c80 (hat2 _) ok).mono ?_; rintro _ _ ⟨rfl, rfl⟩)
            | (go_at_call 239; refine (c239 _ _ _ r0 r1 (by decide) (by decide)).mono ?_; rintro _ _ ⟨rfl, rfl⟩; rw [hf]))
          all_goals
            go_ret
            rw [hk.out]
            exact ⟨rfl, (Dr.refl _).drewN _⟩
        · subst hc
          go_enter Tryz.func245, Tryz.ntmps245
          go_wp2_with (first
            | (go_at_call 275; refine (c275 hat _).mono ?_; rintro _ _ ⟨rfl, rfl⟩; rw [Hp.out])
            | (go_at_call 249; refine (c249 hat ok _).mono ?_; rintro _ _ ⟨rfl, n, rfl⟩; simp only [World.put_put_same]; rw [Hs.out, hs'.out])
            | (go_at_call 80; refine (c80 (hat2 _) ok).mono ?_; rintro _ _ ⟨rfl, rfl⟩)
            | (go_at_call 239; refine (c239 _ _ _ r0 r1 (by decide) (by decide)).mono ?_; rintro _ _ ⟨rfl, rfl⟩; rw [hf]))
          all_goals
            go_ret
            rw [hk.out]
            exact ⟨rfl, (Dr.refl _).drewN _⟩
      · have hf : turnF e.role 2 = -1 := by
          rcases three r0 r1 with h | h | h
          · simp [turnF, h]
          · exact absurd h h1
          · simp [turnF, h]
        clear hc h1
        go_enter Tryz.func245, Tryz.ntmps245
        go_wp2_with (first
          | (go_at_call 275; refine (c275 hat _).mono ?_; rintro _ _ ⟨rfl, rfl⟩; rw [Hp.out])
          | (go_at_call 249; refine (c249 hat ok _).mono ?_; rintro _ _ ⟨rfl, n, rfl⟩; simp only [World.put_put_same]; rw [Hs.out, hs'.out])
          | (go_at_call 80; refine (c80 (hat2 _) ok).mono ?_; rintro _ _ ⟨rfl, rfl⟩)
          | (go_at_call 239; refine (c239 _ _ _ r0 r1 (by decide) (by decide)).mono ?_; rintro _ _ ⟨rfl, rfl⟩; rw [hf]))
        all_goals
          go_ret
          rw [hk.out]
          exact ⟨rfl, (Dr.refl _).drewN _⟩
    · obtain rfl : g = true := by cases g <;> simp at hc ⊢
      have h1 : e.term ≤ t := by omega
      have h2 : e.role = 1 := by omega
      have hf : turnF e.role 2 = 1 := by simp [turnF, h2]
      have hf2 : turnF e.role 3 = 2 := by simp [turnF, h2]
      obtain ⟨q, rfl⟩ := Int.eq_ofNat_of_zero_le p0
      have hq : q < 3 := by omega
      generalize hE : ({ e with got := upd e.got q true } : EM) = e'
      have ok' : e'.Ok := by subst hE; exact ⟨i0, i1, u0, u1, v0, v1, r0, r1, l0, l1, k0, k1⟩
      have hk : Hid (e.gotVote q t true = if e'.votes < 2 then (false, e') else (true, { e' with role := 2, leader := e.id, clock := 0 })) := by
        unfold Hid EM.gotVote; rw [Hs.out]; simp only [Bool.false_eq_true, if_false]; rw [if_neg hc, ← hE]; rfl
      have hm : Hid (bits .or .i64 e.el.mask (bitF q) = maskW e'.got) := by
        unfold Hid; show bits .or .i64 (maskW e.got) (bitF q) = _; rw [mask_or e.got q hq, ← hE]
      have he : Hid (({ e.el with mask := maskW e'.got } : EL) = e'.el) := by
        unfold Hid; rw [← hE]; rfl
      have hid : Hid (e'.id = e.id) := by subst hE; rfl
      have hgs : ∀ n, ((w.put b e.el.cells 155).drewN n).drew.cell? ⟨b, 3, none⟩ = some (.int .i64 (maskW e.got)) := fun n => by simp [World.cell?_put_same hb, EL.g3, EM.el]
      have hset : ∀ v, e.el.cells.setIfInBounds 3 (.int .i64 v) = EL.cells { e.el with mask := v } := fun v => rfl
      have hmk : ∀ n, ((w.put b e'.el.cells 155).drewN n).cell? ⟨b, 3, none⟩ = some (.int .i64 (maskW e'.got)) := fun n => by simp [World.cell?_put_same hb, EL.g3, EM.el]
      have hgid : ∀ n, ((w.put b e'.el.cells 155).drewN n).cell? ⟨b, 0, none⟩ = some (.int .i64 e.id) := fun n => by simp [World.cell?_put_same hb, EL.g0, EM.el, hid.out]
      have hat3 : ∀ n, ((w.put b e'.el.cells 155).drewN n).At b e'.el.cells 155 := fun n => World.At_put_same hb
      clear hc h2 hE
      go_enter Tryz.func245, Tryz.ntmps245
      go_wp2_with (first
        | (go_at_call 275; refine (c275 hat _).mono ?_; rintro _ _ ⟨rfl, rfl⟩; rw [Hp.out])
        | (go_at_call 249; refine (c249 hat ok _).mono ?_; rintro _ _ ⟨rfl, n, rfl⟩; simp only [World.put_put_same]; rw [Hs.out, hs'.out])
        | (go_at_call 80; refine (c80 (hat2 _) ok).mono ?_; rintro _ _ ⟨rfl, rfl⟩)
        | (go_at_call 239; refine (c239 _ _ _ r0 r1 (by decide) (by decide)).mono ?_; rintro _ _ ⟨rfl, rfl⟩; rw [hf]))
      refine Ord.region1 [] [0, 1, 2, 3, 4, 5, 6, 7, 8, 9] [10] (by kernel_rfl) (by kernel_rfl) (fun _ _ d _ _ h => by cases d <;> exact h) ?_
      simp only [Ord.pickO, Ord.nth]
      refine wpQuiet_nil ?_
      repeat (first | go_big_quiet_step (fail) | (go_big_quiet_want; go_big_quiet_op; refine Exists.intro _ ⟨by first | (go_at_call 132; exact c132 _ _ p0 p1), ?_⟩; go_big_quiet_on))
      refine wpQuiet_nil ?_
      go_wp2_with fail
      rw [hm.out]
      rw [he.out]
      refine (c276 _ e'.got).mono ?_
      rintro _ _ ⟨rfl, rfl⟩
      rw [← EM.votes_eq]
      by_cases h3 : e'.votes < 2
      · go_wp2_with fail
        go_ret
        rw [hk.out, if_pos h3]
        exact ⟨rfl, (Dr.refl _).drewN _⟩
      · go_wp2_with (first
          | (go_at_call 239; refine (c239 _ _ _ r0 r1 (by decide) (by decide)).mono ?_; rintro _ _ ⟨rfl, rfl⟩; rw [hf2])
          | (go_at_call 79; refine (c79 (hat3 _) ok').mono ?_; rintro _ _ ⟨rfl, rfl⟩)
          | (go_at_call 64; refine (c64 (hat3 _) (by decide) (by decide) ok'.v0 ok'.v1 (by omega) i1).mono ?_; rintro _ _ ⟨rfl, rfl⟩; simp only [World.put_drewN, World.put_put_same])
          | (go_at_call 65; refine (c65 (World.At_drewN _ |>.2 (World.At_put_same hb)) ok'.id0 ok'.id1).mono ?_; rintro _ _ ⟨rfl, rfl⟩; simp only [World.put_drewN, World.put_put_same]))
        go_ret
        rw [hk.out, if_neg (by omega)]
        exact ⟨rfl, (Dr.refl _).drewN _⟩
end Go.Proofs.Qxb6500990aGreat
