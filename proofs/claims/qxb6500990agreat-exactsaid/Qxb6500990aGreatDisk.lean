/- package diskm -/
import Derived.Test.Qxb6500990aGreatApi8
import Derived.Test.Qxb6500990aGreatOrder2
set_option linter.unusedVariables false
set_option linter.unusedSimpArgs false
namespace Go.Tw
open Go Go.Proofs Go.Proofs.Qxb6500990aGreat
/-- the disk: its blocks, the blocks at the mark, the half writes since -/
structure Dk where
  now : List Bs
  mark : List Bs
  wr : List Half
def strs (l : List Bs) : Array Value := (l.map fun x => (.string (ByteArray.mk x.toArray) : Value)).toArray
def halvesC (l : List Half) : List Value := l.flatMap fun h => [.int .i64 h.b, .int .i64 h.h, .string (ByteArray.mk h.data.toArray)]
/-- where a disk lies -/
structure DP where
  bd : Nat
  bn : Nat
  bm : Nat
  wr : Value
def DP.fp (p : DP) : List Nat := [p.bd, p.bn, p.bm] ++ p.wr.ownBlock.toList
def str14 (b : Nat) : Value := .slice (some ⟨b, 0, none⟩) 14 14
structure DiskAt (w : World) (p : DP) (D : Dk) : Prop where
  d : w.At p.bd (DiskR.cells ⟨str14 p.bn, str14 p.bm, p.wr⟩) 87
  n : w.At p.bn (strs D.now) 9
  m : w.At p.bm (strs D.mark) 9
  r : w.ownsRow 0 89 3 p.wr D.wr.length (halvesC D.wr)
  ln : D.now.length = 14
  lm : D.mark.length = 14
  l64 : ∀ x ∈ D.now, x.length = 64
  m64 : ∀ x ∈ D.mark, x.length = 64
  nd : p.fp.Nodup
  wr32 : ∀ h ∈ D.wr, 0 ≤ h.b ∧ h.b < 14 ∧ (h.h = 0 ∨ h.h = 1) ∧ h.data.length = 32
def Dk.write (D : Dk) (b : Nat) (x : Bs) : Dk := { D with now := D.now.set b x, wr := D.wr ++ [⟨b, 0, x.take 32⟩] ++ [⟨b, 1, x.drop 32⟩] }
theorem strs_get (l : List Bs) (i : Nat) (h : i < l.length) : (strs l)[i]? = some (.string (ByteArray.mk l[i].toArray)) := by simp [strs, h]
theorem strs_set (l : List Bs) (i : Nat) (x : Bs) : (strs l).setIfInBounds i (.string (ByteArray.mk x.toArray)) = strs (l.set i x) := by
  simp [strs, List.map_set]
theorem take_drop_len (l : Bs) (k : Nat) : (l.drop k).take (l.length - k) = l.drop k := by rw [List.take_of_length_le]; simp
theorem strs_size (l : List Bs) : (strs l).size = l.length := by simp [strs]
theorem info89 : ∃ i, Tryz.prog.info? 89 = some i ∧ i.zero = some (.agg #[.int .i64 0, .int .i64 0, .string (ByteArray.mk #[])]) ∧ i.size = 3 ∧ i.bytes = 32 :=
  ⟨(Tryz.prog.info? 89).getD default, by kernel_rfl, by kernel_rfl, by kernel_rfl, by kernel_rfl⟩
theorem ca_of {w : World} {b : Nat} {c : Array Value} {T : TypeId} (h : w.At b c T) : ∃ u : World, w = u.force b c T := ⟨w, h.force.symm⟩
theorem open2 {w : World} {b1 b2 : Nat} {c1 c2 : Array Value} {T1 T2 : TypeId} (h1 : w.At b1 c1 T1) (h2 : w.At b2 c2 T2) (hne : b1 ≠ b2) : ∃ u : World, w = (u.put b1 c1 T1).put b2 c2 T2 ∧ u.inB b1 ∧ u.inB b2 := by
  obtain ⟨u, rfl, i2⟩ := h2.door
  rw [World.At_put_ne' hne] at h1
  obtain ⟨v, rfl, i1⟩ := h1.door
  exact ⟨v, rfl, i1, World.inB_put.1 i2⟩
theorem ownsRow_of {B e s n : Nat} {w w' : World} {v : Value} {xs : List Value} (h : w.ownsRow B e s v n xs) (hb : ∀ g, v.ownBlock = some g → w'.heap[g]? = w.heap[g]?) : w'.ownsRow B e s v n xs := by
  refine ⟨h.1, ?_⟩
  rcases h.2 with h2 | ⟨g, cap, cur, hv, h3, h4, h5⟩
  · exact .inl h2
  · exact .inr ⟨g, cap, cur, hv, h3, by rw [hb g (by rw [hv]; rfl)]; exact h4, h5⟩
theorem ownsRow_unput {B e s n b : Nat} {w : World} {v : Value} {xs : List Value} {c : Array Value} {T : TypeId} (h : (w.put b c T).ownsRow B e s v n xs) (hb : ∀ g, v.ownBlock = some g → b ≠ g) : w.ownsRow B e s v n xs :=
  ownsRow_of h fun g hg => by simp only [World.put]; rw [Array.getElem?_setIfInBounds_ne (hb g hg)]
theorem ownsRow_drew {B e s n : Nat} {w : World} {v : Value} {xs : List Value} (h : w.ownsRow B e s v n xs) : w.drew.ownsRow B e s v n xs := h
theorem ownsRow_put {B e s n b : Nat} {w : World} {v : Value} {xs : List Value} {c : Array Value} {T : TypeId} (h : w.ownsRow B e s v n xs) (hb : ∀ g, v.ownBlock = some g → b ≠ g) : (w.put b c T).ownsRow B e s v n xs :=
  ownsRow_of h fun g hg => by simp only [World.put]; rw [Array.getElem?_setIfInBounds_ne (hb g hg)]
/-- append of one half write, at the operation -/
theorem op_appH {o : Oper} {a : Act} {K : Act → World → Prop} {Q : Exit → Act → World → Prop} {w : World} (s x : Operand)
    (ho : o.op = .call { callee := .builtin .append, args := #[s, x], argTypes := #[85, 85] }) {v : Value} {l : List Half} {g : Nat} (h : Half)
    (hs : a.eval s = v) (hx : a.eval x = .slice (some ⟨g, 0, none⟩) 1 1) (hnews : w.At g (halvesC [h]).toArray 89) (hb : w.ownsRow 0 89 3 v l.length (halvesC l)) (hlen : l.length ≤ 10000)
    (hk : ∀ g' cap w', w'.ownsRow 0 89 3 (.slice (some ⟨g', 0, none⟩) (l.length + 1) cap) (l ++ [h]).length (halvesC (l ++ [h])) → Mod v.ownBlock.toList w w' → (v.ownBlock = some g' ∨ g' = w.heap.size) → g' < w'.heap.size → K (a.put o.dst (.slice (some ⟨g', 0, none⟩) (l.length + 1) cap)) w') : o.wp Tryz.prog a w K Q := by
  obtain ⟨i, hi, hz, hsz, hby⟩ := info89
  refine wp_append_lies w s x 85 ho 0 89 i _ 3 32 Tryz.underlying85 hi hz hsz hby rfl (by decide) v l.length (halvesC l) hs hb ⟨g, 0, none⟩ 1 1 (halvesC [h]) hx rfl ?_ ?_ (by decide) (by unfold maxLen; omega) (by omega) (Nat.zero_le _) w.heap.size rfl ?_
  · intro j u hu
    exact World.news_of_block hnews j u hu
  · intro u hu
    simp [halvesC] at hu
    rcases hu with rfl | rfl | rfl <;> rfl
  · intro g' cap w' h1 h2 h3 h4
    refine hk g' cap w' ?_ ⟨h2.os, h2.tape, h2.output, h2.size, fun k hk hS => h2.block k hk (fun e => hS (by rw [← e]; simp))⟩ h3 h4
    rw [List.length_append]
    simpa [halvesC] using h1
end Go.Tw

namespace Go.Proofs.Qxb6500990aGreat
open Go Go.RowKit Go.Tw
attribute [local go_sem] World.cell?_put_same World.cell?_put_ne World.cell?_put_ne' World.frozen?_put_same World.frozen?_put_ne World.frozen?_put_ne' World.setCell_put_same World.setCell_put_ne World.setCell_put_ne' World.inB_put World.inB_alloc World.inB_drew World.inB_drewN World.inB_new World.inB_setCell World.put_drew World.put_drewN World.q_setCell_drew World.q_setCell_drewN World.q_alloc_drew World.q_alloc_drewN World.put_put_same World.put_put_2 World.size_put World.q_cell?_alloc_old World.q_frozen?_alloc_old World.cell?_alloc_new' World.frozen?_alloc_new' World.q_setCell_alloc_old World.q_setCell_alloc_new World.q_put_alloc_old World.cell?_force_same World.frozen?_force_same World.cell?_force2_fst World.cell?_force2_snd DiskR.g0 DiskR.s0 DiskR.g1 DiskR.s1 DiskR.g2 DiskR.s2
attribute [local go_sem] ba_get ByteArray.extract_mk strs_set take_drop_len
set_option maxHeartbeats 1000000
set_option maxRecDepth 100000
theorem c235 {W : World} {p : DP} {D : Dk} (h : DiskAt W p D) (b : Nat) (hb : b < 14) (x : Bs) (hx : x.length = 64) (hw : D.wr.length ≤ 9000) :
    Calls Tryz.prog 235 #[vp p.bd, vi b, vs x] W fun r w' => r = .returned (vi 0) ∧ ∃ wr', DiskAt w' { p with wr := wr' } (D.write b x) ∧ Mod p.fp W w' ∧ (∀ g, wr'.ownBlock = some g → p.wr.ownBlock = some g ∨ W.heap.size ≤ g) := by
  obtain ⟨bd, bn, bm, wr⟩ := p
  obtain ⟨hd, hn, hm, hr, ln, lm, l64, m64, nd, wr32⟩ := h
  simp only [] at *
  have hnd : bd ≠ bn ∧ bd ≠ bm ∧ bn ≠ bm ∧ (∀ g, wr.ownBlock = some g → bd ≠ g ∧ bn ≠ g ∧ bm ≠ g) := by
    simp [DP.fp] at nd
    refine ⟨nd.1.1, nd.1.2.1, nd.2.1.1, fun g hg => ?_⟩
    rw [hg] at nd
    simp at nd
    exact ⟨Ne.symm nd.1.2.2, Ne.symm nd.2.1.2, Ne.symm nd.2.2⟩
  obtain ⟨n1, n2, n3, n4⟩ := hnd
  have n1' := Ne.symm n1
  obtain ⟨w1, rfl, ib1⟩ := hn.door
  rw [World.At_put_ne' n1] at hd
  obtain ⟨w, rfl, ib2⟩ := hd.door
  have ib3 : w.inB bn := World.inB_put.1 ib1
  have ibm : bm < w.heap.size := by have := hm.inB; unfold World.inB at this; simpa [World.size_put] using this
  have Hm := hidIt hm
  have hlt : (strs D.now)[b]? = some (vs (D.now[b]'(by omega))) := strs_get D.now b (by omega)
  have b0 : (0 : Int) ≤ b := by omega
  have b1 : (b : Int) < 14 := by omega
  have hx' : (x.length : Int) = 64 := by omega
  have Hr := hidIt hr
  have Hx := hidIt hx
  have N4 := hidIt n4
  have Hw := hidIt (ownsRow_unput (ownsRow_unput hr (fun g hg => (n4 g hg).2.1)) (fun g hg => (n4 g hg).1))
  have HB := hidIt (And.intro l64 (And.intro m64 wr32))
  clear hr Hr n4 hn hm hd ib1 l64 m64 wr32 nd hx
  unfold str14 at *
  go_enter Tryz.func235, Tryz.ntmps235
  go_wp2_with fail
  refine Ord.region2 (fun w' => ∃ u : World, w' = u.force bd (DiskR.cells ⟨.slice (some ⟨bn, 0, none⟩) 14 14, .slice (some ⟨bm, 0, none⟩) 14 14, wr⟩) 87) [0, 1, 2, 3, 4] [5, 6, 7, 8] [[(9, true), (10, true), (11, false), (12, false), (13, false)]] (by kernel_rfl) (by kernel_rfl) (fun _ _ d _ _ h => by cases d <;> exact h) ?ca4_1 ?_
  rotate_left
  simp only [Ord.pickO, Ord.nth]
  repeat (go_big_quiet_step (fail))
  refine wpQuiet_nil ?_
  repeat (go_big_quiet_step (fail))
  refine wpQuiet_nil ?_
  intro T hT
  simp only [List.mem_cons, List.not_mem_nil, or_false] at hT
  subst hT
  rotate_left
  · exact ca_of (World.At_drew.2 ((World.At_put_ne' n1).2 (World.At_put_same ib2)))
  refine Ord.wpT_loose rfl ?_
  intro K hK
  dsimp only [Ord.nth]
  go_wp2_with fail
  refine hK _ _ (ca_of (World.At_drew.2 (((World.At_put_ne' n1).2 (World.At_put_same ib2)).alloc _))) ?_
  clear hK K
  refine Ord.wpT_loose rfl ?_
  intro K hK
  dsimp only [Ord.nth]
  refine op_appH (v := wr) (l := D.wr) _ _ rfl ⟨b, 0, x.take 32⟩ rfl rfl (World.At_drew.2 (at_new (by first | rfl | simp [World.size_put]))) (ownsRow_drew (ownsRow_alloc (ownsRow_put (ownsRow_put Hw.out (fun g hg => (N4.out g hg).1)) (fun g hg => (N4.out g hg).2.1)) _)) (by first | omega | (simp; omega)) ?_
  intro g1 cap1 x1 o1 m1 oc1 ol1
  have ad1 : x1.At bd _ 87 := m1.at (World.At_drew.2 (((World.At_put_ne' n1).2 (World.At_put_same ib2)).alloc _)) (by intro hm; simp at hm; exact (N4.out _ hm).1 rfl)
  have an1 : x1.At bn _ 9 := m1.at (World.At_drew.2 ((World.At_put_same (World.inB_put.2 ib3)).alloc _)) (by intro hm; simp at hm; exact (N4.out _ hm).2.1 rfl)
  refine hK _ _ (ca_of ad1) ?_
  clear hK K
  have gn1 : bd ≠ g1 ∧ bn ≠ g1 ∧ bm ≠ g1 := by
    rcases oc1 with h | h
    · exact N4.out g1 h
    · simp [World.size_put] at h
      have q1 : bd < w.heap.size := ib2
      have q2 : bn < w.heap.size := ib3
      exact ⟨by omega, by omega, by omega⟩
  have N5 := hidIt (show ∀ g, (Value.slice (some ⟨g1, 0, none⟩) (D.wr.length + 1) cap1).ownBlock = some g → bd ≠ g ∧ bn ≠ g ∧ bm ≠ g from fun g hg => by
    have : g1 = g := by simpa [Value.ownBlock] using hg
    rw [← this]; exact gn1)
  have hS1 : Mod ([bd, bn] ++ wr.ownBlock.toList) ((w.put bd (DiskR.cells ⟨.slice (some ⟨bn, 0, none⟩) 14 14, .slice (some ⟨bm, 0, none⟩) 14 14, wr⟩) 87).put bn (strs D.now) 9) x1 := by
    have h1 := (Mod.refl ([bd, bn] ++ wr.ownBlock.toList) ((w.put bd (DiskR.cells ⟨.slice (some ⟨bn, 0, none⟩) 14 14, .slice (some ⟨bm, 0, none⟩) 14 14, wr⟩) 87).put bn (strs D.now) 9)).put (b := bn) (by simp) (strs (D.now.set b x)) 9
    rw [World.put_put_same] at h1
    exact ((h1.alloc _).drew).trans (m1.wide (fun y hy => List.mem_append_right _ hy))
  have HS1 := hidIt hS1
  clear hS1 m1 gn1
  obtain ⟨y1, rfl, ib4, ib5⟩ := open2 ad1 an1 n1
  have Hw2 := hidIt (ownsRow_unput (ownsRow_unput o1 (fun g hg => (N5.out g hg).2.1)) (fun g hg => (N5.out g hg).1))
  have HO := hidIt oc1
  clear o1 ad1 an1 oc1
  simp only [Act.put, List.setIfInBounds_toArray, List.set_cons_succ, List.set_cons_zero]
  refine Ord.wpT_next rfl ?_
  intro K hK
  dsimp only [Ord.nth]
  go_wp2_with fail
  refine Ord.wpT_next rfl ?_
  intro K hK
  dsimp only [Ord.nth]
  go_wp2_with fail
  refine Ord.wpT_next rfl ?_
  intro K hK
  dsimp only [Ord.nth]
  go_wp2_with fail
  refine Ord.wpT_nil ?_
  go_wp2_with fail
  refine Ord.region2 (fun w' => ∃ u : World, w' = u.force bd (DiskR.cells ⟨.slice (some ⟨bn, 0, none⟩) 14 14, .slice (some ⟨bm, 0, none⟩) 14 14, .slice (some ⟨g1, 0, none⟩) (D.wr.length + 1) cap1⟩) 87) [0, 1, 2, 3, 4] [5, 6, 7, 8] [[(9, true), (10, true), (11, false), (12, false), (13, false)]] (by kernel_rfl) (by kernel_rfl) (fun _ _ d _ _ h => by cases d <;> exact h) ?ca5_2 ?_
  rotate_left
  simp only [Ord.pickO, Ord.nth]
  repeat (go_big_quiet_step (fail))
  refine wpQuiet_nil ?_
  repeat (go_big_quiet_step (fail))
  refine wpQuiet_nil ?_
  intro T hT
  simp only [List.mem_cons, List.not_mem_nil, or_false] at hT
  subst hT
  rotate_left
  · exact ca_of (World.At_drew.2 ((World.At_put_ne' n1).2 (World.At_put_same ib4)))
  refine Ord.wpT_loose rfl ?_
  intro K hK
  dsimp only [Ord.nth]
  go_wp2_with fail
  refine hK _ _ (ca_of (World.At_drew.2 (((World.At_put_ne' n1).2 (World.At_put_same ib4)).alloc _))) ?_
  clear hK K
  refine Ord.wpT_loose rfl ?_
  intro K hK
  dsimp only [Ord.nth]
  refine op_appH (v := .slice (some ⟨g1, 0, none⟩) (D.wr.length + 1) cap1) (l := D.wr ++ [⟨b, 0, x.take 32⟩]) _ _ rfl ⟨b, 1, x.drop 32⟩ rfl rfl (World.At_drew.2 (at_new (by first | rfl | simp [World.size_put]))) (ownsRow_drew (ownsRow_alloc (ownsRow_put (ownsRow_put Hw2.out (fun g hg => (N5.out g hg).1)) (fun g hg => (N5.out g hg).2.1)) _)) (by first | omega | (simp; omega)) ?_
  intro g2 cap2 x2 o2 m2 oc2 ol2
  have ad2 : x2.At bd _ 87 := m2.at (World.At_drew.2 (((World.At_put_ne' n1).2 (World.At_put_same ib4)).alloc _)) (fun hm => (N5.out _ (Option.mem_toList.1 hm)).1 rfl)
  have an2 : x2.At bn _ 9 := m2.at (World.At_drew.2 ((World.At_put_same (World.inB_put.2 ib5)).alloc _)) (fun hm => (N5.out _ (Option.mem_toList.1 hm)).2.1 rfl)
  refine hK _ _ (ca_of ad2) ?_
  clear hK K
  have gn2 : bd ≠ g2 ∧ bn ≠ g2 ∧ bm ≠ g2 ∧ (wr.ownBlock = some g2 ∨ w.heap.size ≤ g2) := by
    have hz := HS1.out.size
    simp [World.size_put] at hz
    rcases oc2 with h | h
    · have : g1 = g2 := by simpa [Value.ownBlock] using h
      subst this
      have := N5.out g1 rfl
      refine ⟨this.1, this.2.1, this.2.2, ?_⟩
      rcases HO.out with h | h
      · exact .inl h
      · simp [World.size_put] at h; right; omega
    · simp [World.size_put] at h
      have q1 : bd < w.heap.size := ib2
      have q2 : bn < w.heap.size := ib3
      exact ⟨by omega, by omega, by omega, .inr (by omega)⟩
  have hS2 : Mod ([bd, bn] ++ wr.ownBlock.toList) ((w.put bd (DiskR.cells ⟨.slice (some ⟨bn, 0, none⟩) 14 14, .slice (some ⟨bm, 0, none⟩) 14 14, wr⟩) 87).put bn (strs D.now) 9) x2 := by
    have h1 := HS1.out.put (b := bd) (by simp) (DiskR.cells ⟨.slice (some ⟨bn, 0, none⟩) 14 14, .slice (some ⟨bm, 0, none⟩) 14 14, .slice (some ⟨g1, 0, none⟩) (D.wr.length + 1) cap1⟩) 87
    rw [World.put_put_2 n1] at h1
    refine ((h1.alloc _).drew).wideNew m2 (fun y hy => ?_)
    have hy' : g1 = y := by simpa [Value.ownBlock] using Option.mem_toList.1 hy
    subst hy'
    rcases HO.out with h | h
    · left; exact List.mem_append_right _ (Option.mem_toList.2 h)
    · simp [World.size_put] at h; right; simp [World.size_put]; omega
  have HS2 := hidIt hS2
  have G2 := hidIt gn2
  have Ho2 := hidIt o2
  clear hS2 m2 gn2 oc2 o2
  obtain ⟨y2, rfl, ib6, ib7⟩ := open2 ad2 an2 n1
  clear ad2 an2
  simp only [Act.put, List.setIfInBounds_toArray, List.set_cons_succ, List.set_cons_zero]
  refine Ord.wpT_next rfl ?_
  intro K hK
  dsimp only [Ord.nth]
  go_wp2_with fail
  refine Ord.wpT_next rfl ?_
  intro K hK
  dsimp only [Ord.nth]
  go_wp2_with fail
  refine Ord.wpT_next rfl ?_
  intro K hK
  dsimp only [Ord.nth]
  go_wp2_with fail
  refine Ord.wpT_nil ?_
  go_wp2_with fail
  go_ret
  go_tidy
  have g2' := G2.out
  have hown : y2.ownsRow 0 89 3 (.slice (some ⟨g2, 0, none⟩) (D.wr.length + 1 + 1) cap2) (D.write b x).wr.length (halvesC (D.write b x).wr) := by
    have h1 := Ho2.out
    simp only [List.length_append, List.length_cons, List.length_nil] at h1
    have h2 := ownsRow_unput (ownsRow_unput h1 (fun g hg => by
      have : g2 = g := by simpa [Value.ownBlock] using hg
      rw [← this]; exact g2'.2.1)) (fun g hg => by
      have : g2 = g := by simpa [Value.ownBlock] using hg
      rw [← this]; exact g2'.1)
    simpa [Dk.write] using h2
  have nbm : bm ∉ [bd, bn] ++ wr.ownBlock.toList := by
    intro hm
    rcases List.mem_append.1 hm with h | h
    · simp at h; omega
    · exact (N4.out bm (Option.mem_toList.1 h)).2.2 rfl
  have hfin : Mod ([bd, bn] ++ wr.ownBlock.toList) ((w.put bd (DiskR.cells ⟨.slice (some ⟨bn, 0, none⟩) 14 14, .slice (some ⟨bm, 0, none⟩) 14 14, wr⟩) 87).put bn (strs D.now) 9) ((y2.put bd (DiskR.cells ⟨.slice (some ⟨bn, 0, none⟩) 14 14, .slice (some ⟨bm, 0, none⟩) 14 14, .slice (some ⟨g2, 0, none⟩) (D.wr.length + 1 + 1) cap2⟩) 87).put bn (strs (D.now.set b x)) 9) := by
    have h1 := HS2.out.put (b := bd) (by simp) (DiskR.cells ⟨.slice (some ⟨bn, 0, none⟩) 14 14, .slice (some ⟨bm, 0, none⟩) 14 14, .slice (some ⟨g2, 0, none⟩) (D.wr.length + 1 + 1) cap2⟩) 87
    rwa [World.put_put_2 n1] at h1
  refine ⟨rfl, .slice (some ⟨g2, 0, none⟩) (D.wr.length + 1 + 1) cap2, ?_, hfin.wide (fun y hy => by simp [DP.fp] at hy ⊢; rcases hy with h | h | h <;> simp [h]), ?_⟩
  · obtain ⟨b3, b4, b5⟩ := HB.out
    refine ⟨(World.At_put_ne' n1).2 (World.At_put_same ib6), World.At_put_same (World.inB_put.2 ib7), hfin.at Hm.out nbm, ownsRow_put (ownsRow_put hown ?_) ?_, ?_, lm, ?_, b4, ?_, ?_⟩
    · intro g hg
      have : g2 = g := by simpa [Value.ownBlock] using hg
      rw [← this]; exact g2'.1
    · intro g hg
      have : g2 = g := by simpa [Value.ownBlock] using hg
      rw [← this]; exact g2'.2.1
    · simp [Dk.write, ln]
    · intro y hy
      rcases List.mem_or_eq_of_mem_set hy with h | h
      · exact b3 y h
      · rw [h]; exact Hx.out
    · simp [DP.fp, Value.ownBlock]
      exact ⟨⟨n1, n2, g2'.1⟩, ⟨n3, g2'.2.1⟩, g2'.2.2.1⟩
    · intro y hy
      simp only [Dk.write, List.mem_append, List.mem_singleton] at hy
      have hx := Hx.out
      rcases hy with (h | h) | h
      · exact b5 y h
      · rw [h]; refine ⟨b0, b1, .inl rfl, ?_⟩; simp; omega
      · rw [h]; refine ⟨b0, b1, .inr rfl, ?_⟩; simp; omega
  · intro g hg
    have : g2 = g := by simpa [Value.ownBlock] using hg
    subst this
    rcases g2'.2.2.2 with h | h
    · exact .inl h
    · exact .inr (by simp [World.size_put]; exact h)
end Go.Proofs.Qxb6500990aGreat
