/- package api: CmdOK, EncodeCmd, DecodeCmd -/
import Derived.Test.Qxb6500990aGreatApi2
set_option linter.unusedVariables false
set_option linter.unusedSimpArgs false
namespace Go.Proofs.Qxb6500990aGreat
open Go Go.RowKit Go.Tw
attribute [local go_sem] World.cell?_put_same World.cell?_put_ne World.cell?_put_ne' World.frozen?_put_same World.frozen?_put_ne World.frozen?_put_ne' World.setCell_put_same World.setCell_put_ne World.setCell_put_ne' World.inB_put World.inB_alloc World.inB_drew World.inB_drewN World.inB_new World.inB_setCell World.put_drew World.put_drewN World.q_setCell_drew World.q_setCell_drewN World.q_alloc_drew World.q_alloc_drewN World.put_put_same World.put_put_2 World.size_put World.q_cell?_alloc_old World.q_frozen?_alloc_old World.cell?_alloc_new' World.frozen?_alloc_new' World.q_setCell_alloc_old World.q_setCell_alloc_new World.q_put_alloc_old
attribute [local go_sem] ba_get w64_byte ByteArray.extract_mk
set_option maxHeartbeats 400000
set_option maxRecDepth 100000
def cmdOK (c : Cmd) : Bool := decide ((1 ≤ c.op ∧ c.op ≤ 4 ∧ 0 ≤ c.client ∧ c.client < 3 ∧ 1 ≤ c.seq ∧ c.seq ≤ maxT) ∧ (1 ≤ c.key.length ∧ c.key.length ≤ 2 ∧ c.val.length ≤ 3 ∧ c.old.length ≤ 3) ∧ (c.op = 2 ∨ c.op = 3 → c.val = []) ∧ (c.op = 4 ∨ c.old = []))
theorem c93 (W : World) (c : Cmd) : Calls Tryz.prog 93 #[.agg c.cells] W fun r w' => r = .returned (.bool (cmdOK c)) ∧ ∃ x, w' = W.alloc x := by
  obtain ⟨op, client, seq, key, val, old⟩ := c
  simp only [Cmd.cells] at *
  go_enter Tryz.func93, Tryz.ntmps93
  go_wp2
  all_goals
    go_ret
    go_tidy
    first
      | (have hk : cmdOK ⟨op, client, seq, key, val, old⟩ = false := by
          simp only [cmdOK, maxT]
          refine decide_eq_false ?_
          rintro ⟨⟨_, _, _, _, _, _⟩, ⟨_, _, _, _⟩, c1, c2⟩
          first | omega | (simp_all; done)
         rw [hk]
         exact ⟨rfl, _, rfl⟩)
      | (have hk : cmdOK ⟨op, client, seq, key, val, old⟩ = true := by
          simp only [cmdOK, maxT]
          refine decide_eq_true ?_
          refine ⟨⟨?_, ?_, ?_, ?_, ?_, ?_⟩, ⟨?_, ?_, ?_, ?_⟩, ?_, ?_⟩ <;> first | omega | (simp_all; done)
         rw [hk]
         exact ⟨rfl, _, rfl⟩)
      | (have hk : cmdOK ⟨op, client, seq, key, val, old⟩ = List.isEmpty old := by
          cases old with
          | nil =>
            simp only [cmdOK, maxT]
            refine decide_eq_true ?_
            refine ⟨⟨?_, ?_, ?_, ?_, ?_, ?_⟩, ⟨?_, ?_, ?_, ?_⟩, ?_, ?_⟩ <;> first | omega | (simp_all; done)
          | cons x xs =>
            simp only [cmdOK, maxT]
            refine decide_eq_false ?_
            rintro ⟨⟨_, _, _, _, _, _⟩, ⟨_, _, _, _⟩, c1, c2⟩
            first | omega | (simp_all; done) | (simp at c2; omega)
         rw [hk]
         exact ⟨rfl, _, rfl⟩)
      | (obtain rfl : op = 1 := by omega
         have hk : cmdOK ⟨1, client, seq, key, val, old⟩ = List.isEmpty old := by
          cases old with
          | nil =>
            simp only [cmdOK, maxT]
            refine decide_eq_true ?_
            refine ⟨⟨?_, ?_, ?_, ?_, ?_, ?_⟩, ⟨?_, ?_, ?_, ?_⟩, ?_, ?_⟩ <;> first | omega | (simp_all; done)
          | cons x xs =>
            simp only [cmdOK, maxT]
            refine decide_eq_false ?_
            rintro ⟨⟨_, _, _, _, _, _⟩, ⟨_, _, _, _⟩, c1, c2⟩
            simp at c2
         rw [hk]
         exact ⟨rfl, _, rfl⟩)

def encCmd (c : Cmd) : Bs := ib ([c.op, c.client] ++ be8 c.seq ++ ((c.key.length : Int) :: bi c.key) ++ ((c.val.length : Int) :: bi c.val) ++ ((c.old.length : Int) :: bi c.old))
theorem foldl_push : ∀ (l : List Int) (r : List UInt8), l.foldl (fun r n => r.push (UInt8.ofNat n.toNat)) (ByteArray.mk r.toArray) = ByteArray.mk (r ++ ib l).toArray
  | [], r => by simp [ib]
  | n :: l, r => by
    rw [List.foldl_cons]
    have : (ByteArray.mk r.toArray).push (UInt8.ofNat n.toNat) = ByteArray.mk (r ++ [UInt8.ofNat n.toNat]).toArray := by
      simp [ByteArray.push]
    rw [this, foldl_push l]
    simp [ib]
theorem run_strB {B : Nat} {w : World} {v : Value} {l : List Int} (hb : BytesB B w v l) : (Conv.bytesToString v).run Tryz.prog w = .ok (vs (ib l)) w := by
  rcases hb.2 with ⟨rfl, h0⟩ | ⟨g, cap, cur, rfl, _, hat, hcap, _, hsz, htake⟩
  · have : l = [] := List.length_eq_zero_iff.1 h0
    subst this
    rfl
  · rw [run_bytesToString w ⟨g, 0, none⟩ l.length cap l]
    · rw [show ByteArray.empty = ByteArray.mk ([] : List UInt8).toArray from rfl, foldl_push]
      rfl
    · have := run_loadCells_list (P := Tryz.prog) (w := w) ⟨g, 0, none⟩ (l.map (Value.int .u8)) (fun j u hu => by
        have hadd : (⟨g, 0, none⟩ : Addr).add j = ⟨g, j, none⟩ := by unfold Addr.add; split <;> simp_all
        rw [hadd, World.At.cell (T := 5) hat]
        have h1 : (cur.toList.take (l.length * 1))[j]? = some u := by rw [htake]; exact hu
        have h2 : j < l.length := by
          have := (List.getElem?_eq_some_iff.1 hu).1
          simpa using this
        rw [List.getElem?_take_of_lt (by omega)] at h1
        simpa using h1)
      simpa using this
theorem wp_strB {ops : Array Oper} {rest : List Oper} {o : Oper} {a : Act} {Q : Exit → Act → World → Prop} {w : World} (hg : o.guard = none) (x : Operand) (ho : o.op = .convert 127 9 x) {B : Nat} {v : Value} {l : List Int} (hx : a.eval x = v) (hb : BytesB B w v l)
    (h : wpList Tryz.prog ops Q rest (a.put o.dst (vs (ib l))) w) : wpList Tryz.prog ops Q (o :: rest) a w := by
  refine wpList_plain hg fun K hK => ?_
  have key := run_strB hb
  have hsl : ∃ ad n c, v = .slice ad n c := by
    rcases hb.2 with ⟨rfl, h0⟩ | ⟨g, cap, cur, rfl, _⟩
    · exact ⟨_, _, _, rfl⟩
    · exact ⟨_, _, _, rfl⟩
  obtain ⟨ad, n, c, rfl⟩ := hsl
  unfold Oper.wp execOp
  have hconv : (convert 127 9 (.slice ad n c)).run Tryz.prog w = .ok (vs (ib l)) w := by
    rw [run_convert_bytes_string w 127 9 5 ad n c Tryz.underlying127 Tryz.underlying5 Tryz.underlying9]
    exact key
  simp only [ho, hx, Sem.run_bind, hconv, Result.andThen_ok, Sem.run_pure, Oper.upon_value]
  exact hK _ _ h
end Go.Proofs.Qxb6500990aGreat
