/- MADE BY PROGRAM (tools/gen3.py): lists of 1, 2, 3 messages as a block of cells -/
import Derived.Test.Qxb6500990aGreatStructs2
set_option linter.unusedVariables false
set_option linter.unusedSimpArgs false
namespace Go.Tw
open Go
structure Box1 where
  m : Nat → MsgR
def Box1.cells (s : Box1) : Array Value := #[.int .i64 ((s.m 0).kind), .int .i64 ((s.m 0).frm), .int .i64 ((s.m 0).to), .int .i64 ((s.m 0).term), .int .i64 ((s.m 0).index), .int .i64 ((s.m 0).logTerm), .int .i64 ((s.m 0).commit), .bool ((s.m 0).ok), ((s.m 0).ents), .string (ByteArray.mk ((s.m 0).data).toArray)]
theorem Box1.ga0 (s : Box1) (i : Nat) (h : i < 1) : s.cells[i * 10]? = some (.int .i64 ((s.m i).kind)) := by
  match i, h with
  | 0, _ => rfl
theorem Box1.sa0 (s : Box1) (i : Nat) (h : i < 1) (v : Int) : s.cells.setIfInBounds (i * 10) (.int .i64 (v)) = Box1.cells { s with m := upd s.m i ({ s.m i with kind := v }) } := by
  match i, h with
  | 0, _ => rfl
theorem Box1.ga1 (s : Box1) (i : Nat) (h : i < 1) : s.cells[i * 10 + 1]? = some (.int .i64 ((s.m i).frm)) := by
  match i, h with
  | 0, _ => rfl
theorem Box1.sa1 (s : Box1) (i : Nat) (h : i < 1) (v : Int) : s.cells.setIfInBounds (i * 10 + 1) (.int .i64 (v)) = Box1.cells { s with m := upd s.m i ({ s.m i with frm := v }) } := by
  match i, h with
  | 0, _ => rfl
theorem Box1.ga2 (s : Box1) (i : Nat) (h : i < 1) : s.cells[i * 10 + 2]? = some (.int .i64 ((s.m i).to)) := by
  match i, h with
  | 0, _ => rfl
theorem Box1.sa2 (s : Box1) (i : Nat) (h : i < 1) (v : Int) : s.cells.setIfInBounds (i * 10 + 2) (.int .i64 (v)) = Box1.cells { s with m := upd s.m i ({ s.m i with to := v }) } := by
  match i, h with
  | 0, _ => rfl
theorem Box1.ga3 (s : Box1) (i : Nat) (h : i < 1) : s.cells[i * 10 + 3]? = some (.int .i64 ((s.m i).term)) := by
  match i, h with
  | 0, _ => rfl
theorem Box1.sa3 (s : Box1) (i : Nat) (h : i < 1) (v : Int) : s.cells.setIfInBounds (i * 10 + 3) (.int .i64 (v)) = Box1.cells { s with m := upd s.m i ({ s.m i with term := v }) } := by
  match i, h with
  | 0, _ => rfl
theorem Box1.ga4 (s : Box1) (i : Nat) (h : i < 1) : s.cells[i * 10 + 4]? = some (.int .i64 ((s.m i).index)) := by
  match i, h with
  | 0, _ => rfl
theorem Box1.sa4 (s : Box1) (i : Nat) (h : i < 1) (v : Int) : s.cells.setIfInBounds (i * 10 + 4) (.int .i64 (v)) = Box1.cells { s with m := upd s.m i ({ s.m i with index := v }) } := by
  match i, h with
  | 0, _ => rfl
theorem Box1.ga5 (s : Box1) (i : Nat) (h : i < 1) : s.cells[i * 10 + 5]? = some (.int .i64 ((s.m i).logTerm)) := by
  match i, h with
  | 0, _ => rfl
theorem Box1.sa5 (s : Box1) (i : Nat) (h : i < 1) (v : Int) : s.cells.setIfInBounds (i * 10 + 5) (.int .i64 (v)) = Box1.cells { s with m := upd s.m i ({ s.m i with logTerm := v }) } := by
  match i, h with
  | 0, _ => rfl
theorem Box1.ga6 (s : Box1) (i : Nat) (h : i < 1) : s.cells[i * 10 + 6]? = some (.int .i64 ((s.m i).commit)) := by
  match i, h with
  | 0, _ => rfl
theorem Box1.sa6 (s : Box1) (i : Nat) (h : i < 1) (v : Int) : s.cells.setIfInBounds (i * 10 + 6) (.int .i64 (v)) = Box1.cells { s with m := upd s.m i ({ s.m i with commit := v }) } := by
  match i, h with
  | 0, _ => rfl
theorem Box1.ga7 (s : Box1) (i : Nat) (h : i < 1) : s.cells[i * 10 + 7]? = some (.bool ((s.m i).ok)) := by
  match i, h with
  | 0, _ => rfl
theorem Box1.sa7 (s : Box1) (i : Nat) (h : i < 1) (v : Bool) : s.cells.setIfInBounds (i * 10 + 7) (.bool (v)) = Box1.cells { s with m := upd s.m i ({ s.m i with ok := v }) } := by
  match i, h with
  | 0, _ => rfl
theorem Box1.ga8 (s : Box1) (i : Nat) (h : i < 1) : s.cells[i * 10 + 8]? = some (((s.m i).ents)) := by
  match i, h with
  | 0, _ => rfl
theorem Box1.sa8 (s : Box1) (i : Nat) (h : i < 1) (v : Value) : s.cells.setIfInBounds (i * 10 + 8) ((v)) = Box1.cells { s with m := upd s.m i ({ s.m i with ents := v }) } := by
  match i, h with
  | 0, _ => rfl
theorem Box1.ga9 (s : Box1) (i : Nat) (h : i < 1) : s.cells[i * 10 + 9]? = some (.string (ByteArray.mk ((s.m i).data).toArray)) := by
  match i, h with
  | 0, _ => rfl
theorem Box1.sa9 (s : Box1) (i : Nat) (h : i < 1) (v : Bs) : s.cells.setIfInBounds (i * 10 + 9) (.string (ByteArray.mk (v).toArray)) = Box1.cells { s with m := upd s.m i ({ s.m i with data := v }) } := by
  match i, h with
  | 0, _ => rfl
structure Box2 where
  m : Nat → MsgR
def Box2.cells (s : Box2) : Array Value := #[.int .i64 ((s.m 0).kind), .int .i64 ((s.m 0).frm), .int .i64 ((s.m 0).to), .int .i64 ((s.m 0).term), .int .i64 ((s.m 0).index), .int .i64 ((s.m 0).logTerm), .int .i64 ((s.m 0).commit), .bool ((s.m 0).ok), ((s.m 0).ents), .string (ByteArray.mk ((s.m 0).data).toArray), .int .i64 ((s.m 1).kind), .int .i64 ((s.m 1).frm), .int .i64 ((s.m 1).to), .int .i64 ((s.m 1).term), .int .i64 ((s.m 1).index), .int .i64 ((s.m 1).logTerm), .int .i64 ((s.m 1).commit), .bool ((s.m 1).ok), ((s.m 1).ents), .string (ByteArray.mk ((s.m 1).data).toArray)]
theorem Box2.ga0 (s : Box2) (i : Nat) (h : i < 2) : s.cells[i * 10]? = some (.int .i64 ((s.m i).kind)) := by
  match i, h with
  | 0, _ | 1, _ => rfl
theorem Box2.sa0 (s : Box2) (i : Nat) (h : i < 2) (v : Int) : s.cells.setIfInBounds (i * 10) (.int .i64 (v)) = Box2.cells { s with m := upd s.m i ({ s.m i with kind := v }) } := by
  match i, h with
  | 0, _ | 1, _ => rfl
theorem Box2.ga1 (s : Box2) (i : Nat) (h : i < 2) : s.cells[i * 10 + 1]? = some (.int .i64 ((s.m i).frm)) := by
  match i, h with
  | 0, _ | 1, _ => rfl
theorem Box2.sa1 (s : Box2) (i : Nat) (h : i < 2) (v : Int) : s.cells.setIfInBounds (i * 10 + 1) (.int .i64 (v)) = Box2.cells { s with m := upd s.m i ({ s.m i with frm := v }) } := by
  match i, h with
  | 0, _ | 1, _ => rfl
theorem Box2.ga2 (s : Box2) (i : Nat) (h : i < 2) : s.cells[i * 10 + 2]? = some (.int .i64 ((s.m i).to)) := by
  match i, h with
  | 0, _ | 1, _ => rfl
theorem Box2.sa2 (s : Box2) (i : Nat) (h : i < 2) (v : Int) : s.cells.setIfInBounds (i * 10 + 2) (.int .i64 (v)) = Box2.cells { s with m := upd s.m i ({ s.m i with to := v }) } := by
  match i, h with
  | 0, _ | 1, _ => rfl
theorem Box2.ga3 (s : Box2) (i : Nat) (h : i < 2) : s.cells[i * 10 + 3]? = some (.int .i64 ((s.m i).term)) := by
  match i, h with
  | 0, _ | 1, _ => rfl
theorem Box2.sa3 (s : Box2) (i : Nat) (h : i < 2) (v : Int) : s.cells.setIfInBounds (i * 10 + 3) (.int .i64 (v)) = Box2.cells { s with m := upd s.m i ({ s.m i with term := v }) } := by
  match i, h with
  | 0, _ | 1, _ => rfl
theorem Box2.ga4 (s : Box2) (i : Nat) (h : i < 2) : s.cells[i * 10 + 4]? = some (.int .i64 ((s.m i).index)) := by
  match i, h with
  | 0, _ | 1, _ => rfl
theorem Box2.sa4 (s : Box2) (i : Nat) (h : i < 2) (v : Int) : s.cells.setIfInBounds (i * 10 + 4) (.int .i64 (v)) = Box2.cells { s with m := upd s.m i ({ s.m i with index := v }) } := by
  match i, h with
  | 0, _ | 1, _ => rfl
theorem Box2.ga5 (s : Box2) (i : Nat) (h : i < 2) : s.cells[i * 10 + 5]? = some (.int .i64 ((s.m i).logTerm)) := by
  match i, h with
  | 0, _ | 1, _ => rfl
theorem Box2.sa5 (s : Box2) (i : Nat) (h : i < 2) (v : Int) : s.cells.setIfInBounds (i * 10 + 5) (.int .i64 (v)) = Box2.cells { s with m := upd s.m i ({ s.m i with logTerm := v }) } := by
  match i, h with
  | 0, _ | 1, _ => rfl
theorem Box2.ga6 (s : Box2) (i : Nat) (h : i < 2) : s.cells[i * 10 + 6]? = some (.int .i64 ((s.m i).commit)) := by
  match i, h with
  | 0, _ | 1, _ => rfl
theorem Box2.sa6 (s : Box2) (i : Nat) (h : i < 2) (v : Int) : s.cells.setIfInBounds (i * 10 + 6) (.int .i64 (v)) = Box2.cells { s with m := upd s.m i ({ s.m i with commit := v }) } := by
  match i, h with
  | 0, _ | 1, _ => rfl
theorem Box2.ga7 (s : Box2) (i : Nat) (h : i < 2) : s.cells[i * 10 + 7]? = some (.bool ((s.m i).ok)) := by
  match i, h with
  | 0, _ | 1, _ => rfl
theorem Box2.sa7 (s : Box2) (i : Nat) (h : i < 2) (v : Bool) : s.cells.setIfInBounds (i * 10 + 7) (.bool (v)) = Box2.cells { s with m := upd s.m i ({ s.m i with ok := v }) } := by
  match i, h with
  | 0, _ | 1, _ => rfl
theorem Box2.ga8 (s : Box2) (i : Nat) (h : i < 2) : s.cells[i * 10 + 8]? = some (((s.m i).ents)) := by
  match i, h with
  | 0, _ | 1, _ => rfl
theorem Box2.sa8 (s : Box2) (i : Nat) (h : i < 2) (v : Value) : s.cells.setIfInBounds (i * 10 + 8) ((v)) = Box2.cells { s with m := upd s.m i ({ s.m i with ents := v }) } := by
  match i, h with
  | 0, _ | 1, _ => rfl
theorem Box2.ga9 (s : Box2) (i : Nat) (h : i < 2) : s.cells[i * 10 + 9]? = some (.string (ByteArray.mk ((s.m i).data).toArray)) := by
  match i, h with
  | 0, _ | 1, _ => rfl
theorem Box2.sa9 (s : Box2) (i : Nat) (h : i < 2) (v : Bs) : s.cells.setIfInBounds (i * 10 + 9) (.string (ByteArray.mk (v).toArray)) = Box2.cells { s with m := upd s.m i ({ s.m i with data := v }) } := by
  match i, h with
  | 0, _ | 1, _ => rfl
structure Box3 where
  m : Nat → MsgR
def Box3.cells (s : Box3) : Array Value := #[.int .i64 ((s.m 0).kind), .int .i64 ((s.m 0).frm), .int .i64 ((s.m 0).to), .int .i64 ((s.m 0).term), .int .i64 ((s.m 0).index), .int .i64 ((s.m 0).logTerm), .int .i64 ((s.m 0).commit), .bool ((s.m 0).ok), ((s.m 0).ents), .string (ByteArray.mk ((s.m 0).data).toArray), .int .i64 ((s.m 1).kind), .int .i64 ((s.m 1).frm), .int .i64 ((s.m 1).to), .int .i64 ((s.m 1).term), .int .i64 ((s.m 1).index), .int .i64 ((s.m 1).logTerm), .int .i64 ((s.m 1).commit), .bool ((s.m 1).ok), ((s.m 1).ents), .string (ByteArray.mk ((s.m 1).data).toArray), .int .i64 ((s.m 2).kind), .int .i64 ((s.m 2).frm), .int .i64 ((s.m 2).to), .int .i64 ((s.m 2).term), .int .i64 ((s.m 2).index), .int .i64 ((s.m 2).logTerm), .int .i64 ((s.m 2).commit), .bool ((s.m 2).ok), ((s.m 2).ents), .string (ByteArray.mk ((s.m 2).data).toArray)]
theorem Box3.ga0 (s : Box3) (i : Nat) (h : i < 3) : s.cells[i * 10]? = some (.int .i64 ((s.m i).kind)) := by
  match i, h with
  | 0, _ | 1, _ | 2, _ => rfl
theorem Box3.sa0 (s : Box3) (i : Nat) (h : i < 3) (v : Int) : s.cells.setIfInBounds (i * 10) (.int .i64 (v)) = Box3.cells { s with m := upd s.m i ({ s.m i with kind := v }) } := by
  match i, h with
  | 0, _ | 1, _ | 2, _ => rfl
theorem Box3.ga1 (s : Box3) (i : Nat) (h : i < 3) : s.cells[i * 10 + 1]? = some (.int .i64 ((s.m i).frm)) := by
  match i, h with
  | 0, _ | 1, _ | 2, _ => rfl
theorem Box3.sa1 (s : Box3) (i : Nat) (h : i < 3) (v : Int) : s.cells.setIfInBounds (i * 10 + 1) (.int .i64 (v)) = Box3.cells { s with m := upd s.m i ({ s.m i with frm := v }) } := by
  match i, h with
  | 0, _ | 1, _ | 2, _ => rfl
theorem Box3.ga2 (s : Box3) (i : Nat) (h : i < 3) : s.cells[i * 10 + 2]? = some (.int .i64 ((s.m i).to)) := by
  match i, h with
  | 0, _ | 1, _ | 2, _ => rfl
theorem Box3.sa2 (s : Box3) (i : Nat) (h : i < 3) (v : Int) : s.cells.setIfInBounds (i * 10 + 2) (.int .i64 (v)) = Box3.cells { s with m := upd s.m i ({ s.m i with to := v }) } := by
  match i, h with
  | 0, _ | 1, _ | 2, _ => rfl
theorem Box3.ga3 (s : Box3) (i : Nat) (h : i < 3) : s.cells[i * 10 + 3]? = some (.int .i64 ((s.m i).term)) := by
  match i, h with
  | 0, _ | 1, _ | 2, _ => rfl
theorem Box3.sa3 (s : Box3) (i : Nat) (h : i < 3) (v : Int) : s.cells.setIfInBounds (i * 10 + 3) (.int .i64 (v)) = Box3.cells { s with m := upd s.m i ({ s.m i with term := v }) } := by
  match i, h with
  | 0, _ | 1, _ | 2, _ => rfl
theorem Box3.ga4 (s : Box3) (i : Nat) (h : i < 3) : s.cells[i * 10 + 4]? = some (.int .i64 ((s.m i).index)) := by
  match i, h with
  | 0, _ | 1, _ | 2, _ => rfl
theorem Box3.sa4 (s : Box3) (i : Nat) (h : i < 3) (v : Int) : s.cells.setIfInBounds (i * 10 + 4) (.int .i64 (v)) = Box3.cells { s with m := upd s.m i ({ s.m i with index := v }) } := by
  match i, h with
  | 0, _ | 1, _ | 2, _ => rfl
theorem Box3.ga5 (s : Box3) (i : Nat) (h : i < 3) : s.cells[i * 10 + 5]? = some (.int .i64 ((s.m i).logTerm)) := by
  match i, h with
  | 0, _ | 1, _ | 2, _ => rfl
theorem Box3.sa5 (s : Box3) (i : Nat) (h : i < 3) (v : Int) : s.cells.setIfInBounds (i * 10 + 5) (.int .i64 (v)) = Box3.cells { s with m := upd s.m i ({ s.m i with logTerm := v }) } := by
  match i, h with
  | 0, _ | 1, _ | 2, _ => rfl
theorem Box3.ga6 (s : Box3) (i : Nat) (h : i < 3) : s.cells[i * 10 + 6]? = some (.int .i64 ((s.m i).commit)) := by
  match i, h with
  | 0, _ | 1, _ | 2, _ => rfl
theorem Box3.sa6 (s : Box3) (i : Nat) (h : i < 3) (v : Int) : s.cells.setIfInBounds (i * 10 + 6) (.int .i64 (v)) = Box3.cells { s with m := upd s.m i ({ s.m i with commit := v }) } := by
  match i, h with
  | 0, _ | 1, _ | 2, _ => rfl
theorem Box3.ga7 (s : Box3) (i : Nat) (h : i < 3) : s.cells[i * 10 + 7]? = some (.bool ((s.m i).ok)) := by
  match i, h with
  | 0, _ | 1, _ | 2, _ => rfl
theorem Box3.sa7 (s : Box3) (i : Nat) (h : i < 3) (v : Bool) : s.cells.setIfInBounds (i * 10 + 7) (.bool (v)) = Box3.cells { s with m := upd s.m i ({ s.m i with ok := v }) } := by
  match i, h with
  | 0, _ | 1, _ | 2, _ => rfl
theorem Box3.ga8 (s : Box3) (i : Nat) (h : i < 3) : s.cells[i * 10 + 8]? = some (((s.m i).ents)) := by
  match i, h with
  | 0, _ | 1, _ | 2, _ => rfl
theorem Box3.sa8 (s : Box3) (i : Nat) (h : i < 3) (v : Value) : s.cells.setIfInBounds (i * 10 + 8) ((v)) = Box3.cells { s with m := upd s.m i ({ s.m i with ents := v }) } := by
  match i, h with
  | 0, _ | 1, _ | 2, _ => rfl
theorem Box3.ga9 (s : Box3) (i : Nat) (h : i < 3) : s.cells[i * 10 + 9]? = some (.string (ByteArray.mk ((s.m i).data).toArray)) := by
  match i, h with
  | 0, _ | 1, _ | 2, _ => rfl
theorem Box3.sa9 (s : Box3) (i : Nat) (h : i < 3) (v : Bs) : s.cells.setIfInBounds (i * 10 + 9) (.string (ByteArray.mk (v).toArray)) = Box3.cells { s with m := upd s.m i ({ s.m i with data := v }) } := by
  match i, h with
  | 0, _ | 1, _ | 2, _ => rfl
end Go.Tw
