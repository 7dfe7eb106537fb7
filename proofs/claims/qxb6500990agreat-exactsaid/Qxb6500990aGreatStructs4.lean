/- MADE BY PROGRAM: lists of 1, 2 entries as a block of cells -/
import Derived.Test.Qxb6500990aGreatStructs3
set_option linter.unusedVariables false
set_option linter.unusedSimpArgs false
namespace Go.Tw
open Go
structure Ent1 where
  m : Nat → Entry
def Ent1.cells (s : Ent1) : Array Value := #[.int .i64 ((s.m 0).term), .string (ByteArray.mk ((s.m 0).data).toArray)]
theorem Ent1.ga0 (s : Ent1) (i : Nat) (h : i < 1) : s.cells[i * 2]? = some (.int .i64 ((s.m i).term)) := by
  match i, h with
  | 0, _ => rfl
theorem Ent1.sa0 (s : Ent1) (i : Nat) (h : i < 1) (v : Int) : s.cells.setIfInBounds (i * 2) (.int .i64 (v)) = Ent1.cells { s with m := upd s.m i ({ s.m i with term := v }) } := by
  match i, h with
  | 0, _ => rfl
theorem Ent1.ga1 (s : Ent1) (i : Nat) (h : i < 1) : s.cells[i * 2 + 1]? = some (.string (ByteArray.mk ((s.m i).data).toArray)) := by
  match i, h with
  | 0, _ => rfl
theorem Ent1.sa1 (s : Ent1) (i : Nat) (h : i < 1) (v : Bs) : s.cells.setIfInBounds (i * 2 + 1) (.string (ByteArray.mk (v).toArray)) = Ent1.cells { s with m := upd s.m i ({ s.m i with data := v }) } := by
  match i, h with
  | 0, _ => rfl
structure Ent2 where
  m : Nat → Entry
def Ent2.cells (s : Ent2) : Array Value := #[.int .i64 ((s.m 0).term), .string (ByteArray.mk ((s.m 0).data).toArray), .int .i64 ((s.m 1).term), .string (ByteArray.mk ((s.m 1).data).toArray)]
theorem Ent2.ga0 (s : Ent2) (i : Nat) (h : i < 2) : s.cells[i * 2]? = some (.int .i64 ((s.m i).term)) := by
  match i, h with
  | 0, _ | 1, _ => rfl
theorem Ent2.sa0 (s : Ent2) (i : Nat) (h : i < 2) (v : Int) : s.cells.setIfInBounds (i * 2) (.int .i64 (v)) = Ent2.cells { s with m := upd s.m i ({ s.m i with term := v }) } := by
  match i, h with
  | 0, _ | 1, _ => rfl
theorem Ent2.ga1 (s : Ent2) (i : Nat) (h : i < 2) : s.cells[i * 2 + 1]? = some (.string (ByteArray.mk ((s.m i).data).toArray)) := by
  match i, h with
  | 0, _ | 1, _ => rfl
theorem Ent2.sa1 (s : Ent2) (i : Nat) (h : i < 2) (v : Bs) : s.cells.setIfInBounds (i * 2 + 1) (.string (ByteArray.mk (v).toArray)) = Ent2.cells { s with m := upd s.m i ({ s.m i with data := v }) } := by
  match i, h with
  | 0, _ | 1, _ => rfl
end Go.Tw
