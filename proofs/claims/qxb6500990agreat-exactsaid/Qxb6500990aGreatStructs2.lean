/- MADE BY PROGRAM (tools/gen_struct.py 2): cells of a struct in an array, at 'base + i * size + k' -/
import Derived.Test.Qxb6500990aGreatStructs
set_option linter.unusedVariables false
set_option linter.unusedSimpArgs false
namespace Go.Tw
structure Ring where
  ents : Nat → Entry
def Ring.cells (s : Ring) : Array Value := #[.int .i64 ((s.ents 0).term), .string (ByteArray.mk ((s.ents 0).data).toArray), .int .i64 ((s.ents 1).term), .string (ByteArray.mk ((s.ents 1).data).toArray), .int .i64 ((s.ents 2).term), .string (ByteArray.mk ((s.ents 2).data).toArray), .int .i64 ((s.ents 3).term), .string (ByteArray.mk ((s.ents 3).data).toArray), .int .i64 ((s.ents 4).term), .string (ByteArray.mk ((s.ents 4).data).toArray), .int .i64 ((s.ents 5).term), .string (ByteArray.mk ((s.ents 5).data).toArray)]
theorem Ring.g0 (s : Ring) : s.cells[0]? = some (.int .i64 ((s.ents 0).term)) := rfl
theorem Ring.s0 (s : Ring) (v : Int) : s.cells.setIfInBounds 0 (.int .i64 v) = Ring.cells { s with ents := upd s.ents 0 { s.ents 0 with term := v } } := rfl
theorem Ring.g1 (s : Ring) : s.cells[1]? = some (.string (ByteArray.mk ((s.ents 0).data).toArray)) := rfl
theorem Ring.s1 (s : Ring) (v : Bs) : s.cells.setIfInBounds 1 (.string (ByteArray.mk v.toArray)) = Ring.cells { s with ents := upd s.ents 0 { s.ents 0 with data := v } } := rfl
theorem Ring.g2 (s : Ring) : s.cells[2]? = some (.int .i64 ((s.ents 1).term)) := rfl
theorem Ring.s2 (s : Ring) (v : Int) : s.cells.setIfInBounds 2 (.int .i64 v) = Ring.cells { s with ents := upd s.ents 1 { s.ents 1 with term := v } } := rfl
theorem Ring.g3 (s : Ring) : s.cells[3]? = some (.string (ByteArray.mk ((s.ents 1).data).toArray)) := rfl
theorem Ring.s3 (s : Ring) (v : Bs) : s.cells.setIfInBounds 3 (.string (ByteArray.mk v.toArray)) = Ring.cells { s with ents := upd s.ents 1 { s.ents 1 with data := v } } := rfl
theorem Ring.g4 (s : Ring) : s.cells[4]? = some (.int .i64 ((s.ents 2).term)) := rfl
theorem Ring.s4 (s : Ring) (v : Int) : s.cells.setIfInBounds 4 (.int .i64 v) = Ring.cells { s with ents := upd s.ents 2 { s.ents 2 with term := v } } := rfl
theorem Ring.g5 (s : Ring) : s.cells[5]? = some (.string (ByteArray.mk ((s.ents 2).data).toArray)) := rfl
theorem Ring.s5 (s : Ring) (v : Bs) : s.cells.setIfInBounds 5 (.string (ByteArray.mk v.toArray)) = Ring.cells { s with ents := upd s.ents 2 { s.ents 2 with data := v } } := rfl
theorem Ring.g6 (s : Ring) : s.cells[6]? = some (.int .i64 ((s.ents 3).term)) := rfl
theorem Ring.s6 (s : Ring) (v : Int) : s.cells.setIfInBounds 6 (.int .i64 v) = Ring.cells { s with ents := upd s.ents 3 { s.ents 3 with term := v } } := rfl
theorem Ring.g7 (s : Ring) : s.cells[7]? = some (.string (ByteArray.mk ((s.ents 3).data).toArray)) := rfl
theorem Ring.s7 (s : Ring) (v : Bs) : s.cells.setIfInBounds 7 (.string (ByteArray.mk v.toArray)) = Ring.cells { s with ents := upd s.ents 3 { s.ents 3 with data := v } } := rfl
theorem Ring.g8 (s : Ring) : s.cells[8]? = some (.int .i64 ((s.ents 4).term)) := rfl
theorem Ring.s8 (s : Ring) (v : Int) : s.cells.setIfInBounds 8 (.int .i64 v) = Ring.cells { s with ents := upd s.ents 4 { s.ents 4 with term := v } } := rfl
theorem Ring.g9 (s : Ring) : s.cells[9]? = some (.string (ByteArray.mk ((s.ents 4).data).toArray)) := rfl
theorem Ring.s9 (s : Ring) (v : Bs) : s.cells.setIfInBounds 9 (.string (ByteArray.mk v.toArray)) = Ring.cells { s with ents := upd s.ents 4 { s.ents 4 with data := v } } := rfl
theorem Ring.g10 (s : Ring) : s.cells[10]? = some (.int .i64 ((s.ents 5).term)) := rfl
theorem Ring.s10 (s : Ring) (v : Int) : s.cells.setIfInBounds 10 (.int .i64 v) = Ring.cells { s with ents := upd s.ents 5 { s.ents 5 with term := v } } := rfl
theorem Ring.g11 (s : Ring) : s.cells[11]? = some (.string (ByteArray.mk ((s.ents 5).data).toArray)) := rfl
theorem Ring.s11 (s : Ring) (v : Bs) : s.cells.setIfInBounds 11 (.string (ByteArray.mk v.toArray)) = Ring.cells { s with ents := upd s.ents 5 { s.ents 5 with data := v } } := rfl
theorem Ring.gi_ents_0 (s : Ring) (i : Nat) (h : i < 6) : s.cells[i * 2]? = some (.int .i64 ((s.ents i).term)) := by
  match i, h with
  | 0, _ | 1, _ | 2, _ | 3, _ | 4, _ | 5, _ => rfl
theorem Ring.si_ents_0 (s : Ring) (i : Nat) (h : i < 6) (v : Int) : s.cells.setIfInBounds (i * 2) (.int .i64 v) = Ring.cells { s with ents := upd s.ents i ({ s.ents i with term := v }) } := by
  match i, h with
  | 0, _ | 1, _ | 2, _ | 3, _ | 4, _ | 5, _ => rfl
theorem Ring.gi_ents_1 (s : Ring) (i : Nat) (h : i < 6) : s.cells[1 + i * 2]? = some (.string (ByteArray.mk ((s.ents i).data).toArray)) := by
  match i, h with
  | 0, _ | 1, _ | 2, _ | 3, _ | 4, _ | 5, _ => rfl
theorem Ring.si_ents_1 (s : Ring) (i : Nat) (h : i < 6) (v : Bs) : s.cells.setIfInBounds (1 + i * 2) (.string (ByteArray.mk v.toArray)) = Ring.cells { s with ents := upd s.ents i ({ s.ents i with data := v }) } := by
  match i, h with
  | 0, _ | 1, _ | 2, _ | 3, _ | 4, _ | 5, _ => rfl
theorem StoreR.gia_recs_1 (s : StoreR) (i : Nat) (h : i < 6) : s.cells[34 + i * 3 + 1]? = some (.int .i64 ((s.recs i).term)) := by
  rw [show 34 + i * 3 + 1 = 35 + i * 3 by omega]; exact StoreR.gi_recs_1 s i h
theorem StoreR.sia_recs_1 (s : StoreR) (i : Nat) (h : i < 6) (v : Int) : s.cells.setIfInBounds (34 + i * 3 + 1) (.int .i64 v) = StoreR.cells { s with recs := upd s.recs i ({ s.recs i with term := v }) } := by
  rw [show 34 + i * 3 + 1 = 35 + i * 3 by omega]; exact StoreR.si_recs_1 s i h v
theorem StoreR.gia_recs_2 (s : StoreR) (i : Nat) (h : i < 6) : s.cells[34 + i * 3 + 2]? = some (.string (ByteArray.mk ((s.recs i).data).toArray)) := by
  rw [show 34 + i * 3 + 2 = 36 + i * 3 by omega]; exact StoreR.gi_recs_2 s i h
theorem StoreR.sia_recs_2 (s : StoreR) (i : Nat) (h : i < 6) (v : Bs) : s.cells.setIfInBounds (34 + i * 3 + 2) (.string (ByteArray.mk v.toArray)) = StoreR.cells { s with recs := upd s.recs i ({ s.recs i with data := v }) } := by
  rw [show 34 + i * 3 + 2 = 36 + i * 3 by omega]; exact StoreR.si_recs_2 s i h v
theorem SyncR.gia_box_1 (s : SyncR) (i : Nat) (h : i < 3) : s.cells[11 + i * 10 + 1]? = some (.int .i64 ((s.box i).frm)) := by
  rw [show 11 + i * 10 + 1 = 12 + i * 10 by omega]; exact SyncR.gi_box_1 s i h
theorem SyncR.sia_box_1 (s : SyncR) (i : Nat) (h : i < 3) (v : Int) : s.cells.setIfInBounds (11 + i * 10 + 1) (.int .i64 v) = SyncR.cells { s with box := upd s.box i ({ s.box i with frm := v }) } := by
  rw [show 11 + i * 10 + 1 = 12 + i * 10 by omega]; exact SyncR.si_box_1 s i h v
theorem SyncR.gia_box_2 (s : SyncR) (i : Nat) (h : i < 3) : s.cells[11 + i * 10 + 2]? = some (.int .i64 ((s.box i).to)) := by
  rw [show 11 + i * 10 + 2 = 13 + i * 10 by omega]; exact SyncR.gi_box_2 s i h
theorem SyncR.sia_box_2 (s : SyncR) (i : Nat) (h : i < 3) (v : Int) : s.cells.setIfInBounds (11 + i * 10 + 2) (.int .i64 v) = SyncR.cells { s with box := upd s.box i ({ s.box i with to := v }) } := by
  rw [show 11 + i * 10 + 2 = 13 + i * 10 by omega]; exact SyncR.si_box_2 s i h v
theorem SyncR.gia_box_3 (s : SyncR) (i : Nat) (h : i < 3) : s.cells[11 + i * 10 + 3]? = some (.int .i64 ((s.box i).term)) := by
  rw [show 11 + i * 10 + 3 = 14 + i * 10 by omega]; exact SyncR.gi_box_3 s i h
theorem SyncR.sia_box_3 (s : SyncR) (i : Nat) (h : i < 3) (v : Int) : s.cells.setIfInBounds (11 + i * 10 + 3) (.int .i64 v) = SyncR.cells { s with box := upd s.box i ({ s.box i with term := v }) } := by
  rw [show 11 + i * 10 + 3 = 14 + i * 10 by omega]; exact SyncR.si_box_3 s i h v
theorem SyncR.gia_box_4 (s : SyncR) (i : Nat) (h : i < 3) : s.cells[11 + i * 10 + 4]? = some (.int .i64 ((s.box i).index)) := by
  rw [show 11 + i * 10 + 4 = 15 + i * 10 by omega]; exact SyncR.gi_box_4 s i h
theorem SyncR.sia_box_4 (s : SyncR) (i : Nat) (h : i < 3) (v : Int) : s.cells.setIfInBounds (11 + i * 10 + 4) (.int .i64 v) = SyncR.cells { s with box := upd s.box i ({ s.box i with index := v }) } := by
  rw [show 11 + i * 10 + 4 = 15 + i * 10 by omega]; exact SyncR.si_box_4 s i h v
theorem SyncR.gia_box_5 (s : SyncR) (i : Nat) (h : i < 3) : s.cells[11 + i * 10 + 5]? = some (.int .i64 ((s.box i).logTerm)) := by
  rw [show 11 + i * 10 + 5 = 16 + i * 10 by omega]; exact SyncR.gi_box_5 s i h
theorem SyncR.sia_box_5 (s : SyncR) (i : Nat) (h : i < 3) (v : Int) : s.cells.setIfInBounds (11 + i * 10 + 5) (.int .i64 v) = SyncR.cells { s with box := upd s.box i ({ s.box i with logTerm := v }) } := by
  rw [show 11 + i * 10 + 5 = 16 + i * 10 by omega]; exact SyncR.si_box_5 s i h v
theorem SyncR.gia_box_6 (s : SyncR) (i : Nat) (h : i < 3) : s.cells[11 + i * 10 + 6]? = some (.int .i64 ((s.box i).commit)) := by
  rw [show 11 + i * 10 + 6 = 17 + i * 10 by omega]; exact SyncR.gi_box_6 s i h
theorem SyncR.sia_box_6 (s : SyncR) (i : Nat) (h : i < 3) (v : Int) : s.cells.setIfInBounds (11 + i * 10 + 6) (.int .i64 v) = SyncR.cells { s with box := upd s.box i ({ s.box i with commit := v }) } := by
  rw [show 11 + i * 10 + 6 = 17 + i * 10 by omega]; exact SyncR.si_box_6 s i h v
theorem SyncR.gia_box_7 (s : SyncR) (i : Nat) (h : i < 3) : s.cells[11 + i * 10 + 7]? = some (.bool ((s.box i).ok)) := by
  rw [show 11 + i * 10 + 7 = 18 + i * 10 by omega]; exact SyncR.gi_box_7 s i h
theorem SyncR.sia_box_7 (s : SyncR) (i : Nat) (h : i < 3) (v : Bool) : s.cells.setIfInBounds (11 + i * 10 + 7) (.bool v) = SyncR.cells { s with box := upd s.box i ({ s.box i with ok := v }) } := by
  rw [show 11 + i * 10 + 7 = 18 + i * 10 by omega]; exact SyncR.si_box_7 s i h v
theorem SyncR.gia_box_8 (s : SyncR) (i : Nat) (h : i < 3) : s.cells[11 + i * 10 + 8]? = some (((s.box i).ents)) := by
  rw [show 11 + i * 10 + 8 = 19 + i * 10 by omega]; exact SyncR.gi_box_8 s i h
theorem SyncR.sia_box_8 (s : SyncR) (i : Nat) (h : i < 3) (v : Value) : s.cells.setIfInBounds (11 + i * 10 + 8) (v) = SyncR.cells { s with box := upd s.box i ({ s.box i with ents := v }) } := by
  rw [show 11 + i * 10 + 8 = 19 + i * 10 by omega]; exact SyncR.si_box_8 s i h v
theorem SyncR.gia_box_9 (s : SyncR) (i : Nat) (h : i < 3) : s.cells[11 + i * 10 + 9]? = some (.string (ByteArray.mk ((s.box i).data).toArray)) := by
  rw [show 11 + i * 10 + 9 = 20 + i * 10 by omega]; exact SyncR.gi_box_9 s i h
theorem SyncR.sia_box_9 (s : SyncR) (i : Nat) (h : i < 3) (v : Bs) : s.cells.setIfInBounds (11 + i * 10 + 9) (.string (ByteArray.mk v.toArray)) = SyncR.cells { s with box := upd s.box i ({ s.box i with data := v }) } := by
  rw [show 11 + i * 10 + 9 = 20 + i * 10 by omega]; exact SyncR.si_box_9 s i h v
theorem TableR.gia_cells__1 (s : TableR) (i : Nat) (h : i < 8) : s.cells[i * 8 + 1]? = some (.int .i64 ((s.cells_ i).klen)) := by
  rw [show i * 8 + 1 = 1 + i * 8 by omega]; exact TableR.gi_cells__1 s i h
theorem TableR.sia_cells__1 (s : TableR) (i : Nat) (h : i < 8) (v : Int) : s.cells.setIfInBounds (i * 8 + 1) (.int .i64 v) = TableR.cells { s with cells_ := upd s.cells_ i ({ s.cells_ i with klen := v }) } := by
  rw [show i * 8 + 1 = 1 + i * 8 by omega]; exact TableR.si_cells__1 s i h v
theorem TableR.gia_cells__2 (s : TableR) (i : Nat) (h : i < 8) : s.cells[i * 8 + 2]? = some (.int .u8 (((s.cells_ i).key 0)).toNat) := by
  rw [show i * 8 + 2 = 2 + i * 8 by omega]; exact TableR.gi_cells__2 s i h
theorem TableR.sia_cells__2 (s : TableR) (i : Nat) (h : i < 8) (v : UInt8) : s.cells.setIfInBounds (i * 8 + 2) (.int .u8 v.toNat) = TableR.cells { s with cells_ := upd s.cells_ i ({ s.cells_ i with key := upd (s.cells_ i).key 0 v }) } := by
  rw [show i * 8 + 2 = 2 + i * 8 by omega]; exact TableR.si_cells__2 s i h v
theorem TableR.gia_cells__3 (s : TableR) (i : Nat) (h : i < 8) : s.cells[i * 8 + 3]? = some (.int .u8 (((s.cells_ i).key 1)).toNat) := by
  rw [show i * 8 + 3 = 3 + i * 8 by omega]; exact TableR.gi_cells__3 s i h
theorem TableR.sia_cells__3 (s : TableR) (i : Nat) (h : i < 8) (v : UInt8) : s.cells.setIfInBounds (i * 8 + 3) (.int .u8 v.toNat) = TableR.cells { s with cells_ := upd s.cells_ i ({ s.cells_ i with key := upd (s.cells_ i).key 1 v }) } := by
  rw [show i * 8 + 3 = 3 + i * 8 by omega]; exact TableR.si_cells__3 s i h v
theorem TableR.gia_cells__4 (s : TableR) (i : Nat) (h : i < 8) : s.cells[i * 8 + 4]? = some (.int .i64 ((s.cells_ i).vlen)) := by
  rw [show i * 8 + 4 = 4 + i * 8 by omega]; exact TableR.gi_cells__4 s i h
theorem TableR.sia_cells__4 (s : TableR) (i : Nat) (h : i < 8) (v : Int) : s.cells.setIfInBounds (i * 8 + 4) (.int .i64 v) = TableR.cells { s with cells_ := upd s.cells_ i ({ s.cells_ i with vlen := v }) } := by
  rw [show i * 8 + 4 = 4 + i * 8 by omega]; exact TableR.si_cells__4 s i h v
theorem TableR.gia_cells__5 (s : TableR) (i : Nat) (h : i < 8) : s.cells[i * 8 + 5]? = some (.int .u8 (((s.cells_ i).val 0)).toNat) := by
  rw [show i * 8 + 5 = 5 + i * 8 by omega]; exact TableR.gi_cells__5 s i h
theorem TableR.sia_cells__5 (s : TableR) (i : Nat) (h : i < 8) (v : UInt8) : s.cells.setIfInBounds (i * 8 + 5) (.int .u8 v.toNat) = TableR.cells { s with cells_ := upd s.cells_ i ({ s.cells_ i with val := upd (s.cells_ i).val 0 v }) } := by
  rw [show i * 8 + 5 = 5 + i * 8 by omega]; exact TableR.si_cells__5 s i h v
theorem TableR.gia_cells__6 (s : TableR) (i : Nat) (h : i < 8) : s.cells[i * 8 + 6]? = some (.int .u8 (((s.cells_ i).val 1)).toNat) := by
  rw [show i * 8 + 6 = 6 + i * 8 by omega]; exact TableR.gi_cells__6 s i h
theorem TableR.sia_cells__6 (s : TableR) (i : Nat) (h : i < 8) (v : UInt8) : s.cells.setIfInBounds (i * 8 + 6) (.int .u8 v.toNat) = TableR.cells { s with cells_ := upd s.cells_ i ({ s.cells_ i with val := upd (s.cells_ i).val 1 v }) } := by
  rw [show i * 8 + 6 = 6 + i * 8 by omega]; exact TableR.si_cells__6 s i h v
theorem TableR.gia_cells__7 (s : TableR) (i : Nat) (h : i < 8) : s.cells[i * 8 + 7]? = some (.int .u8 (((s.cells_ i).val 2)).toNat) := by
  rw [show i * 8 + 7 = 7 + i * 8 by omega]; exact TableR.gi_cells__7 s i h
theorem TableR.sia_cells__7 (s : TableR) (i : Nat) (h : i < 8) (v : UInt8) : s.cells.setIfInBounds (i * 8 + 7) (.int .u8 v.toNat) = TableR.cells { s with cells_ := upd s.cells_ i ({ s.cells_ i with val := upd (s.cells_ i).val 2 v }) } := by
  rw [show i * 8 + 7 = 7 + i * 8 by omega]; exact TableR.si_cells__7 s i h v
theorem KvR.gia_ss_1 (s : KvR) (i : Nat) (h : i < 3) : s.cells[66 + i * 6 + 1]? = some (.int .i64 ((s.ss i).err)) := by
  rw [show 66 + i * 6 + 1 = 67 + i * 6 by omega]; exact KvR.gi_ss_1 s i h
theorem KvR.sia_ss_1 (s : KvR) (i : Nat) (h : i < 3) (v : Int) : s.cells.setIfInBounds (66 + i * 6 + 1) (.int .i64 v) = KvR.cells { s with ss := upd s.ss i ({ s.ss i with err := v }) } := by
  rw [show 66 + i * 6 + 1 = 67 + i * 6 by omega]; exact KvR.si_ss_1 s i h v
theorem KvR.gia_ss_2 (s : KvR) (i : Nat) (h : i < 3) : s.cells[66 + i * 6 + 2]? = some (.int .i64 ((s.ss i).vlen)) := by
  rw [show 66 + i * 6 + 2 = 68 + i * 6 by omega]; exact KvR.gi_ss_2 s i h
theorem KvR.sia_ss_2 (s : KvR) (i : Nat) (h : i < 3) (v : Int) : s.cells.setIfInBounds (66 + i * 6 + 2) (.int .i64 v) = KvR.cells { s with ss := upd s.ss i ({ s.ss i with vlen := v }) } := by
  rw [show 66 + i * 6 + 2 = 68 + i * 6 by omega]; exact KvR.si_ss_2 s i h v
theorem KvR.gia_ss_3 (s : KvR) (i : Nat) (h : i < 3) : s.cells[66 + i * 6 + 3]? = some (.int .u8 (((s.ss i).val 0)).toNat) := by
  rw [show 66 + i * 6 + 3 = 69 + i * 6 by omega]; exact KvR.gi_ss_3 s i h
theorem KvR.sia_ss_3 (s : KvR) (i : Nat) (h : i < 3) (v : UInt8) : s.cells.setIfInBounds (66 + i * 6 + 3) (.int .u8 v.toNat) = KvR.cells { s with ss := upd s.ss i ({ s.ss i with val := upd (s.ss i).val 0 v }) } := by
  rw [show 66 + i * 6 + 3 = 69 + i * 6 by omega]; exact KvR.si_ss_3 s i h v
theorem KvR.gia_ss_4 (s : KvR) (i : Nat) (h : i < 3) : s.cells[66 + i * 6 + 4]? = some (.int .u8 (((s.ss i).val 1)).toNat) := by
  rw [show 66 + i * 6 + 4 = 70 + i * 6 by omega]; exact KvR.gi_ss_4 s i h
theorem KvR.sia_ss_4 (s : KvR) (i : Nat) (h : i < 3) (v : UInt8) : s.cells.setIfInBounds (66 + i * 6 + 4) (.int .u8 v.toNat) = KvR.cells { s with ss := upd s.ss i ({ s.ss i with val := upd (s.ss i).val 1 v }) } := by
  rw [show 66 + i * 6 + 4 = 70 + i * 6 by omega]; exact KvR.si_ss_4 s i h v
theorem KvR.gia_ss_5 (s : KvR) (i : Nat) (h : i < 3) : s.cells[66 + i * 6 + 5]? = some (.int .u8 (((s.ss i).val 2)).toNat) := by
  rw [show 66 + i * 6 + 5 = 71 + i * 6 by omega]; exact KvR.gi_ss_5 s i h
theorem KvR.sia_ss_5 (s : KvR) (i : Nat) (h : i < 3) (v : UInt8) : s.cells.setIfInBounds (66 + i * 6 + 5) (.int .u8 v.toNat) = KvR.cells { s with ss := upd s.ss i ({ s.ss i with val := upd (s.ss i).val 2 v }) } := by
  rw [show 66 + i * 6 + 5 = 71 + i * 6 by omega]; exact KvR.si_ss_5 s i h v
theorem NodeR.gia_reps_1 (s : NodeR) (i : Nat) (h : i < 3) : s.cells[13 + i * 4 + 1]? = some (.int .i64 ((s.reps i).seq)) := by
  rw [show 13 + i * 4 + 1 = 14 + i * 4 by omega]; exact NodeR.gi_reps_1 s i h
theorem NodeR.sia_reps_1 (s : NodeR) (i : Nat) (h : i < 3) (v : Int) : s.cells.setIfInBounds (13 + i * 4 + 1) (.int .i64 v) = NodeR.cells { s with reps := upd s.reps i ({ s.reps i with seq := v }) } := by
  rw [show 13 + i * 4 + 1 = 14 + i * 4 by omega]; exact NodeR.si_reps_1 s i h v
theorem NodeR.gia_reps_2 (s : NodeR) (i : Nat) (h : i < 3) : s.cells[13 + i * 4 + 2]? = some (.int .i64 (((s.reps i).ans).err)) := by
  rw [show 13 + i * 4 + 2 = 15 + i * 4 by omega]; exact NodeR.gi_reps_2 s i h
theorem NodeR.sia_reps_2 (s : NodeR) (i : Nat) (h : i < 3) (v : Int) : s.cells.setIfInBounds (13 + i * 4 + 2) (.int .i64 v) = NodeR.cells { s with reps := upd s.reps i ({ s.reps i with ans := { (s.reps i).ans with err := v } }) } := by
  rw [show 13 + i * 4 + 2 = 15 + i * 4 by omega]; exact NodeR.si_reps_2 s i h v
theorem NodeR.gia_reps_3 (s : NodeR) (i : Nat) (h : i < 3) : s.cells[13 + i * 4 + 3]? = some (.string (ByteArray.mk (((s.reps i).ans).val).toArray)) := by
  rw [show 13 + i * 4 + 3 = 16 + i * 4 by omega]; exact NodeR.gi_reps_3 s i h
theorem NodeR.sia_reps_3 (s : NodeR) (i : Nat) (h : i < 3) (v : Bs) : s.cells.setIfInBounds (13 + i * 4 + 3) (.string (ByteArray.mk v.toArray)) = NodeR.cells { s with reps := upd s.reps i ({ s.reps i with ans := { (s.reps i).ans with val := v } }) } := by
  rw [show 13 + i * 4 + 3 = 16 + i * 4 by omega]; exact NodeR.si_reps_3 s i h v
theorem StateM.gia_ents_1 (s : StateM) (i : Nat) (h : i < 6) : s.cells[6 + i * 2 + 1]? = some (.string (ByteArray.mk ((s.ents i).data).toArray)) := by
  rw [show 6 + i * 2 + 1 = 7 + i * 2 by omega]; exact StateM.gi_ents_1 s i h
theorem StateM.sia_ents_1 (s : StateM) (i : Nat) (h : i < 6) (v : Bs) : s.cells.setIfInBounds (6 + i * 2 + 1) (.string (ByteArray.mk v.toArray)) = StateM.cells { s with ents := upd s.ents i ({ s.ents i with data := v }) } := by
  rw [show 6 + i * 2 + 1 = 7 + i * 2 by omega]; exact StateM.si_ents_1 s i h v
theorem KvM.gia_ans_1_ (s : KvM) (i : Nat) (h : i < 3) : s.cells[12 + i * 2 + 1]? = some (.string (ByteArray.mk ((s.ans i).val).toArray)) := by
  rw [show 12 + i * 2 + 1 = 13 + i * 2 by omega]; exact KvM.gi_ans_1 s i h
theorem KvM.sia_ans_1 (s : KvM) (i : Nat) (h : i < 3) (v : Bs) : s.cells.setIfInBounds (12 + i * 2 + 1) (.string (ByteArray.mk v.toArray)) = KvM.cells { s with ans := upd s.ans i ({ s.ans i with val := v }) } := by
  rw [show 12 + i * 2 + 1 = 13 + i * 2 by omega]; exact KvM.si_ans_1 s i h v
theorem Ring.gia_ents_1 (s : Ring) (i : Nat) (h : i < 6) : s.cells[i * 2 + 1]? = some (.string (ByteArray.mk ((s.ents i).data).toArray)) := by
  rw [show i * 2 + 1 = 1 + i * 2 by omega]; exact Ring.gi_ents_1 s i h
theorem Ring.sia_ents_1 (s : Ring) (i : Nat) (h : i < 6) (v : Bs) : s.cells.setIfInBounds (i * 2 + 1) (.string (ByteArray.mk v.toArray)) = Ring.cells { s with ents := upd s.ents i ({ s.ents i with data := v }) } := by
  rw [show i * 2 + 1 = 1 + i * 2 by omega]; exact Ring.si_ents_1 s i h v
end Go.Tw
