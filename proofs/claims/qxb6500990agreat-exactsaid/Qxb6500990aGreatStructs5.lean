/- MADE BY PROGRAM (tools/gen_struct.py 3): the table's cells, whole elements -/
import Derived.Test.Qxb6500990aGreatStructs2
set_option linter.unusedVariables false
set_option linter.unusedSimpArgs false
namespace Go.Tw
open Go
structure KvX where
  cells_ : Nat → Cell
  live : Int
  tombs : Int
  ss : Nat → Sess
def KvX.cells (s : KvX) : Array Value := #[.int .i64 ((s.cells_ 0).state), .int .i64 ((s.cells_ 0).klen), .int .u8 (((s.cells_ 0).key 0)).toNat, .int .u8 (((s.cells_ 0).key 1)).toNat, .int .i64 ((s.cells_ 0).vlen), .int .u8 (((s.cells_ 0).val 0)).toNat, .int .u8 (((s.cells_ 0).val 1)).toNat, .int .u8 (((s.cells_ 0).val 2)).toNat, .int .i64 ((s.cells_ 1).state), .int .i64 ((s.cells_ 1).klen), .int .u8 (((s.cells_ 1).key 0)).toNat, .int .u8 (((s.cells_ 1).key 1)).toNat, .int .i64 ((s.cells_ 1).vlen), .int .u8 (((s.cells_ 1).val 0)).toNat, .int .u8 (((s.cells_ 1).val 1)).toNat, .int .u8 (((s.cells_ 1).val 2)).toNat, .int .i64 ((s.cells_ 2).state), .int .i64 ((s.cells_ 2).klen), .int .u8 (((s.cells_ 2).key 0)).toNat, .int .u8 (((s.cells_ 2).key 1)).toNat, .int .i64 ((s.cells_ 2).vlen), .int .u8 (((s.cells_ 2).val 0)).toNat, .int .u8 (((s.cells_ 2).val 1)).toNat, .int .u8 (((s.cells_ 2).val 2)).toNat, .int .i64 ((s.cells_ 3).state), .int .i64 ((s.cells_ 3).klen), .int .u8 (((s.cells_ 3).key 0)).toNat, .int .u8 (((s.cells_ 3).key 1)).toNat, .int .i64 ((s.cells_ 3).vlen), .int .u8 (((s.cells_ 3).val 0)).toNat, .int .u8 (((s.cells_ 3).val 1)).toNat, .int .u8 (((s.cells_ 3).val 2)).toNat, .int .i64 ((s.cells_ 4).state), .int .i64 ((s.cells_ 4).klen), .int .u8 (((s.cells_ 4).key 0)).toNat, .int .u8 (((s.cells_ 4).key 1)).toNat, .int .i64 ((s.cells_ 4).vlen), .int .u8 (((s.cells_ 4).val 0)).toNat, .int .u8 (((s.cells_ 4).val 1)).toNat, .int .u8 (((s.cells_ 4).val 2)).toNat, .int .i64 ((s.cells_ 5).state), .int .i64 ((s.cells_ 5).klen), .int .u8 (((s.cells_ 5).key 0)).toNat, .int .u8 (((s.cells_ 5).key 1)).toNat, .int .i64 ((s.cells_ 5).vlen), .int .u8 (((s.cells_ 5).val 0)).toNat, .int .u8 (((s.cells_ 5).val 1)).toNat, .int .u8 (((s.cells_ 5).val 2)).toNat, .int .i64 ((s.cells_ 6).state), .int .i64 ((s.cells_ 6).klen), .int .u8 (((s.cells_ 6).key 0)).toNat, .int .u8 (((s.cells_ 6).key 1)).toNat, .int .i64 ((s.cells_ 6).vlen), .int .u8 (((s.cells_ 6).val 0)).toNat, .int .u8 (((s.cells_ 6).val 1)).toNat, .int .u8 (((s.cells_ 6).val 2)).toNat, .int .i64 ((s.cells_ 7).state), .int .i64 ((s.cells_ 7).klen), .int .u8 (((s.cells_ 7).key 0)).toNat, .int .u8 (((s.cells_ 7).key 1)).toNat, .int .i64 ((s.cells_ 7).vlen), .int .u8 (((s.cells_ 7).val 0)).toNat, .int .u8 (((s.cells_ 7).val 1)).toNat, .int .u8 (((s.cells_ 7).val 2)).toNat, .int .i64 s.live, .int .i64 s.tombs, .int .i64 ((s.ss 0).seq), .int .i64 ((s.ss 0).err), .int .i64 ((s.ss 0).vlen), .int .u8 (((s.ss 0).val 0)).toNat, .int .u8 (((s.ss 0).val 1)).toNat, .int .u8 (((s.ss 0).val 2)).toNat, .int .i64 ((s.ss 1).seq), .int .i64 ((s.ss 1).err), .int .i64 ((s.ss 1).vlen), .int .u8 (((s.ss 1).val 0)).toNat, .int .u8 (((s.ss 1).val 1)).toNat, .int .u8 (((s.ss 1).val 2)).toNat, .int .i64 ((s.ss 2).seq), .int .i64 ((s.ss 2).err), .int .i64 ((s.ss 2).vlen), .int .u8 (((s.ss 2).val 0)).toNat, .int .u8 (((s.ss 2).val 1)).toNat, .int .u8 (((s.ss 2).val 2)).toNat]
theorem KvX.g0 (s : KvX) : s.cells[0]? = some (.int .i64 ((s.cells_ 0).state)) := rfl
theorem KvX.s0 (s : KvX) (v : Int) : s.cells.setIfInBounds 0 (.int .i64 v) = KvX.cells { s with cells_ := upd s.cells_ 0 { s.cells_ 0 with state := v } } := rfl
theorem KvX.g1 (s : KvX) : s.cells[1]? = some (.int .i64 ((s.cells_ 0).klen)) := rfl
theorem KvX.s1 (s : KvX) (v : Int) : s.cells.setIfInBounds 1 (.int .i64 v) = KvX.cells { s with cells_ := upd s.cells_ 0 { s.cells_ 0 with klen := v } } := rfl
theorem KvX.g2 (s : KvX) : s.cells[2]? = some (.int .u8 (((s.cells_ 0).key 0)).toNat) := rfl
theorem KvX.s2 (s : KvX) (v : UInt8) : s.cells.setIfInBounds 2 (.int .u8 v.toNat) = KvX.cells { s with cells_ := upd s.cells_ 0 { s.cells_ 0 with key := upd (s.cells_ 0).key 0 v } } := rfl
theorem KvX.g3 (s : KvX) : s.cells[3]? = some (.int .u8 (((s.cells_ 0).key 1)).toNat) := rfl
theorem KvX.s3 (s : KvX) (v : UInt8) : s.cells.setIfInBounds 3 (.int .u8 v.toNat) = KvX.cells { s with cells_ := upd s.cells_ 0 { s.cells_ 0 with key := upd (s.cells_ 0).key 1 v } } := rfl
theorem KvX.g4 (s : KvX) : s.cells[4]? = some (.int .i64 ((s.cells_ 0).vlen)) := rfl
theorem KvX.s4 (s : KvX) (v : Int) : s.cells.setIfInBounds 4 (.int .i64 v) = KvX.cells { s with cells_ := upd s.cells_ 0 { s.cells_ 0 with vlen := v } } := rfl
theorem KvX.g5 (s : KvX) : s.cells[5]? = some (.int .u8 (((s.cells_ 0).val 0)).toNat) := rfl
theorem KvX.s5 (s : KvX) (v : UInt8) : s.cells.setIfInBounds 5 (.int .u8 v.toNat) = KvX.cells { s with cells_ := upd s.cells_ 0 { s.cells_ 0 with val := upd (s.cells_ 0).val 0 v } } := rfl
theorem KvX.g6 (s : KvX) : s.cells[6]? = some (.int .u8 (((s.cells_ 0).val 1)).toNat) := rfl
theorem KvX.s6 (s : KvX) (v : UInt8) : s.cells.setIfInBounds 6 (.int .u8 v.toNat) = KvX.cells { s with cells_ := upd s.cells_ 0 { s.cells_ 0 with val := upd (s.cells_ 0).val 1 v } } := rfl
theorem KvX.g7 (s : KvX) : s.cells[7]? = some (.int .u8 (((s.cells_ 0).val 2)).toNat) := rfl
theorem KvX.s7 (s : KvX) (v : UInt8) : s.cells.setIfInBounds 7 (.int .u8 v.toNat) = KvX.cells { s with cells_ := upd s.cells_ 0 { s.cells_ 0 with val := upd (s.cells_ 0).val 2 v } } := rfl
theorem KvX.g8 (s : KvX) : s.cells[8]? = some (.int .i64 ((s.cells_ 1).state)) := rfl
theorem KvX.s8 (s : KvX) (v : Int) : s.cells.setIfInBounds 8 (.int .i64 v) = KvX.cells { s with cells_ := upd s.cells_ 1 { s.cells_ 1 with state := v } } := rfl
theorem KvX.g9 (s : KvX) : s.cells[9]? = some (.int .i64 ((s.cells_ 1).klen)) := rfl
theorem KvX.s9 (s : KvX) (v : Int) : s.cells.setIfInBounds 9 (.int .i64 v) = KvX.cells { s with cells_ := upd s.cells_ 1 { s.cells_ 1 with klen := v } } := rfl
theorem KvX.g10 (s : KvX) : s.cells[10]? = some (.int .u8 (((s.cells_ 1).key 0)).toNat) := rfl
theorem KvX.s10 (s : KvX) (v : UInt8) : s.cells.setIfInBounds 10 (.int .u8 v.toNat) = KvX.cells { s with cells_ := upd s.cells_ 1 { s.cells_ 1 with key := upd (s.cells_ 1).key 0 v } } := rfl
theorem KvX.g11 (s : KvX) : s.cells[11]? = some (.int .u8 (((s.cells_ 1).key 1)).toNat) := rfl
theorem KvX.s11 (s : KvX) (v : UInt8) : s.cells.setIfInBounds 11 (.int .u8 v.toNat) = KvX.cells { s with cells_ := upd s.cells_ 1 { s.cells_ 1 with key := upd (s.cells_ 1).key 1 v } } := rfl
theorem KvX.g12 (s : KvX) : s.cells[12]? = some (.int .i64 ((s.cells_ 1).vlen)) := rfl
theorem KvX.s12 (s : KvX) (v : Int) : s.cells.setIfInBounds 12 (.int .i64 v) = KvX.cells { s with cells_ := upd s.cells_ 1 { s.cells_ 1 with vlen := v } } := rfl
theorem KvX.g13 (s : KvX) : s.cells[13]? = some (.int .u8 (((s.cells_ 1).val 0)).toNat) := rfl
theorem KvX.s13 (s : KvX) (v : UInt8) : s.cells.setIfInBounds 13 (.int .u8 v.toNat) = KvX.cells { s with cells_ := upd s.cells_ 1 { s.cells_ 1 with val := upd (s.cells_ 1).val 0 v } } := rfl
theorem KvX.g14 (s : KvX) : s.cells[14]? = some (.int .u8 (((s.cells_ 1).val 1)).toNat) := rfl
theorem KvX.s14 (s : KvX) (v : UInt8) : s.cells.setIfInBounds 14 (.int .u8 v.toNat) = KvX.cells { s with cells_ := upd s.cells_ 1 { s.cells_ 1 with val := upd (s.cells_ 1).val 1 v } } := rfl
theorem KvX.g15 (s : KvX) : s.cells[15]? = some (.int .u8 (((s.cells_ 1).val 2)).toNat) := rfl
theorem KvX.s15 (s : KvX) (v : UInt8) : s.cells.setIfInBounds 15 (.int .u8 v.toNat) = KvX.cells { s with cells_ := upd s.cells_ 1 { s.cells_ 1 with val := upd (s.cells_ 1).val 2 v } } := rfl
theorem KvX.g16 (s : KvX) : s.cells[16]? = some (.int .i64 ((s.cells_ 2).state)) := rfl
theorem KvX.s16 (s : KvX) (v : Int) : s.cells.setIfInBounds 16 (.int .i64 v) = KvX.cells { s with cells_ := upd s.cells_ 2 { s.cells_ 2 with state := v } } := rfl
theorem KvX.g17 (s : KvX) : s.cells[17]? = some (.int .i64 ((s.cells_ 2).klen)) := rfl
theorem KvX.s17 (s : KvX) (v : Int) : s.cells.setIfInBounds 17 (.int .i64 v) = KvX.cells { s with cells_ := upd s.cells_ 2 { s.cells_ 2 with klen := v } } := rfl
theorem KvX.g18 (s : KvX) : s.cells[18]? = some (.int .u8 (((s.cells_ 2).key 0)).toNat) := rfl
theorem KvX.s18 (s : KvX) (v : UInt8) : s.cells.setIfInBounds 18 (.int .u8 v.toNat) = KvX.cells { s with cells_ := upd s.cells_ 2 { s.cells_ 2 with key := upd (s.cells_ 2).key 0 v } } := rfl
theorem KvX.g19 (s : KvX) : s.cells[19]? = some (.int .u8 (((s.cells_ 2).key 1)).toNat) := rfl
theorem KvX.s19 (s : KvX) (v : UInt8) : s.cells.setIfInBounds 19 (.int .u8 v.toNat) = KvX.cells { s with cells_ := upd s.cells_ 2 { s.cells_ 2 with key := upd (s.cells_ 2).key 1 v } } := rfl
theorem KvX.g20 (s : KvX) : s.cells[20]? = some (.int .i64 ((s.cells_ 2).vlen)) := rfl
theorem KvX.s20 (s : KvX) (v : Int) : s.cells.setIfInBounds 20 (.int .i64 v) = KvX.cells { s with cells_ := upd s.cells_ 2 { s.cells_ 2 with vlen := v } } := rfl
theorem KvX.g21 (s : KvX) : s.cells[21]? = some (.int .u8 (((s.cells_ 2).val 0)).toNat) := rfl
theorem KvX.s21 (s : KvX) (v : UInt8) : s.cells.setIfInBounds 21 (.int .u8 v.toNat) = KvX.cells { s with cells_ := upd s.cells_ 2 { s.cells_ 2 with val := upd (s.cells_ 2).val 0 v } } := rfl
theorem KvX.g22 (s : KvX) : s.cells[22]? = some (.int .u8 (((s.cells_ 2).val 1)).toNat) := rfl
theorem KvX.s22 (s : KvX) (v : UInt8) : s.cells.setIfInBounds 22 (.int .u8 v.toNat) = KvX.cells { s with cells_ := upd s.cells_ 2 { s.cells_ 2 with val := upd (s.cells_ 2).val 1 v } } := rfl
theorem KvX.g23 (s : KvX) : s.cells[23]? = some (.int .u8 (((s.cells_ 2).val 2)).toNat) := rfl
theorem KvX.s23 (s : KvX) (v : UInt8) : s.cells.setIfInBounds 23 (.int .u8 v.toNat) = KvX.cells { s with cells_ := upd s.cells_ 2 { s.cells_ 2 with val := upd (s.cells_ 2).val 2 v } } := rfl
theorem KvX.g24 (s : KvX) : s.cells[24]? = some (.int .i64 ((s.cells_ 3).state)) := rfl
theorem KvX.s24 (s : KvX) (v : Int) : s.cells.setIfInBounds 24 (.int .i64 v) = KvX.cells { s with cells_ := upd s.cells_ 3 { s.cells_ 3 with state := v } } := rfl
theorem KvX.g25 (s : KvX) : s.cells[25]? = some (.int .i64 ((s.cells_ 3).klen)) := rfl
theorem KvX.s25 (s : KvX) (v : Int) : s.cells.setIfInBounds 25 (.int .i64 v) = KvX.cells { s with cells_ := upd s.cells_ 3 { s.cells_ 3 with klen := v } } := rfl
theorem KvX.g26 (s : KvX) : s.cells[26]? = some (.int .u8 (((s.cells_ 3).key 0)).toNat) := rfl
theorem KvX.s26 (s : KvX) (v : UInt8) : s.cells.setIfInBounds 26 (.int .u8 v.toNat) = KvX.cells { s with cells_ := upd s.cells_ 3 { s.cells_ 3 with key := upd (s.cells_ 3).key 0 v } } := rfl
theorem KvX.g27 (s : KvX) : s.cells[27]? = some (.int .u8 (((s.cells_ 3).key 1)).toNat) := rfl
theorem KvX.s27 (s : KvX) (v : UInt8) : s.cells.setIfInBounds 27 (.int .u8 v.toNat) = KvX.cells { s with cells_ := upd s.cells_ 3 { s.cells_ 3 with key := upd (s.cells_ 3).key 1 v } } := rfl
theorem KvX.g28 (s : KvX) : s.cells[28]? = some (.int .i64 ((s.cells_ 3).vlen)) := rfl
theorem KvX.s28 (s : KvX) (v : Int) : s.cells.setIfInBounds 28 (.int .i64 v) = KvX.cells { s with cells_ := upd s.cells_ 3 { s.cells_ 3 with vlen := v } } := rfl
theorem KvX.g29 (s : KvX) : s.cells[29]? = some (.int .u8 (((s.cells_ 3).val 0)).toNat) := rfl
theorem KvX.s29 (s : KvX) (v : UInt8) : s.cells.setIfInBounds 29 (.int .u8 v.toNat) = KvX.cells { s with cells_ := upd s.cells_ 3 { s.cells_ 3 with val := upd (s.cells_ 3).val 0 v } } := rfl
theorem KvX.g30 (s : KvX) : s.cells[30]? = some (.int .u8 (((s.cells_ 3).val 1)).toNat) := rfl
theorem KvX.s30 (s : KvX) (v : UInt8) : s.cells.setIfInBounds 30 (.int .u8 v.toNat) = KvX.cells { s with cells_ := upd s.cells_ 3 { s.cells_ 3 with val := upd (s.cells_ 3).val 1 v } } := rfl
theorem KvX.g31 (s : KvX) : s.cells[31]? = some (.int .u8 (((s.cells_ 3).val 2)).toNat) := rfl
theorem KvX.s31 (s : KvX) (v : UInt8) : s.cells.setIfInBounds 31 (.int .u8 v.toNat) = KvX.cells { s with cells_ := upd s.cells_ 3 { s.cells_ 3 with val := upd (s.cells_ 3).val 2 v } } := rfl
theorem KvX.g32 (s : KvX) : s.cells[32]? = some (.int .i64 ((s.cells_ 4).state)) := rfl
theorem KvX.s32 (s : KvX) (v : Int) : s.cells.setIfInBounds 32 (.int .i64 v) = KvX.cells { s with cells_ := upd s.cells_ 4 { s.cells_ 4 with state := v } } := rfl
theorem KvX.g33 (s : KvX) : s.cells[33]? = some (.int .i64 ((s.cells_ 4).klen)) := rfl
theorem KvX.s33 (s : KvX) (v : Int) : s.cells.setIfInBounds 33 (.int .i64 v) = KvX.cells { s with cells_ := upd s.cells_ 4 { s.cells_ 4 with klen := v } } := rfl
theorem KvX.g34 (s : KvX) : s.cells[34]? = some (.int .u8 (((s.cells_ 4).key 0)).toNat) := rfl
theorem KvX.s34 (s : KvX) (v : UInt8) : s.cells.setIfInBounds 34 (.int .u8 v.toNat) = KvX.cells { s with cells_ := upd s.cells_ 4 { s.cells_ 4 with key := upd (s.cells_ 4).key 0 v } } := rfl
theorem KvX.g35 (s : KvX) : s.cells[35]? = some (.int .u8 (((s.cells_ 4).key 1)).toNat) := rfl
theorem KvX.s35 (s : KvX) (v : UInt8) : s.cells.setIfInBounds 35 (.int .u8 v.toNat) = KvX.cells { s with cells_ := upd s.cells_ 4 { s.cells_ 4 with key := upd (s.cells_ 4).key 1 v } } := rfl
theorem KvX.g36 (s : KvX) : s.cells[36]? = some (.int .i64 ((s.cells_ 4).vlen)) := rfl
theorem KvX.s36 (s : KvX) (v : Int) : s.cells.setIfInBounds 36 (.int .i64 v) = KvX.cells { s with cells_ := upd s.cells_ 4 { s.cells_ 4 with vlen := v } } := rfl
theorem KvX.g37 (s : KvX) : s.cells[37]? = some (.int .u8 (((s.cells_ 4).val 0)).toNat) := rfl
theorem KvX.s37 (s : KvX) (v : UInt8) : s.cells.setIfInBounds 37 (.int .u8 v.toNat) = KvX.cells { s with cells_ := upd s.cells_ 4 { s.cells_ 4 with val := upd (s.cells_ 4).val 0 v } } := rfl
theorem KvX.g38 (s : KvX) : s.cells[38]? = some (.int .u8 (((s.cells_ 4).val 1)).toNat) := rfl
theorem KvX.s38 (s : KvX) (v : UInt8) : s.cells.setIfInBounds 38 (.int .u8 v.toNat) = KvX.cells { s with cells_ := upd s.cells_ 4 { s.cells_ 4 with val := upd (s.cells_ 4).val 1 v } } := rfl
theorem KvX.g39 (s : KvX) : s.cells[39]? = some (.int .u8 (((s.cells_ 4).val 2)).toNat) := rfl
theorem KvX.s39 (s : KvX) (v : UInt8) : s.cells.setIfInBounds 39 (.int .u8 v.toNat) = KvX.cells { s with cells_ := upd s.cells_ 4 { s.cells_ 4 with val := upd (s.cells_ 4).val 2 v } } := rfl
theorem KvX.g40 (s : KvX) : s.cells[40]? = some (.int .i64 ((s.cells_ 5).state)) := rfl
theorem KvX.s40 (s : KvX) (v : Int) : s.cells.setIfInBounds 40 (.int .i64 v) = KvX.cells { s with cells_ := upd s.cells_ 5 { s.cells_ 5 with state := v } } := rfl
theorem KvX.g41 (s : KvX) : s.cells[41]? = some (.int .i64 ((s.cells_ 5).klen)) := rfl
theorem KvX.s41 (s : KvX) (v : Int) : s.cells.setIfInBounds 41 (.int .i64 v) = KvX.cells { s with cells_ := upd s.cells_ 5 { s.cells_ 5 with klen := v } } := rfl
theorem KvX.g42 (s : KvX) : s.cells[42]? = some (.int .u8 (((s.cells_ 5).key 0)).toNat) := rfl
theorem KvX.s42 (s : KvX) (v : UInt8) : s.cells.setIfInBounds 42 (.int .u8 v.toNat) = KvX.cells { s with cells_ := upd s.cells_ 5 { s.cells_ 5 with key := upd (s.cells_ 5).key 0 v } } := rfl
theorem KvX.g43 (s : KvX) : s.cells[43]? = some (.int .u8 (((s.cells_ 5).key 1)).toNat) := rfl
theorem KvX.s43 (s : KvX) (v : UInt8) : s.cells.setIfInBounds 43 (.int .u8 v.toNat) = KvX.cells { s with cells_ := upd s.cells_ 5 { s.cells_ 5 with key := upd (s.cells_ 5).key 1 v } } := rfl
theorem KvX.g44 (s : KvX) : s.cells[44]? = some (.int .i64 ((s.cells_ 5).vlen)) := rfl
theorem KvX.s44 (s : KvX) (v : Int) : s.cells.setIfInBounds 44 (.int .i64 v) = KvX.cells { s with cells_ := upd s.cells_ 5 { s.cells_ 5 with vlen := v } } := rfl
theorem KvX.g45 (s : KvX) : s.cells[45]? = some (.int .u8 (((s.cells_ 5).val 0)).toNat) := rfl
theorem KvX.s45 (s : KvX) (v : UInt8) : s.cells.setIfInBounds 45 (.int .u8 v.toNat) = KvX.cells { s with cells_ := upd s.cells_ 5 { s.cells_ 5 with val := upd (s.cells_ 5).val 0 v } } := rfl
theorem KvX.g46 (s : KvX) : s.cells[46]? = some (.int .u8 (((s.cells_ 5).val 1)).toNat) := rfl
theorem KvX.s46 (s : KvX) (v : UInt8) : s.cells.setIfInBounds 46 (.int .u8 v.toNat) = KvX.cells { s with cells_ := upd s.cells_ 5 { s.cells_ 5 with val := upd (s.cells_ 5).val 1 v } } := rfl
theorem KvX.g47 (s : KvX) : s.cells[47]? = some (.int .u8 (((s.cells_ 5).val 2)).toNat) := rfl
theorem KvX.s47 (s : KvX) (v : UInt8) : s.cells.setIfInBounds 47 (.int .u8 v.toNat) = KvX.cells { s with cells_ := upd s.cells_ 5 { s.cells_ 5 with val := upd (s.cells_ 5).val 2 v } } := rfl
theorem KvX.g48 (s : KvX) : s.cells[48]? = some (.int .i64 ((s.cells_ 6).state)) := rfl
theorem KvX.s48 (s : KvX) (v : Int) : s.cells.setIfInBounds 48 (.int .i64 v) = KvX.cells { s with cells_ := upd s.cells_ 6 { s.cells_ 6 with state := v } } := rfl
theorem KvX.g49 (s : KvX) : s.cells[49]? = some (.int .i64 ((s.cells_ 6).klen)) := rfl
theorem KvX.s49 (s : KvX) (v : Int) : s.cells.setIfInBounds 49 (.int .i64 v) = KvX.cells { s with cells_ := upd s.cells_ 6 { s.cells_ 6 with klen := v } } := rfl
theorem KvX.g50 (s : KvX) : s.cells[50]? = some (.int .u8 (((s.cells_ 6).key 0)).toNat) := rfl
theorem KvX.s50 (s : KvX) (v : UInt8) : s.cells.setIfInBounds 50 (.int .u8 v.toNat) = KvX.cells { s with cells_ := upd s.cells_ 6 { s.cells_ 6 with key := upd (s.cells_ 6).key 0 v } } := rfl
theorem KvX.g51 (s : KvX) : s.cells[51]? = some (.int .u8 (((s.cells_ 6).key 1)).toNat) := rfl
theorem KvX.s51 (s : KvX) (v : UInt8) : s.cells.setIfInBounds 51 (.int .u8 v.toNat) = KvX.cells { s with cells_ := upd s.cells_ 6 { s.cells_ 6 with key := upd (s.cells_ 6).key 1 v } } := rfl
theorem KvX.g52 (s : KvX) : s.cells[52]? = some (.int .i64 ((s.cells_ 6).vlen)) := rfl
theorem KvX.s52 (s : KvX) (v : Int) : s.cells.setIfInBounds 52 (.int .i64 v) = KvX.cells { s with cells_ := upd s.cells_ 6 { s.cells_ 6 with vlen := v } } := rfl
theorem KvX.g53 (s : KvX) : s.cells[53]? = some (.int .u8 (((s.cells_ 6).val 0)).toNat) := rfl
theorem KvX.s53 (s : KvX) (v : UInt8) : s.cells.setIfInBounds 53 (.int .u8 v.toNat) = KvX.cells { s with cells_ := upd s.cells_ 6 { s.cells_ 6 with val := upd (s.cells_ 6).val 0 v } } := rfl
theorem KvX.g54 (s : KvX) : s.cells[54]? = some (.int .u8 (((s.cells_ 6).val 1)).toNat) := rfl
theorem KvX.s54 (s : KvX) (v : UInt8) : s.cells.setIfInBounds 54 (.int .u8 v.toNat) = KvX.cells { s with cells_ := upd s.cells_ 6 { s.cells_ 6 with val := upd (s.cells_ 6).val 1 v } } := rfl
theorem KvX.g55 (s : KvX) : s.cells[55]? = some (.int .u8 (((s.cells_ 6).val 2)).toNat) := rfl
theorem KvX.s55 (s : KvX) (v : UInt8) : s.cells.setIfInBounds 55 (.int .u8 v.toNat) = KvX.cells { s with cells_ := upd s.cells_ 6 { s.cells_ 6 with val := upd (s.cells_ 6).val 2 v } } := rfl
theorem KvX.g56 (s : KvX) : s.cells[56]? = some (.int .i64 ((s.cells_ 7).state)) := rfl
theorem KvX.s56 (s : KvX) (v : Int) : s.cells.setIfInBounds 56 (.int .i64 v) = KvX.cells { s with cells_ := upd s.cells_ 7 { s.cells_ 7 with state := v } } := rfl
theorem KvX.g57 (s : KvX) : s.cells[57]? = some (.int .i64 ((s.cells_ 7).klen)) := rfl
theorem KvX.s57 (s : KvX) (v : Int) : s.cells.setIfInBounds 57 (.int .i64 v) = KvX.cells { s with cells_ := upd s.cells_ 7 { s.cells_ 7 with klen := v } } := rfl
theorem KvX.g58 (s : KvX) : s.cells[58]? = some (.int .u8 (((s.cells_ 7).key 0)).toNat) := rfl
theorem KvX.s58 (s : KvX) (v : UInt8) : s.cells.setIfInBounds 58 (.int .u8 v.toNat) = KvX.cells { s with cells_ := upd s.cells_ 7 { s.cells_ 7 with key := upd (s.cells_ 7).key 0 v } } := rfl
theorem KvX.g59 (s : KvX) : s.cells[59]? = some (.int .u8 (((s.cells_ 7).key 1)).toNat) := rfl
theorem KvX.s59 (s : KvX) (v : UInt8) : s.cells.setIfInBounds 59 (.int .u8 v.toNat) = KvX.cells { s with cells_ := upd s.cells_ 7 { s.cells_ 7 with key := upd (s.cells_ 7).key 1 v } } := rfl
theorem KvX.g60 (s : KvX) : s.cells[60]? = some (.int .i64 ((s.cells_ 7).vlen)) := rfl
theorem KvX.s60 (s : KvX) (v : Int) : s.cells.setIfInBounds 60 (.int .i64 v) = KvX.cells { s with cells_ := upd s.cells_ 7 { s.cells_ 7 with vlen := v } } := rfl
theorem KvX.g61 (s : KvX) : s.cells[61]? = some (.int .u8 (((s.cells_ 7).val 0)).toNat) := rfl
theorem KvX.s61 (s : KvX) (v : UInt8) : s.cells.setIfInBounds 61 (.int .u8 v.toNat) = KvX.cells { s with cells_ := upd s.cells_ 7 { s.cells_ 7 with val := upd (s.cells_ 7).val 0 v } } := rfl
theorem KvX.g62 (s : KvX) : s.cells[62]? = some (.int .u8 (((s.cells_ 7).val 1)).toNat) := rfl
theorem KvX.s62 (s : KvX) (v : UInt8) : s.cells.setIfInBounds 62 (.int .u8 v.toNat) = KvX.cells { s with cells_ := upd s.cells_ 7 { s.cells_ 7 with val := upd (s.cells_ 7).val 1 v } } := rfl
theorem KvX.g63 (s : KvX) : s.cells[63]? = some (.int .u8 (((s.cells_ 7).val 2)).toNat) := rfl
theorem KvX.s63 (s : KvX) (v : UInt8) : s.cells.setIfInBounds 63 (.int .u8 v.toNat) = KvX.cells { s with cells_ := upd s.cells_ 7 { s.cells_ 7 with val := upd (s.cells_ 7).val 2 v } } := rfl
theorem KvX.g64 (s : KvX) : s.cells[64]? = some (.int .i64 s.live) := rfl
theorem KvX.s64 (s : KvX) (v : Int) : s.cells.setIfInBounds 64 (.int .i64 v) = KvX.cells { s with live := v } := rfl
theorem KvX.g65 (s : KvX) : s.cells[65]? = some (.int .i64 s.tombs) := rfl
theorem KvX.s65 (s : KvX) (v : Int) : s.cells.setIfInBounds 65 (.int .i64 v) = KvX.cells { s with tombs := v } := rfl
theorem KvX.g66 (s : KvX) : s.cells[66]? = some (.int .i64 ((s.ss 0).seq)) := rfl
theorem KvX.s66 (s : KvX) (v : Int) : s.cells.setIfInBounds 66 (.int .i64 v) = KvX.cells { s with ss := upd s.ss 0 { s.ss 0 with seq := v } } := rfl
theorem KvX.g67 (s : KvX) : s.cells[67]? = some (.int .i64 ((s.ss 0).err)) := rfl
theorem KvX.s67 (s : KvX) (v : Int) : s.cells.setIfInBounds 67 (.int .i64 v) = KvX.cells { s with ss := upd s.ss 0 { s.ss 0 with err := v } } := rfl
theorem KvX.g68 (s : KvX) : s.cells[68]? = some (.int .i64 ((s.ss 0).vlen)) := rfl
theorem KvX.s68 (s : KvX) (v : Int) : s.cells.setIfInBounds 68 (.int .i64 v) = KvX.cells { s with ss := upd s.ss 0 { s.ss 0 with vlen := v } } := rfl
theorem KvX.g69 (s : KvX) : s.cells[69]? = some (.int .u8 (((s.ss 0).val 0)).toNat) := rfl
theorem KvX.s69 (s : KvX) (v : UInt8) : s.cells.setIfInBounds 69 (.int .u8 v.toNat) = KvX.cells { s with ss := upd s.ss 0 { s.ss 0 with val := upd (s.ss 0).val 0 v } } := rfl
theorem KvX.g70 (s : KvX) : s.cells[70]? = some (.int .u8 (((s.ss 0).val 1)).toNat) := rfl
theorem KvX.s70 (s : KvX) (v : UInt8) : s.cells.setIfInBounds 70 (.int .u8 v.toNat) = KvX.cells { s with ss := upd s.ss 0 { s.ss 0 with val := upd (s.ss 0).val 1 v } } := rfl
theorem KvX.g71 (s : KvX) : s.cells[71]? = some (.int .u8 (((s.ss 0).val 2)).toNat) := rfl
theorem KvX.s71 (s : KvX) (v : UInt8) : s.cells.setIfInBounds 71 (.int .u8 v.toNat) = KvX.cells { s with ss := upd s.ss 0 { s.ss 0 with val := upd (s.ss 0).val 2 v } } := rfl
theorem KvX.g72 (s : KvX) : s.cells[72]? = some (.int .i64 ((s.ss 1).seq)) := rfl
theorem KvX.s72 (s : KvX) (v : Int) : s.cells.setIfInBounds 72 (.int .i64 v) = KvX.cells { s with ss := upd s.ss 1 { s.ss 1 with seq := v } } := rfl
theorem KvX.g73 (s : KvX) : s.cells[73]? = some (.int .i64 ((s.ss 1).err)) := rfl
theorem KvX.s73 (s : KvX) (v : Int) : s.cells.setIfInBounds 73 (.int .i64 v) = KvX.cells { s with ss := upd s.ss 1 { s.ss 1 with err := v } } := rfl
theorem KvX.g74 (s : KvX) : s.cells[74]? = some (.int .i64 ((s.ss 1).vlen)) := rfl
theorem KvX.s74 (s : KvX) (v : Int) : s.cells.setIfInBounds 74 (.int .i64 v) = KvX.cells { s with ss := upd s.ss 1 { s.ss 1 with vlen := v } } := rfl
theorem KvX.g75 (s : KvX) : s.cells[75]? = some (.int .u8 (((s.ss 1).val 0)).toNat) := rfl
theorem KvX.s75 (s : KvX) (v : UInt8) : s.cells.setIfInBounds 75 (.int .u8 v.toNat) = KvX.cells { s with ss := upd s.ss 1 { s.ss 1 with val := upd (s.ss 1).val 0 v } } := rfl
theorem KvX.g76 (s : KvX) : s.cells[76]? = some (.int .u8 (((s.ss 1).val 1)).toNat) := rfl
theorem KvX.s76 (s : KvX) (v : UInt8) : s.cells.setIfInBounds 76 (.int .u8 v.toNat) = KvX.cells { s with ss := upd s.ss 1 { s.ss 1 with val := upd (s.ss 1).val 1 v } } := rfl
theorem KvX.g77 (s : KvX) : s.cells[77]? = some (.int .u8 (((s.ss 1).val 2)).toNat) := rfl
theorem KvX.s77 (s : KvX) (v : UInt8) : s.cells.setIfInBounds 77 (.int .u8 v.toNat) = KvX.cells { s with ss := upd s.ss 1 { s.ss 1 with val := upd (s.ss 1).val 2 v } } := rfl
theorem KvX.g78 (s : KvX) : s.cells[78]? = some (.int .i64 ((s.ss 2).seq)) := rfl
theorem KvX.s78 (s : KvX) (v : Int) : s.cells.setIfInBounds 78 (.int .i64 v) = KvX.cells { s with ss := upd s.ss 2 { s.ss 2 with seq := v } } := rfl
theorem KvX.g79 (s : KvX) : s.cells[79]? = some (.int .i64 ((s.ss 2).err)) := rfl
theorem KvX.s79 (s : KvX) (v : Int) : s.cells.setIfInBounds 79 (.int .i64 v) = KvX.cells { s with ss := upd s.ss 2 { s.ss 2 with err := v } } := rfl
theorem KvX.g80 (s : KvX) : s.cells[80]? = some (.int .i64 ((s.ss 2).vlen)) := rfl
theorem KvX.s80 (s : KvX) (v : Int) : s.cells.setIfInBounds 80 (.int .i64 v) = KvX.cells { s with ss := upd s.ss 2 { s.ss 2 with vlen := v } } := rfl
theorem KvX.g81 (s : KvX) : s.cells[81]? = some (.int .u8 (((s.ss 2).val 0)).toNat) := rfl
theorem KvX.s81 (s : KvX) (v : UInt8) : s.cells.setIfInBounds 81 (.int .u8 v.toNat) = KvX.cells { s with ss := upd s.ss 2 { s.ss 2 with val := upd (s.ss 2).val 0 v } } := rfl
theorem KvX.g82 (s : KvX) : s.cells[82]? = some (.int .u8 (((s.ss 2).val 1)).toNat) := rfl
theorem KvX.s82 (s : KvX) (v : UInt8) : s.cells.setIfInBounds 82 (.int .u8 v.toNat) = KvX.cells { s with ss := upd s.ss 2 { s.ss 2 with val := upd (s.ss 2).val 1 v } } := rfl
theorem KvX.g83 (s : KvX) : s.cells[83]? = some (.int .u8 (((s.ss 2).val 2)).toNat) := rfl
theorem KvX.s83 (s : KvX) (v : UInt8) : s.cells.setIfInBounds 83 (.int .u8 v.toNat) = KvX.cells { s with ss := upd s.ss 2 { s.ss 2 with val := upd (s.ss 2).val 2 v } } := rfl
theorem KvX.gi_cells__0 (s : KvX) (i : Nat) (h : i < 8) : s.cells[i * 8]? = some (.int .i64 ((s.cells_ i).state)) := by
  match i, h with
  | 0, _ | 1, _ | 2, _ | 3, _ | 4, _ | 5, _ | 6, _ | 7, _ => rfl
theorem KvX.si_cells__0 (s : KvX) (i : Nat) (h : i < 8) (v : Int) : s.cells.setIfInBounds (i * 8) (.int .i64 v) = KvX.cells { s with cells_ := upd s.cells_ i ({ s.cells_ i with state := v }) } := by
  match i, h with
  | 0, _ | 1, _ | 2, _ | 3, _ | 4, _ | 5, _ | 6, _ | 7, _ => rfl
theorem KvX.gi_cells__1 (s : KvX) (i : Nat) (h : i < 8) : s.cells[1 + i * 8]? = some (.int .i64 ((s.cells_ i).klen)) := by
  match i, h with
  | 0, _ | 1, _ | 2, _ | 3, _ | 4, _ | 5, _ | 6, _ | 7, _ => rfl
theorem KvX.si_cells__1 (s : KvX) (i : Nat) (h : i < 8) (v : Int) : s.cells.setIfInBounds (1 + i * 8) (.int .i64 v) = KvX.cells { s with cells_ := upd s.cells_ i ({ s.cells_ i with klen := v }) } := by
  match i, h with
  | 0, _ | 1, _ | 2, _ | 3, _ | 4, _ | 5, _ | 6, _ | 7, _ => rfl
theorem KvX.gi_cells__2 (s : KvX) (i : Nat) (h : i < 8) : s.cells[2 + i * 8]? = some (.int .u8 (((s.cells_ i).key 0)).toNat) := by
  match i, h with
  | 0, _ | 1, _ | 2, _ | 3, _ | 4, _ | 5, _ | 6, _ | 7, _ => rfl
theorem KvX.si_cells__2 (s : KvX) (i : Nat) (h : i < 8) (v : UInt8) : s.cells.setIfInBounds (2 + i * 8) (.int .u8 v.toNat) = KvX.cells { s with cells_ := upd s.cells_ i ({ s.cells_ i with key := upd (s.cells_ i).key 0 v }) } := by
  match i, h with
  | 0, _ | 1, _ | 2, _ | 3, _ | 4, _ | 5, _ | 6, _ | 7, _ => rfl
theorem KvX.gi_cells__3 (s : KvX) (i : Nat) (h : i < 8) : s.cells[3 + i * 8]? = some (.int .u8 (((s.cells_ i).key 1)).toNat) := by
  match i, h with
  | 0, _ | 1, _ | 2, _ | 3, _ | 4, _ | 5, _ | 6, _ | 7, _ => rfl
theorem KvX.si_cells__3 (s : KvX) (i : Nat) (h : i < 8) (v : UInt8) : s.cells.setIfInBounds (3 + i * 8) (.int .u8 v.toNat) = KvX.cells { s with cells_ := upd s.cells_ i ({ s.cells_ i with key := upd (s.cells_ i).key 1 v }) } := by
  match i, h with
  | 0, _ | 1, _ | 2, _ | 3, _ | 4, _ | 5, _ | 6, _ | 7, _ => rfl
theorem KvX.gi_cells__4 (s : KvX) (i : Nat) (h : i < 8) : s.cells[4 + i * 8]? = some (.int .i64 ((s.cells_ i).vlen)) := by
  match i, h with
  | 0, _ | 1, _ | 2, _ | 3, _ | 4, _ | 5, _ | 6, _ | 7, _ => rfl
theorem KvX.si_cells__4 (s : KvX) (i : Nat) (h : i < 8) (v : Int) : s.cells.setIfInBounds (4 + i * 8) (.int .i64 v) = KvX.cells { s with cells_ := upd s.cells_ i ({ s.cells_ i with vlen := v }) } := by
  match i, h with
  | 0, _ | 1, _ | 2, _ | 3, _ | 4, _ | 5, _ | 6, _ | 7, _ => rfl
theorem KvX.gi_cells__5 (s : KvX) (i : Nat) (h : i < 8) : s.cells[5 + i * 8]? = some (.int .u8 (((s.cells_ i).val 0)).toNat) := by
  match i, h with
  | 0, _ | 1, _ | 2, _ | 3, _ | 4, _ | 5, _ | 6, _ | 7, _ => rfl
theorem KvX.si_cells__5 (s : KvX) (i : Nat) (h : i < 8) (v : UInt8) : s.cells.setIfInBounds (5 + i * 8) (.int .u8 v.toNat) = KvX.cells { s with cells_ := upd s.cells_ i ({ s.cells_ i with val := upd (s.cells_ i).val 0 v }) } := by
  match i, h with
  | 0, _ | 1, _ | 2, _ | 3, _ | 4, _ | 5, _ | 6, _ | 7, _ => rfl
theorem KvX.gi_cells__6 (s : KvX) (i : Nat) (h : i < 8) : s.cells[6 + i * 8]? = some (.int .u8 (((s.cells_ i).val 1)).toNat) := by
  match i, h with
  | 0, _ | 1, _ | 2, _ | 3, _ | 4, _ | 5, _ | 6, _ | 7, _ => rfl
theorem KvX.si_cells__6 (s : KvX) (i : Nat) (h : i < 8) (v : UInt8) : s.cells.setIfInBounds (6 + i * 8) (.int .u8 v.toNat) = KvX.cells { s with cells_ := upd s.cells_ i ({ s.cells_ i with val := upd (s.cells_ i).val 1 v }) } := by
  match i, h with
  | 0, _ | 1, _ | 2, _ | 3, _ | 4, _ | 5, _ | 6, _ | 7, _ => rfl
theorem KvX.gi_cells__7 (s : KvX) (i : Nat) (h : i < 8) : s.cells[7 + i * 8]? = some (.int .u8 (((s.cells_ i).val 2)).toNat) := by
  match i, h with
  | 0, _ | 1, _ | 2, _ | 3, _ | 4, _ | 5, _ | 6, _ | 7, _ => rfl
theorem KvX.si_cells__7 (s : KvX) (i : Nat) (h : i < 8) (v : UInt8) : s.cells.setIfInBounds (7 + i * 8) (.int .u8 v.toNat) = KvX.cells { s with cells_ := upd s.cells_ i ({ s.cells_ i with val := upd (s.cells_ i).val 2 v }) } := by
  match i, h with
  | 0, _ | 1, _ | 2, _ | 3, _ | 4, _ | 5, _ | 6, _ | 7, _ => rfl
theorem KvX.gi_ss_0 (s : KvX) (i : Nat) (h : i < 3) : s.cells[66 + i * 6]? = some (.int .i64 ((s.ss i).seq)) := by
  match i, h with
  | 0, _ | 1, _ | 2, _ => rfl
theorem KvX.si_ss_0 (s : KvX) (i : Nat) (h : i < 3) (v : Int) : s.cells.setIfInBounds (66 + i * 6) (.int .i64 v) = KvX.cells { s with ss := upd s.ss i ({ s.ss i with seq := v }) } := by
  match i, h with
  | 0, _ | 1, _ | 2, _ => rfl
theorem KvX.gi_ss_1 (s : KvX) (i : Nat) (h : i < 3) : s.cells[67 + i * 6]? = some (.int .i64 ((s.ss i).err)) := by
  match i, h with
  | 0, _ | 1, _ | 2, _ => rfl
theorem KvX.si_ss_1 (s : KvX) (i : Nat) (h : i < 3) (v : Int) : s.cells.setIfInBounds (67 + i * 6) (.int .i64 v) = KvX.cells { s with ss := upd s.ss i ({ s.ss i with err := v }) } := by
  match i, h with
  | 0, _ | 1, _ | 2, _ => rfl
theorem KvX.gi_ss_2 (s : KvX) (i : Nat) (h : i < 3) : s.cells[68 + i * 6]? = some (.int .i64 ((s.ss i).vlen)) := by
  match i, h with
  | 0, _ | 1, _ | 2, _ => rfl
theorem KvX.si_ss_2 (s : KvX) (i : Nat) (h : i < 3) (v : Int) : s.cells.setIfInBounds (68 + i * 6) (.int .i64 v) = KvX.cells { s with ss := upd s.ss i ({ s.ss i with vlen := v }) } := by
  match i, h with
  | 0, _ | 1, _ | 2, _ => rfl
theorem KvX.gi_ss_3 (s : KvX) (i : Nat) (h : i < 3) : s.cells[69 + i * 6]? = some (.int .u8 (((s.ss i).val 0)).toNat) := by
  match i, h with
  | 0, _ | 1, _ | 2, _ => rfl
theorem KvX.si_ss_3 (s : KvX) (i : Nat) (h : i < 3) (v : UInt8) : s.cells.setIfInBounds (69 + i * 6) (.int .u8 v.toNat) = KvX.cells { s with ss := upd s.ss i ({ s.ss i with val := upd (s.ss i).val 0 v }) } := by
  match i, h with
  | 0, _ | 1, _ | 2, _ => rfl
theorem KvX.gi_ss_4 (s : KvX) (i : Nat) (h : i < 3) : s.cells[70 + i * 6]? = some (.int .u8 (((s.ss i).val 1)).toNat) := by
  match i, h with
  | 0, _ | 1, _ | 2, _ => rfl
theorem KvX.si_ss_4 (s : KvX) (i : Nat) (h : i < 3) (v : UInt8) : s.cells.setIfInBounds (70 + i * 6) (.int .u8 v.toNat) = KvX.cells { s with ss := upd s.ss i ({ s.ss i with val := upd (s.ss i).val 1 v }) } := by
  match i, h with
  | 0, _ | 1, _ | 2, _ => rfl
theorem KvX.gi_ss_5 (s : KvX) (i : Nat) (h : i < 3) : s.cells[71 + i * 6]? = some (.int .u8 (((s.ss i).val 2)).toNat) := by
  match i, h with
  | 0, _ | 1, _ | 2, _ => rfl
theorem KvX.si_ss_5 (s : KvX) (i : Nat) (h : i < 3) (v : UInt8) : s.cells.setIfInBounds (71 + i * 6) (.int .u8 v.toNat) = KvX.cells { s with ss := upd s.ss i ({ s.ss i with val := upd (s.ss i).val 2 v }) } := by
  match i, h with
  | 0, _ | 1, _ | 2, _ => rfl
theorem KvX.gia_cells__1 (s : KvX) (i : Nat) (h : i < 8) : s.cells[i * 8 + 1]? = some (.int .i64 ((s.cells_ i).klen)) := by
  rw [show i * 8 + 1 = 1 + i * 8 by omega]; exact KvX.gi_cells__1 s i h
theorem KvX.sia_cells__1 (s : KvX) (i : Nat) (h : i < 8) (v : Int) : s.cells.setIfInBounds (i * 8 + 1) (.int .i64 v) = KvX.cells { s with cells_ := upd s.cells_ i ({ s.cells_ i with klen := v }) } := by
  rw [show i * 8 + 1 = 1 + i * 8 by omega]; exact KvX.si_cells__1 s i h v
theorem KvX.gia_cells__2 (s : KvX) (i : Nat) (h : i < 8) : s.cells[i * 8 + 2]? = some (.int .u8 (((s.cells_ i).key 0)).toNat) := by
  rw [show i * 8 + 2 = 2 + i * 8 by omega]; exact KvX.gi_cells__2 s i h
theorem KvX.sia_cells__2 (s : KvX) (i : Nat) (h : i < 8) (v : UInt8) : s.cells.setIfInBounds (i * 8 + 2) (.int .u8 v.toNat) = KvX.cells { s with cells_ := upd s.cells_ i ({ s.cells_ i with key := upd (s.cells_ i).key 0 v }) } := by
  rw [show i * 8 + 2 = 2 + i * 8 by omega]; exact KvX.si_cells__2 s i h v
theorem KvX.gia_cells__3 (s : KvX) (i : Nat) (h : i < 8) : s.cells[i * 8 + 3]? = some (.int .u8 (((s.cells_ i).key 1)).toNat) := by
  rw [show i * 8 + 3 = 3 + i * 8 by omega]; exact KvX.gi_cells__3 s i h
theorem KvX.sia_cells__3 (s : KvX) (i : Nat) (h : i < 8) (v : UInt8) : s.cells.setIfInBounds (i * 8 + 3) (.int .u8 v.toNat) = KvX.cells { s with cells_ := upd s.cells_ i ({ s.cells_ i with key := upd (s.cells_ i).key 1 v }) } := by
  rw [show i * 8 + 3 = 3 + i * 8 by omega]; exact KvX.si_cells__3 s i h v
theorem KvX.gia_cells__4 (s : KvX) (i : Nat) (h : i < 8) : s.cells[i * 8 + 4]? = some (.int .i64 ((s.cells_ i).vlen)) := by
  rw [show i * 8 + 4 = 4 + i * 8 by omega]; exact KvX.gi_cells__4 s i h
theorem KvX.sia_cells__4 (s : KvX) (i : Nat) (h : i < 8) (v : Int) : s.cells.setIfInBounds (i * 8 + 4) (.int .i64 v) = KvX.cells { s with cells_ := upd s.cells_ i ({ s.cells_ i with vlen := v }) } := by
  rw [show i * 8 + 4 = 4 + i * 8 by omega]; exact KvX.si_cells__4 s i h v
theorem KvX.gia_cells__5 (s : KvX) (i : Nat) (h : i < 8) : s.cells[i * 8 + 5]? = some (.int .u8 (((s.cells_ i).val 0)).toNat) := by
  rw [show i * 8 + 5 = 5 + i * 8 by omega]; exact KvX.gi_cells__5 s i h
theorem KvX.sia_cells__5 (s : KvX) (i : Nat) (h : i < 8) (v : UInt8) : s.cells.setIfInBounds (i * 8 + 5) (.int .u8 v.toNat) = KvX.cells { s with cells_ := upd s.cells_ i ({ s.cells_ i with val := upd (s.cells_ i).val 0 v }) } := by
  rw [show i * 8 + 5 = 5 + i * 8 by omega]; exact KvX.si_cells__5 s i h v
theorem KvX.gia_cells__6 (s : KvX) (i : Nat) (h : i < 8) : s.cells[i * 8 + 6]? = some (.int .u8 (((s.cells_ i).val 1)).toNat) := by
  rw [show i * 8 + 6 = 6 + i * 8 by omega]; exact KvX.gi_cells__6 s i h
theorem KvX.sia_cells__6 (s : KvX) (i : Nat) (h : i < 8) (v : UInt8) : s.cells.setIfInBounds (i * 8 + 6) (.int .u8 v.toNat) = KvX.cells { s with cells_ := upd s.cells_ i ({ s.cells_ i with val := upd (s.cells_ i).val 1 v }) } := by
  rw [show i * 8 + 6 = 6 + i * 8 by omega]; exact KvX.si_cells__6 s i h v
theorem KvX.gia_cells__7 (s : KvX) (i : Nat) (h : i < 8) : s.cells[i * 8 + 7]? = some (.int .u8 (((s.cells_ i).val 2)).toNat) := by
  rw [show i * 8 + 7 = 7 + i * 8 by omega]; exact KvX.gi_cells__7 s i h
theorem KvX.sia_cells__7 (s : KvX) (i : Nat) (h : i < 8) (v : UInt8) : s.cells.setIfInBounds (i * 8 + 7) (.int .u8 v.toNat) = KvX.cells { s with cells_ := upd s.cells_ i ({ s.cells_ i with val := upd (s.cells_ i).val 2 v }) } := by
  rw [show i * 8 + 7 = 7 + i * 8 by omega]; exact KvX.si_cells__7 s i h v
theorem KvX.gia_ss_1 (s : KvX) (i : Nat) (h : i < 3) : s.cells[66 + i * 6 + 1]? = some (.int .i64 ((s.ss i).err)) := by
  rw [show 66 + i * 6 + 1 = 67 + i * 6 by omega]; exact KvX.gi_ss_1 s i h
theorem KvX.sia_ss_1 (s : KvX) (i : Nat) (h : i < 3) (v : Int) : s.cells.setIfInBounds (66 + i * 6 + 1) (.int .i64 v) = KvX.cells { s with ss := upd s.ss i ({ s.ss i with err := v }) } := by
  rw [show 66 + i * 6 + 1 = 67 + i * 6 by omega]; exact KvX.si_ss_1 s i h v
theorem KvX.gia_ss_2 (s : KvX) (i : Nat) (h : i < 3) : s.cells[66 + i * 6 + 2]? = some (.int .i64 ((s.ss i).vlen)) := by
  rw [show 66 + i * 6 + 2 = 68 + i * 6 by omega]; exact KvX.gi_ss_2 s i h
theorem KvX.sia_ss_2 (s : KvX) (i : Nat) (h : i < 3) (v : Int) : s.cells.setIfInBounds (66 + i * 6 + 2) (.int .i64 v) = KvX.cells { s with ss := upd s.ss i ({ s.ss i with vlen := v }) } := by
  rw [show 66 + i * 6 + 2 = 68 + i * 6 by omega]; exact KvX.si_ss_2 s i h v
theorem KvX.gia_ss_3 (s : KvX) (i : Nat) (h : i < 3) : s.cells[66 + i * 6 + 3]? = some (.int .u8 (((s.ss i).val 0)).toNat) := by
  rw [show 66 + i * 6 + 3 = 69 + i * 6 by omega]; exact KvX.gi_ss_3 s i h
theorem KvX.sia_ss_3 (s : KvX) (i : Nat) (h : i < 3) (v : UInt8) : s.cells.setIfInBounds (66 + i * 6 + 3) (.int .u8 v.toNat) = KvX.cells { s with ss := upd s.ss i ({ s.ss i with val := upd (s.ss i).val 0 v }) } := by
  rw [show 66 + i * 6 + 3 = 69 + i * 6 by omega]; exact KvX.si_ss_3 s i h v
theorem KvX.gia_ss_4 (s : KvX) (i : Nat) (h : i < 3) : s.cells[66 + i * 6 + 4]? = some (.int .u8 (((s.ss i).val 1)).toNat) := by
  rw [show 66 + i * 6 + 4 = 70 + i * 6 by omega]; exact KvX.gi_ss_4 s i h
theorem KvX.sia_ss_4 (s : KvX) (i : Nat) (h : i < 3) (v : UInt8) : s.cells.setIfInBounds (66 + i * 6 + 4) (.int .u8 v.toNat) = KvX.cells { s with ss := upd s.ss i ({ s.ss i with val := upd (s.ss i).val 1 v }) } := by
  rw [show 66 + i * 6 + 4 = 70 + i * 6 by omega]; exact KvX.si_ss_4 s i h v
theorem KvX.gia_ss_5 (s : KvX) (i : Nat) (h : i < 3) : s.cells[66 + i * 6 + 5]? = some (.int .u8 (((s.ss i).val 2)).toNat) := by
  rw [show 66 + i * 6 + 5 = 71 + i * 6 by omega]; exact KvX.gi_ss_5 s i h
theorem KvX.sia_ss_5 (s : KvX) (i : Nat) (h : i < 3) (v : UInt8) : s.cells.setIfInBounds (66 + i * 6 + 5) (.int .u8 v.toNat) = KvX.cells { s with ss := upd s.ss i ({ s.ss i with val := upd (s.ss i).val 2 v }) } := by
  rw [show 66 + i * 6 + 5 = 71 + i * 6 by omega]; exact KvX.si_ss_5 s i h v
theorem KvX.pa_cells_ (s : KvX) (i : Nat) (h : i < 8) (c : Cell) : ((((((((s.cells.setIfInBounds (i * 8) (.int .i64 c.state)).setIfInBounds (i * 8 + 1) (.int .i64 c.klen)).setIfInBounds (i * 8 + 2) (.int .u8 ((c.key 0)).toNat)).setIfInBounds (i * 8 + 3) (.int .u8 ((c.key 1)).toNat)).setIfInBounds (i * 8 + 4) (.int .i64 c.vlen)).setIfInBounds (i * 8 + 5) (.int .u8 ((c.val 0)).toNat)).setIfInBounds (i * 8 + 6) (.int .u8 ((c.val 1)).toNat)).setIfInBounds (i * 8 + 7) (.int .u8 ((c.val 2)).toNat)) = KvX.cells { s with cells_ := upd s.cells_ i c } := by
  have hi : i = 0 ∨ i = 1 ∨ i = 2 ∨ i = 3 ∨ i = 4 ∨ i = 5 ∨ i = 6 ∨ i = 7 := by omega
  clear h
  rcases hi with rfl | rfl | rfl | rfl | rfl | rfl | rfl | rfl
  all_goals (show _ = _; kernel_rfl)
theorem KvX.pa_ss (s : KvX) (i : Nat) (h : i < 3) (c : Sess) : ((((((s.cells.setIfInBounds (66 + i * 6) (.int .i64 c.seq)).setIfInBounds (66 + i * 6 + 1) (.int .i64 c.err)).setIfInBounds (66 + i * 6 + 2) (.int .i64 c.vlen)).setIfInBounds (66 + i * 6 + 3) (.int .u8 ((c.val 0)).toNat)).setIfInBounds (66 + i * 6 + 4) (.int .u8 ((c.val 1)).toNat)).setIfInBounds (66 + i * 6 + 5) (.int .u8 ((c.val 2)).toNat)) = KvX.cells { s with ss := upd s.ss i c } := by
  have hi : i = 0 ∨ i = 1 ∨ i = 2 := by omega
  clear h
  rcases hi with rfl | rfl | rfl
  all_goals (show _ = _; kernel_rfl)
structure Keep4 where
  kp : Nat → Cell
def Keep4.cells (s : Keep4) : Array Value := #[.int .i64 ((s.kp 0).state), .int .i64 ((s.kp 0).klen), .int .u8 (((s.kp 0).key 0)).toNat, .int .u8 (((s.kp 0).key 1)).toNat, .int .i64 ((s.kp 0).vlen), .int .u8 (((s.kp 0).val 0)).toNat, .int .u8 (((s.kp 0).val 1)).toNat, .int .u8 (((s.kp 0).val 2)).toNat, .int .i64 ((s.kp 1).state), .int .i64 ((s.kp 1).klen), .int .u8 (((s.kp 1).key 0)).toNat, .int .u8 (((s.kp 1).key 1)).toNat, .int .i64 ((s.kp 1).vlen), .int .u8 (((s.kp 1).val 0)).toNat, .int .u8 (((s.kp 1).val 1)).toNat, .int .u8 (((s.kp 1).val 2)).toNat, .int .i64 ((s.kp 2).state), .int .i64 ((s.kp 2).klen), .int .u8 (((s.kp 2).key 0)).toNat, .int .u8 (((s.kp 2).key 1)).toNat, .int .i64 ((s.kp 2).vlen), .int .u8 (((s.kp 2).val 0)).toNat, .int .u8 (((s.kp 2).val 1)).toNat, .int .u8 (((s.kp 2).val 2)).toNat, .int .i64 ((s.kp 3).state), .int .i64 ((s.kp 3).klen), .int .u8 (((s.kp 3).key 0)).toNat, .int .u8 (((s.kp 3).key 1)).toNat, .int .i64 ((s.kp 3).vlen), .int .u8 (((s.kp 3).val 0)).toNat, .int .u8 (((s.kp 3).val 1)).toNat, .int .u8 (((s.kp 3).val 2)).toNat]
theorem Keep4.g0 (s : Keep4) : s.cells[0]? = some (.int .i64 ((s.kp 0).state)) := rfl
theorem Keep4.s0 (s : Keep4) (v : Int) : s.cells.setIfInBounds 0 (.int .i64 v) = Keep4.cells { s with kp := upd s.kp 0 { s.kp 0 with state := v } } := rfl
theorem Keep4.g1 (s : Keep4) : s.cells[1]? = some (.int .i64 ((s.kp 0).klen)) := rfl
theorem Keep4.s1 (s : Keep4) (v : Int) : s.cells.setIfInBounds 1 (.int .i64 v) = Keep4.cells { s with kp := upd s.kp 0 { s.kp 0 with klen := v } } := rfl
theorem Keep4.g2 (s : Keep4) : s.cells[2]? = some (.int .u8 (((s.kp 0).key 0)).toNat) := rfl
theorem Keep4.s2 (s : Keep4) (v : UInt8) : s.cells.setIfInBounds 2 (.int .u8 v.toNat) = Keep4.cells { s with kp := upd s.kp 0 { s.kp 0 with key := upd (s.kp 0).key 0 v } } := rfl
theorem Keep4.g3 (s : Keep4) : s.cells[3]? = some (.int .u8 (((s.kp 0).key 1)).toNat) := rfl
theorem Keep4.s3 (s : Keep4) (v : UInt8) : s.cells.setIfInBounds 3 (.int .u8 v.toNat) = Keep4.cells { s with kp := upd s.kp 0 { s.kp 0 with key := upd (s.kp 0).key 1 v } } := rfl
theorem Keep4.g4 (s : Keep4) : s.cells[4]? = some (.int .i64 ((s.kp 0).vlen)) := rfl
theorem Keep4.s4 (s : Keep4) (v : Int) : s.cells.setIfInBounds 4 (.int .i64 v) = Keep4.cells { s with kp := upd s.kp 0 { s.kp 0 with vlen := v } } := rfl
theorem Keep4.g5 (s : Keep4) : s.cells[5]? = some (.int .u8 (((s.kp 0).val 0)).toNat) := rfl
theorem Keep4.s5 (s : Keep4) (v : UInt8) : s.cells.setIfInBounds 5 (.int .u8 v.toNat) = Keep4.cells { s with kp := upd s.kp 0 { s.kp 0 with val := upd (s.kp 0).val 0 v } } := rfl
theorem Keep4.g6 (s : Keep4) : s.cells[6]? = some (.int .u8 (((s.kp 0).val 1)).toNat) := rfl
theorem Keep4.s6 (s : Keep4) (v : UInt8) : s.cells.setIfInBounds 6 (.int .u8 v.toNat) = Keep4.cells { s with kp := upd s.kp 0 { s.kp 0 with val := upd (s.kp 0).val 1 v } } := rfl
theorem Keep4.g7 (s : Keep4) : s.cells[7]? = some (.int .u8 (((s.kp 0).val 2)).toNat) := rfl
theorem Keep4.s7 (s : Keep4) (v : UInt8) : s.cells.setIfInBounds 7 (.int .u8 v.toNat) = Keep4.cells { s with kp := upd s.kp 0 { s.kp 0 with val := upd (s.kp 0).val 2 v } } := rfl
theorem Keep4.g8 (s : Keep4) : s.cells[8]? = some (.int .i64 ((s.kp 1).state)) := rfl
theorem Keep4.s8 (s : Keep4) (v : Int) : s.cells.setIfInBounds 8 (.int .i64 v) = Keep4.cells { s with kp := upd s.kp 1 { s.kp 1 with state := v } } := rfl
theorem Keep4.g9 (s : Keep4) : s.cells[9]? = some (.int .i64 ((s.kp 1).klen)) := rfl
theorem Keep4.s9 (s : Keep4) (v : Int) : s.cells.setIfInBounds 9 (.int .i64 v) = Keep4.cells { s with kp := upd s.kp 1 { s.kp 1 with klen := v } } := rfl
theorem Keep4.g10 (s : Keep4) : s.cells[10]? = some (.int .u8 (((s.kp 1).key 0)).toNat) := rfl
theorem Keep4.s10 (s : Keep4) (v : UInt8) : s.cells.setIfInBounds 10 (.int .u8 v.toNat) = Keep4.cells { s with kp := upd s.kp 1 { s.kp 1 with key := upd (s.kp 1).key 0 v } } := rfl
theorem Keep4.g11 (s : Keep4) : s.cells[11]? = some (.int .u8 (((s.kp 1).key 1)).toNat) := rfl
theorem Keep4.s11 (s : Keep4) (v : UInt8) : s.cells.setIfInBounds 11 (.int .u8 v.toNat) = Keep4.cells { s with kp := upd s.kp 1 { s.kp 1 with key := upd (s.kp 1).key 1 v } } := rfl
theorem Keep4.g12 (s : Keep4) : s.cells[12]? = some (.int .i64 ((s.kp 1).vlen)) := rfl
theorem Keep4.s12 (s : Keep4) (v : Int) : s.cells.setIfInBounds 12 (.int .i64 v) = Keep4.cells { s with kp := upd s.kp 1 { s.kp 1 with vlen := v } } := rfl
theorem Keep4.g13 (s : Keep4) : s.cells[13]? = some (.int .u8 (((s.kp 1).val 0)).toNat) := rfl
theorem Keep4.s13 (s : Keep4) (v : UInt8) : s.cells.setIfInBounds 13 (.int .u8 v.toNat) = Keep4.cells { s with kp := upd s.kp 1 { s.kp 1 with val := upd (s.kp 1).val 0 v } } := rfl
theorem Keep4.g14 (s : Keep4) : s.cells[14]? = some (.int .u8 (((s.kp 1).val 1)).toNat) := rfl
theorem Keep4.s14 (s : Keep4) (v : UInt8) : s.cells.setIfInBounds 14 (.int .u8 v.toNat) = Keep4.cells { s with kp := upd s.kp 1 { s.kp 1 with val := upd (s.kp 1).val 1 v } } := rfl
theorem Keep4.g15 (s : Keep4) : s.cells[15]? = some (.int .u8 (((s.kp 1).val 2)).toNat) := rfl
theorem Keep4.s15 (s : Keep4) (v : UInt8) : s.cells.setIfInBounds 15 (.int .u8 v.toNat) = Keep4.cells { s with kp := upd s.kp 1 { s.kp 1 with val := upd (s.kp 1).val 2 v } } := rfl
theorem Keep4.g16 (s : Keep4) : s.cells[16]? = some (.int .i64 ((s.kp 2).state)) := rfl
theorem Keep4.s16 (s : Keep4) (v : Int) : s.cells.setIfInBounds 16 (.int .i64 v) = Keep4.cells { s with kp := upd s.kp 2 { s.kp 2 with state := v } } := rfl
theorem Keep4.g17 (s : Keep4) : s.cells[17]? = some (.int .i64 ((s.kp 2).klen)) := rfl
theorem Keep4.s17 (s : Keep4) (v : Int) : s.cells.setIfInBounds 17 (.int .i64 v) = Keep4.cells { s with kp := upd s.kp 2 { s.kp 2 with klen := v } } := rfl
theorem Keep4.g18 (s : Keep4) : s.cells[18]? = some (.int .u8 (((s.kp 2).key 0)).toNat) := rfl
theorem Keep4.s18 (s : Keep4) (v : UInt8) : s.cells.setIfInBounds 18 (.int .u8 v.toNat) = Keep4.cells { s with kp := upd s.kp 2 { s.kp 2 with key := upd (s.kp 2).key 0 v } } := rfl
theorem Keep4.g19 (s : Keep4) : s.cells[19]? = some (.int .u8 (((s.kp 2).key 1)).toNat) := rfl
theorem Keep4.s19 (s : Keep4) (v : UInt8) : s.cells.setIfInBounds 19 (.int .u8 v.toNat) = Keep4.cells { s with kp := upd s.kp 2 { s.kp 2 with key := upd (s.kp 2).key 1 v } } := rfl
theorem Keep4.g20 (s : Keep4) : s.cells[20]? = some (.int .i64 ((s.kp 2).vlen)) := rfl
theorem Keep4.s20 (s : Keep4) (v : Int) : s.cells.setIfInBounds 20 (.int .i64 v) = Keep4.cells { s with kp := upd s.kp 2 { s.kp 2 with vlen := v } } := rfl
theorem Keep4.g21 (s : Keep4) : s.cells[21]? = some (.int .u8 (((s.kp 2).val 0)).toNat) := rfl
theorem Keep4.s21 (s : Keep4) (v : UInt8) : s.cells.setIfInBounds 21 (.int .u8 v.toNat) = Keep4.cells { s with kp := upd s.kp 2 { s.kp 2 with val := upd (s.kp 2).val 0 v } } := rfl
theorem Keep4.g22 (s : Keep4) : s.cells[22]? = some (.int .u8 (((s.kp 2).val 1)).toNat) := rfl
theorem Keep4.s22 (s : Keep4) (v : UInt8) : s.cells.setIfInBounds 22 (.int .u8 v.toNat) = Keep4.cells { s with kp := upd s.kp 2 { s.kp 2 with val := upd (s.kp 2).val 1 v } } := rfl
theorem Keep4.g23 (s : Keep4) : s.cells[23]? = some (.int .u8 (((s.kp 2).val 2)).toNat) := rfl
theorem Keep4.s23 (s : Keep4) (v : UInt8) : s.cells.setIfInBounds 23 (.int .u8 v.toNat) = Keep4.cells { s with kp := upd s.kp 2 { s.kp 2 with val := upd (s.kp 2).val 2 v } } := rfl
theorem Keep4.g24 (s : Keep4) : s.cells[24]? = some (.int .i64 ((s.kp 3).state)) := rfl
theorem Keep4.s24 (s : Keep4) (v : Int) : s.cells.setIfInBounds 24 (.int .i64 v) = Keep4.cells { s with kp := upd s.kp 3 { s.kp 3 with state := v } } := rfl
theorem Keep4.g25 (s : Keep4) : s.cells[25]? = some (.int .i64 ((s.kp 3).klen)) := rfl
theorem Keep4.s25 (s : Keep4) (v : Int) : s.cells.setIfInBounds 25 (.int .i64 v) = Keep4.cells { s with kp := upd s.kp 3 { s.kp 3 with klen := v } } := rfl
theorem Keep4.g26 (s : Keep4) : s.cells[26]? = some (.int .u8 (((s.kp 3).key 0)).toNat) := rfl
theorem Keep4.s26 (s : Keep4) (v : UInt8) : s.cells.setIfInBounds 26 (.int .u8 v.toNat) = Keep4.cells { s with kp := upd s.kp 3 { s.kp 3 with key := upd (s.kp 3).key 0 v } } := rfl
theorem Keep4.g27 (s : Keep4) : s.cells[27]? = some (.int .u8 (((s.kp 3).key 1)).toNat) := rfl
theorem Keep4.s27 (s : Keep4) (v : UInt8) : s.cells.setIfInBounds 27 (.int .u8 v.toNat) = Keep4.cells { s with kp := upd s.kp 3 { s.kp 3 with key := upd (s.kp 3).key 1 v } } := rfl
theorem Keep4.g28 (s : Keep4) : s.cells[28]? = some (.int .i64 ((s.kp 3).vlen)) := rfl
theorem Keep4.s28 (s : Keep4) (v : Int) : s.cells.setIfInBounds 28 (.int .i64 v) = Keep4.cells { s with kp := upd s.kp 3 { s.kp 3 with vlen := v } } := rfl
theorem Keep4.g29 (s : Keep4) : s.cells[29]? = some (.int .u8 (((s.kp 3).val 0)).toNat) := rfl
theorem Keep4.s29 (s : Keep4) (v : UInt8) : s.cells.setIfInBounds 29 (.int .u8 v.toNat) = Keep4.cells { s with kp := upd s.kp 3 { s.kp 3 with val := upd (s.kp 3).val 0 v } } := rfl
theorem Keep4.g30 (s : Keep4) : s.cells[30]? = some (.int .u8 (((s.kp 3).val 1)).toNat) := rfl
theorem Keep4.s30 (s : Keep4) (v : UInt8) : s.cells.setIfInBounds 30 (.int .u8 v.toNat) = Keep4.cells { s with kp := upd s.kp 3 { s.kp 3 with val := upd (s.kp 3).val 1 v } } := rfl
theorem Keep4.g31 (s : Keep4) : s.cells[31]? = some (.int .u8 (((s.kp 3).val 2)).toNat) := rfl
theorem Keep4.s31 (s : Keep4) (v : UInt8) : s.cells.setIfInBounds 31 (.int .u8 v.toNat) = Keep4.cells { s with kp := upd s.kp 3 { s.kp 3 with val := upd (s.kp 3).val 2 v } } := rfl
theorem Keep4.gi_kp_0 (s : Keep4) (i : Nat) (h : i < 4) : s.cells[i * 8]? = some (.int .i64 ((s.kp i).state)) := by
  match i, h with
  | 0, _ | 1, _ | 2, _ | 3, _ => rfl
theorem Keep4.si_kp_0 (s : Keep4) (i : Nat) (h : i < 4) (v : Int) : s.cells.setIfInBounds (i * 8) (.int .i64 v) = Keep4.cells { s with kp := upd s.kp i ({ s.kp i with state := v }) } := by
  match i, h with
  | 0, _ | 1, _ | 2, _ | 3, _ => rfl
theorem Keep4.gi_kp_1 (s : Keep4) (i : Nat) (h : i < 4) : s.cells[1 + i * 8]? = some (.int .i64 ((s.kp i).klen)) := by
  match i, h with
  | 0, _ | 1, _ | 2, _ | 3, _ => rfl
theorem Keep4.si_kp_1 (s : Keep4) (i : Nat) (h : i < 4) (v : Int) : s.cells.setIfInBounds (1 + i * 8) (.int .i64 v) = Keep4.cells { s with kp := upd s.kp i ({ s.kp i with klen := v }) } := by
  match i, h with
  | 0, _ | 1, _ | 2, _ | 3, _ => rfl
theorem Keep4.gi_kp_2 (s : Keep4) (i : Nat) (h : i < 4) : s.cells[2 + i * 8]? = some (.int .u8 (((s.kp i).key 0)).toNat) := by
  match i, h with
  | 0, _ | 1, _ | 2, _ | 3, _ => rfl
theorem Keep4.si_kp_2 (s : Keep4) (i : Nat) (h : i < 4) (v : UInt8) : s.cells.setIfInBounds (2 + i * 8) (.int .u8 v.toNat) = Keep4.cells { s with kp := upd s.kp i ({ s.kp i with key := upd (s.kp i).key 0 v }) } := by
  match i, h with
  | 0, _ | 1, _ | 2, _ | 3, _ => rfl
theorem Keep4.gi_kp_3 (s : Keep4) (i : Nat) (h : i < 4) : s.cells[3 + i * 8]? = some (.int .u8 (((s.kp i).key 1)).toNat) := by
  match i, h with
  | 0, _ | 1, _ | 2, _ | 3, _ => rfl
theorem Keep4.si_kp_3 (s : Keep4) (i : Nat) (h : i < 4) (v : UInt8) : s.cells.setIfInBounds (3 + i * 8) (.int .u8 v.toNat) = Keep4.cells { s with kp := upd s.kp i ({ s.kp i with key := upd (s.kp i).key 1 v }) } := by
  match i, h with
  | 0, _ | 1, _ | 2, _ | 3, _ => rfl
theorem Keep4.gi_kp_4 (s : Keep4) (i : Nat) (h : i < 4) : s.cells[4 + i * 8]? = some (.int .i64 ((s.kp i).vlen)) := by
  match i, h with
  | 0, _ | 1, _ | 2, _ | 3, _ => rfl
theorem Keep4.si_kp_4 (s : Keep4) (i : Nat) (h : i < 4) (v : Int) : s.cells.setIfInBounds (4 + i * 8) (.int .i64 v) = Keep4.cells { s with kp := upd s.kp i ({ s.kp i with vlen := v }) } := by
  match i, h with
  | 0, _ | 1, _ | 2, _ | 3, _ => rfl
theorem Keep4.gi_kp_5 (s : Keep4) (i : Nat) (h : i < 4) : s.cells[5 + i * 8]? = some (.int .u8 (((s.kp i).val 0)).toNat) := by
  match i, h with
  | 0, _ | 1, _ | 2, _ | 3, _ => rfl
theorem Keep4.si_kp_5 (s : Keep4) (i : Nat) (h : i < 4) (v : UInt8) : s.cells.setIfInBounds (5 + i * 8) (.int .u8 v.toNat) = Keep4.cells { s with kp := upd s.kp i ({ s.kp i with val := upd (s.kp i).val 0 v }) } := by
  match i, h with
  | 0, _ | 1, _ | 2, _ | 3, _ => rfl
theorem Keep4.gi_kp_6 (s : Keep4) (i : Nat) (h : i < 4) : s.cells[6 + i * 8]? = some (.int .u8 (((s.kp i).val 1)).toNat) := by
  match i, h with
  | 0, _ | 1, _ | 2, _ | 3, _ => rfl
theorem Keep4.si_kp_6 (s : Keep4) (i : Nat) (h : i < 4) (v : UInt8) : s.cells.setIfInBounds (6 + i * 8) (.int .u8 v.toNat) = Keep4.cells { s with kp := upd s.kp i ({ s.kp i with val := upd (s.kp i).val 1 v }) } := by
  match i, h with
  | 0, _ | 1, _ | 2, _ | 3, _ => rfl
theorem Keep4.gi_kp_7 (s : Keep4) (i : Nat) (h : i < 4) : s.cells[7 + i * 8]? = some (.int .u8 (((s.kp i).val 2)).toNat) := by
  match i, h with
  | 0, _ | 1, _ | 2, _ | 3, _ => rfl
theorem Keep4.si_kp_7 (s : Keep4) (i : Nat) (h : i < 4) (v : UInt8) : s.cells.setIfInBounds (7 + i * 8) (.int .u8 v.toNat) = Keep4.cells { s with kp := upd s.kp i ({ s.kp i with val := upd (s.kp i).val 2 v }) } := by
  match i, h with
  | 0, _ | 1, _ | 2, _ | 3, _ => rfl
theorem Keep4.gia_kp_1 (s : Keep4) (i : Nat) (h : i < 4) : s.cells[i * 8 + 1]? = some (.int .i64 ((s.kp i).klen)) := by
  rw [show i * 8 + 1 = 1 + i * 8 by omega]; exact Keep4.gi_kp_1 s i h
theorem Keep4.sia_kp_1 (s : Keep4) (i : Nat) (h : i < 4) (v : Int) : s.cells.setIfInBounds (i * 8 + 1) (.int .i64 v) = Keep4.cells { s with kp := upd s.kp i ({ s.kp i with klen := v }) } := by
  rw [show i * 8 + 1 = 1 + i * 8 by omega]; exact Keep4.si_kp_1 s i h v
theorem Keep4.gia_kp_2 (s : Keep4) (i : Nat) (h : i < 4) : s.cells[i * 8 + 2]? = some (.int .u8 (((s.kp i).key 0)).toNat) := by
  rw [show i * 8 + 2 = 2 + i * 8 by omega]; exact Keep4.gi_kp_2 s i h
theorem Keep4.sia_kp_2 (s : Keep4) (i : Nat) (h : i < 4) (v : UInt8) : s.cells.setIfInBounds (i * 8 + 2) (.int .u8 v.toNat) = Keep4.cells { s with kp := upd s.kp i ({ s.kp i with key := upd (s.kp i).key 0 v }) } := by
  rw [show i * 8 + 2 = 2 + i * 8 by omega]; exact Keep4.si_kp_2 s i h v
theorem Keep4.gia_kp_3 (s : Keep4) (i : Nat) (h : i < 4) : s.cells[i * 8 + 3]? = some (.int .u8 (((s.kp i).key 1)).toNat) := by
  rw [show i * 8 + 3 = 3 + i * 8 by omega]; exact Keep4.gi_kp_3 s i h
theorem Keep4.sia_kp_3 (s : Keep4) (i : Nat) (h : i < 4) (v : UInt8) : s.cells.setIfInBounds (i * 8 + 3) (.int .u8 v.toNat) = Keep4.cells { s with kp := upd s.kp i ({ s.kp i with key := upd (s.kp i).key 1 v }) } := by
  rw [show i * 8 + 3 = 3 + i * 8 by omega]; exact Keep4.si_kp_3 s i h v
theorem Keep4.gia_kp_4 (s : Keep4) (i : Nat) (h : i < 4) : s.cells[i * 8 + 4]? = some (.int .i64 ((s.kp i).vlen)) := by
  rw [show i * 8 + 4 = 4 + i * 8 by omega]; exact Keep4.gi_kp_4 s i h
theorem Keep4.sia_kp_4 (s : Keep4) (i : Nat) (h : i < 4) (v : Int) : s.cells.setIfInBounds (i * 8 + 4) (.int .i64 v) = Keep4.cells { s with kp := upd s.kp i ({ s.kp i with vlen := v }) } := by
  rw [show i * 8 + 4 = 4 + i * 8 by omega]; exact Keep4.si_kp_4 s i h v
theorem Keep4.gia_kp_5 (s : Keep4) (i : Nat) (h : i < 4) : s.cells[i * 8 + 5]? = some (.int .u8 (((s.kp i).val 0)).toNat) := by
  rw [show i * 8 + 5 = 5 + i * 8 by omega]; exact Keep4.gi_kp_5 s i h
theorem Keep4.sia_kp_5 (s : Keep4) (i : Nat) (h : i < 4) (v : UInt8) : s.cells.setIfInBounds (i * 8 + 5) (.int .u8 v.toNat) = Keep4.cells { s with kp := upd s.kp i ({ s.kp i with val := upd (s.kp i).val 0 v }) } := by
  rw [show i * 8 + 5 = 5 + i * 8 by omega]; exact Keep4.si_kp_5 s i h v
theorem Keep4.gia_kp_6 (s : Keep4) (i : Nat) (h : i < 4) : s.cells[i * 8 + 6]? = some (.int .u8 (((s.kp i).val 1)).toNat) := by
  rw [show i * 8 + 6 = 6 + i * 8 by omega]; exact Keep4.gi_kp_6 s i h
theorem Keep4.sia_kp_6 (s : Keep4) (i : Nat) (h : i < 4) (v : UInt8) : s.cells.setIfInBounds (i * 8 + 6) (.int .u8 v.toNat) = Keep4.cells { s with kp := upd s.kp i ({ s.kp i with val := upd (s.kp i).val 1 v }) } := by
  rw [show i * 8 + 6 = 6 + i * 8 by omega]; exact Keep4.si_kp_6 s i h v
theorem Keep4.gia_kp_7 (s : Keep4) (i : Nat) (h : i < 4) : s.cells[i * 8 + 7]? = some (.int .u8 (((s.kp i).val 2)).toNat) := by
  rw [show i * 8 + 7 = 7 + i * 8 by omega]; exact Keep4.gi_kp_7 s i h
theorem Keep4.sia_kp_7 (s : Keep4) (i : Nat) (h : i < 4) (v : UInt8) : s.cells.setIfInBounds (i * 8 + 7) (.int .u8 v.toNat) = Keep4.cells { s with kp := upd s.kp i ({ s.kp i with val := upd (s.kp i).val 2 v }) } := by
  rw [show i * 8 + 7 = 7 + i * 8 by omega]; exact Keep4.si_kp_7 s i h v
theorem Keep4.pa_kp (s : Keep4) (i : Nat) (h : i < 4) (c : Cell) : ((((((((s.cells.setIfInBounds (i * 8) (.int .i64 c.state)).setIfInBounds (i * 8 + 1) (.int .i64 c.klen)).setIfInBounds (i * 8 + 2) (.int .u8 ((c.key 0)).toNat)).setIfInBounds (i * 8 + 3) (.int .u8 ((c.key 1)).toNat)).setIfInBounds (i * 8 + 4) (.int .i64 c.vlen)).setIfInBounds (i * 8 + 5) (.int .u8 ((c.val 0)).toNat)).setIfInBounds (i * 8 + 6) (.int .u8 ((c.val 1)).toNat)).setIfInBounds (i * 8 + 7) (.int .u8 ((c.val 2)).toNat)) = Keep4.cells { s with kp := upd s.kp i c } := by
  have hi : i = 0 ∨ i = 1 ∨ i = 2 ∨ i = 3 := by omega
  clear h
  rcases hi with rfl | rfl | rfl | rfl
  all_goals (show _ = _; kernel_rfl)
structure Sess3 where
  ss : Nat → Sess
def Sess3.cells (s : Sess3) : Array Value := #[.int .i64 ((s.ss 0).seq), .int .i64 ((s.ss 0).err), .int .i64 ((s.ss 0).vlen), .int .u8 (((s.ss 0).val 0)).toNat, .int .u8 (((s.ss 0).val 1)).toNat, .int .u8 (((s.ss 0).val 2)).toNat, .int .i64 ((s.ss 1).seq), .int .i64 ((s.ss 1).err), .int .i64 ((s.ss 1).vlen), .int .u8 (((s.ss 1).val 0)).toNat, .int .u8 (((s.ss 1).val 1)).toNat, .int .u8 (((s.ss 1).val 2)).toNat, .int .i64 ((s.ss 2).seq), .int .i64 ((s.ss 2).err), .int .i64 ((s.ss 2).vlen), .int .u8 (((s.ss 2).val 0)).toNat, .int .u8 (((s.ss 2).val 1)).toNat, .int .u8 (((s.ss 2).val 2)).toNat]
theorem Sess3.g0 (s : Sess3) : s.cells[0]? = some (.int .i64 ((s.ss 0).seq)) := rfl
theorem Sess3.s0 (s : Sess3) (v : Int) : s.cells.setIfInBounds 0 (.int .i64 v) = Sess3.cells { s with ss := upd s.ss 0 { s.ss 0 with seq := v } } := rfl
theorem Sess3.g1 (s : Sess3) : s.cells[1]? = some (.int .i64 ((s.ss 0).err)) := rfl
theorem Sess3.s1 (s : Sess3) (v : Int) : s.cells.setIfInBounds 1 (.int .i64 v) = Sess3.cells { s with ss := upd s.ss 0 { s.ss 0 with err := v } } := rfl
theorem Sess3.g2 (s : Sess3) : s.cells[2]? = some (.int .i64 ((s.ss 0).vlen)) := rfl
theorem Sess3.s2 (s : Sess3) (v : Int) : s.cells.setIfInBounds 2 (.int .i64 v) = Sess3.cells { s with ss := upd s.ss 0 { s.ss 0 with vlen := v } } := rfl
theorem Sess3.g3 (s : Sess3) : s.cells[3]? = some (.int .u8 (((s.ss 0).val 0)).toNat) := rfl
theorem Sess3.s3 (s : Sess3) (v : UInt8) : s.cells.setIfInBounds 3 (.int .u8 v.toNat) = Sess3.cells { s with ss := upd s.ss 0 { s.ss 0 with val := upd (s.ss 0).val 0 v } } := rfl
theorem Sess3.g4 (s : Sess3) : s.cells[4]? = some (.int .u8 (((s.ss 0).val 1)).toNat) := rfl
theorem Sess3.s4 (s : Sess3) (v : UInt8) : s.cells.setIfInBounds 4 (.int .u8 v.toNat) = Sess3.cells { s with ss := upd s.ss 0 { s.ss 0 with val := upd (s.ss 0).val 1 v } } := rfl
theorem Sess3.g5 (s : Sess3) : s.cells[5]? = some (.int .u8 (((s.ss 0).val 2)).toNat) := rfl
theorem Sess3.s5 (s : Sess3) (v : UInt8) : s.cells.setIfInBounds 5 (.int .u8 v.toNat) = Sess3.cells { s with ss := upd s.ss 0 { s.ss 0 with val := upd (s.ss 0).val 2 v } } := rfl
theorem Sess3.g6 (s : Sess3) : s.cells[6]? = some (.int .i64 ((s.ss 1).seq)) := rfl
theorem Sess3.s6 (s : Sess3) (v : Int) : s.cells.setIfInBounds 6 (.int .i64 v) = Sess3.cells { s with ss := upd s.ss 1 { s.ss 1 with seq := v } } := rfl
theorem Sess3.g7 (s : Sess3) : s.cells[7]? = some (.int .i64 ((s.ss 1).err)) := rfl
theorem Sess3.s7 (s : Sess3) (v : Int) : s.cells.setIfInBounds 7 (.int .i64 v) = Sess3.cells { s with ss := upd s.ss 1 { s.ss 1 with err := v } } := rfl
theorem Sess3.g8 (s : Sess3) : s.cells[8]? = some (.int .i64 ((s.ss 1).vlen)) := rfl
theorem Sess3.s8 (s : Sess3) (v : Int) : s.cells.setIfInBounds 8 (.int .i64 v) = Sess3.cells { s with ss := upd s.ss 1 { s.ss 1 with vlen := v } } := rfl
theorem Sess3.g9 (s : Sess3) : s.cells[9]? = some (.int .u8 (((s.ss 1).val 0)).toNat) := rfl
theorem Sess3.s9 (s : Sess3) (v : UInt8) : s.cells.setIfInBounds 9 (.int .u8 v.toNat) = Sess3.cells { s with ss := upd s.ss 1 { s.ss 1 with val := upd (s.ss 1).val 0 v } } := rfl
theorem Sess3.g10 (s : Sess3) : s.cells[10]? = some (.int .u8 (((s.ss 1).val 1)).toNat) := rfl
theorem Sess3.s10 (s : Sess3) (v : UInt8) : s.cells.setIfInBounds 10 (.int .u8 v.toNat) = Sess3.cells { s with ss := upd s.ss 1 { s.ss 1 with val := upd (s.ss 1).val 1 v } } := rfl
theorem Sess3.g11 (s : Sess3) : s.cells[11]? = some (.int .u8 (((s.ss 1).val 2)).toNat) := rfl
theorem Sess3.s11 (s : Sess3) (v : UInt8) : s.cells.setIfInBounds 11 (.int .u8 v.toNat) = Sess3.cells { s with ss := upd s.ss 1 { s.ss 1 with val := upd (s.ss 1).val 2 v } } := rfl
theorem Sess3.g12 (s : Sess3) : s.cells[12]? = some (.int .i64 ((s.ss 2).seq)) := rfl
theorem Sess3.s12 (s : Sess3) (v : Int) : s.cells.setIfInBounds 12 (.int .i64 v) = Sess3.cells { s with ss := upd s.ss 2 { s.ss 2 with seq := v } } := rfl
theorem Sess3.g13 (s : Sess3) : s.cells[13]? = some (.int .i64 ((s.ss 2).err)) := rfl
theorem Sess3.s13 (s : Sess3) (v : Int) : s.cells.setIfInBounds 13 (.int .i64 v) = Sess3.cells { s with ss := upd s.ss 2 { s.ss 2 with err := v } } := rfl
theorem Sess3.g14 (s : Sess3) : s.cells[14]? = some (.int .i64 ((s.ss 2).vlen)) := rfl
theorem Sess3.s14 (s : Sess3) (v : Int) : s.cells.setIfInBounds 14 (.int .i64 v) = Sess3.cells { s with ss := upd s.ss 2 { s.ss 2 with vlen := v } } := rfl
theorem Sess3.g15 (s : Sess3) : s.cells[15]? = some (.int .u8 (((s.ss 2).val 0)).toNat) := rfl
theorem Sess3.s15 (s : Sess3) (v : UInt8) : s.cells.setIfInBounds 15 (.int .u8 v.toNat) = Sess3.cells { s with ss := upd s.ss 2 { s.ss 2 with val := upd (s.ss 2).val 0 v } } := rfl
theorem Sess3.g16 (s : Sess3) : s.cells[16]? = some (.int .u8 (((s.ss 2).val 1)).toNat) := rfl
theorem Sess3.s16 (s : Sess3) (v : UInt8) : s.cells.setIfInBounds 16 (.int .u8 v.toNat) = Sess3.cells { s with ss := upd s.ss 2 { s.ss 2 with val := upd (s.ss 2).val 1 v } } := rfl
theorem Sess3.g17 (s : Sess3) : s.cells[17]? = some (.int .u8 (((s.ss 2).val 2)).toNat) := rfl
theorem Sess3.s17 (s : Sess3) (v : UInt8) : s.cells.setIfInBounds 17 (.int .u8 v.toNat) = Sess3.cells { s with ss := upd s.ss 2 { s.ss 2 with val := upd (s.ss 2).val 2 v } } := rfl
theorem Sess3.gi_ss_0 (s : Sess3) (i : Nat) (h : i < 3) : s.cells[i * 6]? = some (.int .i64 ((s.ss i).seq)) := by
  match i, h with
  | 0, _ | 1, _ | 2, _ => rfl
theorem Sess3.si_ss_0 (s : Sess3) (i : Nat) (h : i < 3) (v : Int) : s.cells.setIfInBounds (i * 6) (.int .i64 v) = Sess3.cells { s with ss := upd s.ss i ({ s.ss i with seq := v }) } := by
  match i, h with
  | 0, _ | 1, _ | 2, _ => rfl
theorem Sess3.gi_ss_1 (s : Sess3) (i : Nat) (h : i < 3) : s.cells[1 + i * 6]? = some (.int .i64 ((s.ss i).err)) := by
  match i, h with
  | 0, _ | 1, _ | 2, _ => rfl
theorem Sess3.si_ss_1 (s : Sess3) (i : Nat) (h : i < 3) (v : Int) : s.cells.setIfInBounds (1 + i * 6) (.int .i64 v) = Sess3.cells { s with ss := upd s.ss i ({ s.ss i with err := v }) } := by
  match i, h with
  | 0, _ | 1, _ | 2, _ => rfl
theorem Sess3.gi_ss_2 (s : Sess3) (i : Nat) (h : i < 3) : s.cells[2 + i * 6]? = some (.int .i64 ((s.ss i).vlen)) := by
  match i, h with
  | 0, _ | 1, _ | 2, _ => rfl
theorem Sess3.si_ss_2 (s : Sess3) (i : Nat) (h : i < 3) (v : Int) : s.cells.setIfInBounds (2 + i * 6) (.int .i64 v) = Sess3.cells { s with ss := upd s.ss i ({ s.ss i with vlen := v }) } := by
  match i, h with
  | 0, _ | 1, _ | 2, _ => rfl
theorem Sess3.gi_ss_3 (s : Sess3) (i : Nat) (h : i < 3) : s.cells[3 + i * 6]? = some (.int .u8 (((s.ss i).val 0)).toNat) := by
  match i, h with
  | 0, _ | 1, _ | 2, _ => rfl
theorem Sess3.si_ss_3 (s : Sess3) (i : Nat) (h : i < 3) (v : UInt8) : s.cells.setIfInBounds (3 + i * 6) (.int .u8 v.toNat) = Sess3.cells { s with ss := upd s.ss i ({ s.ss i with val := upd (s.ss i).val 0 v }) } := by
  match i, h with
  | 0, _ | 1, _ | 2, _ => rfl
theorem Sess3.gi_ss_4 (s : Sess3) (i : Nat) (h : i < 3) : s.cells[4 + i * 6]? = some (.int .u8 (((s.ss i).val 1)).toNat) := by
  match i, h with
  | 0, _ | 1, _ | 2, _ => rfl
theorem Sess3.si_ss_4 (s : Sess3) (i : Nat) (h : i < 3) (v : UInt8) : s.cells.setIfInBounds (4 + i * 6) (.int .u8 v.toNat) = Sess3.cells { s with ss := upd s.ss i ({ s.ss i with val := upd (s.ss i).val 1 v }) } := by
  match i, h with
  | 0, _ | 1, _ | 2, _ => rfl
theorem Sess3.gi_ss_5 (s : Sess3) (i : Nat) (h : i < 3) : s.cells[5 + i * 6]? = some (.int .u8 (((s.ss i).val 2)).toNat) := by
  match i, h with
  | 0, _ | 1, _ | 2, _ => rfl
theorem Sess3.si_ss_5 (s : Sess3) (i : Nat) (h : i < 3) (v : UInt8) : s.cells.setIfInBounds (5 + i * 6) (.int .u8 v.toNat) = Sess3.cells { s with ss := upd s.ss i ({ s.ss i with val := upd (s.ss i).val 2 v }) } := by
  match i, h with
  | 0, _ | 1, _ | 2, _ => rfl
theorem Sess3.gia_ss_1 (s : Sess3) (i : Nat) (h : i < 3) : s.cells[i * 6 + 1]? = some (.int .i64 ((s.ss i).err)) := by
  rw [show i * 6 + 1 = 1 + i * 6 by omega]; exact Sess3.gi_ss_1 s i h
theorem Sess3.sia_ss_1 (s : Sess3) (i : Nat) (h : i < 3) (v : Int) : s.cells.setIfInBounds (i * 6 + 1) (.int .i64 v) = Sess3.cells { s with ss := upd s.ss i ({ s.ss i with err := v }) } := by
  rw [show i * 6 + 1 = 1 + i * 6 by omega]; exact Sess3.si_ss_1 s i h v
theorem Sess3.gia_ss_2 (s : Sess3) (i : Nat) (h : i < 3) : s.cells[i * 6 + 2]? = some (.int .i64 ((s.ss i).vlen)) := by
  rw [show i * 6 + 2 = 2 + i * 6 by omega]; exact Sess3.gi_ss_2 s i h
theorem Sess3.sia_ss_2 (s : Sess3) (i : Nat) (h : i < 3) (v : Int) : s.cells.setIfInBounds (i * 6 + 2) (.int .i64 v) = Sess3.cells { s with ss := upd s.ss i ({ s.ss i with vlen := v }) } := by
  rw [show i * 6 + 2 = 2 + i * 6 by omega]; exact Sess3.si_ss_2 s i h v
theorem Sess3.gia_ss_3 (s : Sess3) (i : Nat) (h : i < 3) : s.cells[i * 6 + 3]? = some (.int .u8 (((s.ss i).val 0)).toNat) := by
  rw [show i * 6 + 3 = 3 + i * 6 by omega]; exact Sess3.gi_ss_3 s i h
theorem Sess3.sia_ss_3 (s : Sess3) (i : Nat) (h : i < 3) (v : UInt8) : s.cells.setIfInBounds (i * 6 + 3) (.int .u8 v.toNat) = Sess3.cells { s with ss := upd s.ss i ({ s.ss i with val := upd (s.ss i).val 0 v }) } := by
  rw [show i * 6 + 3 = 3 + i * 6 by omega]; exact Sess3.si_ss_3 s i h v
theorem Sess3.gia_ss_4 (s : Sess3) (i : Nat) (h : i < 3) : s.cells[i * 6 + 4]? = some (.int .u8 (((s.ss i).val 1)).toNat) := by
  rw [show i * 6 + 4 = 4 + i * 6 by omega]; exact Sess3.gi_ss_4 s i h
theorem Sess3.sia_ss_4 (s : Sess3) (i : Nat) (h : i < 3) (v : UInt8) : s.cells.setIfInBounds (i * 6 + 4) (.int .u8 v.toNat) = Sess3.cells { s with ss := upd s.ss i ({ s.ss i with val := upd (s.ss i).val 1 v }) } := by
  rw [show i * 6 + 4 = 4 + i * 6 by omega]; exact Sess3.si_ss_4 s i h v
theorem Sess3.gia_ss_5 (s : Sess3) (i : Nat) (h : i < 3) : s.cells[i * 6 + 5]? = some (.int .u8 (((s.ss i).val 2)).toNat) := by
  rw [show i * 6 + 5 = 5 + i * 6 by omega]; exact Sess3.gi_ss_5 s i h
theorem Sess3.sia_ss_5 (s : Sess3) (i : Nat) (h : i < 3) (v : UInt8) : s.cells.setIfInBounds (i * 6 + 5) (.int .u8 v.toNat) = Sess3.cells { s with ss := upd s.ss i ({ s.ss i with val := upd (s.ss i).val 2 v }) } := by
  rw [show i * 6 + 5 = 5 + i * 6 by omega]; exact Sess3.si_ss_5 s i h v
theorem Sess3.pa_ss (s : Sess3) (i : Nat) (h : i < 3) (c : Sess) : ((((((s.cells.setIfInBounds (i * 6) (.int .i64 c.seq)).setIfInBounds (i * 6 + 1) (.int .i64 c.err)).setIfInBounds (i * 6 + 2) (.int .i64 c.vlen)).setIfInBounds (i * 6 + 3) (.int .u8 ((c.val 0)).toNat)).setIfInBounds (i * 6 + 4) (.int .u8 ((c.val 1)).toNat)).setIfInBounds (i * 6 + 5) (.int .u8 ((c.val 2)).toNat)) = Sess3.cells { s with ss := upd s.ss i c } := by
  have hi : i = 0 ∨ i = 1 ∨ i = 2 := by omega
  clear h
  rcases hi with rfl | rfl | rfl
  all_goals (show _ = _; kernel_rfl)
structure At4 where
  at_ : Nat → Int
def At4.cells (s : At4) : Array Value := #[.int .i64 ((s.at_ 0)), .int .i64 ((s.at_ 1)), .int .i64 ((s.at_ 2)), .int .i64 ((s.at_ 3))]
theorem At4.g0 (s : At4) : s.cells[0]? = some (.int .i64 ((s.at_ 0))) := rfl
theorem At4.s0 (s : At4) (v : Int) : s.cells.setIfInBounds 0 (.int .i64 v) = At4.cells { s with at_ := upd s.at_ 0 v } := rfl
theorem At4.g1 (s : At4) : s.cells[1]? = some (.int .i64 ((s.at_ 1))) := rfl
theorem At4.s1 (s : At4) (v : Int) : s.cells.setIfInBounds 1 (.int .i64 v) = At4.cells { s with at_ := upd s.at_ 1 v } := rfl
theorem At4.g2 (s : At4) : s.cells[2]? = some (.int .i64 ((s.at_ 2))) := rfl
theorem At4.s2 (s : At4) (v : Int) : s.cells.setIfInBounds 2 (.int .i64 v) = At4.cells { s with at_ := upd s.at_ 2 v } := rfl
theorem At4.g3 (s : At4) : s.cells[3]? = some (.int .i64 ((s.at_ 3))) := rfl
theorem At4.s3 (s : At4) (v : Int) : s.cells.setIfInBounds 3 (.int .i64 v) = At4.cells { s with at_ := upd s.at_ 3 v } := rfl
theorem At4.gi_at__0 (s : At4) (i : Nat) (h : i < 4) : s.cells[i]? = some (.int .i64 ((s.at_ i))) := by
  match i, h with
  | 0, _ | 1, _ | 2, _ | 3, _ => rfl
theorem At4.si_at__0 (s : At4) (i : Nat) (h : i < 4) (v : Int) : s.cells.setIfInBounds (i) (.int .i64 v) = At4.cells { s with at_ := upd s.at_ i v } := by
  match i, h with
  | 0, _ | 1, _ | 2, _ | 3, _ => rfl
theorem TableR.pa_cells_ (s : TableR) (i : Nat) (h : i < 8) (c : Cell) : ((((((((s.cells.setIfInBounds (i * 8) (.int .i64 c.state)).setIfInBounds (i * 8 + 1) (.int .i64 c.klen)).setIfInBounds (i * 8 + 2) (.int .u8 ((c.key 0)).toNat)).setIfInBounds (i * 8 + 3) (.int .u8 ((c.key 1)).toNat)).setIfInBounds (i * 8 + 4) (.int .i64 c.vlen)).setIfInBounds (i * 8 + 5) (.int .u8 ((c.val 0)).toNat)).setIfInBounds (i * 8 + 6) (.int .u8 ((c.val 1)).toNat)).setIfInBounds (i * 8 + 7) (.int .u8 ((c.val 2)).toNat)) = TableR.cells { s with cells_ := upd s.cells_ i c } := by
  have hi : i = 0 ∨ i = 1 ∨ i = 2 ∨ i = 3 ∨ i = 4 ∨ i = 5 ∨ i = 6 ∨ i = 7 := by omega
  clear h
  rcases hi with rfl | rfl | rfl | rfl | rfl | rfl | rfl | rfl
  all_goals (show _ = _; kernel_rfl)
end Go.Tw
