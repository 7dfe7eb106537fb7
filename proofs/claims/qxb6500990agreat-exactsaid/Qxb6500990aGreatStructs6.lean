/- MADE BY PROGRAM (tools/gen_struct.py 6): a kept view, in one array -/
import Derived.Test.Qxb6500990aGreatStructs2
set_option linter.unusedVariables false
set_option linter.unusedSimpArgs false
namespace Go.Tw
open Go
structure ViewX where
  real : Value
  sync : Value
  at_ : Value
  node : NodeV
  inn : SyncV
def ViewX.cells (s : ViewX) : Array Value := #[s.real, s.sync, s.at_, s.node.sync, .int .i64 s.node.applied, .bool ((s.node.used 0)), .bool ((s.node.used 1)), .bool ((s.node.used 2)), .int .i64 ((s.node.seq 0)), .int .i64 ((s.node.seq 1)), .int .i64 ((s.node.seq 2)), .int .i64 ((s.node.idx 0)), .int .i64 ((s.node.idx 1)), .int .i64 ((s.node.idx 2)), .int .i64 s.inn.id, .int .i64 s.inn.term, .int .i64 s.inn.vote, .int .i64 s.inn.role, .int .i64 s.inn.leader, .int .i64 s.inn.clock, .bool ((s.inn.got 0)), .bool ((s.inn.got 1)), .bool ((s.inn.got 2)), .int .i64 s.inn.commit, .int .i64 s.inn.base, .int .i64 s.inn.baseTerm, .int .i64 s.inn.last, .string (ByteArray.mk s.inn.snap.toArray), .int .i64 ((s.inn.next 0)), .int .i64 ((s.inn.next 1)), .int .i64 ((s.inn.next 2)), .int .i64 ((s.inn.mtch 0)), .int .i64 ((s.inn.mtch 1)), .int .i64 ((s.inn.mtch 2))]
theorem ViewX.g0 (s : ViewX) : s.cells[0]? = some (s.real) := rfl
theorem ViewX.s0 (s : ViewX) (v : Value) : s.cells.setIfInBounds 0 (v) = ViewX.cells { s with real := v } := rfl
theorem ViewX.g1 (s : ViewX) : s.cells[1]? = some (s.sync) := rfl
theorem ViewX.s1 (s : ViewX) (v : Value) : s.cells.setIfInBounds 1 (v) = ViewX.cells { s with sync := v } := rfl
theorem ViewX.g2 (s : ViewX) : s.cells[2]? = some (s.at_) := rfl
theorem ViewX.s2 (s : ViewX) (v : Value) : s.cells.setIfInBounds 2 (v) = ViewX.cells { s with at_ := v } := rfl
theorem ViewX.g3 (s : ViewX) : s.cells[3]? = some (s.node.sync) := rfl
theorem ViewX.s3 (s : ViewX) (v : Value) : s.cells.setIfInBounds 3 (v) = ViewX.cells { s with node := { s.node with sync := v } } := rfl
theorem ViewX.g4 (s : ViewX) : s.cells[4]? = some (.int .i64 s.node.applied) := rfl
theorem ViewX.s4 (s : ViewX) (v : Int) : s.cells.setIfInBounds 4 (.int .i64 v) = ViewX.cells { s with node := { s.node with applied := v } } := rfl
theorem ViewX.g5 (s : ViewX) : s.cells[5]? = some (.bool ((s.node.used 0))) := rfl
theorem ViewX.s5 (s : ViewX) (v : Bool) : s.cells.setIfInBounds 5 (.bool v) = ViewX.cells { s with node := { s.node with used := upd s.node.used 0 v } } := rfl
theorem ViewX.g6 (s : ViewX) : s.cells[6]? = some (.bool ((s.node.used 1))) := rfl
theorem ViewX.s6 (s : ViewX) (v : Bool) : s.cells.setIfInBounds 6 (.bool v) = ViewX.cells { s with node := { s.node with used := upd s.node.used 1 v } } := rfl
theorem ViewX.g7 (s : ViewX) : s.cells[7]? = some (.bool ((s.node.used 2))) := rfl
theorem ViewX.s7 (s : ViewX) (v : Bool) : s.cells.setIfInBounds 7 (.bool v) = ViewX.cells { s with node := { s.node with used := upd s.node.used 2 v } } := rfl
theorem ViewX.g8 (s : ViewX) : s.cells[8]? = some (.int .i64 ((s.node.seq 0))) := rfl
theorem ViewX.s8 (s : ViewX) (v : Int) : s.cells.setIfInBounds 8 (.int .i64 v) = ViewX.cells { s with node := { s.node with seq := upd s.node.seq 0 v } } := rfl
theorem ViewX.g9 (s : ViewX) : s.cells[9]? = some (.int .i64 ((s.node.seq 1))) := rfl
theorem ViewX.s9 (s : ViewX) (v : Int) : s.cells.setIfInBounds 9 (.int .i64 v) = ViewX.cells { s with node := { s.node with seq := upd s.node.seq 1 v } } := rfl
theorem ViewX.g10 (s : ViewX) : s.cells[10]? = some (.int .i64 ((s.node.seq 2))) := rfl
theorem ViewX.s10 (s : ViewX) (v : Int) : s.cells.setIfInBounds 10 (.int .i64 v) = ViewX.cells { s with node := { s.node with seq := upd s.node.seq 2 v } } := rfl
theorem ViewX.g11 (s : ViewX) : s.cells[11]? = some (.int .i64 ((s.node.idx 0))) := rfl
theorem ViewX.s11 (s : ViewX) (v : Int) : s.cells.setIfInBounds 11 (.int .i64 v) = ViewX.cells { s with node := { s.node with idx := upd s.node.idx 0 v } } := rfl
theorem ViewX.g12 (s : ViewX) : s.cells[12]? = some (.int .i64 ((s.node.idx 1))) := rfl
theorem ViewX.s12 (s : ViewX) (v : Int) : s.cells.setIfInBounds 12 (.int .i64 v) = ViewX.cells { s with node := { s.node with idx := upd s.node.idx 1 v } } := rfl
theorem ViewX.g13 (s : ViewX) : s.cells[13]? = some (.int .i64 ((s.node.idx 2))) := rfl
theorem ViewX.s13 (s : ViewX) (v : Int) : s.cells.setIfInBounds 13 (.int .i64 v) = ViewX.cells { s with node := { s.node with idx := upd s.node.idx 2 v } } := rfl
theorem ViewX.g14 (s : ViewX) : s.cells[14]? = some (.int .i64 s.inn.id) := rfl
theorem ViewX.s14 (s : ViewX) (v : Int) : s.cells.setIfInBounds 14 (.int .i64 v) = ViewX.cells { s with inn := { s.inn with id := v } } := rfl
theorem ViewX.g15 (s : ViewX) : s.cells[15]? = some (.int .i64 s.inn.term) := rfl
theorem ViewX.s15 (s : ViewX) (v : Int) : s.cells.setIfInBounds 15 (.int .i64 v) = ViewX.cells { s with inn := { s.inn with term := v } } := rfl
theorem ViewX.g16 (s : ViewX) : s.cells[16]? = some (.int .i64 s.inn.vote) := rfl
theorem ViewX.s16 (s : ViewX) (v : Int) : s.cells.setIfInBounds 16 (.int .i64 v) = ViewX.cells { s with inn := { s.inn with vote := v } } := rfl
theorem ViewX.g17 (s : ViewX) : s.cells[17]? = some (.int .i64 s.inn.role) := rfl
theorem ViewX.s17 (s : ViewX) (v : Int) : s.cells.setIfInBounds 17 (.int .i64 v) = ViewX.cells { s with inn := { s.inn with role := v } } := rfl
theorem ViewX.g18 (s : ViewX) : s.cells[18]? = some (.int .i64 s.inn.leader) := rfl
theorem ViewX.s18 (s : ViewX) (v : Int) : s.cells.setIfInBounds 18 (.int .i64 v) = ViewX.cells { s with inn := { s.inn with leader := v } } := rfl
theorem ViewX.g19 (s : ViewX) : s.cells[19]? = some (.int .i64 s.inn.clock) := rfl
theorem ViewX.s19 (s : ViewX) (v : Int) : s.cells.setIfInBounds 19 (.int .i64 v) = ViewX.cells { s with inn := { s.inn with clock := v } } := rfl
theorem ViewX.g20 (s : ViewX) : s.cells[20]? = some (.bool ((s.inn.got 0))) := rfl
theorem ViewX.s20 (s : ViewX) (v : Bool) : s.cells.setIfInBounds 20 (.bool v) = ViewX.cells { s with inn := { s.inn with got := upd s.inn.got 0 v } } := rfl
theorem ViewX.g21 (s : ViewX) : s.cells[21]? = some (.bool ((s.inn.got 1))) := rfl
theorem ViewX.s21 (s : ViewX) (v : Bool) : s.cells.setIfInBounds 21 (.bool v) = ViewX.cells { s with inn := { s.inn with got := upd s.inn.got 1 v } } := rfl
theorem ViewX.g22 (s : ViewX) : s.cells[22]? = some (.bool ((s.inn.got 2))) := rfl
theorem ViewX.s22 (s : ViewX) (v : Bool) : s.cells.setIfInBounds 22 (.bool v) = ViewX.cells { s with inn := { s.inn with got := upd s.inn.got 2 v } } := rfl
theorem ViewX.g23 (s : ViewX) : s.cells[23]? = some (.int .i64 s.inn.commit) := rfl
theorem ViewX.s23 (s : ViewX) (v : Int) : s.cells.setIfInBounds 23 (.int .i64 v) = ViewX.cells { s with inn := { s.inn with commit := v } } := rfl
theorem ViewX.g24 (s : ViewX) : s.cells[24]? = some (.int .i64 s.inn.base) := rfl
theorem ViewX.s24 (s : ViewX) (v : Int) : s.cells.setIfInBounds 24 (.int .i64 v) = ViewX.cells { s with inn := { s.inn with base := v } } := rfl
theorem ViewX.g25 (s : ViewX) : s.cells[25]? = some (.int .i64 s.inn.baseTerm) := rfl
theorem ViewX.s25 (s : ViewX) (v : Int) : s.cells.setIfInBounds 25 (.int .i64 v) = ViewX.cells { s with inn := { s.inn with baseTerm := v } } := rfl
theorem ViewX.g26 (s : ViewX) : s.cells[26]? = some (.int .i64 s.inn.last) := rfl
theorem ViewX.s26 (s : ViewX) (v : Int) : s.cells.setIfInBounds 26 (.int .i64 v) = ViewX.cells { s with inn := { s.inn with last := v } } := rfl
theorem ViewX.g27 (s : ViewX) : s.cells[27]? = some (.string (ByteArray.mk s.inn.snap.toArray)) := rfl
theorem ViewX.s27 (s : ViewX) (v : Bs) : s.cells.setIfInBounds 27 (.string (ByteArray.mk v.toArray)) = ViewX.cells { s with inn := { s.inn with snap := v } } := rfl
theorem ViewX.g28 (s : ViewX) : s.cells[28]? = some (.int .i64 ((s.inn.next 0))) := rfl
theorem ViewX.s28 (s : ViewX) (v : Int) : s.cells.setIfInBounds 28 (.int .i64 v) = ViewX.cells { s with inn := { s.inn with next := upd s.inn.next 0 v } } := rfl
theorem ViewX.g29 (s : ViewX) : s.cells[29]? = some (.int .i64 ((s.inn.next 1))) := rfl
theorem ViewX.s29 (s : ViewX) (v : Int) : s.cells.setIfInBounds 29 (.int .i64 v) = ViewX.cells { s with inn := { s.inn with next := upd s.inn.next 1 v } } := rfl
theorem ViewX.g30 (s : ViewX) : s.cells[30]? = some (.int .i64 ((s.inn.next 2))) := rfl
theorem ViewX.s30 (s : ViewX) (v : Int) : s.cells.setIfInBounds 30 (.int .i64 v) = ViewX.cells { s with inn := { s.inn with next := upd s.inn.next 2 v } } := rfl
theorem ViewX.g31 (s : ViewX) : s.cells[31]? = some (.int .i64 ((s.inn.mtch 0))) := rfl
theorem ViewX.s31 (s : ViewX) (v : Int) : s.cells.setIfInBounds 31 (.int .i64 v) = ViewX.cells { s with inn := { s.inn with mtch := upd s.inn.mtch 0 v } } := rfl
theorem ViewX.g32 (s : ViewX) : s.cells[32]? = some (.int .i64 ((s.inn.mtch 1))) := rfl
theorem ViewX.s32 (s : ViewX) (v : Int) : s.cells.setIfInBounds 32 (.int .i64 v) = ViewX.cells { s with inn := { s.inn with mtch := upd s.inn.mtch 1 v } } := rfl
theorem ViewX.g33 (s : ViewX) : s.cells[33]? = some (.int .i64 ((s.inn.mtch 2))) := rfl
theorem ViewX.s33 (s : ViewX) (v : Int) : s.cells.setIfInBounds 33 (.int .i64 v) = ViewX.cells { s with inn := { s.inn with mtch := upd s.inn.mtch 2 v } } := rfl
end Go.Tw
