/- MADE BY PROGRAM (tools/gen_struct.py): the Go structs of this program as the prover structures, their cells, reading and writing one cell. -/
import Derived.Test.Qxb6500990aGreatHeap
namespace Go.Tw
abbrev Bs := List UInt8
set_option linter.unusedVariables false
structure Meta where
  ok : Bool
  num : Int
  term : Int
  vote : Int
def Meta.cells (s : Meta) : Array Value := #[.bool s.ok, .int .i64 s.num, .int .i64 s.term, .int .i64 s.vote]
theorem Meta.g0 (s : Meta) : s.cells[0]? = some (.bool s.ok) := rfl
theorem Meta.s0 (s : Meta) (v : Bool) : s.cells.setIfInBounds 0 (.bool v) = Meta.cells { s with ok := v } := rfl
theorem Meta.g1 (s : Meta) : s.cells[1]? = some (.int .i64 s.num) := rfl
theorem Meta.s1 (s : Meta) (v : Int) : s.cells.setIfInBounds 1 (.int .i64 v) = Meta.cells { s with num := v } := rfl
theorem Meta.g2 (s : Meta) : s.cells[2]? = some (.int .i64 s.term) := rfl
theorem Meta.s2 (s : Meta) (v : Int) : s.cells.setIfInBounds 2 (.int .i64 v) = Meta.cells { s with term := v } := rfl
theorem Meta.g3 (s : Meta) : s.cells[3]? = some (.int .i64 s.vote) := rfl
theorem Meta.s3 (s : Meta) (v : Int) : s.cells.setIfInBounds 3 (.int .i64 v) = Meta.cells { s with vote := v } := rfl
structure Head where
  ok : Bool
  num : Int
  idx : Int
  term : Int
  area : Int
  size : Int
def Head.cells (s : Head) : Array Value := #[.bool s.ok, .int .i64 s.num, .int .i64 s.idx, .int .i64 s.term, .int .i64 s.area, .int .i64 s.size]
theorem Head.g0 (s : Head) : s.cells[0]? = some (.bool s.ok) := rfl
theorem Head.s0 (s : Head) (v : Bool) : s.cells.setIfInBounds 0 (.bool v) = Head.cells { s with ok := v } := rfl
theorem Head.g1 (s : Head) : s.cells[1]? = some (.int .i64 s.num) := rfl
theorem Head.s1 (s : Head) (v : Int) : s.cells.setIfInBounds 1 (.int .i64 v) = Head.cells { s with num := v } := rfl
theorem Head.g2 (s : Head) : s.cells[2]? = some (.int .i64 s.idx) := rfl
theorem Head.s2 (s : Head) (v : Int) : s.cells.setIfInBounds 2 (.int .i64 v) = Head.cells { s with idx := v } := rfl
theorem Head.g3 (s : Head) : s.cells[3]? = some (.int .i64 s.term) := rfl
theorem Head.s3 (s : Head) (v : Int) : s.cells.setIfInBounds 3 (.int .i64 v) = Head.cells { s with term := v } := rfl
theorem Head.g4 (s : Head) : s.cells[4]? = some (.int .i64 s.area) := rfl
theorem Head.s4 (s : Head) (v : Int) : s.cells.setIfInBounds 4 (.int .i64 v) = Head.cells { s with area := v } := rfl
theorem Head.g5 (s : Head) : s.cells[5]? = some (.int .i64 s.size) := rfl
theorem Head.s5 (s : Head) (v : Int) : s.cells.setIfInBounds 5 (.int .i64 v) = Head.cells { s with size := v } := rfl
structure Rec where
  idx : Int
  term : Int
  data : Bs
def Rec.cells (s : Rec) : Array Value := #[.int .i64 s.idx, .int .i64 s.term, .string (ByteArray.mk s.data.toArray)]
theorem Rec.g0 (s : Rec) : s.cells[0]? = some (.int .i64 s.idx) := rfl
theorem Rec.s0 (s : Rec) (v : Int) : s.cells.setIfInBounds 0 (.int .i64 v) = Rec.cells { s with idx := v } := rfl
theorem Rec.g1 (s : Rec) : s.cells[1]? = some (.int .i64 s.term) := rfl
theorem Rec.s1 (s : Rec) (v : Int) : s.cells.setIfInBounds 1 (.int .i64 v) = Rec.cells { s with term := v } := rfl
theorem Rec.g2 (s : Rec) : s.cells[2]? = some (.string (ByteArray.mk s.data.toArray)) := rfl
theorem Rec.s2 (s : Rec) (v : Bs) : s.cells.setIfInBounds 2 (.string (ByteArray.mk v.toArray)) = Rec.cells { s with data := v } := rfl
structure Entry where
  term : Int
  data : Bs
def Entry.cells (s : Entry) : Array Value := #[.int .i64 s.term, .string (ByteArray.mk s.data.toArray)]
theorem Entry.g0 (s : Entry) : s.cells[0]? = some (.int .i64 s.term) := rfl
theorem Entry.s0 (s : Entry) (v : Int) : s.cells.setIfInBounds 0 (.int .i64 v) = Entry.cells { s with term := v } := rfl
theorem Entry.g1 (s : Entry) : s.cells[1]? = some (.string (ByteArray.mk s.data.toArray)) := rfl
theorem Entry.s1 (s : Entry) (v : Bs) : s.cells.setIfInBounds 1 (.string (ByteArray.mk v.toArray)) = Entry.cells { s with data := v } := rfl
structure Ans where
  err : Int
  val : Bs
def Ans.cells (s : Ans) : Array Value := #[.int .i64 s.err, .string (ByteArray.mk s.val.toArray)]
theorem Ans.g0 (s : Ans) : s.cells[0]? = some (.int .i64 s.err) := rfl
theorem Ans.s0 (s : Ans) (v : Int) : s.cells.setIfInBounds 0 (.int .i64 v) = Ans.cells { s with err := v } := rfl
theorem Ans.g1 (s : Ans) : s.cells[1]? = some (.string (ByteArray.mk s.val.toArray)) := rfl
theorem Ans.s1 (s : Ans) (v : Bs) : s.cells.setIfInBounds 1 (.string (ByteArray.mk v.toArray)) = Ans.cells { s with val := v } := rfl
structure Reply where
  client : Int
  seq : Int
  ans : Ans
def Reply.cells (s : Reply) : Array Value := #[.int .i64 s.client, .int .i64 s.seq, .int .i64 s.ans.err, .string (ByteArray.mk s.ans.val.toArray)]
theorem Reply.g0 (s : Reply) : s.cells[0]? = some (.int .i64 s.client) := rfl
theorem Reply.s0 (s : Reply) (v : Int) : s.cells.setIfInBounds 0 (.int .i64 v) = Reply.cells { s with client := v } := rfl
theorem Reply.g1 (s : Reply) : s.cells[1]? = some (.int .i64 s.seq) := rfl
theorem Reply.s1 (s : Reply) (v : Int) : s.cells.setIfInBounds 1 (.int .i64 v) = Reply.cells { s with seq := v } := rfl
theorem Reply.g2 (s : Reply) : s.cells[2]? = some (.int .i64 s.ans.err) := rfl
theorem Reply.s2 (s : Reply) (v : Int) : s.cells.setIfInBounds 2 (.int .i64 v) = Reply.cells { s with ans := { s.ans with err := v } } := rfl
theorem Reply.g3 (s : Reply) : s.cells[3]? = some (.string (ByteArray.mk s.ans.val.toArray)) := rfl
theorem Reply.s3 (s : Reply) (v : Bs) : s.cells.setIfInBounds 3 (.string (ByteArray.mk v.toArray)) = Reply.cells { s with ans := { s.ans with val := v } } := rfl
structure OutM where
  to : Int
  raw : Bs
def OutM.cells (s : OutM) : Array Value := #[.int .i64 s.to, .string (ByteArray.mk s.raw.toArray)]
theorem OutM.g0 (s : OutM) : s.cells[0]? = some (.int .i64 s.to) := rfl
theorem OutM.s0 (s : OutM) (v : Int) : s.cells.setIfInBounds 0 (.int .i64 v) = OutM.cells { s with to := v } := rfl
theorem OutM.g1 (s : OutM) : s.cells[1]? = some (.string (ByteArray.mk s.raw.toArray)) := rfl
theorem OutM.s1 (s : OutM) (v : Bs) : s.cells.setIfInBounds 1 (.string (ByteArray.mk v.toArray)) = OutM.cells { s with raw := v } := rfl
structure Cmd where
  op : Int
  client : Int
  seq : Int
  key : Bs
  val : Bs
  old : Bs
def Cmd.cells (s : Cmd) : Array Value := #[.int .i64 s.op, .int .i64 s.client, .int .i64 s.seq, .string (ByteArray.mk s.key.toArray), .string (ByteArray.mk s.val.toArray), .string (ByteArray.mk s.old.toArray)]
theorem Cmd.g0 (s : Cmd) : s.cells[0]? = some (.int .i64 s.op) := rfl
theorem Cmd.s0 (s : Cmd) (v : Int) : s.cells.setIfInBounds 0 (.int .i64 v) = Cmd.cells { s with op := v } := rfl
theorem Cmd.g1 (s : Cmd) : s.cells[1]? = some (.int .i64 s.client) := rfl
theorem Cmd.s1 (s : Cmd) (v : Int) : s.cells.setIfInBounds 1 (.int .i64 v) = Cmd.cells { s with client := v } := rfl
theorem Cmd.g2 (s : Cmd) : s.cells[2]? = some (.int .i64 s.seq) := rfl
theorem Cmd.s2 (s : Cmd) (v : Int) : s.cells.setIfInBounds 2 (.int .i64 v) = Cmd.cells { s with seq := v } := rfl
theorem Cmd.g3 (s : Cmd) : s.cells[3]? = some (.string (ByteArray.mk s.key.toArray)) := rfl
theorem Cmd.s3 (s : Cmd) (v : Bs) : s.cells.setIfInBounds 3 (.string (ByteArray.mk v.toArray)) = Cmd.cells { s with key := v } := rfl
theorem Cmd.g4 (s : Cmd) : s.cells[4]? = some (.string (ByteArray.mk s.val.toArray)) := rfl
theorem Cmd.s4 (s : Cmd) (v : Bs) : s.cells.setIfInBounds 4 (.string (ByteArray.mk v.toArray)) = Cmd.cells { s with val := v } := rfl
theorem Cmd.g5 (s : Cmd) : s.cells[5]? = some (.string (ByteArray.mk s.old.toArray)) := rfl
theorem Cmd.s5 (s : Cmd) (v : Bs) : s.cells.setIfInBounds 5 (.string (ByteArray.mk v.toArray)) = Cmd.cells { s with old := v } := rfl
structure OpR where
  kind : Int
  a : Int
  b : Int
  c : Int
  s : Bs
  t : Bs
def OpR.cells (s : OpR) : Array Value := #[.int .i64 s.kind, .int .i64 s.a, .int .i64 s.b, .int .i64 s.c, .string (ByteArray.mk s.s.toArray), .string (ByteArray.mk s.t.toArray)]
theorem OpR.g0 (s : OpR) : s.cells[0]? = some (.int .i64 s.kind) := rfl
theorem OpR.s0 (s : OpR) (v : Int) : s.cells.setIfInBounds 0 (.int .i64 v) = OpR.cells { s with kind := v } := rfl
theorem OpR.g1 (s : OpR) : s.cells[1]? = some (.int .i64 s.a) := rfl
theorem OpR.s1 (s : OpR) (v : Int) : s.cells.setIfInBounds 1 (.int .i64 v) = OpR.cells { s with a := v } := rfl
theorem OpR.g2 (s : OpR) : s.cells[2]? = some (.int .i64 s.b) := rfl
theorem OpR.s2 (s : OpR) (v : Int) : s.cells.setIfInBounds 2 (.int .i64 v) = OpR.cells { s with b := v } := rfl
theorem OpR.g3 (s : OpR) : s.cells[3]? = some (.int .i64 s.c) := rfl
theorem OpR.s3 (s : OpR) (v : Int) : s.cells.setIfInBounds 3 (.int .i64 v) = OpR.cells { s with c := v } := rfl
theorem OpR.g4 (s : OpR) : s.cells[4]? = some (.string (ByteArray.mk s.s.toArray)) := rfl
theorem OpR.s4 (s : OpR) (v : Bs) : s.cells.setIfInBounds 4 (.string (ByteArray.mk v.toArray)) = OpR.cells { s with s := v } := rfl
theorem OpR.g5 (s : OpR) : s.cells[5]? = some (.string (ByteArray.mk s.t.toArray)) := rfl
theorem OpR.s5 (s : OpR) (v : Bs) : s.cells.setIfInBounds 5 (.string (ByteArray.mk v.toArray)) = OpR.cells { s with t := v } := rfl
structure MsgR where
  kind : Int
  frm : Int
  to : Int
  term : Int
  index : Int
  logTerm : Int
  commit : Int
  ok : Bool
  ents : Value
  data : Bs
def MsgR.cells (s : MsgR) : Array Value := #[.int .i64 s.kind, .int .i64 s.frm, .int .i64 s.to, .int .i64 s.term, .int .i64 s.index, .int .i64 s.logTerm, .int .i64 s.commit, .bool s.ok, s.ents, .string (ByteArray.mk s.data.toArray)]
theorem MsgR.g0 (s : MsgR) : s.cells[0]? = some (.int .i64 s.kind) := rfl
theorem MsgR.s0 (s : MsgR) (v : Int) : s.cells.setIfInBounds 0 (.int .i64 v) = MsgR.cells { s with kind := v } := rfl
theorem MsgR.g1 (s : MsgR) : s.cells[1]? = some (.int .i64 s.frm) := rfl
theorem MsgR.s1 (s : MsgR) (v : Int) : s.cells.setIfInBounds 1 (.int .i64 v) = MsgR.cells { s with frm := v } := rfl
theorem MsgR.g2 (s : MsgR) : s.cells[2]? = some (.int .i64 s.to) := rfl
theorem MsgR.s2 (s : MsgR) (v : Int) : s.cells.setIfInBounds 2 (.int .i64 v) = MsgR.cells { s with to := v } := rfl
theorem MsgR.g3 (s : MsgR) : s.cells[3]? = some (.int .i64 s.term) := rfl
theorem MsgR.s3 (s : MsgR) (v : Int) : s.cells.setIfInBounds 3 (.int .i64 v) = MsgR.cells { s with term := v } := rfl
theorem MsgR.g4 (s : MsgR) : s.cells[4]? = some (.int .i64 s.index) := rfl
theorem MsgR.s4 (s : MsgR) (v : Int) : s.cells.setIfInBounds 4 (.int .i64 v) = MsgR.cells { s with index := v } := rfl
theorem MsgR.g5 (s : MsgR) : s.cells[5]? = some (.int .i64 s.logTerm) := rfl
theorem MsgR.s5 (s : MsgR) (v : Int) : s.cells.setIfInBounds 5 (.int .i64 v) = MsgR.cells { s with logTerm := v } := rfl
theorem MsgR.g6 (s : MsgR) : s.cells[6]? = some (.int .i64 s.commit) := rfl
theorem MsgR.s6 (s : MsgR) (v : Int) : s.cells.setIfInBounds 6 (.int .i64 v) = MsgR.cells { s with commit := v } := rfl
theorem MsgR.g7 (s : MsgR) : s.cells[7]? = some (.bool s.ok) := rfl
theorem MsgR.s7 (s : MsgR) (v : Bool) : s.cells.setIfInBounds 7 (.bool v) = MsgR.cells { s with ok := v } := rfl
theorem MsgR.g8 (s : MsgR) : s.cells[8]? = some (s.ents) := rfl
theorem MsgR.s8 (s : MsgR) (v : Value) : s.cells.setIfInBounds 8 (v) = MsgR.cells { s with ents := v } := rfl
theorem MsgR.g9 (s : MsgR) : s.cells[9]? = some (.string (ByteArray.mk s.data.toArray)) := rfl
theorem MsgR.s9 (s : MsgR) (v : Bs) : s.cells.setIfInBounds 9 (.string (ByteArray.mk v.toArray)) = MsgR.cells { s with data := v } := rfl
structure EL where
  id : Int
  term : Int
  word : Int
  mask : Int
  now : Int
  due : Int
def EL.cells (s : EL) : Array Value := #[.int .i64 s.id, .int .i64 s.term, .int .i64 s.word, .int .i64 s.mask, .int .i64 s.now, .int .i64 s.due]
theorem EL.g0 (s : EL) : s.cells[0]? = some (.int .i64 s.id) := rfl
theorem EL.s0 (s : EL) (v : Int) : s.cells.setIfInBounds 0 (.int .i64 v) = EL.cells { s with id := v } := rfl
theorem EL.g1 (s : EL) : s.cells[1]? = some (.int .i64 s.term) := rfl
theorem EL.s1 (s : EL) (v : Int) : s.cells.setIfInBounds 1 (.int .i64 v) = EL.cells { s with term := v } := rfl
theorem EL.g2 (s : EL) : s.cells[2]? = some (.int .i64 s.word) := rfl
theorem EL.s2 (s : EL) (v : Int) : s.cells.setIfInBounds 2 (.int .i64 v) = EL.cells { s with word := v } := rfl
theorem EL.g3 (s : EL) : s.cells[3]? = some (.int .i64 s.mask) := rfl
theorem EL.s3 (s : EL) (v : Int) : s.cells.setIfInBounds 3 (.int .i64 v) = EL.cells { s with mask := v } := rfl
theorem EL.g4 (s : EL) : s.cells[4]? = some (.int .i64 s.now) := rfl
theorem EL.s4 (s : EL) (v : Int) : s.cells.setIfInBounds 4 (.int .i64 v) = EL.cells { s with now := v } := rfl
theorem EL.g5 (s : EL) : s.cells[5]? = some (.int .i64 s.due) := rfl
theorem EL.s5 (s : EL) (v : Int) : s.cells.setIfInBounds 5 (.int .i64 v) = EL.cells { s with due := v } := rfl
structure EM where
  id : Int
  term : Int
  vote : Int
  role : Int
  leader : Int
  clock : Int
  got : Nat → Bool
def EM.cells (s : EM) : Array Value := #[.int .i64 s.id, .int .i64 s.term, .int .i64 s.vote, .int .i64 s.role, .int .i64 s.leader, .int .i64 s.clock, .bool ((s.got 0)), .bool ((s.got 1)), .bool ((s.got 2))]
theorem EM.g0 (s : EM) : s.cells[0]? = some (.int .i64 s.id) := rfl
theorem EM.s0 (s : EM) (v : Int) : s.cells.setIfInBounds 0 (.int .i64 v) = EM.cells { s with id := v } := rfl
theorem EM.g1 (s : EM) : s.cells[1]? = some (.int .i64 s.term) := rfl
theorem EM.s1 (s : EM) (v : Int) : s.cells.setIfInBounds 1 (.int .i64 v) = EM.cells { s with term := v } := rfl
theorem EM.g2 (s : EM) : s.cells[2]? = some (.int .i64 s.vote) := rfl
theorem EM.s2 (s : EM) (v : Int) : s.cells.setIfInBounds 2 (.int .i64 v) = EM.cells { s with vote := v } := rfl
theorem EM.g3 (s : EM) : s.cells[3]? = some (.int .i64 s.role) := rfl
theorem EM.s3 (s : EM) (v : Int) : s.cells.setIfInBounds 3 (.int .i64 v) = EM.cells { s with role := v } := rfl
theorem EM.g4 (s : EM) : s.cells[4]? = some (.int .i64 s.leader) := rfl
theorem EM.s4 (s : EM) (v : Int) : s.cells.setIfInBounds 4 (.int .i64 v) = EM.cells { s with leader := v } := rfl
theorem EM.g5 (s : EM) : s.cells[5]? = some (.int .i64 s.clock) := rfl
theorem EM.s5 (s : EM) (v : Int) : s.cells.setIfInBounds 5 (.int .i64 v) = EM.cells { s with clock := v } := rfl
theorem EM.g6 (s : EM) : s.cells[6]? = some (.bool ((s.got 0))) := rfl
theorem EM.s6 (s : EM) (v : Bool) : s.cells.setIfInBounds 6 (.bool v) = EM.cells { s with got := upd s.got 0 v } := rfl
theorem EM.g7 (s : EM) : s.cells[7]? = some (.bool ((s.got 1))) := rfl
theorem EM.s7 (s : EM) (v : Bool) : s.cells.setIfInBounds 7 (.bool v) = EM.cells { s with got := upd s.got 1 v } := rfl
theorem EM.g8 (s : EM) : s.cells[8]? = some (.bool ((s.got 2))) := rfl
theorem EM.s8 (s : EM) (v : Bool) : s.cells.setIfInBounds 8 (.bool v) = EM.cells { s with got := upd s.got 2 v } := rfl
theorem EM.gi_got_0 (s : EM) (i : Nat) (h : i < 3) : s.cells[6 + i]? = some (.bool ((s.got i))) := by
  match i, h with
  | 0, _ | 1, _ | 2, _ => rfl
theorem EM.si_got_0 (s : EM) (i : Nat) (h : i < 3) (v : Bool) : s.cells.setIfInBounds (6 + i) (.bool v) = EM.cells { s with got := upd s.got i v } := by
  match i, h with
  | 0, _ | 1, _ | 2, _ => rfl
structure DiskR where
  now : Value
  mark : Value
  wr : Value
def DiskR.cells (s : DiskR) : Array Value := #[s.now, s.mark, s.wr]
theorem DiskR.g0 (s : DiskR) : s.cells[0]? = some (s.now) := rfl
theorem DiskR.s0 (s : DiskR) (v : Value) : s.cells.setIfInBounds 0 (v) = DiskR.cells { s with now := v } := rfl
theorem DiskR.g1 (s : DiskR) : s.cells[1]? = some (s.mark) := rfl
theorem DiskR.s1 (s : DiskR) (v : Value) : s.cells.setIfInBounds 1 (v) = DiskR.cells { s with mark := v } := rfl
theorem DiskR.g2 (s : DiskR) : s.cells[2]? = some (s.wr) := rfl
theorem DiskR.s2 (s : DiskR) (v : Value) : s.cells.setIfInBounds 2 (v) = DiskR.cells { s with wr := v } := rfl
structure Half where
  b : Int
  h : Int
  data : Bs
def Half.cells (s : Half) : Array Value := #[.int .i64 s.b, .int .i64 s.h, .string (ByteArray.mk s.data.toArray)]
theorem Half.g0 (s : Half) : s.cells[0]? = some (.int .i64 s.b) := rfl
theorem Half.s0 (s : Half) (v : Int) : s.cells.setIfInBounds 0 (.int .i64 v) = Half.cells { s with b := v } := rfl
theorem Half.g1 (s : Half) : s.cells[1]? = some (.int .i64 s.h) := rfl
theorem Half.s1 (s : Half) (v : Int) : s.cells.setIfInBounds 1 (.int .i64 v) = Half.cells { s with h := v } := rfl
theorem Half.g2 (s : Half) : s.cells[2]? = some (.string (ByteArray.mk s.data.toArray)) := rfl
theorem Half.s2 (s : Half) (v : Bs) : s.cells.setIfInBounds 2 (.string (ByteArray.mk v.toArray)) = Half.cells { s with data := v } := rfl
structure StoreR where
  d : Value
  stamp : Nat → UInt8
  m : Meta
  mSlot : Int
  h : Head
  hSlot : Int
  snap : Bs
  used : Nat → Bool
  recs : Nat → Rec
def StoreR.cells (s : StoreR) : Array Value := #[s.d, .int .u8 ((s.stamp 0)).toNat, .int .u8 ((s.stamp 1)).toNat, .int .u8 ((s.stamp 2)).toNat, .int .u8 ((s.stamp 3)).toNat, .int .u8 ((s.stamp 4)).toNat, .int .u8 ((s.stamp 5)).toNat, .int .u8 ((s.stamp 6)).toNat, .int .u8 ((s.stamp 7)).toNat, .int .u8 ((s.stamp 8)).toNat, .int .u8 ((s.stamp 9)).toNat, .int .u8 ((s.stamp 10)).toNat, .int .u8 ((s.stamp 11)).toNat, .int .u8 ((s.stamp 12)).toNat, .int .u8 ((s.stamp 13)).toNat, .bool s.m.ok, .int .i64 s.m.num, .int .i64 s.m.term, .int .i64 s.m.vote, .int .i64 s.mSlot, .bool s.h.ok, .int .i64 s.h.num, .int .i64 s.h.idx, .int .i64 s.h.term, .int .i64 s.h.area, .int .i64 s.h.size, .int .i64 s.hSlot, .string (ByteArray.mk s.snap.toArray), .bool ((s.used 0)), .bool ((s.used 1)), .bool ((s.used 2)), .bool ((s.used 3)), .bool ((s.used 4)), .bool ((s.used 5)), .int .i64 ((s.recs 0).idx), .int .i64 ((s.recs 0).term), .string (ByteArray.mk ((s.recs 0).data).toArray), .int .i64 ((s.recs 1).idx), .int .i64 ((s.recs 1).term), .string (ByteArray.mk ((s.recs 1).data).toArray), .int .i64 ((s.recs 2).idx), .int .i64 ((s.recs 2).term), .string (ByteArray.mk ((s.recs 2).data).toArray), .int .i64 ((s.recs 3).idx), .int .i64 ((s.recs 3).term), .string (ByteArray.mk ((s.recs 3).data).toArray), .int .i64 ((s.recs 4).idx), .int .i64 ((s.recs 4).term), .string (ByteArray.mk ((s.recs 4).data).toArray), .int .i64 ((s.recs 5).idx), .int .i64 ((s.recs 5).term), .string (ByteArray.mk ((s.recs 5).data).toArray)]
theorem StoreR.g0 (s : StoreR) : s.cells[0]? = some (s.d) := rfl
theorem StoreR.s0 (s : StoreR) (v : Value) : s.cells.setIfInBounds 0 (v) = StoreR.cells { s with d := v } := rfl
theorem StoreR.g1 (s : StoreR) : s.cells[1]? = some (.int .u8 ((s.stamp 0)).toNat) := rfl
theorem StoreR.s1 (s : StoreR) (v : UInt8) : s.cells.setIfInBounds 1 (.int .u8 v.toNat) = StoreR.cells { s with stamp := upd s.stamp 0 v } := rfl
theorem StoreR.g2 (s : StoreR) : s.cells[2]? = some (.int .u8 ((s.stamp 1)).toNat) := rfl
theorem StoreR.s2 (s : StoreR) (v : UInt8) : s.cells.setIfInBounds 2 (.int .u8 v.toNat) = StoreR.cells { s with stamp := upd s.stamp 1 v } := rfl
theorem StoreR.g3 (s : StoreR) : s.cells[3]? = some (.int .u8 ((s.stamp 2)).toNat) := rfl
theorem StoreR.s3 (s : StoreR) (v : UInt8) : s.cells.setIfInBounds 3 (.int .u8 v.toNat) = StoreR.cells { s with stamp := upd s.stamp 2 v } := rfl
theorem StoreR.g4 (s : StoreR) : s.cells[4]? = some (.int .u8 ((s.stamp 3)).toNat) := rfl
theorem StoreR.s4 (s : StoreR) (v : UInt8) : s.cells.setIfInBounds 4 (.int .u8 v.toNat) = StoreR.cells { s with stamp := upd s.stamp 3 v } := rfl
theorem StoreR.g5 (s : StoreR) : s.cells[5]? = some (.int .u8 ((s.stamp 4)).toNat) := rfl
theorem StoreR.s5 (s : StoreR) (v : UInt8) : s.cells.setIfInBounds 5 (.int .u8 v.toNat) = StoreR.cells { s with stamp := upd s.stamp 4 v } := rfl
theorem StoreR.g6 (s : StoreR) : s.cells[6]? = some (.int .u8 ((s.stamp 5)).toNat) := rfl
theorem StoreR.s6 (s : StoreR) (v : UInt8) : s.cells.setIfInBounds 6 (.int .u8 v.toNat) = StoreR.cells { s with stamp := upd s.stamp 5 v } := rfl
theorem StoreR.g7 (s : StoreR) : s.cells[7]? = some (.int .u8 ((s.stamp 6)).toNat) := rfl
theorem StoreR.s7 (s : StoreR) (v : UInt8) : s.cells.setIfInBounds 7 (.int .u8 v.toNat) = StoreR.cells { s with stamp := upd s.stamp 6 v } := rfl
theorem StoreR.g8 (s : StoreR) : s.cells[8]? = some (.int .u8 ((s.stamp 7)).toNat) := rfl
theorem StoreR.s8 (s : StoreR) (v : UInt8) : s.cells.setIfInBounds 8 (.int .u8 v.toNat) = StoreR.cells { s with stamp := upd s.stamp 7 v } := rfl
theorem StoreR.g9 (s : StoreR) : s.cells[9]? = some (.int .u8 ((s.stamp 8)).toNat) := rfl
theorem StoreR.s9 (s : StoreR) (v : UInt8) : s.cells.setIfInBounds 9 (.int .u8 v.toNat) = StoreR.cells { s with stamp := upd s.stamp 8 v } := rfl
theorem StoreR.g10 (s : StoreR) : s.cells[10]? = some (.int .u8 ((s.stamp 9)).toNat) := rfl
theorem StoreR.s10 (s : StoreR) (v : UInt8) : s.cells.setIfInBounds 10 (.int .u8 v.toNat) = StoreR.cells { s with stamp := upd s.stamp 9 v } := rfl
theorem StoreR.g11 (s : StoreR) : s.cells[11]? = some (.int .u8 ((s.stamp 10)).toNat) := rfl
theorem StoreR.s11 (s : StoreR) (v : UInt8) : s.cells.setIfInBounds 11 (.int .u8 v.toNat) = StoreR.cells { s with stamp := upd s.stamp 10 v } := rfl
theorem StoreR.g12 (s : StoreR) : s.cells[12]? = some (.int .u8 ((s.stamp 11)).toNat) := rfl
theorem StoreR.s12 (s : StoreR) (v : UInt8) : s.cells.setIfInBounds 12 (.int .u8 v.toNat) = StoreR.cells { s with stamp := upd s.stamp 11 v } := rfl
theorem StoreR.g13 (s : StoreR) : s.cells[13]? = some (.int .u8 ((s.stamp 12)).toNat) := rfl
theorem StoreR.s13 (s : StoreR) (v : UInt8) : s.cells.setIfInBounds 13 (.int .u8 v.toNat) = StoreR.cells { s with stamp := upd s.stamp 12 v } := rfl
theorem StoreR.g14 (s : StoreR) : s.cells[14]? = some (.int .u8 ((s.stamp 13)).toNat) := rfl
theorem StoreR.s14 (s : StoreR) (v : UInt8) : s.cells.setIfInBounds 14 (.int .u8 v.toNat) = StoreR.cells { s with stamp := upd s.stamp 13 v } := rfl
theorem StoreR.g15 (s : StoreR) : s.cells[15]? = some (.bool s.m.ok) := rfl
theorem StoreR.s15 (s : StoreR) (v : Bool) : s.cells.setIfInBounds 15 (.bool v) = StoreR.cells { s with m := { s.m with ok := v } } := rfl
theorem StoreR.g16 (s : StoreR) : s.cells[16]? = some (.int .i64 s.m.num) := rfl
theorem StoreR.s16 (s : StoreR) (v : Int) : s.cells.setIfInBounds 16 (.int .i64 v) = StoreR.cells { s with m := { s.m with num := v } } := rfl
theorem StoreR.g17 (s : StoreR) : s.cells[17]? = some (.int .i64 s.m.term) := rfl
theorem StoreR.s17 (s : StoreR) (v : Int) : s.cells.setIfInBounds 17 (.int .i64 v) = StoreR.cells { s with m := { s.m with term := v } } := rfl
theorem StoreR.g18 (s : StoreR) : s.cells[18]? = some (.int .i64 s.m.vote) := rfl
theorem StoreR.s18 (s : StoreR) (v : Int) : s.cells.setIfInBounds 18 (.int .i64 v) = StoreR.cells { s with m := { s.m with vote := v } } := rfl
theorem StoreR.g19 (s : StoreR) : s.cells[19]? = some (.int .i64 s.mSlot) := rfl
theorem StoreR.s19 (s : StoreR) (v : Int) : s.cells.setIfInBounds 19 (.int .i64 v) = StoreR.cells { s with mSlot := v } := rfl
theorem StoreR.g20 (s : StoreR) : s.cells[20]? = some (.bool s.h.ok) := rfl
theorem StoreR.s20 (s : StoreR) (v : Bool) : s.cells.setIfInBounds 20 (.bool v) = StoreR.cells { s with h := { s.h with ok := v } } := rfl
theorem StoreR.g21 (s : StoreR) : s.cells[21]? = some (.int .i64 s.h.num) := rfl
theorem StoreR.s21 (s : StoreR) (v : Int) : s.cells.setIfInBounds 21 (.int .i64 v) = StoreR.cells { s with h := { s.h with num := v } } := rfl
theorem StoreR.g22 (s : StoreR) : s.cells[22]? = some (.int .i64 s.h.idx) := rfl
theorem StoreR.s22 (s : StoreR) (v : Int) : s.cells.setIfInBounds 22 (.int .i64 v) = StoreR.cells { s with h := { s.h with idx := v } } := rfl
theorem StoreR.g23 (s : StoreR) : s.cells[23]? = some (.int .i64 s.h.term) := rfl
theorem StoreR.s23 (s : StoreR) (v : Int) : s.cells.setIfInBounds 23 (.int .i64 v) = StoreR.cells { s with h := { s.h with term := v } } := rfl
theorem StoreR.g24 (s : StoreR) : s.cells[24]? = some (.int .i64 s.h.area) := rfl
theorem StoreR.s24 (s : StoreR) (v : Int) : s.cells.setIfInBounds 24 (.int .i64 v) = StoreR.cells { s with h := { s.h with area := v } } := rfl
theorem StoreR.g25 (s : StoreR) : s.cells[25]? = some (.int .i64 s.h.size) := rfl
theorem StoreR.s25 (s : StoreR) (v : Int) : s.cells.setIfInBounds 25 (.int .i64 v) = StoreR.cells { s with h := { s.h with size := v } } := rfl
theorem StoreR.g26 (s : StoreR) : s.cells[26]? = some (.int .i64 s.hSlot) := rfl
theorem StoreR.s26 (s : StoreR) (v : Int) : s.cells.setIfInBounds 26 (.int .i64 v) = StoreR.cells { s with hSlot := v } := rfl
theorem StoreR.g27 (s : StoreR) : s.cells[27]? = some (.string (ByteArray.mk s.snap.toArray)) := rfl
theorem StoreR.s27 (s : StoreR) (v : Bs) : s.cells.setIfInBounds 27 (.string (ByteArray.mk v.toArray)) = StoreR.cells { s with snap := v } := rfl
theorem StoreR.g28 (s : StoreR) : s.cells[28]? = some (.bool ((s.used 0))) := rfl
theorem StoreR.s28 (s : StoreR) (v : Bool) : s.cells.setIfInBounds 28 (.bool v) = StoreR.cells { s with used := upd s.used 0 v } := rfl
theorem StoreR.g29 (s : StoreR) : s.cells[29]? = some (.bool ((s.used 1))) := rfl
theorem StoreR.s29 (s : StoreR) (v : Bool) : s.cells.setIfInBounds 29 (.bool v) = StoreR.cells { s with used := upd s.used 1 v } := rfl
theorem StoreR.g30 (s : StoreR) : s.cells[30]? = some (.bool ((s.used 2))) := rfl
theorem StoreR.s30 (s : StoreR) (v : Bool) : s.cells.setIfInBounds 30 (.bool v) = StoreR.cells { s with used := upd s.used 2 v } := rfl
theorem StoreR.g31 (s : StoreR) : s.cells[31]? = some (.bool ((s.used 3))) := rfl
theorem StoreR.s31 (s : StoreR) (v : Bool) : s.cells.setIfInBounds 31 (.bool v) = StoreR.cells { s with used := upd s.used 3 v } := rfl
theorem StoreR.g32 (s : StoreR) : s.cells[32]? = some (.bool ((s.used 4))) := rfl
theorem StoreR.s32 (s : StoreR) (v : Bool) : s.cells.setIfInBounds 32 (.bool v) = StoreR.cells { s with used := upd s.used 4 v } := rfl
theorem StoreR.g33 (s : StoreR) : s.cells[33]? = some (.bool ((s.used 5))) := rfl
theorem StoreR.s33 (s : StoreR) (v : Bool) : s.cells.setIfInBounds 33 (.bool v) = StoreR.cells { s with used := upd s.used 5 v } := rfl
theorem StoreR.g34 (s : StoreR) : s.cells[34]? = some (.int .i64 ((s.recs 0).idx)) := rfl
theorem StoreR.s34 (s : StoreR) (v : Int) : s.cells.setIfInBounds 34 (.int .i64 v) = StoreR.cells { s with recs := upd s.recs 0 { s.recs 0 with idx := v } } := rfl
theorem StoreR.g35 (s : StoreR) : s.cells[35]? = some (.int .i64 ((s.recs 0).term)) := rfl
theorem StoreR.s35 (s : StoreR) (v : Int) : s.cells.setIfInBounds 35 (.int .i64 v) = StoreR.cells { s with recs := upd s.recs 0 { s.recs 0 with term := v } } := rfl
theorem StoreR.g36 (s : StoreR) : s.cells[36]? = some (.string (ByteArray.mk ((s.recs 0).data).toArray)) := rfl
theorem StoreR.s36 (s : StoreR) (v : Bs) : s.cells.setIfInBounds 36 (.string (ByteArray.mk v.toArray)) = StoreR.cells { s with recs := upd s.recs 0 { s.recs 0 with data := v } } := rfl
theorem StoreR.g37 (s : StoreR) : s.cells[37]? = some (.int .i64 ((s.recs 1).idx)) := rfl
theorem StoreR.s37 (s : StoreR) (v : Int) : s.cells.setIfInBounds 37 (.int .i64 v) = StoreR.cells { s with recs := upd s.recs 1 { s.recs 1 with idx := v } } := rfl
theorem StoreR.g38 (s : StoreR) : s.cells[38]? = some (.int .i64 ((s.recs 1).term)) := rfl
theorem StoreR.s38 (s : StoreR) (v : Int) : s.cells.setIfInBounds 38 (.int .i64 v) = StoreR.cells { s with recs := upd s.recs 1 { s.recs 1 with term := v } } := rfl
theorem StoreR.g39 (s : StoreR) : s.cells[39]? = some (.string (ByteArray.mk ((s.recs 1).data).toArray)) := rfl
theorem StoreR.s39 (s : StoreR) (v : Bs) : s.cells.setIfInBounds 39 (.string (ByteArray.mk v.toArray)) = StoreR.cells { s with recs := upd s.recs 1 { s.recs 1 with data := v } } := rfl
theorem StoreR.g40 (s : StoreR) : s.cells[40]? = some (.int .i64 ((s.recs 2).idx)) := rfl
theorem StoreR.s40 (s : StoreR) (v : Int) : s.cells.setIfInBounds 40 (.int .i64 v) = StoreR.cells { s with recs := upd s.recs 2 { s.recs 2 with idx := v } } := rfl
theorem StoreR.g41 (s : StoreR) : s.cells[41]? = some (.int .i64 ((s.recs 2).term)) := rfl
theorem StoreR.s41 (s : StoreR) (v : Int) : s.cells.setIfInBounds 41 (.int .i64 v) = StoreR.cells { s with recs := upd s.recs 2 { s.recs 2 with term := v } } := rfl
theorem StoreR.g42 (s : StoreR) : s.cells[42]? = some (.string (ByteArray.mk ((s.recs 2).data).toArray)) := rfl
theorem StoreR.s42 (s : StoreR) (v : Bs) : s.cells.setIfInBounds 42 (.string (ByteArray.mk v.toArray)) = StoreR.cells { s with recs := upd s.recs 2 { s.recs 2 with data := v } } := rfl
theorem StoreR.g43 (s : StoreR) : s.cells[43]? = some (.int .i64 ((s.recs 3).idx)) := rfl
theorem StoreR.s43 (s : StoreR) (v : Int) : s.cells.setIfInBounds 43 (.int .i64 v) = StoreR.cells { s with recs := upd s.recs 3 { s.recs 3 with idx := v } } := rfl
theorem StoreR.g44 (s : StoreR) : s.cells[44]? = some (.int .i64 ((s.recs 3).term)) := rfl
theorem StoreR.s44 (s : StoreR) (v : Int) : s.cells.setIfInBounds 44 (.int .i64 v) = StoreR.cells { s with recs := upd s.recs 3 { s.recs 3 with term := v } } := rfl
theorem StoreR.g45 (s : StoreR) : s.cells[45]? = some (.string (ByteArray.mk ((s.recs 3).data).toArray)) := rfl
theorem StoreR.s45 (s : StoreR) (v : Bs) : s.cells.setIfInBounds 45 (.string (ByteArray.mk v.toArray)) = StoreR.cells { s with recs := upd s.recs 3 { s.recs 3 with data := v } } := rfl
theorem StoreR.g46 (s : StoreR) : s.cells[46]? = some (.int .i64 ((s.recs 4).idx)) := rfl
theorem StoreR.s46 (s : StoreR) (v : Int) : s.cells.setIfInBounds 46 (.int .i64 v) = StoreR.cells { s with recs := upd s.recs 4 { s.recs 4 with idx := v } } := rfl
theorem StoreR.g47 (s : StoreR) : s.cells[47]? = some (.int .i64 ((s.recs 4).term)) := rfl
theorem StoreR.s47 (s : StoreR) (v : Int) : s.cells.setIfInBounds 47 (.int .i64 v) = StoreR.cells { s with recs := upd s.recs 4 { s.recs 4 with term := v } } := rfl
theorem StoreR.g48 (s : StoreR) : s.cells[48]? = some (.string (ByteArray.mk ((s.recs 4).data).toArray)) := rfl
theorem StoreR.s48 (s : StoreR) (v : Bs) : s.cells.setIfInBounds 48 (.string (ByteArray.mk v.toArray)) = StoreR.cells { s with recs := upd s.recs 4 { s.recs 4 with data := v } } := rfl
theorem StoreR.g49 (s : StoreR) : s.cells[49]? = some (.int .i64 ((s.recs 5).idx)) := rfl
theorem StoreR.s49 (s : StoreR) (v : Int) : s.cells.setIfInBounds 49 (.int .i64 v) = StoreR.cells { s with recs := upd s.recs 5 { s.recs 5 with idx := v } } := rfl
theorem StoreR.g50 (s : StoreR) : s.cells[50]? = some (.int .i64 ((s.recs 5).term)) := rfl
theorem StoreR.s50 (s : StoreR) (v : Int) : s.cells.setIfInBounds 50 (.int .i64 v) = StoreR.cells { s with recs := upd s.recs 5 { s.recs 5 with term := v } } := rfl
theorem StoreR.g51 (s : StoreR) : s.cells[51]? = some (.string (ByteArray.mk ((s.recs 5).data).toArray)) := rfl
theorem StoreR.s51 (s : StoreR) (v : Bs) : s.cells.setIfInBounds 51 (.string (ByteArray.mk v.toArray)) = StoreR.cells { s with recs := upd s.recs 5 { s.recs 5 with data := v } } := rfl
theorem StoreR.gi_stamp_0 (s : StoreR) (i : Nat) (h : i < 14) : s.cells[1 + i]? = some (.int .u8 ((s.stamp i)).toNat) := by
  match i, h with
  | 0, _ | 1, _ | 2, _ | 3, _ | 4, _ | 5, _ | 6, _ | 7, _ | 8, _ | 9, _ | 10, _ | 11, _ | 12, _ | 13, _ => rfl
theorem StoreR.si_stamp_0 (s : StoreR) (i : Nat) (h : i < 14) (v : UInt8) : s.cells.setIfInBounds (1 + i) (.int .u8 v.toNat) = StoreR.cells { s with stamp := upd s.stamp i v } := by
  match i, h with
  | 0, _ | 1, _ | 2, _ | 3, _ | 4, _ | 5, _ | 6, _ | 7, _ | 8, _ | 9, _ | 10, _ | 11, _ | 12, _ | 13, _ => rfl
theorem StoreR.gi_used_0 (s : StoreR) (i : Nat) (h : i < 6) : s.cells[28 + i]? = some (.bool ((s.used i))) := by
  match i, h with
  | 0, _ | 1, _ | 2, _ | 3, _ | 4, _ | 5, _ => rfl
theorem StoreR.si_used_0 (s : StoreR) (i : Nat) (h : i < 6) (v : Bool) : s.cells.setIfInBounds (28 + i) (.bool v) = StoreR.cells { s with used := upd s.used i v } := by
  match i, h with
  | 0, _ | 1, _ | 2, _ | 3, _ | 4, _ | 5, _ => rfl
theorem StoreR.gi_recs_0 (s : StoreR) (i : Nat) (h : i < 6) : s.cells[34 + i * 3]? = some (.int .i64 ((s.recs i).idx)) := by
  match i, h with
  | 0, _ | 1, _ | 2, _ | 3, _ | 4, _ | 5, _ => rfl
theorem StoreR.si_recs_0 (s : StoreR) (i : Nat) (h : i < 6) (v : Int) : s.cells.setIfInBounds (34 + i * 3) (.int .i64 v) = StoreR.cells { s with recs := upd s.recs i ({ s.recs i with idx := v }) } := by
  match i, h with
  | 0, _ | 1, _ | 2, _ | 3, _ | 4, _ | 5, _ => rfl
theorem StoreR.gi_recs_1 (s : StoreR) (i : Nat) (h : i < 6) : s.cells[35 + i * 3]? = some (.int .i64 ((s.recs i).term)) := by
  match i, h with
  | 0, _ | 1, _ | 2, _ | 3, _ | 4, _ | 5, _ => rfl
theorem StoreR.si_recs_1 (s : StoreR) (i : Nat) (h : i < 6) (v : Int) : s.cells.setIfInBounds (35 + i * 3) (.int .i64 v) = StoreR.cells { s with recs := upd s.recs i ({ s.recs i with term := v }) } := by
  match i, h with
  | 0, _ | 1, _ | 2, _ | 3, _ | 4, _ | 5, _ => rfl
theorem StoreR.gi_recs_2 (s : StoreR) (i : Nat) (h : i < 6) : s.cells[36 + i * 3]? = some (.string (ByteArray.mk ((s.recs i).data).toArray)) := by
  match i, h with
  | 0, _ | 1, _ | 2, _ | 3, _ | 4, _ | 5, _ => rfl
theorem StoreR.si_recs_2 (s : StoreR) (i : Nat) (h : i < 6) (v : Bs) : s.cells.setIfInBounds (36 + i * 3) (.string (ByteArray.mk v.toArray)) = StoreR.cells { s with recs := upd s.recs i ({ s.recs i with data := v }) } := by
  match i, h with
  | 0, _ | 1, _ | 2, _ | 3, _ | 4, _ | 5, _ => rfl
structure LogR where
  st : Value
  term : Int
  vote : Int
  base : Int
  baseTerm : Int
  snap : Bs
  last : Int
  terms : Nat → Int
  data : Nat → Bs
def LogR.cells (s : LogR) : Array Value := #[s.st, .int .i64 s.term, .int .i64 s.vote, .int .i64 s.base, .int .i64 s.baseTerm, .string (ByteArray.mk s.snap.toArray), .int .i64 s.last, .int .i64 ((s.terms 0)), .int .i64 ((s.terms 1)), .int .i64 ((s.terms 2)), .int .i64 ((s.terms 3)), .int .i64 ((s.terms 4)), .int .i64 ((s.terms 5)), .string (ByteArray.mk ((s.data 0)).toArray), .string (ByteArray.mk ((s.data 1)).toArray), .string (ByteArray.mk ((s.data 2)).toArray), .string (ByteArray.mk ((s.data 3)).toArray), .string (ByteArray.mk ((s.data 4)).toArray), .string (ByteArray.mk ((s.data 5)).toArray)]
theorem LogR.g0 (s : LogR) : s.cells[0]? = some (s.st) := rfl
theorem LogR.s0 (s : LogR) (v : Value) : s.cells.setIfInBounds 0 (v) = LogR.cells { s with st := v } := rfl
theorem LogR.g1 (s : LogR) : s.cells[1]? = some (.int .i64 s.term) := rfl
theorem LogR.s1 (s : LogR) (v : Int) : s.cells.setIfInBounds 1 (.int .i64 v) = LogR.cells { s with term := v } := rfl
theorem LogR.g2 (s : LogR) : s.cells[2]? = some (.int .i64 s.vote) := rfl
theorem LogR.s2 (s : LogR) (v : Int) : s.cells.setIfInBounds 2 (.int .i64 v) = LogR.cells { s with vote := v } := rfl
theorem LogR.g3 (s : LogR) : s.cells[3]? = some (.int .i64 s.base) := rfl
theorem LogR.s3 (s : LogR) (v : Int) : s.cells.setIfInBounds 3 (.int .i64 v) = LogR.cells { s with base := v } := rfl
theorem LogR.g4 (s : LogR) : s.cells[4]? = some (.int .i64 s.baseTerm) := rfl
theorem LogR.s4 (s : LogR) (v : Int) : s.cells.setIfInBounds 4 (.int .i64 v) = LogR.cells { s with baseTerm := v } := rfl
theorem LogR.g5 (s : LogR) : s.cells[5]? = some (.string (ByteArray.mk s.snap.toArray)) := rfl
theorem LogR.s5 (s : LogR) (v : Bs) : s.cells.setIfInBounds 5 (.string (ByteArray.mk v.toArray)) = LogR.cells { s with snap := v } := rfl
theorem LogR.g6 (s : LogR) : s.cells[6]? = some (.int .i64 s.last) := rfl
theorem LogR.s6 (s : LogR) (v : Int) : s.cells.setIfInBounds 6 (.int .i64 v) = LogR.cells { s with last := v } := rfl
theorem LogR.g7 (s : LogR) : s.cells[7]? = some (.int .i64 ((s.terms 0))) := rfl
theorem LogR.s7 (s : LogR) (v : Int) : s.cells.setIfInBounds 7 (.int .i64 v) = LogR.cells { s with terms := upd s.terms 0 v } := rfl
theorem LogR.g8 (s : LogR) : s.cells[8]? = some (.int .i64 ((s.terms 1))) := rfl
theorem LogR.s8 (s : LogR) (v : Int) : s.cells.setIfInBounds 8 (.int .i64 v) = LogR.cells { s with terms := upd s.terms 1 v } := rfl
theorem LogR.g9 (s : LogR) : s.cells[9]? = some (.int .i64 ((s.terms 2))) := rfl
theorem LogR.s9 (s : LogR) (v : Int) : s.cells.setIfInBounds 9 (.int .i64 v) = LogR.cells { s with terms := upd s.terms 2 v } := rfl
theorem LogR.g10 (s : LogR) : s.cells[10]? = some (.int .i64 ((s.terms 3))) := rfl
theorem LogR.s10 (s : LogR) (v : Int) : s.cells.setIfInBounds 10 (.int .i64 v) = LogR.cells { s with terms := upd s.terms 3 v } := rfl
theorem LogR.g11 (s : LogR) : s.cells[11]? = some (.int .i64 ((s.terms 4))) := rfl
theorem LogR.s11 (s : LogR) (v : Int) : s.cells.setIfInBounds 11 (.int .i64 v) = LogR.cells { s with terms := upd s.terms 4 v } := rfl
theorem LogR.g12 (s : LogR) : s.cells[12]? = some (.int .i64 ((s.terms 5))) := rfl
theorem LogR.s12 (s : LogR) (v : Int) : s.cells.setIfInBounds 12 (.int .i64 v) = LogR.cells { s with terms := upd s.terms 5 v } := rfl
theorem LogR.g13 (s : LogR) : s.cells[13]? = some (.string (ByteArray.mk ((s.data 0)).toArray)) := rfl
theorem LogR.s13 (s : LogR) (v : Bs) : s.cells.setIfInBounds 13 (.string (ByteArray.mk v.toArray)) = LogR.cells { s with data := upd s.data 0 v } := rfl
theorem LogR.g14 (s : LogR) : s.cells[14]? = some (.string (ByteArray.mk ((s.data 1)).toArray)) := rfl
theorem LogR.s14 (s : LogR) (v : Bs) : s.cells.setIfInBounds 14 (.string (ByteArray.mk v.toArray)) = LogR.cells { s with data := upd s.data 1 v } := rfl
theorem LogR.g15 (s : LogR) : s.cells[15]? = some (.string (ByteArray.mk ((s.data 2)).toArray)) := rfl
theorem LogR.s15 (s : LogR) (v : Bs) : s.cells.setIfInBounds 15 (.string (ByteArray.mk v.toArray)) = LogR.cells { s with data := upd s.data 2 v } := rfl
theorem LogR.g16 (s : LogR) : s.cells[16]? = some (.string (ByteArray.mk ((s.data 3)).toArray)) := rfl
theorem LogR.s16 (s : LogR) (v : Bs) : s.cells.setIfInBounds 16 (.string (ByteArray.mk v.toArray)) = LogR.cells { s with data := upd s.data 3 v } := rfl
theorem LogR.g17 (s : LogR) : s.cells[17]? = some (.string (ByteArray.mk ((s.data 4)).toArray)) := rfl
theorem LogR.s17 (s : LogR) (v : Bs) : s.cells.setIfInBounds 17 (.string (ByteArray.mk v.toArray)) = LogR.cells { s with data := upd s.data 4 v } := rfl
theorem LogR.g18 (s : LogR) : s.cells[18]? = some (.string (ByteArray.mk ((s.data 5)).toArray)) := rfl
theorem LogR.s18 (s : LogR) (v : Bs) : s.cells.setIfInBounds 18 (.string (ByteArray.mk v.toArray)) = LogR.cells { s with data := upd s.data 5 v } := rfl
theorem LogR.gi_terms_0 (s : LogR) (i : Nat) (h : i < 6) : s.cells[7 + i]? = some (.int .i64 ((s.terms i))) := by
  match i, h with
  | 0, _ | 1, _ | 2, _ | 3, _ | 4, _ | 5, _ => rfl
theorem LogR.si_terms_0 (s : LogR) (i : Nat) (h : i < 6) (v : Int) : s.cells.setIfInBounds (7 + i) (.int .i64 v) = LogR.cells { s with terms := upd s.terms i v } := by
  match i, h with
  | 0, _ | 1, _ | 2, _ | 3, _ | 4, _ | 5, _ => rfl
theorem LogR.gi_data_0 (s : LogR) (i : Nat) (h : i < 6) : s.cells[13 + i]? = some (.string (ByteArray.mk ((s.data i)).toArray)) := by
  match i, h with
  | 0, _ | 1, _ | 2, _ | 3, _ | 4, _ | 5, _ => rfl
theorem LogR.si_data_0 (s : LogR) (i : Nat) (h : i < 6) (v : Bs) : s.cells.setIfInBounds (13 + i) (.string (ByteArray.mk v.toArray)) = LogR.cells { s with data := upd s.data i v } := by
  match i, h with
  | 0, _ | 1, _ | 2, _ | 3, _ | 4, _ | 5, _ => rfl
structure SyncR where
  lg : Value
  el : Value
  commit : Int
  next : Nat → Int
  mtch : Nat → Int
  last : Int
  lastTerm : Int
  box : Nat → MsgR
  nbox : Int
def SyncR.cells (s : SyncR) : Array Value := #[s.lg, s.el, .int .i64 s.commit, .int .i64 ((s.next 0)), .int .i64 ((s.next 1)), .int .i64 ((s.next 2)), .int .i64 ((s.mtch 0)), .int .i64 ((s.mtch 1)), .int .i64 ((s.mtch 2)), .int .i64 s.last, .int .i64 s.lastTerm, .int .i64 ((s.box 0).kind), .int .i64 ((s.box 0).frm), .int .i64 ((s.box 0).to), .int .i64 ((s.box 0).term), .int .i64 ((s.box 0).index), .int .i64 ((s.box 0).logTerm), .int .i64 ((s.box 0).commit), .bool ((s.box 0).ok), ((s.box 0).ents), .string (ByteArray.mk ((s.box 0).data).toArray), .int .i64 ((s.box 1).kind), .int .i64 ((s.box 1).frm), .int .i64 ((s.box 1).to), .int .i64 ((s.box 1).term), .int .i64 ((s.box 1).index), .int .i64 ((s.box 1).logTerm), .int .i64 ((s.box 1).commit), .bool ((s.box 1).ok), ((s.box 1).ents), .string (ByteArray.mk ((s.box 1).data).toArray), .int .i64 ((s.box 2).kind), .int .i64 ((s.box 2).frm), .int .i64 ((s.box 2).to), .int .i64 ((s.box 2).term), .int .i64 ((s.box 2).index), .int .i64 ((s.box 2).logTerm), .int .i64 ((s.box 2).commit), .bool ((s.box 2).ok), ((s.box 2).ents), .string (ByteArray.mk ((s.box 2).data).toArray), .int .i64 s.nbox]
theorem SyncR.g0 (s : SyncR) : s.cells[0]? = some (s.lg) := rfl
theorem SyncR.s0 (s : SyncR) (v : Value) : s.cells.setIfInBounds 0 (v) = SyncR.cells { s with lg := v } := rfl
theorem SyncR.g1 (s : SyncR) : s.cells[1]? = some (s.el) := rfl
theorem SyncR.s1 (s : SyncR) (v : Value) : s.cells.setIfInBounds 1 (v) = SyncR.cells { s with el := v } := rfl
theorem SyncR.g2 (s : SyncR) : s.cells[2]? = some (.int .i64 s.commit) := rfl
theorem SyncR.s2 (s : SyncR) (v : Int) : s.cells.setIfInBounds 2 (.int .i64 v) = SyncR.cells { s with commit := v } := rfl
theorem SyncR.g3 (s : SyncR) : s.cells[3]? = some (.int .i64 ((s.next 0))) := rfl
theorem SyncR.s3 (s : SyncR) (v : Int) : s.cells.setIfInBounds 3 (.int .i64 v) = SyncR.cells { s with next := upd s.next 0 v } := rfl
theorem SyncR.g4 (s : SyncR) : s.cells[4]? = some (.int .i64 ((s.next 1))) := rfl
theorem SyncR.s4 (s : SyncR) (v : Int) : s.cells.setIfInBounds 4 (.int .i64 v) = SyncR.cells { s with next := upd s.next 1 v } := rfl
theorem SyncR.g5 (s : SyncR) : s.cells[5]? = some (.int .i64 ((s.next 2))) := rfl
theorem SyncR.s5 (s : SyncR) (v : Int) : s.cells.setIfInBounds 5 (.int .i64 v) = SyncR.cells { s with next := upd s.next 2 v } := rfl
theorem SyncR.g6 (s : SyncR) : s.cells[6]? = some (.int .i64 ((s.mtch 0))) := rfl
theorem SyncR.s6 (s : SyncR) (v : Int) : s.cells.setIfInBounds 6 (.int .i64 v) = SyncR.cells { s with mtch := upd s.mtch 0 v } := rfl
theorem SyncR.g7 (s : SyncR) : s.cells[7]? = some (.int .i64 ((s.mtch 1))) := rfl
theorem SyncR.s7 (s : SyncR) (v : Int) : s.cells.setIfInBounds 7 (.int .i64 v) = SyncR.cells { s with mtch := upd s.mtch 1 v } := rfl
theorem SyncR.g8 (s : SyncR) : s.cells[8]? = some (.int .i64 ((s.mtch 2))) := rfl
theorem SyncR.s8 (s : SyncR) (v : Int) : s.cells.setIfInBounds 8 (.int .i64 v) = SyncR.cells { s with mtch := upd s.mtch 2 v } := rfl
theorem SyncR.g9 (s : SyncR) : s.cells[9]? = some (.int .i64 s.last) := rfl
theorem SyncR.s9 (s : SyncR) (v : Int) : s.cells.setIfInBounds 9 (.int .i64 v) = SyncR.cells { s with last := v } := rfl
theorem SyncR.g10 (s : SyncR) : s.cells[10]? = some (.int .i64 s.lastTerm) := rfl
theorem SyncR.s10 (s : SyncR) (v : Int) : s.cells.setIfInBounds 10 (.int .i64 v) = SyncR.cells { s with lastTerm := v } := rfl
theorem SyncR.g11 (s : SyncR) : s.cells[11]? = some (.int .i64 ((s.box 0).kind)) := rfl
theorem SyncR.s11 (s : SyncR) (v : Int) : s.cells.setIfInBounds 11 (.int .i64 v) = SyncR.cells { s with box := upd s.box 0 { s.box 0 with kind := v } } := rfl
theorem SyncR.g12 (s : SyncR) : s.cells[12]? = some (.int .i64 ((s.box 0).frm)) := rfl
theorem SyncR.s12 (s : SyncR) (v : Int) : s.cells.setIfInBounds 12 (.int .i64 v) = SyncR.cells { s with box := upd s.box 0 { s.box 0 with frm := v } } := rfl
theorem SyncR.g13 (s : SyncR) : s.cells[13]? = some (.int .i64 ((s.box 0).to)) := rfl
theorem SyncR.s13 (s : SyncR) (v : Int) : s.cells.setIfInBounds 13 (.int .i64 v) = SyncR.cells { s with box := upd s.box 0 { s.box 0 with to := v } } := rfl
theorem SyncR.g14 (s : SyncR) : s.cells[14]? = some (.int .i64 ((s.box 0).term)) := rfl
theorem SyncR.s14 (s : SyncR) (v : Int) : s.cells.setIfInBounds 14 (.int .i64 v) = SyncR.cells { s with box := upd s.box 0 { s.box 0 with term := v } } := rfl
theorem SyncR.g15 (s : SyncR) : s.cells[15]? = some (.int .i64 ((s.box 0).index)) := rfl
theorem SyncR.s15 (s : SyncR) (v : Int) : s.cells.setIfInBounds 15 (.int .i64 v) = SyncR.cells { s with box := upd s.box 0 { s.box 0 with index := v } } := rfl
theorem SyncR.g16 (s : SyncR) : s.cells[16]? = some (.int .i64 ((s.box 0).logTerm)) := rfl
theorem SyncR.s16 (s : SyncR) (v : Int) : s.cells.setIfInBounds 16 (.int .i64 v) = SyncR.cells { s with box := upd s.box 0 { s.box 0 with logTerm := v } } := rfl
theorem SyncR.g17 (s : SyncR) : s.cells[17]? = some (.int .i64 ((s.box 0).commit)) := rfl
theorem SyncR.s17 (s : SyncR) (v : Int) : s.cells.setIfInBounds 17 (.int .i64 v) = SyncR.cells { s with box := upd s.box 0 { s.box 0 with commit := v } } := rfl
theorem SyncR.g18 (s : SyncR) : s.cells[18]? = some (.bool ((s.box 0).ok)) := rfl
theorem SyncR.s18 (s : SyncR) (v : Bool) : s.cells.setIfInBounds 18 (.bool v) = SyncR.cells { s with box := upd s.box 0 { s.box 0 with ok := v } } := rfl
theorem SyncR.g19 (s : SyncR) : s.cells[19]? = some (((s.box 0).ents)) := rfl
theorem SyncR.s19 (s : SyncR) (v : Value) : s.cells.setIfInBounds 19 (v) = SyncR.cells { s with box := upd s.box 0 { s.box 0 with ents := v } } := rfl
theorem SyncR.g20 (s : SyncR) : s.cells[20]? = some (.string (ByteArray.mk ((s.box 0).data).toArray)) := rfl
theorem SyncR.s20 (s : SyncR) (v : Bs) : s.cells.setIfInBounds 20 (.string (ByteArray.mk v.toArray)) = SyncR.cells { s with box := upd s.box 0 { s.box 0 with data := v } } := rfl
theorem SyncR.g21 (s : SyncR) : s.cells[21]? = some (.int .i64 ((s.box 1).kind)) := rfl
theorem SyncR.s21 (s : SyncR) (v : Int) : s.cells.setIfInBounds 21 (.int .i64 v) = SyncR.cells { s with box := upd s.box 1 { s.box 1 with kind := v } } := rfl
theorem SyncR.g22 (s : SyncR) : s.cells[22]? = some (.int .i64 ((s.box 1).frm)) := rfl
theorem SyncR.s22 (s : SyncR) (v : Int) : s.cells.setIfInBounds 22 (.int .i64 v) = SyncR.cells { s with box := upd s.box 1 { s.box 1 with frm := v } } := rfl
theorem SyncR.g23 (s : SyncR) : s.cells[23]? = some (.int .i64 ((s.box 1).to)) := rfl
theorem SyncR.s23 (s : SyncR) (v : Int) : s.cells.setIfInBounds 23 (.int .i64 v) = SyncR.cells { s with box := upd s.box 1 { s.box 1 with to := v } } := rfl
theorem SyncR.g24 (s : SyncR) : s.cells[24]? = some (.int .i64 ((s.box 1).term)) := rfl
theorem SyncR.s24 (s : SyncR) (v : Int) : s.cells.setIfInBounds 24 (.int .i64 v) = SyncR.cells { s with box := upd s.box 1 { s.box 1 with term := v } } := rfl
theorem SyncR.g25 (s : SyncR) : s.cells[25]? = some (.int .i64 ((s.box 1).index)) := rfl
theorem SyncR.s25 (s : SyncR) (v : Int) : s.cells.setIfInBounds 25 (.int .i64 v) = SyncR.cells { s with box := upd s.box 1 { s.box 1 with index := v } } := rfl
theorem SyncR.g26 (s : SyncR) : s.cells[26]? = some (.int .i64 ((s.box 1).logTerm)) := rfl
theorem SyncR.s26 (s : SyncR) (v : Int) : s.cells.setIfInBounds 26 (.int .i64 v) = SyncR.cells { s with box := upd s.box 1 { s.box 1 with logTerm := v } } := rfl
theorem SyncR.g27 (s : SyncR) : s.cells[27]? = some (.int .i64 ((s.box 1).commit)) := rfl
theorem SyncR.s27 (s : SyncR) (v : Int) : s.cells.setIfInBounds 27 (.int .i64 v) = SyncR.cells { s with box := upd s.box 1 { s.box 1 with commit := v } } := rfl
theorem SyncR.g28 (s : SyncR) : s.cells[28]? = some (.bool ((s.box 1).ok)) := rfl
theorem SyncR.s28 (s : SyncR) (v : Bool) : s.cells.setIfInBounds 28 (.bool v) = SyncR.cells { s with box := upd s.box 1 { s.box 1 with ok := v } } := rfl
theorem SyncR.g29 (s : SyncR) : s.cells[29]? = some (((s.box 1).ents)) := rfl
theorem SyncR.s29 (s : SyncR) (v : Value) : s.cells.setIfInBounds 29 (v) = SyncR.cells { s with box := upd s.box 1 { s.box 1 with ents := v } } := rfl
theorem SyncR.g30 (s : SyncR) : s.cells[30]? = some (.string (ByteArray.mk ((s.box 1).data).toArray)) := rfl
theorem SyncR.s30 (s : SyncR) (v : Bs) : s.cells.setIfInBounds 30 (.string (ByteArray.mk v.toArray)) = SyncR.cells { s with box := upd s.box 1 { s.box 1 with data := v } } := rfl
theorem SyncR.g31 (s : SyncR) : s.cells[31]? = some (.int .i64 ((s.box 2).kind)) := rfl
theorem SyncR.s31 (s : SyncR) (v : Int) : s.cells.setIfInBounds 31 (.int .i64 v) = SyncR.cells { s with box := upd s.box 2 { s.box 2 with kind := v } } := rfl
theorem SyncR.g32 (s : SyncR) : s.cells[32]? = some (.int .i64 ((s.box 2).frm)) := rfl
theorem SyncR.s32 (s : SyncR) (v : Int) : s.cells.setIfInBounds 32 (.int .i64 v) = SyncR.cells { s with box := upd s.box 2 { s.box 2 with frm := v } } := rfl
theorem SyncR.g33 (s : SyncR) : s.cells[33]? = some (.int .i64 ((s.box 2).to)) := rfl
theorem SyncR.s33 (s : SyncR) (v : Int) : s.cells.setIfInBounds 33 (.int .i64 v) = SyncR.cells { s with box := upd s.box 2 { s.box 2 with to := v } } := rfl
theorem SyncR.g34 (s : SyncR) : s.cells[34]? = some (.int .i64 ((s.box 2).term)) := rfl
theorem SyncR.s34 (s : SyncR) (v : Int) : s.cells.setIfInBounds 34 (.int .i64 v) = SyncR.cells { s with box := upd s.box 2 { s.box 2 with term := v } } := rfl
theorem SyncR.g35 (s : SyncR) : s.cells[35]? = some (.int .i64 ((s.box 2).index)) := rfl
theorem SyncR.s35 (s : SyncR) (v : Int) : s.cells.setIfInBounds 35 (.int .i64 v) = SyncR.cells { s with box := upd s.box 2 { s.box 2 with index := v } } := rfl
theorem SyncR.g36 (s : SyncR) : s.cells[36]? = some (.int .i64 ((s.box 2).logTerm)) := rfl
theorem SyncR.s36 (s : SyncR) (v : Int) : s.cells.setIfInBounds 36 (.int .i64 v) = SyncR.cells { s with box := upd s.box 2 { s.box 2 with logTerm := v } } := rfl
theorem SyncR.g37 (s : SyncR) : s.cells[37]? = some (.int .i64 ((s.box 2).commit)) := rfl
theorem SyncR.s37 (s : SyncR) (v : Int) : s.cells.setIfInBounds 37 (.int .i64 v) = SyncR.cells { s with box := upd s.box 2 { s.box 2 with commit := v } } := rfl
theorem SyncR.g38 (s : SyncR) : s.cells[38]? = some (.bool ((s.box 2).ok)) := rfl
theorem SyncR.s38 (s : SyncR) (v : Bool) : s.cells.setIfInBounds 38 (.bool v) = SyncR.cells { s with box := upd s.box 2 { s.box 2 with ok := v } } := rfl
theorem SyncR.g39 (s : SyncR) : s.cells[39]? = some (((s.box 2).ents)) := rfl
theorem SyncR.s39 (s : SyncR) (v : Value) : s.cells.setIfInBounds 39 (v) = SyncR.cells { s with box := upd s.box 2 { s.box 2 with ents := v } } := rfl
theorem SyncR.g40 (s : SyncR) : s.cells[40]? = some (.string (ByteArray.mk ((s.box 2).data).toArray)) := rfl
theorem SyncR.s40 (s : SyncR) (v : Bs) : s.cells.setIfInBounds 40 (.string (ByteArray.mk v.toArray)) = SyncR.cells { s with box := upd s.box 2 { s.box 2 with data := v } } := rfl
theorem SyncR.g41 (s : SyncR) : s.cells[41]? = some (.int .i64 s.nbox) := rfl
theorem SyncR.s41 (s : SyncR) (v : Int) : s.cells.setIfInBounds 41 (.int .i64 v) = SyncR.cells { s with nbox := v } := rfl
theorem SyncR.gi_next_0 (s : SyncR) (i : Nat) (h : i < 3) : s.cells[3 + i]? = some (.int .i64 ((s.next i))) := by
  match i, h with
  | 0, _ | 1, _ | 2, _ => rfl
theorem SyncR.si_next_0 (s : SyncR) (i : Nat) (h : i < 3) (v : Int) : s.cells.setIfInBounds (3 + i) (.int .i64 v) = SyncR.cells { s with next := upd s.next i v } := by
  match i, h with
  | 0, _ | 1, _ | 2, _ => rfl
theorem SyncR.gi_mtch_0 (s : SyncR) (i : Nat) (h : i < 3) : s.cells[6 + i]? = some (.int .i64 ((s.mtch i))) := by
  match i, h with
  | 0, _ | 1, _ | 2, _ => rfl
theorem SyncR.si_mtch_0 (s : SyncR) (i : Nat) (h : i < 3) (v : Int) : s.cells.setIfInBounds (6 + i) (.int .i64 v) = SyncR.cells { s with mtch := upd s.mtch i v } := by
  match i, h with
  | 0, _ | 1, _ | 2, _ => rfl
theorem SyncR.gi_box_0 (s : SyncR) (i : Nat) (h : i < 3) : s.cells[11 + i * 10]? = some (.int .i64 ((s.box i).kind)) := by
  match i, h with
  | 0, _ | 1, _ | 2, _ => rfl
theorem SyncR.si_box_0 (s : SyncR) (i : Nat) (h : i < 3) (v : Int) : s.cells.setIfInBounds (11 + i * 10) (.int .i64 v) = SyncR.cells { s with box := upd s.box i ({ s.box i with kind := v }) } := by
  match i, h with
  | 0, _ | 1, _ | 2, _ => rfl
theorem SyncR.gi_box_1 (s : SyncR) (i : Nat) (h : i < 3) : s.cells[12 + i * 10]? = some (.int .i64 ((s.box i).frm)) := by
  match i, h with
  | 0, _ | 1, _ | 2, _ => rfl
theorem SyncR.si_box_1 (s : SyncR) (i : Nat) (h : i < 3) (v : Int) : s.cells.setIfInBounds (12 + i * 10) (.int .i64 v) = SyncR.cells { s with box := upd s.box i ({ s.box i with frm := v }) } := by
  match i, h with
  | 0, _ | 1, _ | 2, _ => rfl
theorem SyncR.gi_box_2 (s : SyncR) (i : Nat) (h : i < 3) : s.cells[13 + i * 10]? = some (.int .i64 ((s.box i).to)) := by
  match i, h with
  | 0, _ | 1, _ | 2, _ => rfl
theorem SyncR.si_box_2 (s : SyncR) (i : Nat) (h : i < 3) (v : Int) : s.cells.setIfInBounds (13 + i * 10) (.int .i64 v) = SyncR.cells { s with box := upd s.box i ({ s.box i with to := v }) } := by
  match i, h with
  | 0, _ | 1, _ | 2, _ => rfl
theorem SyncR.gi_box_3 (s : SyncR) (i : Nat) (h : i < 3) : s.cells[14 + i * 10]? = some (.int .i64 ((s.box i).term)) := by
  match i, h with
  | 0, _ | 1, _ | 2, _ => rfl
theorem SyncR.si_box_3 (s : SyncR) (i : Nat) (h : i < 3) (v : Int) : s.cells.setIfInBounds (14 + i * 10) (.int .i64 v) = SyncR.cells { s with box := upd s.box i ({ s.box i with term := v }) } := by
  match i, h with
  | 0, _ | 1, _ | 2, _ => rfl
theorem SyncR.gi_box_4 (s : SyncR) (i : Nat) (h : i < 3) : s.cells[15 + i * 10]? = some (.int .i64 ((s.box i).index)) := by
  match i, h with
  | 0, _ | 1, _ | 2, _ => rfl
theorem SyncR.si_box_4 (s : SyncR) (i : Nat) (h : i < 3) (v : Int) : s.cells.setIfInBounds (15 + i * 10) (.int .i64 v) = SyncR.cells { s with box := upd s.box i ({ s.box i with index := v }) } := by
  match i, h with
  | 0, _ | 1, _ | 2, _ => rfl
theorem SyncR.gi_box_5 (s : SyncR) (i : Nat) (h : i < 3) : s.cells[16 + i * 10]? = some (.int .i64 ((s.box i).logTerm)) := by
  match i, h with
  | 0, _ | 1, _ | 2, _ => rfl
theorem SyncR.si_box_5 (s : SyncR) (i : Nat) (h : i < 3) (v : Int) : s.cells.setIfInBounds (16 + i * 10) (.int .i64 v) = SyncR.cells { s with box := upd s.box i ({ s.box i with logTerm := v }) } := by
  match i, h with
  | 0, _ | 1, _ | 2, _ => rfl
theorem SyncR.gi_box_6 (s : SyncR) (i : Nat) (h : i < 3) : s.cells[17 + i * 10]? = some (.int .i64 ((s.box i).commit)) := by
  match i, h with
  | 0, _ | 1, _ | 2, _ => rfl
theorem SyncR.si_box_6 (s : SyncR) (i : Nat) (h : i < 3) (v : Int) : s.cells.setIfInBounds (17 + i * 10) (.int .i64 v) = SyncR.cells { s with box := upd s.box i ({ s.box i with commit := v }) } := by
  match i, h with
  | 0, _ | 1, _ | 2, _ => rfl
theorem SyncR.gi_box_7 (s : SyncR) (i : Nat) (h : i < 3) : s.cells[18 + i * 10]? = some (.bool ((s.box i).ok)) := by
  match i, h with
  | 0, _ | 1, _ | 2, _ => rfl
theorem SyncR.si_box_7 (s : SyncR) (i : Nat) (h : i < 3) (v : Bool) : s.cells.setIfInBounds (18 + i * 10) (.bool v) = SyncR.cells { s with box := upd s.box i ({ s.box i with ok := v }) } := by
  match i, h with
  | 0, _ | 1, _ | 2, _ => rfl
theorem SyncR.gi_box_8 (s : SyncR) (i : Nat) (h : i < 3) : s.cells[19 + i * 10]? = some (((s.box i).ents)) := by
  match i, h with
  | 0, _ | 1, _ | 2, _ => rfl
theorem SyncR.si_box_8 (s : SyncR) (i : Nat) (h : i < 3) (v : Value) : s.cells.setIfInBounds (19 + i * 10) (v) = SyncR.cells { s with box := upd s.box i ({ s.box i with ents := v }) } := by
  match i, h with
  | 0, _ | 1, _ | 2, _ => rfl
theorem SyncR.gi_box_9 (s : SyncR) (i : Nat) (h : i < 3) : s.cells[20 + i * 10]? = some (.string (ByteArray.mk ((s.box i).data).toArray)) := by
  match i, h with
  | 0, _ | 1, _ | 2, _ => rfl
theorem SyncR.si_box_9 (s : SyncR) (i : Nat) (h : i < 3) (v : Bs) : s.cells.setIfInBounds (20 + i * 10) (.string (ByteArray.mk v.toArray)) = SyncR.cells { s with box := upd s.box i ({ s.box i with data := v }) } := by
  match i, h with
  | 0, _ | 1, _ | 2, _ => rfl
structure Cell where
  state : Int
  klen : Int
  key : Nat → UInt8
  vlen : Int
  val : Nat → UInt8
def Cell.cells (s : Cell) : Array Value := #[.int .i64 s.state, .int .i64 s.klen, .int .u8 ((s.key 0)).toNat, .int .u8 ((s.key 1)).toNat, .int .i64 s.vlen, .int .u8 ((s.val 0)).toNat, .int .u8 ((s.val 1)).toNat, .int .u8 ((s.val 2)).toNat]
theorem Cell.g0 (s : Cell) : s.cells[0]? = some (.int .i64 s.state) := rfl
theorem Cell.s0 (s : Cell) (v : Int) : s.cells.setIfInBounds 0 (.int .i64 v) = Cell.cells { s with state := v } := rfl
theorem Cell.g1 (s : Cell) : s.cells[1]? = some (.int .i64 s.klen) := rfl
theorem Cell.s1 (s : Cell) (v : Int) : s.cells.setIfInBounds 1 (.int .i64 v) = Cell.cells { s with klen := v } := rfl
theorem Cell.g2 (s : Cell) : s.cells[2]? = some (.int .u8 ((s.key 0)).toNat) := rfl
theorem Cell.s2 (s : Cell) (v : UInt8) : s.cells.setIfInBounds 2 (.int .u8 v.toNat) = Cell.cells { s with key := upd s.key 0 v } := rfl
theorem Cell.g3 (s : Cell) : s.cells[3]? = some (.int .u8 ((s.key 1)).toNat) := rfl
theorem Cell.s3 (s : Cell) (v : UInt8) : s.cells.setIfInBounds 3 (.int .u8 v.toNat) = Cell.cells { s with key := upd s.key 1 v } := rfl
theorem Cell.g4 (s : Cell) : s.cells[4]? = some (.int .i64 s.vlen) := rfl
theorem Cell.s4 (s : Cell) (v : Int) : s.cells.setIfInBounds 4 (.int .i64 v) = Cell.cells { s with vlen := v } := rfl
theorem Cell.g5 (s : Cell) : s.cells[5]? = some (.int .u8 ((s.val 0)).toNat) := rfl
theorem Cell.s5 (s : Cell) (v : UInt8) : s.cells.setIfInBounds 5 (.int .u8 v.toNat) = Cell.cells { s with val := upd s.val 0 v } := rfl
theorem Cell.g6 (s : Cell) : s.cells[6]? = some (.int .u8 ((s.val 1)).toNat) := rfl
theorem Cell.s6 (s : Cell) (v : UInt8) : s.cells.setIfInBounds 6 (.int .u8 v.toNat) = Cell.cells { s with val := upd s.val 1 v } := rfl
theorem Cell.g7 (s : Cell) : s.cells[7]? = some (.int .u8 ((s.val 2)).toNat) := rfl
theorem Cell.s7 (s : Cell) (v : UInt8) : s.cells.setIfInBounds 7 (.int .u8 v.toNat) = Cell.cells { s with val := upd s.val 2 v } := rfl
theorem Cell.gi_key_0 (s : Cell) (i : Nat) (h : i < 2) : s.cells[2 + i]? = some (.int .u8 ((s.key i)).toNat) := by
  match i, h with
  | 0, _ | 1, _ => rfl
theorem Cell.si_key_0 (s : Cell) (i : Nat) (h : i < 2) (v : UInt8) : s.cells.setIfInBounds (2 + i) (.int .u8 v.toNat) = Cell.cells { s with key := upd s.key i v } := by
  match i, h with
  | 0, _ | 1, _ => rfl
theorem Cell.gi_val_0 (s : Cell) (i : Nat) (h : i < 3) : s.cells[5 + i]? = some (.int .u8 ((s.val i)).toNat) := by
  match i, h with
  | 0, _ | 1, _ | 2, _ => rfl
theorem Cell.si_val_0 (s : Cell) (i : Nat) (h : i < 3) (v : UInt8) : s.cells.setIfInBounds (5 + i) (.int .u8 v.toNat) = Cell.cells { s with val := upd s.val i v } := by
  match i, h with
  | 0, _ | 1, _ | 2, _ => rfl
structure Sess where
  seq : Int
  err : Int
  vlen : Int
  val : Nat → UInt8
def Sess.cells (s : Sess) : Array Value := #[.int .i64 s.seq, .int .i64 s.err, .int .i64 s.vlen, .int .u8 ((s.val 0)).toNat, .int .u8 ((s.val 1)).toNat, .int .u8 ((s.val 2)).toNat]
theorem Sess.g0 (s : Sess) : s.cells[0]? = some (.int .i64 s.seq) := rfl
theorem Sess.s0 (s : Sess) (v : Int) : s.cells.setIfInBounds 0 (.int .i64 v) = Sess.cells { s with seq := v } := rfl
theorem Sess.g1 (s : Sess) : s.cells[1]? = some (.int .i64 s.err) := rfl
theorem Sess.s1 (s : Sess) (v : Int) : s.cells.setIfInBounds 1 (.int .i64 v) = Sess.cells { s with err := v } := rfl
theorem Sess.g2 (s : Sess) : s.cells[2]? = some (.int .i64 s.vlen) := rfl
theorem Sess.s2 (s : Sess) (v : Int) : s.cells.setIfInBounds 2 (.int .i64 v) = Sess.cells { s with vlen := v } := rfl
theorem Sess.g3 (s : Sess) : s.cells[3]? = some (.int .u8 ((s.val 0)).toNat) := rfl
theorem Sess.s3 (s : Sess) (v : UInt8) : s.cells.setIfInBounds 3 (.int .u8 v.toNat) = Sess.cells { s with val := upd s.val 0 v } := rfl
theorem Sess.g4 (s : Sess) : s.cells[4]? = some (.int .u8 ((s.val 1)).toNat) := rfl
theorem Sess.s4 (s : Sess) (v : UInt8) : s.cells.setIfInBounds 4 (.int .u8 v.toNat) = Sess.cells { s with val := upd s.val 1 v } := rfl
theorem Sess.g5 (s : Sess) : s.cells[5]? = some (.int .u8 ((s.val 2)).toNat) := rfl
theorem Sess.s5 (s : Sess) (v : UInt8) : s.cells.setIfInBounds 5 (.int .u8 v.toNat) = Sess.cells { s with val := upd s.val 2 v } := rfl
theorem Sess.gi_val_0 (s : Sess) (i : Nat) (h : i < 3) : s.cells[3 + i]? = some (.int .u8 ((s.val i)).toNat) := by
  match i, h with
  | 0, _ | 1, _ | 2, _ => rfl
theorem Sess.si_val_0 (s : Sess) (i : Nat) (h : i < 3) (v : UInt8) : s.cells.setIfInBounds (3 + i) (.int .u8 v.toNat) = Sess.cells { s with val := upd s.val i v } := by
  match i, h with
  | 0, _ | 1, _ | 2, _ => rfl
structure TableR where
  cells_ : Nat → Cell
  live : Int
  tombs : Int
def TableR.cells (s : TableR) : Array Value := #[.int .i64 ((s.cells_ 0).state), .int .i64 ((s.cells_ 0).klen), .int .u8 (((s.cells_ 0).key 0)).toNat, .int .u8 (((s.cells_ 0).key 1)).toNat, .int .i64 ((s.cells_ 0).vlen), .int .u8 (((s.cells_ 0).val 0)).toNat, .int .u8 (((s.cells_ 0).val 1)).toNat, .int .u8 (((s.cells_ 0).val 2)).toNat, .int .i64 ((s.cells_ 1).state), .int .i64 ((s.cells_ 1).klen), .int .u8 (((s.cells_ 1).key 0)).toNat, .int .u8 (((s.cells_ 1).key 1)).toNat, .int .i64 ((s.cells_ 1).vlen), .int .u8 (((s.cells_ 1).val 0)).toNat, .int .u8 (((s.cells_ 1).val 1)).toNat, .int .u8 (((s.cells_ 1).val 2)).toNat, .int .i64 ((s.cells_ 2).state), .int .i64 ((s.cells_ 2).klen), .int .u8 (((s.cells_ 2).key 0)).toNat, .int .u8 (((s.cells_ 2).key 1)).toNat, .int .i64 ((s.cells_ 2).vlen), .int .u8 (((s.cells_ 2).val 0)).toNat, .int .u8 (((s.cells_ 2).val 1)).toNat, .int .u8 (((s.cells_ 2).val 2)).toNat, .int .i64 ((s.cells_ 3).state), .int .i64 ((s.cells_ 3).klen), .int .u8 (((s.cells_ 3).key 0)).toNat, .int .u8 (((s.cells_ 3).key 1)).toNat, .int .i64 ((s.cells_ 3).vlen), .int .u8 (((s.cells_ 3).val 0)).toNat, .int .u8 (((s.cells_ 3).val 1)).toNat, .int .u8 (((s.cells_ 3).val 2)).toNat, .int .i64 ((s.cells_ 4).state), .int .i64 ((s.cells_ 4).klen), .int .u8 (((s.cells_ 4).key 0)).toNat, .int .u8 (((s.cells_ 4).key 1)).toNat, .int .i64 ((s.cells_ 4).vlen), .int .u8 (((s.cells_ 4).val 0)).toNat, .int .u8 (((s.cells_ 4).val 1)).toNat, .int .u8 (((s.cells_ 4).val 2)).toNat, .int .i64 ((s.cells_ 5).state), .int .i64 ((s.cells_ 5).klen), .int .u8 (((s.cells_ 5).key 0)).toNat, .int .u8 (((s.cells_ 5).key 1)).toNat, .int .i64 ((s.cells_ 5).vlen), .int .u8 (((s.cells_ 5).val 0)).toNat, .int .u8 (((s.cells_ 5).val 1)).toNat, .int .u8 (((s.cells_ 5).val 2)).toNat, .int .i64 ((s.cells_ 6).state), .int .i64 ((s.cells_ 6).klen), .int .u8 (((s.cells_ 6).key 0)).toNat, .int .u8 (((s.cells_ 6).key 1)).toNat, .int .i64 ((s.cells_ 6).vlen), .int .u8 (((s.cells_ 6).val 0)).toNat, .int .u8 (((s.cells_ 6).val 1)).toNat, .int .u8 (((s.cells_ 6).val 2)).toNat, .int .i64 ((s.cells_ 7).state), .int .i64 ((s.cells_ 7).klen), .int .u8 (((s.cells_ 7).key 0)).toNat, .int .u8 (((s.cells_ 7).key 1)).toNat, .int .i64 ((s.cells_ 7).vlen), .int .u8 (((s.cells_ 7).val 0)).toNat, .int .u8 (((s.cells_ 7).val 1)).toNat, .int .u8 (((s.cells_ 7).val 2)).toNat, .int .i64 s.live, .int .i64 s.tombs]
theorem TableR.g0 (s : TableR) : s.cells[0]? = some (.int .i64 ((s.cells_ 0).state)) := rfl
theorem TableR.s0 (s : TableR) (v : Int) : s.cells.setIfInBounds 0 (.int .i64 v) = TableR.cells { s with cells_ := upd s.cells_ 0 { s.cells_ 0 with state := v } } := rfl
theorem TableR.g1 (s : TableR) : s.cells[1]? = some (.int .i64 ((s.cells_ 0).klen)) := rfl
theorem TableR.s1 (s : TableR) (v : Int) : s.cells.setIfInBounds 1 (.int .i64 v) = TableR.cells { s with cells_ := upd s.cells_ 0 { s.cells_ 0 with klen := v } } := rfl
theorem TableR.g2 (s : TableR) : s.cells[2]? = some (.int .u8 (((s.cells_ 0).key 0)).toNat) := rfl
theorem TableR.s2 (s : TableR) (v : UInt8) : s.cells.setIfInBounds 2 (.int .u8 v.toNat) = TableR.cells { s with cells_ := upd s.cells_ 0 { s.cells_ 0 with key := upd (s.cells_ 0).key 0 v } } := rfl
theorem TableR.g3 (s : TableR) : s.cells[3]? = some (.int .u8 (((s.cells_ 0).key 1)).toNat) := rfl
theorem TableR.s3 (s : TableR) (v : UInt8) : s.cells.setIfInBounds 3 (.int .u8 v.toNat) = TableR.cells { s with cells_ := upd s.cells_ 0 { s.cells_ 0 with key := upd (s.cells_ 0).key 1 v } } := rfl
theorem TableR.g4 (s : TableR) : s.cells[4]? = some (.int .i64 ((s.cells_ 0).vlen)) := rfl
theorem TableR.s4 (s : TableR) (v : Int) : s.cells.setIfInBounds 4 (.int .i64 v) = TableR.cells { s with cells_ := upd s.cells_ 0 { s.cells_ 0 with vlen := v } } := rfl
theorem TableR.g5 (s : TableR) : s.cells[5]? = some (.int .u8 (((s.cells_ 0).val 0)).toNat) := rfl
theorem TableR.s5 (s : TableR) (v : UInt8) : s.cells.setIfInBounds 5 (.int .u8 v.toNat) = TableR.cells { s with cells_ := upd s.cells_ 0 { s.cells_ 0 with val := upd (s.cells_ 0).val 0 v } } := rfl
theorem TableR.g6 (s : TableR) : s.cells[6]? = some (.int .u8 (((s.cells_ 0).val 1)).toNat) := rfl
theorem TableR.s6 (s : TableR) (v : UInt8) : s.cells.setIfInBounds 6 (.int .u8 v.toNat) = TableR.cells { s with cells_ := upd s.cells_ 0 { s.cells_ 0 with val := upd (s.cells_ 0).val 1 v } } := rfl
theorem TableR.g7 (s : TableR) : s.cells[7]? = some (.int .u8 (((s.cells_ 0).val 2)).toNat) := rfl
theorem TableR.s7 (s : TableR) (v : UInt8) : s.cells.setIfInBounds 7 (.int .u8 v.toNat) = TableR.cells { s with cells_ := upd s.cells_ 0 { s.cells_ 0 with val := upd (s.cells_ 0).val 2 v } } := rfl
theorem TableR.g8 (s : TableR) : s.cells[8]? = some (.int .i64 ((s.cells_ 1).state)) := rfl
theorem TableR.s8 (s : TableR) (v : Int) : s.cells.setIfInBounds 8 (.int .i64 v) = TableR.cells { s with cells_ := upd s.cells_ 1 { s.cells_ 1 with state := v } } := rfl
theorem TableR.g9 (s : TableR) : s.cells[9]? = some (.int .i64 ((s.cells_ 1).klen)) := rfl
theorem TableR.s9 (s : TableR) (v : Int) : s.cells.setIfInBounds 9 (.int .i64 v) = TableR.cells { s with cells_ := upd s.cells_ 1 { s.cells_ 1 with klen := v } } := rfl
theorem TableR.g10 (s : TableR) : s.cells[10]? = some (.int .u8 (((s.cells_ 1).key 0)).toNat) := rfl
theorem TableR.s10 (s : TableR) (v : UInt8) : s.cells.setIfInBounds 10 (.int .u8 v.toNat) = TableR.cells { s with cells_ := upd s.cells_ 1 { s.cells_ 1 with key := upd (s.cells_ 1).key 0 v } } := rfl
theorem TableR.g11 (s : TableR) : s.cells[11]? = some (.int .u8 (((s.cells_ 1).key 1)).toNat) := rfl
theorem TableR.s11 (s : TableR) (v : UInt8) : s.cells.setIfInBounds 11 (.int .u8 v.toNat) = TableR.cells { s with cells_ := upd s.cells_ 1 { s.cells_ 1 with key := upd (s.cells_ 1).key 1 v } } := rfl
theorem TableR.g12 (s : TableR) : s.cells[12]? = some (.int .i64 ((s.cells_ 1).vlen)) := rfl
theorem TableR.s12 (s : TableR) (v : Int) : s.cells.setIfInBounds 12 (.int .i64 v) = TableR.cells { s with cells_ := upd s.cells_ 1 { s.cells_ 1 with vlen := v } } := rfl
theorem TableR.g13 (s : TableR) : s.cells[13]? = some (.int .u8 (((s.cells_ 1).val 0)).toNat) := rfl
theorem TableR.s13 (s : TableR) (v : UInt8) : s.cells.setIfInBounds 13 (.int .u8 v.toNat) = TableR.cells { s with cells_ := upd s.cells_ 1 { s.cells_ 1 with val := upd (s.cells_ 1).val 0 v } } := rfl
theorem TableR.g14 (s : TableR) : s.cells[14]? = some (.int .u8 (((s.cells_ 1).val 1)).toNat) := rfl
theorem TableR.s14 (s : TableR) (v : UInt8) : s.cells.setIfInBounds 14 (.int .u8 v.toNat) = TableR.cells { s with cells_ := upd s.cells_ 1 { s.cells_ 1 with val := upd (s.cells_ 1).val 1 v } } := rfl
theorem TableR.g15 (s : TableR) : s.cells[15]? = some (.int .u8 (((s.cells_ 1).val 2)).toNat) := rfl
theorem TableR.s15 (s : TableR) (v : UInt8) : s.cells.setIfInBounds 15 (.int .u8 v.toNat) = TableR.cells { s with cells_ := upd s.cells_ 1 { s.cells_ 1 with val := upd (s.cells_ 1).val 2 v } } := rfl
theorem TableR.g16 (s : TableR) : s.cells[16]? = some (.int .i64 ((s.cells_ 2).state)) := rfl
theorem TableR.s16 (s : TableR) (v : Int) : s.cells.setIfInBounds 16 (.int .i64 v) = TableR.cells { s with cells_ := upd s.cells_ 2 { s.cells_ 2 with state := v } } := rfl
theorem TableR.g17 (s : TableR) : s.cells[17]? = some (.int .i64 ((s.cells_ 2).klen)) := rfl
theorem TableR.s17 (s : TableR) (v : Int) : s.cells.setIfInBounds 17 (.int .i64 v) = TableR.cells { s with cells_ := upd s.cells_ 2 { s.cells_ 2 with klen := v } } := rfl
theorem TableR.g18 (s : TableR) : s.cells[18]? = some (.int .u8 (((s.cells_ 2).key 0)).toNat) := rfl
theorem TableR.s18 (s : TableR) (v : UInt8) : s.cells.setIfInBounds 18 (.int .u8 v.toNat) = TableR.cells { s with cells_ := upd s.cells_ 2 { s.cells_ 2 with key := upd (s.cells_ 2).key 0 v } } := rfl
theorem TableR.g19 (s : TableR) : s.cells[19]? = some (.int .u8 (((s.cells_ 2).key 1)).toNat) := rfl
theorem TableR.s19 (s : TableR) (v : UInt8) : s.cells.setIfInBounds 19 (.int .u8 v.toNat) = TableR.cells { s with cells_ := upd s.cells_ 2 { s.cells_ 2 with key := upd (s.cells_ 2).key 1 v } } := rfl
theorem TableR.g20 (s : TableR) : s.cells[20]? = some (.int .i64 ((s.cells_ 2).vlen)) := rfl
theorem TableR.s20 (s : TableR) (v : Int) : s.cells.setIfInBounds 20 (.int .i64 v) = TableR.cells { s with cells_ := upd s.cells_ 2 { s.cells_ 2 with vlen := v } } := rfl
theorem TableR.g21 (s : TableR) : s.cells[21]? = some (.int .u8 (((s.cells_ 2).val 0)).toNat) := rfl
theorem TableR.s21 (s : TableR) (v : UInt8) : s.cells.setIfInBounds 21 (.int .u8 v.toNat) = TableR.cells { s with cells_ := upd s.cells_ 2 { s.cells_ 2 with val := upd (s.cells_ 2).val 0 v } } := rfl
theorem TableR.g22 (s : TableR) : s.cells[22]? = some (.int .u8 (((s.cells_ 2).val 1)).toNat) := rfl
theorem TableR.s22 (s : TableR) (v : UInt8) : s.cells.setIfInBounds 22 (.int .u8 v.toNat) = TableR.cells { s with cells_ := upd s.cells_ 2 { s.cells_ 2 with val := upd (s.cells_ 2).val 1 v } } := rfl
theorem TableR.g23 (s : TableR) : s.cells[23]? = some (.int .u8 (((s.cells_ 2).val 2)).toNat) := rfl
theorem TableR.s23 (s : TableR) (v : UInt8) : s.cells.setIfInBounds 23 (.int .u8 v.toNat) = TableR.cells { s with cells_ := upd s.cells_ 2 { s.cells_ 2 with val := upd (s.cells_ 2).val 2 v } } := rfl
theorem TableR.g24 (s : TableR) : s.cells[24]? = some (.int .i64 ((s.cells_ 3).state)) := rfl
theorem TableR.s24 (s : TableR) (v : Int) : s.cells.setIfInBounds 24 (.int .i64 v) = TableR.cells { s with cells_ := upd s.cells_ 3 { s.cells_ 3 with state := v } } := rfl
theorem TableR.g25 (s : TableR) : s.cells[25]? = some (.int .i64 ((s.cells_ 3).klen)) := rfl
theorem TableR.s25 (s : TableR) (v : Int) : s.cells.setIfInBounds 25 (.int .i64 v) = TableR.cells { s with cells_ := upd s.cells_ 3 { s.cells_ 3 with klen := v } } := rfl
theorem TableR.g26 (s : TableR) : s.cells[26]? = some (.int .u8 (((s.cells_ 3).key 0)).toNat) := rfl
theorem TableR.s26 (s : TableR) (v : UInt8) : s.cells.setIfInBounds 26 (.int .u8 v.toNat) = TableR.cells { s with cells_ := upd s.cells_ 3 { s.cells_ 3 with key := upd (s.cells_ 3).key 0 v } } := rfl
theorem TableR.g27 (s : TableR) : s.cells[27]? = some (.int .u8 (((s.cells_ 3).key 1)).toNat) := rfl
theorem TableR.s27 (s : TableR) (v : UInt8) : s.cells.setIfInBounds 27 (.int .u8 v.toNat) = TableR.cells { s with cells_ := upd s.cells_ 3 { s.cells_ 3 with key := upd (s.cells_ 3).key 1 v } } := rfl
theorem TableR.g28 (s : TableR) : s.cells[28]? = some (.int .i64 ((s.cells_ 3).vlen)) := rfl
theorem TableR.s28 (s : TableR) (v : Int) : s.cells.setIfInBounds 28 (.int .i64 v) = TableR.cells { s with cells_ := upd s.cells_ 3 { s.cells_ 3 with vlen := v } } := rfl
theorem TableR.g29 (s : TableR) : s.cells[29]? = some (.int .u8 (((s.cells_ 3).val 0)).toNat) := rfl
theorem TableR.s29 (s : TableR) (v : UInt8) : s.cells.setIfInBounds 29 (.int .u8 v.toNat) = TableR.cells { s with cells_ := upd s.cells_ 3 { s.cells_ 3 with val := upd (s.cells_ 3).val 0 v } } := rfl
theorem TableR.g30 (s : TableR) : s.cells[30]? = some (.int .u8 (((s.cells_ 3).val 1)).toNat) := rfl
theorem TableR.s30 (s : TableR) (v : UInt8) : s.cells.setIfInBounds 30 (.int .u8 v.toNat) = TableR.cells { s with cells_ := upd s.cells_ 3 { s.cells_ 3 with val := upd (s.cells_ 3).val 1 v } } := rfl
theorem TableR.g31 (s : TableR) : s.cells[31]? = some (.int .u8 (((s.cells_ 3).val 2)).toNat) := rfl
theorem TableR.s31 (s : TableR) (v : UInt8) : s.cells.setIfInBounds 31 (.int .u8 v.toNat) = TableR.cells { s with cells_ := upd s.cells_ 3 { s.cells_ 3 with val := upd (s.cells_ 3).val 2 v } } := rfl
theorem TableR.g32 (s : TableR) : s.cells[32]? = some (.int .i64 ((s.cells_ 4).state)) := rfl
theorem TableR.s32 (s : TableR) (v : Int) : s.cells.setIfInBounds 32 (.int .i64 v) = TableR.cells { s with cells_ := upd s.cells_ 4 { s.cells_ 4 with state := v } } := rfl
theorem TableR.g33 (s : TableR) : s.cells[33]? = some (.int .i64 ((s.cells_ 4).klen)) := rfl
theorem TableR.s33 (s : TableR) (v : Int) : s.cells.setIfInBounds 33 (.int .i64 v) = TableR.cells { s with cells_ := upd s.cells_ 4 { s.cells_ 4 with klen := v } } := rfl
theorem TableR.g34 (s : TableR) : s.cells[34]? = some (.int .u8 (((s.cells_ 4).key 0)).toNat) := rfl
theorem TableR.s34 (s : TableR) (v : UInt8) : s.cells.setIfInBounds 34 (.int .u8 v.toNat) = TableR.cells { s with cells_ := upd s.cells_ 4 { s.cells_ 4 with key := upd (s.cells_ 4).key 0 v } } := rfl
theorem TableR.g35 (s : TableR) : s.cells[35]? = some (.int .u8 (((s.cells_ 4).key 1)).toNat) := rfl
theorem TableR.s35 (s : TableR) (v : UInt8) : s.cells.setIfInBounds 35 (.int .u8 v.toNat) = TableR.cells { s with cells_ := upd s.cells_ 4 { s.cells_ 4 with key := upd (s.cells_ 4).key 1 v } } := rfl
theorem TableR.g36 (s : TableR) : s.cells[36]? = some (.int .i64 ((s.cells_ 4).vlen)) := rfl
theorem TableR.s36 (s : TableR) (v : Int) : s.cells.setIfInBounds 36 (.int .i64 v) = TableR.cells { s with cells_ := upd s.cells_ 4 { s.cells_ 4 with vlen := v } } := rfl
theorem TableR.g37 (s : TableR) : s.cells[37]? = some (.int .u8 (((s.cells_ 4).val 0)).toNat) := rfl
theorem TableR.s37 (s : TableR) (v : UInt8) : s.cells.setIfInBounds 37 (.int .u8 v.toNat) = TableR.cells { s with cells_ := upd s.cells_ 4 { s.cells_ 4 with val := upd (s.cells_ 4).val 0 v } } := rfl
theorem TableR.g38 (s : TableR) : s.cells[38]? = some (.int .u8 (((s.cells_ 4).val 1)).toNat) := rfl
theorem TableR.s38 (s : TableR) (v : UInt8) : s.cells.setIfInBounds 38 (.int .u8 v.toNat) = TableR.cells { s with cells_ := upd s.cells_ 4 { s.cells_ 4 with val := upd (s.cells_ 4).val 1 v } } := rfl
theorem TableR.g39 (s : TableR) : s.cells[39]? = some (.int .u8 (((s.cells_ 4).val 2)).toNat) := rfl
theorem TableR.s39 (s : TableR) (v : UInt8) : s.cells.setIfInBounds 39 (.int .u8 v.toNat) = TableR.cells { s with cells_ := upd s.cells_ 4 { s.cells_ 4 with val := upd (s.cells_ 4).val 2 v } } := rfl
theorem TableR.g40 (s : TableR) : s.cells[40]? = some (.int .i64 ((s.cells_ 5).state)) := rfl
theorem TableR.s40 (s : TableR) (v : Int) : s.cells.setIfInBounds 40 (.int .i64 v) = TableR.cells { s with cells_ := upd s.cells_ 5 { s.cells_ 5 with state := v } } := rfl
theorem TableR.g41 (s : TableR) : s.cells[41]? = some (.int .i64 ((s.cells_ 5).klen)) := rfl
theorem TableR.s41 (s : TableR) (v : Int) : s.cells.setIfInBounds 41 (.int .i64 v) = TableR.cells { s with cells_ := upd s.cells_ 5 { s.cells_ 5 with klen := v } } := rfl
theorem TableR.g42 (s : TableR) : s.cells[42]? = some (.int .u8 (((s.cells_ 5).key 0)).toNat) := rfl
theorem TableR.s42 (s : TableR) (v : UInt8) : s.cells.setIfInBounds 42 (.int .u8 v.toNat) = TableR.cells { s with cells_ := upd s.cells_ 5 { s.cells_ 5 with key := upd (s.cells_ 5).key 0 v } } := rfl
theorem TableR.g43 (s : TableR) : s.cells[43]? = some (.int .u8 (((s.cells_ 5).key 1)).toNat) := rfl
theorem TableR.s43 (s : TableR) (v : UInt8) : s.cells.setIfInBounds 43 (.int .u8 v.toNat) = TableR.cells { s with cells_ := upd s.cells_ 5 { s.cells_ 5 with key := upd (s.cells_ 5).key 1 v } } := rfl
theorem TableR.g44 (s : TableR) : s.cells[44]? = some (.int .i64 ((s.cells_ 5).vlen)) := rfl
theorem TableR.s44 (s : TableR) (v : Int) : s.cells.setIfInBounds 44 (.int .i64 v) = TableR.cells { s with cells_ := upd s.cells_ 5 { s.cells_ 5 with vlen := v } } := rfl
theorem TableR.g45 (s : TableR) : s.cells[45]? = some (.int .u8 (((s.cells_ 5).val 0)).toNat) := rfl
theorem TableR.s45 (s : TableR) (v : UInt8) : s.cells.setIfInBounds 45 (.int .u8 v.toNat) = TableR.cells { s with cells_ := upd s.cells_ 5 { s.cells_ 5 with val := upd (s.cells_ 5).val 0 v } } := rfl
theorem TableR.g46 (s : TableR) : s.cells[46]? = some (.int .u8 (((s.cells_ 5).val 1)).toNat) := rfl
theorem TableR.s46 (s : TableR) (v : UInt8) : s.cells.setIfInBounds 46 (.int .u8 v.toNat) = TableR.cells { s with cells_ := upd s.cells_ 5 { s.cells_ 5 with val := upd (s.cells_ 5).val 1 v } } := rfl
theorem TableR.g47 (s : TableR) : s.cells[47]? = some (.int .u8 (((s.cells_ 5).val 2)).toNat) := rfl
theorem TableR.s47 (s : TableR) (v : UInt8) : s.cells.setIfInBounds 47 (.int .u8 v.toNat) = TableR.cells { s with cells_ := upd s.cells_ 5 { s.cells_ 5 with val := upd (s.cells_ 5).val 2 v } } := rfl
theorem TableR.g48 (s : TableR) : s.cells[48]? = some (.int .i64 ((s.cells_ 6).state)) := rfl
theorem TableR.s48 (s : TableR) (v : Int) : s.cells.setIfInBounds 48 (.int .i64 v) = TableR.cells { s with cells_ := upd s.cells_ 6 { s.cells_ 6 with state := v } } := rfl
theorem TableR.g49 (s : TableR) : s.cells[49]? = some (.int .i64 ((s.cells_ 6).klen)) := rfl
theorem TableR.s49 (s : TableR) (v : Int) : s.cells.setIfInBounds 49 (.int .i64 v) = TableR.cells { s with cells_ := upd s.cells_ 6 { s.cells_ 6 with klen := v } } := rfl
theorem TableR.g50 (s : TableR) : s.cells[50]? = some (.int .u8 (((s.cells_ 6).key 0)).toNat) := rfl
theorem TableR.s50 (s : TableR) (v : UInt8) : s.cells.setIfInBounds 50 (.int .u8 v.toNat) = TableR.cells { s with cells_ := upd s.cells_ 6 { s.cells_ 6 with key := upd (s.cells_ 6).key 0 v } } := rfl
theorem TableR.g51 (s : TableR) : s.cells[51]? = some (.int .u8 (((s.cells_ 6).key 1)).toNat) := rfl
theorem TableR.s51 (s : TableR) (v : UInt8) : s.cells.setIfInBounds 51 (.int .u8 v.toNat) = TableR.cells { s with cells_ := upd s.cells_ 6 { s.cells_ 6 with key := upd (s.cells_ 6).key 1 v } } := rfl
theorem TableR.g52 (s : TableR) : s.cells[52]? = some (.int .i64 ((s.cells_ 6).vlen)) := rfl
theorem TableR.s52 (s : TableR) (v : Int) : s.cells.setIfInBounds 52 (.int .i64 v) = TableR.cells { s with cells_ := upd s.cells_ 6 { s.cells_ 6 with vlen := v } } := rfl
theorem TableR.g53 (s : TableR) : s.cells[53]? = some (.int .u8 (((s.cells_ 6).val 0)).toNat) := rfl
theorem TableR.s53 (s : TableR) (v : UInt8) : s.cells.setIfInBounds 53 (.int .u8 v.toNat) = TableR.cells { s with cells_ := upd s.cells_ 6 { s.cells_ 6 with val := upd (s.cells_ 6).val 0 v } } := rfl
theorem TableR.g54 (s : TableR) : s.cells[54]? = some (.int .u8 (((s.cells_ 6).val 1)).toNat) := rfl
theorem TableR.s54 (s : TableR) (v : UInt8) : s.cells.setIfInBounds 54 (.int .u8 v.toNat) = TableR.cells { s with cells_ := upd s.cells_ 6 { s.cells_ 6 with val := upd (s.cells_ 6).val 1 v } } := rfl
theorem TableR.g55 (s : TableR) : s.cells[55]? = some (.int .u8 (((s.cells_ 6).val 2)).toNat) := rfl
theorem TableR.s55 (s : TableR) (v : UInt8) : s.cells.setIfInBounds 55 (.int .u8 v.toNat) = TableR.cells { s with cells_ := upd s.cells_ 6 { s.cells_ 6 with val := upd (s.cells_ 6).val 2 v } } := rfl
theorem TableR.g56 (s : TableR) : s.cells[56]? = some (.int .i64 ((s.cells_ 7).state)) := rfl
theorem TableR.s56 (s : TableR) (v : Int) : s.cells.setIfInBounds 56 (.int .i64 v) = TableR.cells { s with cells_ := upd s.cells_ 7 { s.cells_ 7 with state := v } } := rfl
theorem TableR.g57 (s : TableR) : s.cells[57]? = some (.int .i64 ((s.cells_ 7).klen)) := rfl
theorem TableR.s57 (s : TableR) (v : Int) : s.cells.setIfInBounds 57 (.int .i64 v) = TableR.cells { s with cells_ := upd s.cells_ 7 { s.cells_ 7 with klen := v } } := rfl
theorem TableR.g58 (s : TableR) : s.cells[58]? = some (.int .u8 (((s.cells_ 7).key 0)).toNat) := rfl
theorem TableR.s58 (s : TableR) (v : UInt8) : s.cells.setIfInBounds 58 (.int .u8 v.toNat) = TableR.cells { s with cells_ := upd s.cells_ 7 { s.cells_ 7 with key := upd (s.cells_ 7).key 0 v } } := rfl
theorem TableR.g59 (s : TableR) : s.cells[59]? = some (.int .u8 (((s.cells_ 7).key 1)).toNat) := rfl
theorem TableR.s59 (s : TableR) (v : UInt8) : s.cells.setIfInBounds 59 (.int .u8 v.toNat) = TableR.cells { s with cells_ := upd s.cells_ 7 { s.cells_ 7 with key := upd (s.cells_ 7).key 1 v } } := rfl
theorem TableR.g60 (s : TableR) : s.cells[60]? = some (.int .i64 ((s.cells_ 7).vlen)) := rfl
theorem TableR.s60 (s : TableR) (v : Int) : s.cells.setIfInBounds 60 (.int .i64 v) = TableR.cells { s with cells_ := upd s.cells_ 7 { s.cells_ 7 with vlen := v } } := rfl
theorem TableR.g61 (s : TableR) : s.cells[61]? = some (.int .u8 (((s.cells_ 7).val 0)).toNat) := rfl
theorem TableR.s61 (s : TableR) (v : UInt8) : s.cells.setIfInBounds 61 (.int .u8 v.toNat) = TableR.cells { s with cells_ := upd s.cells_ 7 { s.cells_ 7 with val := upd (s.cells_ 7).val 0 v } } := rfl
theorem TableR.g62 (s : TableR) : s.cells[62]? = some (.int .u8 (((s.cells_ 7).val 1)).toNat) := rfl
theorem TableR.s62 (s : TableR) (v : UInt8) : s.cells.setIfInBounds 62 (.int .u8 v.toNat) = TableR.cells { s with cells_ := upd s.cells_ 7 { s.cells_ 7 with val := upd (s.cells_ 7).val 1 v } } := rfl
theorem TableR.g63 (s : TableR) : s.cells[63]? = some (.int .u8 (((s.cells_ 7).val 2)).toNat) := rfl
theorem TableR.s63 (s : TableR) (v : UInt8) : s.cells.setIfInBounds 63 (.int .u8 v.toNat) = TableR.cells { s with cells_ := upd s.cells_ 7 { s.cells_ 7 with val := upd (s.cells_ 7).val 2 v } } := rfl
theorem TableR.g64 (s : TableR) : s.cells[64]? = some (.int .i64 s.live) := rfl
theorem TableR.s64 (s : TableR) (v : Int) : s.cells.setIfInBounds 64 (.int .i64 v) = TableR.cells { s with live := v } := rfl
theorem TableR.g65 (s : TableR) : s.cells[65]? = some (.int .i64 s.tombs) := rfl
theorem TableR.s65 (s : TableR) (v : Int) : s.cells.setIfInBounds 65 (.int .i64 v) = TableR.cells { s with tombs := v } := rfl
theorem TableR.gi_cells__0 (s : TableR) (i : Nat) (h : i < 8) : s.cells[i * 8]? = some (.int .i64 ((s.cells_ i).state)) := by
  match i, h with
  | 0, _ | 1, _ | 2, _ | 3, _ | 4, _ | 5, _ | 6, _ | 7, _ => rfl
theorem TableR.si_cells__0 (s : TableR) (i : Nat) (h : i < 8) (v : Int) : s.cells.setIfInBounds (i * 8) (.int .i64 v) = TableR.cells { s with cells_ := upd s.cells_ i ({ s.cells_ i with state := v }) } := by
  match i, h with
  | 0, _ | 1, _ | 2, _ | 3, _ | 4, _ | 5, _ | 6, _ | 7, _ => rfl
theorem TableR.gi_cells__1 (s : TableR) (i : Nat) (h : i < 8) : s.cells[1 + i * 8]? = some (.int .i64 ((s.cells_ i).klen)) := by
  match i, h with
  | 0, _ | 1, _ | 2, _ | 3, _ | 4, _ | 5, _ | 6, _ | 7, _ => rfl
theorem TableR.si_cells__1 (s : TableR) (i : Nat) (h : i < 8) (v : Int) : s.cells.setIfInBounds (1 + i * 8) (.int .i64 v) = TableR.cells { s with cells_ := upd s.cells_ i ({ s.cells_ i with klen := v }) } := by
  match i, h with
  | 0, _ | 1, _ | 2, _ | 3, _ | 4, _ | 5, _ | 6, _ | 7, _ => rfl
theorem TableR.gi_cells__2 (s : TableR) (i : Nat) (h : i < 8) : s.cells[2 + i * 8]? = some (.int .u8 (((s.cells_ i).key 0)).toNat) := by
  match i, h with
  | 0, _ | 1, _ | 2, _ | 3, _ | 4, _ | 5, _ | 6, _ | 7, _ => rfl
theorem TableR.si_cells__2 (s : TableR) (i : Nat) (h : i < 8) (v : UInt8) : s.cells.setIfInBounds (2 + i * 8) (.int .u8 v.toNat) = TableR.cells { s with cells_ := upd s.cells_ i ({ s.cells_ i with key := upd (s.cells_ i).key 0 v }) } := by
  match i, h with
  | 0, _ | 1, _ | 2, _ | 3, _ | 4, _ | 5, _ | 6, _ | 7, _ => rfl
theorem TableR.gi_cells__3 (s : TableR) (i : Nat) (h : i < 8) : s.cells[3 + i * 8]? = some (.int .u8 (((s.cells_ i).key 1)).toNat) := by
  match i, h with
  | 0, _ | 1, _ | 2, _ | 3, _ | 4, _ | 5, _ | 6, _ | 7, _ => rfl
theorem TableR.si_cells__3 (s : TableR) (i : Nat) (h : i < 8) (v : UInt8) : s.cells.setIfInBounds (3 + i * 8) (.int .u8 v.toNat) = TableR.cells { s with cells_ := upd s.cells_ i ({ s.cells_ i with key := upd (s.cells_ i).key 1 v }) } := by
  match i, h with
  | 0, _ | 1, _ | 2, _ | 3, _ | 4, _ | 5, _ | 6, _ | 7, _ => rfl
theorem TableR.gi_cells__4 (s : TableR) (i : Nat) (h : i < 8) : s.cells[4 + i * 8]? = some (.int .i64 ((s.cells_ i).vlen)) := by
  match i, h with
  | 0, _ | 1, _ | 2, _ | 3, _ | 4, _ | 5, _ | 6, _ | 7, _ => rfl
theorem TableR.si_cells__4 (s : TableR) (i : Nat) (h : i < 8) (v : Int) : s.cells.setIfInBounds (4 + i * 8) (.int .i64 v) = TableR.cells { s with cells_ := upd s.cells_ i ({ s.cells_ i with vlen := v }) } := by
  match i, h with
  | 0, _ | 1, _ | 2, _ | 3, _ | 4, _ | 5, _ | 6, _ | 7, _ => rfl
theorem TableR.gi_cells__5 (s : TableR) (i : Nat) (h : i < 8) : s.cells[5 + i * 8]? = some (.int .u8 (((s.cells_ i).val 0)).toNat) := by
  match i, h with
  | 0, _ | 1, _ | 2, _ | 3, _ | 4, _ | 5, _ | 6, _ | 7, _ => rfl
theorem TableR.si_cells__5 (s : TableR) (i : Nat) (h : i < 8) (v : UInt8) : s.cells.setIfInBounds (5 + i * 8) (.int .u8 v.toNat) = TableR.cells { s with cells_ := upd s.cells_ i ({ s.cells_ i with val := upd (s.cells_ i).val 0 v }) } := by
  match i, h with
  | 0, _ | 1, _ | 2, _ | 3, _ | 4, _ | 5, _ | 6, _ | 7, _ => rfl
theorem TableR.gi_cells__6 (s : TableR) (i : Nat) (h : i < 8) : s.cells[6 + i * 8]? = some (.int .u8 (((s.cells_ i).val 1)).toNat) := by
  match i, h with
  | 0, _ | 1, _ | 2, _ | 3, _ | 4, _ | 5, _ | 6, _ | 7, _ => rfl
theorem TableR.si_cells__6 (s : TableR) (i : Nat) (h : i < 8) (v : UInt8) : s.cells.setIfInBounds (6 + i * 8) (.int .u8 v.toNat) = TableR.cells { s with cells_ := upd s.cells_ i ({ s.cells_ i with val := upd (s.cells_ i).val 1 v }) } := by
  match i, h with
  | 0, _ | 1, _ | 2, _ | 3, _ | 4, _ | 5, _ | 6, _ | 7, _ => rfl
theorem TableR.gi_cells__7 (s : TableR) (i : Nat) (h : i < 8) : s.cells[7 + i * 8]? = some (.int .u8 (((s.cells_ i).val 2)).toNat) := by
  match i, h with
  | 0, _ | 1, _ | 2, _ | 3, _ | 4, _ | 5, _ | 6, _ | 7, _ => rfl
theorem TableR.si_cells__7 (s : TableR) (i : Nat) (h : i < 8) (v : UInt8) : s.cells.setIfInBounds (7 + i * 8) (.int .u8 v.toNat) = TableR.cells { s with cells_ := upd s.cells_ i ({ s.cells_ i with val := upd (s.cells_ i).val 2 v }) } := by
  match i, h with
  | 0, _ | 1, _ | 2, _ | 3, _ | 4, _ | 5, _ | 6, _ | 7, _ => rfl
structure KvR where
  t : TableR
  ss : Nat → Sess
def KvR.cells (s : KvR) : Array Value := #[.int .i64 ((s.t.cells_ 0).state), .int .i64 ((s.t.cells_ 0).klen), .int .u8 (((s.t.cells_ 0).key 0)).toNat, .int .u8 (((s.t.cells_ 0).key 1)).toNat, .int .i64 ((s.t.cells_ 0).vlen), .int .u8 (((s.t.cells_ 0).val 0)).toNat, .int .u8 (((s.t.cells_ 0).val 1)).toNat, .int .u8 (((s.t.cells_ 0).val 2)).toNat, .int .i64 ((s.t.cells_ 1).state), .int .i64 ((s.t.cells_ 1).klen), .int .u8 (((s.t.cells_ 1).key 0)).toNat, .int .u8 (((s.t.cells_ 1).key 1)).toNat, .int .i64 ((s.t.cells_ 1).vlen), .int .u8 (((s.t.cells_ 1).val 0)).toNat, .int .u8 (((s.t.cells_ 1).val 1)).toNat, .int .u8 (((s.t.cells_ 1).val 2)).toNat, .int .i64 ((s.t.cells_ 2).state), .int .i64 ((s.t.cells_ 2).klen), .int .u8 (((s.t.cells_ 2).key 0)).toNat, .int .u8 (((s.t.cells_ 2).key 1)).toNat, .int .i64 ((s.t.cells_ 2).vlen), .int .u8 (((s.t.cells_ 2).val 0)).toNat, .int .u8 (((s.t.cells_ 2).val 1)).toNat, .int .u8 (((s.t.cells_ 2).val 2)).toNat, .int .i64 ((s.t.cells_ 3).state), .int .i64 ((s.t.cells_ 3).klen), .int .u8 (((s.t.cells_ 3).key 0)).toNat, .int .u8 (((s.t.cells_ 3).key 1)).toNat, .int .i64 ((s.t.cells_ 3).vlen), .int .u8 (((s.t.cells_ 3).val 0)).toNat, .int .u8 (((s.t.cells_ 3).val 1)).toNat, .int .u8 (((s.t.cells_ 3).val 2)).toNat, .int .i64 ((s.t.cells_ 4).state), .int .i64 ((s.t.cells_ 4).klen), .int .u8 (((s.t.cells_ 4).key 0)).toNat, .int .u8 (((s.t.cells_ 4).key 1)).toNat, .int .i64 ((s.t.cells_ 4).vlen), .int .u8 (((s.t.cells_ 4).val 0)).toNat, .int .u8 (((s.t.cells_ 4).val 1)).toNat, .int .u8 (((s.t.cells_ 4).val 2)).toNat, .int .i64 ((s.t.cells_ 5).state), .int .i64 ((s.t.cells_ 5).klen), .int .u8 (((s.t.cells_ 5).key 0)).toNat, .int .u8 (((s.t.cells_ 5).key 1)).toNat, .int .i64 ((s.t.cells_ 5).vlen), .int .u8 (((s.t.cells_ 5).val 0)).toNat, .int .u8 (((s.t.cells_ 5).val 1)).toNat, .int .u8 (((s.t.cells_ 5).val 2)).toNat, .int .i64 ((s.t.cells_ 6).state), .int .i64 ((s.t.cells_ 6).klen), .int .u8 (((s.t.cells_ 6).key 0)).toNat, .int .u8 (((s.t.cells_ 6).key 1)).toNat, .int .i64 ((s.t.cells_ 6).vlen), .int .u8 (((s.t.cells_ 6).val 0)).toNat, .int .u8 (((s.t.cells_ 6).val 1)).toNat, .int .u8 (((s.t.cells_ 6).val 2)).toNat, .int .i64 ((s.t.cells_ 7).state), .int .i64 ((s.t.cells_ 7).klen), .int .u8 (((s.t.cells_ 7).key 0)).toNat, .int .u8 (((s.t.cells_ 7).key 1)).toNat, .int .i64 ((s.t.cells_ 7).vlen), .int .u8 (((s.t.cells_ 7).val 0)).toNat, .int .u8 (((s.t.cells_ 7).val 1)).toNat, .int .u8 (((s.t.cells_ 7).val 2)).toNat, .int .i64 s.t.live, .int .i64 s.t.tombs, .int .i64 ((s.ss 0).seq), .int .i64 ((s.ss 0).err), .int .i64 ((s.ss 0).vlen), .int .u8 (((s.ss 0).val 0)).toNat, .int .u8 (((s.ss 0).val 1)).toNat, .int .u8 (((s.ss 0).val 2)).toNat, .int .i64 ((s.ss 1).seq), .int .i64 ((s.ss 1).err), .int .i64 ((s.ss 1).vlen), .int .u8 (((s.ss 1).val 0)).toNat, .int .u8 (((s.ss 1).val 1)).toNat, .int .u8 (((s.ss 1).val 2)).toNat, .int .i64 ((s.ss 2).seq), .int .i64 ((s.ss 2).err), .int .i64 ((s.ss 2).vlen), .int .u8 (((s.ss 2).val 0)).toNat, .int .u8 (((s.ss 2).val 1)).toNat, .int .u8 (((s.ss 2).val 2)).toNat]
theorem KvR.g0 (s : KvR) : s.cells[0]? = some (.int .i64 ((s.t.cells_ 0).state)) := rfl
theorem KvR.s0 (s : KvR) (v : Int) : s.cells.setIfInBounds 0 (.int .i64 v) = KvR.cells { s with t := { s.t with cells_ := upd s.t.cells_ 0 { s.t.cells_ 0 with state := v } } } := rfl
theorem KvR.g1 (s : KvR) : s.cells[1]? = some (.int .i64 ((s.t.cells_ 0).klen)) := rfl
theorem KvR.s1 (s : KvR) (v : Int) : s.cells.setIfInBounds 1 (.int .i64 v) = KvR.cells { s with t := { s.t with cells_ := upd s.t.cells_ 0 { s.t.cells_ 0 with klen := v } } } := rfl
theorem KvR.g2 (s : KvR) : s.cells[2]? = some (.int .u8 (((s.t.cells_ 0).key 0)).toNat) := rfl
theorem KvR.s2 (s : KvR) (v : UInt8) : s.cells.setIfInBounds 2 (.int .u8 v.toNat) = KvR.cells { s with t := { s.t with cells_ := upd s.t.cells_ 0 { s.t.cells_ 0 with key := upd (s.t.cells_ 0).key 0 v } } } := rfl
theorem KvR.g3 (s : KvR) : s.cells[3]? = some (.int .u8 (((s.t.cells_ 0).key 1)).toNat) := rfl
theorem KvR.s3 (s : KvR) (v : UInt8) : s.cells.setIfInBounds 3 (.int .u8 v.toNat) = KvR.cells { s with t := { s.t with cells_ := upd s.t.cells_ 0 { s.t.cells_ 0 with key := upd (s.t.cells_ 0).key 1 v } } } := rfl
theorem KvR.g4 (s : KvR) : s.cells[4]? = some (.int .i64 ((s.t.cells_ 0).vlen)) := rfl
theorem KvR.s4 (s : KvR) (v : Int) : s.cells.setIfInBounds 4 (.int .i64 v) = KvR.cells { s with t := { s.t with cells_ := upd s.t.cells_ 0 { s.t.cells_ 0 with vlen := v } } } := rfl
theorem KvR.g5 (s : KvR) : s.cells[5]? = some (.int .u8 (((s.t.cells_ 0).val 0)).toNat) := rfl
theorem KvR.s5 (s : KvR) (v : UInt8) : s.cells.setIfInBounds 5 (.int .u8 v.toNat) = KvR.cells { s with t := { s.t with cells_ := upd s.t.cells_ 0 { s.t.cells_ 0 with val := upd (s.t.cells_ 0).val 0 v } } } := rfl
theorem KvR.g6 (s : KvR) : s.cells[6]? = some (.int .u8 (((s.t.cells_ 0).val 1)).toNat) := rfl
theorem KvR.s6 (s : KvR) (v : UInt8) : s.cells.setIfInBounds 6 (.int .u8 v.toNat) = KvR.cells { s with t := { s.t with cells_ := upd s.t.cells_ 0 { s.t.cells_ 0 with val := upd (s.t.cells_ 0).val 1 v } } } := rfl
theorem KvR.g7 (s : KvR) : s.cells[7]? = some (.int .u8 (((s.t.cells_ 0).val 2)).toNat) := rfl
theorem KvR.s7 (s : KvR) (v : UInt8) : s.cells.setIfInBounds 7 (.int .u8 v.toNat) = KvR.cells { s with t := { s.t with cells_ := upd s.t.cells_ 0 { s.t.cells_ 0 with val := upd (s.t.cells_ 0).val 2 v } } } := rfl
theorem KvR.g8 (s : KvR) : s.cells[8]? = some (.int .i64 ((s.t.cells_ 1).state)) := rfl
theorem KvR.s8 (s : KvR) (v : Int) : s.cells.setIfInBounds 8 (.int .i64 v) = KvR.cells { s with t := { s.t with cells_ := upd s.t.cells_ 1 { s.t.cells_ 1 with state := v } } } := rfl
theorem KvR.g9 (s : KvR) : s.cells[9]? = some (.int .i64 ((s.t.cells_ 1).klen)) := rfl
theorem KvR.s9 (s : KvR) (v : Int) : s.cells.setIfInBounds 9 (.int .i64 v) = KvR.cells { s with t := { s.t with cells_ := upd s.t.cells_ 1 { s.t.cells_ 1 with klen := v } } } := rfl
theorem KvR.g10 (s : KvR) : s.cells[10]? = some (.int .u8 (((s.t.cells_ 1).key 0)).toNat) := rfl
theorem KvR.s10 (s : KvR) (v : UInt8) : s.cells.setIfInBounds 10 (.int .u8 v.toNat) = KvR.cells { s with t := { s.t with cells_ := upd s.t.cells_ 1 { s.t.cells_ 1 with key := upd (s.t.cells_ 1).key 0 v } } } := rfl
theorem KvR.g11 (s : KvR) : s.cells[11]? = some (.int .u8 (((s.t.cells_ 1).key 1)).toNat) := rfl
theorem KvR.s11 (s : KvR) (v : UInt8) : s.cells.setIfInBounds 11 (.int .u8 v.toNat) = KvR.cells { s with t := { s.t with cells_ := upd s.t.cells_ 1 { s.t.cells_ 1 with key := upd (s.t.cells_ 1).key 1 v } } } := rfl
theorem KvR.g12 (s : KvR) : s.cells[12]? = some (.int .i64 ((s.t.cells_ 1).vlen)) := rfl
theorem KvR.s12 (s : KvR) (v : Int) : s.cells.setIfInBounds 12 (.int .i64 v) = KvR.cells { s with t := { s.t with cells_ := upd s.t.cells_ 1 { s.t.cells_ 1 with vlen := v } } } := rfl
theorem KvR.g13 (s : KvR) : s.cells[13]? = some (.int .u8 (((s.t.cells_ 1).val 0)).toNat) := rfl
theorem KvR.s13 (s : KvR) (v : UInt8) : s.cells.setIfInBounds 13 (.int .u8 v.toNat) = KvR.cells { s with t := { s.t with cells_ := upd s.t.cells_ 1 { s.t.cells_ 1 with val := upd (s.t.cells_ 1).val 0 v } } } := rfl
theorem KvR.g14 (s : KvR) : s.cells[14]? = some (.int .u8 (((s.t.cells_ 1).val 1)).toNat) := rfl
theorem KvR.s14 (s : KvR) (v : UInt8) : s.cells.setIfInBounds 14 (.int .u8 v.toNat) = KvR.cells { s with t := { s.t with cells_ := upd s.t.cells_ 1 { s.t.cells_ 1 with val := upd (s.t.cells_ 1).val 1 v } } } := rfl
theorem KvR.g15 (s : KvR) : s.cells[15]? = some (.int .u8 (((s.t.cells_ 1).val 2)).toNat) := rfl
theorem KvR.s15 (s : KvR) (v : UInt8) : s.cells.setIfInBounds 15 (.int .u8 v.toNat) = KvR.cells { s with t := { s.t with cells_ := upd s.t.cells_ 1 { s.t.cells_ 1 with val := upd (s.t.cells_ 1).val 2 v } } } := rfl
theorem KvR.g16 (s : KvR) : s.cells[16]? = some (.int .i64 ((s.t.cells_ 2).state)) := rfl
theorem KvR.s16 (s : KvR) (v : Int) : s.cells.setIfInBounds 16 (.int .i64 v) = KvR.cells { s with t := { s.t with cells_ := upd s.t.cells_ 2 { s.t.cells_ 2 with state := v } } } := rfl
theorem KvR.g17 (s : KvR) : s.cells[17]? = some (.int .i64 ((s.t.cells_ 2).klen)) := rfl
theorem KvR.s17 (s : KvR) (v : Int) : s.cells.setIfInBounds 17 (.int .i64 v) = KvR.cells { s with t := { s.t with cells_ := upd s.t.cells_ 2 { s.t.cells_ 2 with klen := v } } } := rfl
theorem KvR.g18 (s : KvR) : s.cells[18]? = some (.int .u8 (((s.t.cells_ 2).key 0)).toNat) := rfl
theorem KvR.s18 (s : KvR) (v : UInt8) : s.cells.setIfInBounds 18 (.int .u8 v.toNat) = KvR.cells { s with t := { s.t with cells_ := upd s.t.cells_ 2 { s.t.cells_ 2 with key := upd (s.t.cells_ 2).key 0 v } } } := rfl
theorem KvR.g19 (s : KvR) : s.cells[19]? = some (.int .u8 (((s.t.cells_ 2).key 1)).toNat) := rfl
theorem KvR.s19 (s : KvR) (v : UInt8) : s.cells.setIfInBounds 19 (.int .u8 v.toNat) = KvR.cells { s with t := { s.t with cells_ := upd s.t.cells_ 2 { s.t.cells_ 2 with key := upd (s.t.cells_ 2).key 1 v } } } := rfl
theorem KvR.g20 (s : KvR) : s.cells[20]? = some (.int .i64 ((s.t.cells_ 2).vlen)) := rfl
theorem KvR.s20 (s : KvR) (v : Int) : s.cells.setIfInBounds 20 (.int .i64 v) = KvR.cells { s with t := { s.t with cells_ := upd s.t.cells_ 2 { s.t.cells_ 2 with vlen := v } } } := rfl
theorem KvR.g21 (s : KvR) : s.cells[21]? = some (.int .u8 (((s.t.cells_ 2).val 0)).toNat) := rfl
theorem KvR.s21 (s : KvR) (v : UInt8) : s.cells.setIfInBounds 21 (.int .u8 v.toNat) = KvR.cells { s with t := { s.t with cells_ := upd s.t.cells_ 2 { s.t.cells_ 2 with val := upd (s.t.cells_ 2).val 0 v } } } := rfl
theorem KvR.g22 (s : KvR) : s.cells[22]? = some (.int .u8 (((s.t.cells_ 2).val 1)).toNat) := rfl
theorem KvR.s22 (s : KvR) (v : UInt8) : s.cells.setIfInBounds 22 (.int .u8 v.toNat) = KvR.cells { s with t := { s.t with cells_ := upd s.t.cells_ 2 { s.t.cells_ 2 with val := upd (s.t.cells_ 2).val 1 v } } } := rfl
theorem KvR.g23 (s : KvR) : s.cells[23]? = some (.int .u8 (((s.t.cells_ 2).val 2)).toNat) := rfl
theorem KvR.s23 (s : KvR) (v : UInt8) : s.cells.setIfInBounds 23 (.int .u8 v.toNat) = KvR.cells { s with t := { s.t with cells_ := upd s.t.cells_ 2 { s.t.cells_ 2 with val := upd (s.t.cells_ 2).val 2 v } } } := rfl
theorem KvR.g24 (s : KvR) : s.cells[24]? = some (.int .i64 ((s.t.cells_ 3).state)) := rfl
theorem KvR.s24 (s : KvR) (v : Int) : s.cells.setIfInBounds 24 (.int .i64 v) = KvR.cells { s with t := { s.t with cells_ := upd s.t.cells_ 3 { s.t.cells_ 3 with state := v } } } := rfl
theorem KvR.g25 (s : KvR) : s.cells[25]? = some (.int .i64 ((s.t.cells_ 3).klen)) := rfl
theorem KvR.s25 (s : KvR) (v : Int) : s.cells.setIfInBounds 25 (.int .i64 v) = KvR.cells { s with t := { s.t with cells_ := upd s.t.cells_ 3 { s.t.cells_ 3 with klen := v } } } := rfl
theorem KvR.g26 (s : KvR) : s.cells[26]? = some (.int .u8 (((s.t.cells_ 3).key 0)).toNat) := rfl
theorem KvR.s26 (s : KvR) (v : UInt8) : s.cells.setIfInBounds 26 (.int .u8 v.toNat) = KvR.cells { s with t := { s.t with cells_ := upd s.t.cells_ 3 { s.t.cells_ 3 with key := upd (s.t.cells_ 3).key 0 v } } } := rfl
theorem KvR.g27 (s : KvR) : s.cells[27]? = some (.int .u8 (((s.t.cells_ 3).key 1)).toNat) := rfl
theorem KvR.s27 (s : KvR) (v : UInt8) : s.cells.setIfInBounds 27 (.int .u8 v.toNat) = KvR.cells { s with t := { s.t with cells_ := upd s.t.cells_ 3 { s.t.cells_ 3 with key := upd (s.t.cells_ 3).key 1 v } } } := rfl
theorem KvR.g28 (s : KvR) : s.cells[28]? = some (.int .i64 ((s.t.cells_ 3).vlen)) := rfl
theorem KvR.s28 (s : KvR) (v : Int) : s.cells.setIfInBounds 28 (.int .i64 v) = KvR.cells { s with t := { s.t with cells_ := upd s.t.cells_ 3 { s.t.cells_ 3 with vlen := v } } } := rfl
theorem KvR.g29 (s : KvR) : s.cells[29]? = some (.int .u8 (((s.t.cells_ 3).val 0)).toNat) := rfl
theorem KvR.s29 (s : KvR) (v : UInt8) : s.cells.setIfInBounds 29 (.int .u8 v.toNat) = KvR.cells { s with t := { s.t with cells_ := upd s.t.cells_ 3 { s.t.cells_ 3 with val := upd (s.t.cells_ 3).val 0 v } } } := rfl
theorem KvR.g30 (s : KvR) : s.cells[30]? = some (.int .u8 (((s.t.cells_ 3).val 1)).toNat) := rfl
theorem KvR.s30 (s : KvR) (v : UInt8) : s.cells.setIfInBounds 30 (.int .u8 v.toNat) = KvR.cells { s with t := { s.t with cells_ := upd s.t.cells_ 3 { s.t.cells_ 3 with val := upd (s.t.cells_ 3).val 1 v } } } := rfl
theorem KvR.g31 (s : KvR) : s.cells[31]? = some (.int .u8 (((s.t.cells_ 3).val 2)).toNat) := rfl
theorem KvR.s31 (s : KvR) (v : UInt8) : s.cells.setIfInBounds 31 (.int .u8 v.toNat) = KvR.cells { s with t := { s.t with cells_ := upd s.t.cells_ 3 { s.t.cells_ 3 with val := upd (s.t.cells_ 3).val 2 v } } } := rfl
theorem KvR.g32 (s : KvR) : s.cells[32]? = some (.int .i64 ((s.t.cells_ 4).state)) := rfl
theorem KvR.s32 (s : KvR) (v : Int) : s.cells.setIfInBounds 32 (.int .i64 v) = KvR.cells { s with t := { s.t with cells_ := upd s.t.cells_ 4 { s.t.cells_ 4 with state := v } } } := rfl
theorem KvR.g33 (s : KvR) : s.cells[33]? = some (.int .i64 ((s.t.cells_ 4).klen)) := rfl
theorem KvR.s33 (s : KvR) (v : Int) : s.cells.setIfInBounds 33 (.int .i64 v) = KvR.cells { s with t := { s.t with cells_ := upd s.t.cells_ 4 { s.t.cells_ 4 with klen := v } } } := rfl
theorem KvR.g34 (s : KvR) : s.cells[34]? = some (.int .u8 (((s.t.cells_ 4).key 0)).toNat) := rfl
theorem KvR.s34 (s : KvR) (v : UInt8) : s.cells.setIfInBounds 34 (.int .u8 v.toNat) = KvR.cells { s with t := { s.t with cells_ := upd s.t.cells_ 4 { s.t.cells_ 4 with key := upd (s.t.cells_ 4).key 0 v } } } := rfl
theorem KvR.g35 (s : KvR) : s.cells[35]? = some (.int .u8 (((s.t.cells_ 4).key 1)).toNat) := rfl
theorem KvR.s35 (s : KvR) (v : UInt8) : s.cells.setIfInBounds 35 (.int .u8 v.toNat) = KvR.cells { s with t := { s.t with cells_ := upd s.t.cells_ 4 { s.t.cells_ 4 with key := upd (s.t.cells_ 4).key 1 v } } } := rfl
theorem KvR.g36 (s : KvR) : s.cells[36]? = some (.int .i64 ((s.t.cells_ 4).vlen)) := rfl
theorem KvR.s36 (s : KvR) (v : Int) : s.cells.setIfInBounds 36 (.int .i64 v) = KvR.cells { s with t := { s.t with cells_ := upd s.t.cells_ 4 { s.t.cells_ 4 with vlen := v } } } := rfl
theorem KvR.g37 (s : KvR) : s.cells[37]? = some (.int .u8 (((s.t.cells_ 4).val 0)).toNat) := rfl
theorem KvR.s37 (s : KvR) (v : UInt8) : s.cells.setIfInBounds 37 (.int .u8 v.toNat) = KvR.cells { s with t := { s.t with cells_ := upd s.t.cells_ 4 { s.t.cells_ 4 with val := upd (s.t.cells_ 4).val 0 v } } } := rfl
theorem KvR.g38 (s : KvR) : s.cells[38]? = some (.int .u8 (((s.t.cells_ 4).val 1)).toNat) := rfl
theorem KvR.s38 (s : KvR) (v : UInt8) : s.cells.setIfInBounds 38 (.int .u8 v.toNat) = KvR.cells { s with t := { s.t with cells_ := upd s.t.cells_ 4 { s.t.cells_ 4 with val := upd (s.t.cells_ 4).val 1 v } } } := rfl
theorem KvR.g39 (s : KvR) : s.cells[39]? = some (.int .u8 (((s.t.cells_ 4).val 2)).toNat) := rfl
theorem KvR.s39 (s : KvR) (v : UInt8) : s.cells.setIfInBounds 39 (.int .u8 v.toNat) = KvR.cells { s with t := { s.t with cells_ := upd s.t.cells_ 4 { s.t.cells_ 4 with val := upd (s.t.cells_ 4).val 2 v } } } := rfl
theorem KvR.g40 (s : KvR) : s.cells[40]? = some (.int .i64 ((s.t.cells_ 5).state)) := rfl
theorem KvR.s40 (s : KvR) (v : Int) : s.cells.setIfInBounds 40 (.int .i64 v) = KvR.cells { s with t := { s.t with cells_ := upd s.t.cells_ 5 { s.t.cells_ 5 with state := v } } } := rfl
theorem KvR.g41 (s : KvR) : s.cells[41]? = some (.int .i64 ((s.t.cells_ 5).klen)) := rfl
theorem KvR.s41 (s : KvR) (v : Int) : s.cells.setIfInBounds 41 (.int .i64 v) = KvR.cells { s with t := { s.t with cells_ := upd s.t.cells_ 5 { s.t.cells_ 5 with klen := v } } } := rfl
theorem KvR.g42 (s : KvR) : s.cells[42]? = some (.int .u8 (((s.t.cells_ 5).key 0)).toNat) := rfl
theorem KvR.s42 (s : KvR) (v : UInt8) : s.cells.setIfInBounds 42 (.int .u8 v.toNat) = KvR.cells { s with t := { s.t with cells_ := upd s.t.cells_ 5 { s.t.cells_ 5 with key := upd (s.t.cells_ 5).key 0 v } } } := rfl
theorem KvR.g43 (s : KvR) : s.cells[43]? = some (.int .u8 (((s.t.cells_ 5).key 1)).toNat) := rfl
theorem KvR.s43 (s : KvR) (v : UInt8) : s.cells.setIfInBounds 43 (.int .u8 v.toNat) = KvR.cells { s with t := { s.t with cells_ := upd s.t.cells_ 5 { s.t.cells_ 5 with key := upd (s.t.cells_ 5).key 1 v } } } := rfl
theorem KvR.g44 (s : KvR) : s.cells[44]? = some (.int .i64 ((s.t.cells_ 5).vlen)) := rfl
theorem KvR.s44 (s : KvR) (v : Int) : s.cells.setIfInBounds 44 (.int .i64 v) = KvR.cells { s with t := { s.t with cells_ := upd s.t.cells_ 5 { s.t.cells_ 5 with vlen := v } } } := rfl
theorem KvR.g45 (s : KvR) : s.cells[45]? = some (.int .u8 (((s.t.cells_ 5).val 0)).toNat) := rfl
theorem KvR.s45 (s : KvR) (v : UInt8) : s.cells.setIfInBounds 45 (.int .u8 v.toNat) = KvR.cells { s with t := { s.t with cells_ := upd s.t.cells_ 5 { s.t.cells_ 5 with val := upd (s.t.cells_ 5).val 0 v } } } := rfl
theorem KvR.g46 (s : KvR) : s.cells[46]? = some (.int .u8 (((s.t.cells_ 5).val 1)).toNat) := rfl
theorem KvR.s46 (s : KvR) (v : UInt8) : s.cells.setIfInBounds 46 (.int .u8 v.toNat) = KvR.cells { s with t := { s.t with cells_ := upd s.t.cells_ 5 { s.t.cells_ 5 with val := upd (s.t.cells_ 5).val 1 v } } } := rfl
theorem KvR.g47 (s : KvR) : s.cells[47]? = some (.int .u8 (((s.t.cells_ 5).val 2)).toNat) := rfl
theorem KvR.s47 (s : KvR) (v : UInt8) : s.cells.setIfInBounds 47 (.int .u8 v.toNat) = KvR.cells { s with t := { s.t with cells_ := upd s.t.cells_ 5 { s.t.cells_ 5 with val := upd (s.t.cells_ 5).val 2 v } } } := rfl
theorem KvR.g48 (s : KvR) : s.cells[48]? = some (.int .i64 ((s.t.cells_ 6).state)) := rfl
theorem KvR.s48 (s : KvR) (v : Int) : s.cells.setIfInBounds 48 (.int .i64 v) = KvR.cells { s with t := { s.t with cells_ := upd s.t.cells_ 6 { s.t.cells_ 6 with state := v } } } := rfl
theorem KvR.g49 (s : KvR) : s.cells[49]? = some (.int .i64 ((s.t.cells_ 6).klen)) := rfl
theorem KvR.s49 (s : KvR) (v : Int) : s.cells.setIfInBounds 49 (.int .i64 v) = KvR.cells { s with t := { s.t with cells_ := upd s.t.cells_ 6 { s.t.cells_ 6 with klen := v } } } := rfl
theorem KvR.g50 (s : KvR) : s.cells[50]? = some (.int .u8 (((s.t.cells_ 6).key 0)).toNat) := rfl
theorem KvR.s50 (s : KvR) (v : UInt8) : s.cells.setIfInBounds 50 (.int .u8 v.toNat) = KvR.cells { s with t := { s.t with cells_ := upd s.t.cells_ 6 { s.t.cells_ 6 with key := upd (s.t.cells_ 6).key 0 v } } } := rfl
theorem KvR.g51 (s : KvR) : s.cells[51]? = some (.int .u8 (((s.t.cells_ 6).key 1)).toNat) := rfl
theorem KvR.s51 (s : KvR) (v : UInt8) : s.cells.setIfInBounds 51 (.int .u8 v.toNat) = KvR.cells { s with t := { s.t with cells_ := upd s.t.cells_ 6 { s.t.cells_ 6 with key := upd (s.t.cells_ 6).key 1 v } } } := rfl
theorem KvR.g52 (s : KvR) : s.cells[52]? = some (.int .i64 ((s.t.cells_ 6).vlen)) := rfl
theorem KvR.s52 (s : KvR) (v : Int) : s.cells.setIfInBounds 52 (.int .i64 v) = KvR.cells { s with t := { s.t with cells_ := upd s.t.cells_ 6 { s.t.cells_ 6 with vlen := v } } } := rfl
theorem KvR.g53 (s : KvR) : s.cells[53]? = some (.int .u8 (((s.t.cells_ 6).val 0)).toNat) := rfl
theorem KvR.s53 (s : KvR) (v : UInt8) : s.cells.setIfInBounds 53 (.int .u8 v.toNat) = KvR.cells { s with t := { s.t with cells_ := upd s.t.cells_ 6 { s.t.cells_ 6 with val := upd (s.t.cells_ 6).val 0 v } } } := rfl
theorem KvR.g54 (s : KvR) : s.cells[54]? = some (.int .u8 (((s.t.cells_ 6).val 1)).toNat) := rfl
theorem KvR.s54 (s : KvR) (v : UInt8) : s.cells.setIfInBounds 54 (.int .u8 v.toNat) = KvR.cells { s with t := { s.t with cells_ := upd s.t.cells_ 6 { s.t.cells_ 6 with val := upd (s.t.cells_ 6).val 1 v } } } := rfl
theorem KvR.g55 (s : KvR) : s.cells[55]? = some (.int .u8 (((s.t.cells_ 6).val 2)).toNat) := rfl
theorem KvR.s55 (s : KvR) (v : UInt8) : s.cells.setIfInBounds 55 (.int .u8 v.toNat) = KvR.cells { s with t := { s.t with cells_ := upd s.t.cells_ 6 { s.t.cells_ 6 with val := upd (s.t.cells_ 6).val 2 v } } } := rfl
theorem KvR.g56 (s : KvR) : s.cells[56]? = some (.int .i64 ((s.t.cells_ 7).state)) := rfl
theorem KvR.s56 (s : KvR) (v : Int) : s.cells.setIfInBounds 56 (.int .i64 v) = KvR.cells { s with t := { s.t with cells_ := upd s.t.cells_ 7 { s.t.cells_ 7 with state := v } } } := rfl
theorem KvR.g57 (s : KvR) : s.cells[57]? = some (.int .i64 ((s.t.cells_ 7).klen)) := rfl
theorem KvR.s57 (s : KvR) (v : Int) : s.cells.setIfInBounds 57 (.int .i64 v) = KvR.cells { s with t := { s.t with cells_ := upd s.t.cells_ 7 { s.t.cells_ 7 with klen := v } } } := rfl
theorem KvR.g58 (s : KvR) : s.cells[58]? = some (.int .u8 (((s.t.cells_ 7).key 0)).toNat) := rfl
theorem KvR.s58 (s : KvR) (v : UInt8) : s.cells.setIfInBounds 58 (.int .u8 v.toNat) = KvR.cells { s with t := { s.t with cells_ := upd s.t.cells_ 7 { s.t.cells_ 7 with key := upd (s.t.cells_ 7).key 0 v } } } := rfl
theorem KvR.g59 (s : KvR) : s.cells[59]? = some (.int .u8 (((s.t.cells_ 7).key 1)).toNat) := rfl
theorem KvR.s59 (s : KvR) (v : UInt8) : s.cells.setIfInBounds 59 (.int .u8 v.toNat) = KvR.cells { s with t := { s.t with cells_ := upd s.t.cells_ 7 { s.t.cells_ 7 with key := upd (s.t.cells_ 7).key 1 v } } } := rfl
theorem KvR.g60 (s : KvR) : s.cells[60]? = some (.int .i64 ((s.t.cells_ 7).vlen)) := rfl
theorem KvR.s60 (s : KvR) (v : Int) : s.cells.setIfInBounds 60 (.int .i64 v) = KvR.cells { s with t := { s.t with cells_ := upd s.t.cells_ 7 { s.t.cells_ 7 with vlen := v } } } := rfl
theorem KvR.g61 (s : KvR) : s.cells[61]? = some (.int .u8 (((s.t.cells_ 7).val 0)).toNat) := rfl
theorem KvR.s61 (s : KvR) (v : UInt8) : s.cells.setIfInBounds 61 (.int .u8 v.toNat) = KvR.cells { s with t := { s.t with cells_ := upd s.t.cells_ 7 { s.t.cells_ 7 with val := upd (s.t.cells_ 7).val 0 v } } } := rfl
theorem KvR.g62 (s : KvR) : s.cells[62]? = some (.int .u8 (((s.t.cells_ 7).val 1)).toNat) := rfl
theorem KvR.s62 (s : KvR) (v : UInt8) : s.cells.setIfInBounds 62 (.int .u8 v.toNat) = KvR.cells { s with t := { s.t with cells_ := upd s.t.cells_ 7 { s.t.cells_ 7 with val := upd (s.t.cells_ 7).val 1 v } } } := rfl
theorem KvR.g63 (s : KvR) : s.cells[63]? = some (.int .u8 (((s.t.cells_ 7).val 2)).toNat) := rfl
theorem KvR.s63 (s : KvR) (v : UInt8) : s.cells.setIfInBounds 63 (.int .u8 v.toNat) = KvR.cells { s with t := { s.t with cells_ := upd s.t.cells_ 7 { s.t.cells_ 7 with val := upd (s.t.cells_ 7).val 2 v } } } := rfl
theorem KvR.g64 (s : KvR) : s.cells[64]? = some (.int .i64 s.t.live) := rfl
theorem KvR.s64 (s : KvR) (v : Int) : s.cells.setIfInBounds 64 (.int .i64 v) = KvR.cells { s with t := { s.t with live := v } } := rfl
theorem KvR.g65 (s : KvR) : s.cells[65]? = some (.int .i64 s.t.tombs) := rfl
theorem KvR.s65 (s : KvR) (v : Int) : s.cells.setIfInBounds 65 (.int .i64 v) = KvR.cells { s with t := { s.t with tombs := v } } := rfl
theorem KvR.g66 (s : KvR) : s.cells[66]? = some (.int .i64 ((s.ss 0).seq)) := rfl
theorem KvR.s66 (s : KvR) (v : Int) : s.cells.setIfInBounds 66 (.int .i64 v) = KvR.cells { s with ss := upd s.ss 0 { s.ss 0 with seq := v } } := rfl
theorem KvR.g67 (s : KvR) : s.cells[67]? = some (.int .i64 ((s.ss 0).err)) := rfl
theorem KvR.s67 (s : KvR) (v : Int) : s.cells.setIfInBounds 67 (.int .i64 v) = KvR.cells { s with ss := upd s.ss 0 { s.ss 0 with err := v } } := rfl
theorem KvR.g68 (s : KvR) : s.cells[68]? = some (.int .i64 ((s.ss 0).vlen)) := rfl
theorem KvR.s68 (s : KvR) (v : Int) : s.cells.setIfInBounds 68 (.int .i64 v) = KvR.cells { s with ss := upd s.ss 0 { s.ss 0 with vlen := v } } := rfl
theorem KvR.g69 (s : KvR) : s.cells[69]? = some (.int .u8 (((s.ss 0).val 0)).toNat) := rfl
theorem KvR.s69 (s : KvR) (v : UInt8) : s.cells.setIfInBounds 69 (.int .u8 v.toNat) = KvR.cells { s with ss := upd s.ss 0 { s.ss 0 with val := upd (s.ss 0).val 0 v } } := rfl
theorem KvR.g70 (s : KvR) : s.cells[70]? = some (.int .u8 (((s.ss 0).val 1)).toNat) := rfl
theorem KvR.s70 (s : KvR) (v : UInt8) : s.cells.setIfInBounds 70 (.int .u8 v.toNat) = KvR.cells { s with ss := upd s.ss 0 { s.ss 0 with val := upd (s.ss 0).val 1 v } } := rfl
theorem KvR.g71 (s : KvR) : s.cells[71]? = some (.int .u8 (((s.ss 0).val 2)).toNat) := rfl
theorem KvR.s71 (s : KvR) (v : UInt8) : s.cells.setIfInBounds 71 (.int .u8 v.toNat) = KvR.cells { s with ss := upd s.ss 0 { s.ss 0 with val := upd (s.ss 0).val 2 v } } := rfl
theorem KvR.g72 (s : KvR) : s.cells[72]? = some (.int .i64 ((s.ss 1).seq)) := rfl
theorem KvR.s72 (s : KvR) (v : Int) : s.cells.setIfInBounds 72 (.int .i64 v) = KvR.cells { s with ss := upd s.ss 1 { s.ss 1 with seq := v } } := rfl
theorem KvR.g73 (s : KvR) : s.cells[73]? = some (.int .i64 ((s.ss 1).err)) := rfl
theorem KvR.s73 (s : KvR) (v : Int) : s.cells.setIfInBounds 73 (.int .i64 v) = KvR.cells { s with ss := upd s.ss 1 { s.ss 1 with err := v } } := rfl
theorem KvR.g74 (s : KvR) : s.cells[74]? = some (.int .i64 ((s.ss 1).vlen)) := rfl
theorem KvR.s74 (s : KvR) (v : Int) : s.cells.setIfInBounds 74 (.int .i64 v) = KvR.cells { s with ss := upd s.ss 1 { s.ss 1 with vlen := v } } := rfl
theorem KvR.g75 (s : KvR) : s.cells[75]? = some (.int .u8 (((s.ss 1).val 0)).toNat) := rfl
theorem KvR.s75 (s : KvR) (v : UInt8) : s.cells.setIfInBounds 75 (.int .u8 v.toNat) = KvR.cells { s with ss := upd s.ss 1 { s.ss 1 with val := upd (s.ss 1).val 0 v } } := rfl
theorem KvR.g76 (s : KvR) : s.cells[76]? = some (.int .u8 (((s.ss 1).val 1)).toNat) := rfl
theorem KvR.s76 (s : KvR) (v : UInt8) : s.cells.setIfInBounds 76 (.int .u8 v.toNat) = KvR.cells { s with ss := upd s.ss 1 { s.ss 1 with val := upd (s.ss 1).val 1 v } } := rfl
theorem KvR.g77 (s : KvR) : s.cells[77]? = some (.int .u8 (((s.ss 1).val 2)).toNat) := rfl
theorem KvR.s77 (s : KvR) (v : UInt8) : s.cells.setIfInBounds 77 (.int .u8 v.toNat) = KvR.cells { s with ss := upd s.ss 1 { s.ss 1 with val := upd (s.ss 1).val 2 v } } := rfl
theorem KvR.g78 (s : KvR) : s.cells[78]? = some (.int .i64 ((s.ss 2).seq)) := rfl
theorem KvR.s78 (s : KvR) (v : Int) : s.cells.setIfInBounds 78 (.int .i64 v) = KvR.cells { s with ss := upd s.ss 2 { s.ss 2 with seq := v } } := rfl
theorem KvR.g79 (s : KvR) : s.cells[79]? = some (.int .i64 ((s.ss 2).err)) := rfl
theorem KvR.s79 (s : KvR) (v : Int) : s.cells.setIfInBounds 79 (.int .i64 v) = KvR.cells { s with ss := upd s.ss 2 { s.ss 2 with err := v } } := rfl
theorem KvR.g80 (s : KvR) : s.cells[80]? = some (.int .i64 ((s.ss 2).vlen)) := rfl
theorem KvR.s80 (s : KvR) (v : Int) : s.cells.setIfInBounds 80 (.int .i64 v) = KvR.cells { s with ss := upd s.ss 2 { s.ss 2 with vlen := v } } := rfl
theorem KvR.g81 (s : KvR) : s.cells[81]? = some (.int .u8 (((s.ss 2).val 0)).toNat) := rfl
theorem KvR.s81 (s : KvR) (v : UInt8) : s.cells.setIfInBounds 81 (.int .u8 v.toNat) = KvR.cells { s with ss := upd s.ss 2 { s.ss 2 with val := upd (s.ss 2).val 0 v } } := rfl
theorem KvR.g82 (s : KvR) : s.cells[82]? = some (.int .u8 (((s.ss 2).val 1)).toNat) := rfl
theorem KvR.s82 (s : KvR) (v : UInt8) : s.cells.setIfInBounds 82 (.int .u8 v.toNat) = KvR.cells { s with ss := upd s.ss 2 { s.ss 2 with val := upd (s.ss 2).val 1 v } } := rfl
theorem KvR.g83 (s : KvR) : s.cells[83]? = some (.int .u8 (((s.ss 2).val 2)).toNat) := rfl
theorem KvR.s83 (s : KvR) (v : UInt8) : s.cells.setIfInBounds 83 (.int .u8 v.toNat) = KvR.cells { s with ss := upd s.ss 2 { s.ss 2 with val := upd (s.ss 2).val 2 v } } := rfl
theorem KvR.gi_ss_0 (s : KvR) (i : Nat) (h : i < 3) : s.cells[66 + i * 6]? = some (.int .i64 ((s.ss i).seq)) := by
  match i, h with
  | 0, _ | 1, _ | 2, _ => rfl
theorem KvR.si_ss_0 (s : KvR) (i : Nat) (h : i < 3) (v : Int) : s.cells.setIfInBounds (66 + i * 6) (.int .i64 v) = KvR.cells { s with ss := upd s.ss i ({ s.ss i with seq := v }) } := by
  match i, h with
  | 0, _ | 1, _ | 2, _ => rfl
theorem KvR.gi_ss_1 (s : KvR) (i : Nat) (h : i < 3) : s.cells[67 + i * 6]? = some (.int .i64 ((s.ss i).err)) := by
  match i, h with
  | 0, _ | 1, _ | 2, _ => rfl
theorem KvR.si_ss_1 (s : KvR) (i : Nat) (h : i < 3) (v : Int) : s.cells.setIfInBounds (67 + i * 6) (.int .i64 v) = KvR.cells { s with ss := upd s.ss i ({ s.ss i with err := v }) } := by
  match i, h with
  | 0, _ | 1, _ | 2, _ => rfl
theorem KvR.gi_ss_2 (s : KvR) (i : Nat) (h : i < 3) : s.cells[68 + i * 6]? = some (.int .i64 ((s.ss i).vlen)) := by
  match i, h with
  | 0, _ | 1, _ | 2, _ => rfl
theorem KvR.si_ss_2 (s : KvR) (i : Nat) (h : i < 3) (v : Int) : s.cells.setIfInBounds (68 + i * 6) (.int .i64 v) = KvR.cells { s with ss := upd s.ss i ({ s.ss i with vlen := v }) } := by
  match i, h with
  | 0, _ | 1, _ | 2, _ => rfl
theorem KvR.gi_ss_3 (s : KvR) (i : Nat) (h : i < 3) : s.cells[69 + i * 6]? = some (.int .u8 (((s.ss i).val 0)).toNat) := by
  match i, h with
  | 0, _ | 1, _ | 2, _ => rfl
theorem KvR.si_ss_3 (s : KvR) (i : Nat) (h : i < 3) (v : UInt8) : s.cells.setIfInBounds (69 + i * 6) (.int .u8 v.toNat) = KvR.cells { s with ss := upd s.ss i ({ s.ss i with val := upd (s.ss i).val 0 v }) } := by
  match i, h with
  | 0, _ | 1, _ | 2, _ => rfl
theorem KvR.gi_ss_4 (s : KvR) (i : Nat) (h : i < 3) : s.cells[70 + i * 6]? = some (.int .u8 (((s.ss i).val 1)).toNat) := by
  match i, h with
  | 0, _ | 1, _ | 2, _ => rfl
theorem KvR.si_ss_4 (s : KvR) (i : Nat) (h : i < 3) (v : UInt8) : s.cells.setIfInBounds (70 + i * 6) (.int .u8 v.toNat) = KvR.cells { s with ss := upd s.ss i ({ s.ss i with val := upd (s.ss i).val 1 v }) } := by
  match i, h with
  | 0, _ | 1, _ | 2, _ => rfl
theorem KvR.gi_ss_5 (s : KvR) (i : Nat) (h : i < 3) : s.cells[71 + i * 6]? = some (.int .u8 (((s.ss i).val 2)).toNat) := by
  match i, h with
  | 0, _ | 1, _ | 2, _ => rfl
theorem KvR.si_ss_5 (s : KvR) (i : Nat) (h : i < 3) (v : UInt8) : s.cells.setIfInBounds (71 + i * 6) (.int .u8 v.toNat) = KvR.cells { s with ss := upd s.ss i ({ s.ss i with val := upd (s.ss i).val 2 v }) } := by
  match i, h with
  | 0, _ | 1, _ | 2, _ => rfl
structure NodeR where
  sy : Value
  ks : Value
  id : Int
  applied : Int
  used : Nat → Bool
  seq : Nat → Int
  idx : Nat → Int
  reps : Nat → Reply
  nrep : Int
  w : Value
def NodeR.cells (s : NodeR) : Array Value := #[s.sy, s.ks, .int .i64 s.id, .int .i64 s.applied, .bool ((s.used 0)), .bool ((s.used 1)), .bool ((s.used 2)), .int .i64 ((s.seq 0)), .int .i64 ((s.seq 1)), .int .i64 ((s.seq 2)), .int .i64 ((s.idx 0)), .int .i64 ((s.idx 1)), .int .i64 ((s.idx 2)), .int .i64 ((s.reps 0).client), .int .i64 ((s.reps 0).seq), .int .i64 (((s.reps 0).ans).err), .string (ByteArray.mk (((s.reps 0).ans).val).toArray), .int .i64 ((s.reps 1).client), .int .i64 ((s.reps 1).seq), .int .i64 (((s.reps 1).ans).err), .string (ByteArray.mk (((s.reps 1).ans).val).toArray), .int .i64 ((s.reps 2).client), .int .i64 ((s.reps 2).seq), .int .i64 (((s.reps 2).ans).err), .string (ByteArray.mk (((s.reps 2).ans).val).toArray), .int .i64 s.nrep, s.w]
theorem NodeR.g0 (s : NodeR) : s.cells[0]? = some (s.sy) := rfl
theorem NodeR.s0 (s : NodeR) (v : Value) : s.cells.setIfInBounds 0 (v) = NodeR.cells { s with sy := v } := rfl
theorem NodeR.g1 (s : NodeR) : s.cells[1]? = some (s.ks) := rfl
theorem NodeR.s1 (s : NodeR) (v : Value) : s.cells.setIfInBounds 1 (v) = NodeR.cells { s with ks := v } := rfl
theorem NodeR.g2 (s : NodeR) : s.cells[2]? = some (.int .i64 s.id) := rfl
theorem NodeR.s2 (s : NodeR) (v : Int) : s.cells.setIfInBounds 2 (.int .i64 v) = NodeR.cells { s with id := v } := rfl
theorem NodeR.g3 (s : NodeR) : s.cells[3]? = some (.int .i64 s.applied) := rfl
theorem NodeR.s3 (s : NodeR) (v : Int) : s.cells.setIfInBounds 3 (.int .i64 v) = NodeR.cells { s with applied := v } := rfl
theorem NodeR.g4 (s : NodeR) : s.cells[4]? = some (.bool ((s.used 0))) := rfl
theorem NodeR.s4 (s : NodeR) (v : Bool) : s.cells.setIfInBounds 4 (.bool v) = NodeR.cells { s with used := upd s.used 0 v } := rfl
theorem NodeR.g5 (s : NodeR) : s.cells[5]? = some (.bool ((s.used 1))) := rfl
theorem NodeR.s5 (s : NodeR) (v : Bool) : s.cells.setIfInBounds 5 (.bool v) = NodeR.cells { s with used := upd s.used 1 v } := rfl
theorem NodeR.g6 (s : NodeR) : s.cells[6]? = some (.bool ((s.used 2))) := rfl
theorem NodeR.s6 (s : NodeR) (v : Bool) : s.cells.setIfInBounds 6 (.bool v) = NodeR.cells { s with used := upd s.used 2 v } := rfl
theorem NodeR.g7 (s : NodeR) : s.cells[7]? = some (.int .i64 ((s.seq 0))) := rfl
theorem NodeR.s7 (s : NodeR) (v : Int) : s.cells.setIfInBounds 7 (.int .i64 v) = NodeR.cells { s with seq := upd s.seq 0 v } := rfl
theorem NodeR.g8 (s : NodeR) : s.cells[8]? = some (.int .i64 ((s.seq 1))) := rfl
theorem NodeR.s8 (s : NodeR) (v : Int) : s.cells.setIfInBounds 8 (.int .i64 v) = NodeR.cells { s with seq := upd s.seq 1 v } := rfl
theorem NodeR.g9 (s : NodeR) : s.cells[9]? = some (.int .i64 ((s.seq 2))) := rfl
theorem NodeR.s9 (s : NodeR) (v : Int) : s.cells.setIfInBounds 9 (.int .i64 v) = NodeR.cells { s with seq := upd s.seq 2 v } := rfl
theorem NodeR.g10 (s : NodeR) : s.cells[10]? = some (.int .i64 ((s.idx 0))) := rfl
theorem NodeR.s10 (s : NodeR) (v : Int) : s.cells.setIfInBounds 10 (.int .i64 v) = NodeR.cells { s with idx := upd s.idx 0 v } := rfl
theorem NodeR.g11 (s : NodeR) : s.cells[11]? = some (.int .i64 ((s.idx 1))) := rfl
theorem NodeR.s11 (s : NodeR) (v : Int) : s.cells.setIfInBounds 11 (.int .i64 v) = NodeR.cells { s with idx := upd s.idx 1 v } := rfl
theorem NodeR.g12 (s : NodeR) : s.cells[12]? = some (.int .i64 ((s.idx 2))) := rfl
theorem NodeR.s12 (s : NodeR) (v : Int) : s.cells.setIfInBounds 12 (.int .i64 v) = NodeR.cells { s with idx := upd s.idx 2 v } := rfl
theorem NodeR.g13 (s : NodeR) : s.cells[13]? = some (.int .i64 ((s.reps 0).client)) := rfl
theorem NodeR.s13 (s : NodeR) (v : Int) : s.cells.setIfInBounds 13 (.int .i64 v) = NodeR.cells { s with reps := upd s.reps 0 { s.reps 0 with client := v } } := rfl
theorem NodeR.g14 (s : NodeR) : s.cells[14]? = some (.int .i64 ((s.reps 0).seq)) := rfl
theorem NodeR.s14 (s : NodeR) (v : Int) : s.cells.setIfInBounds 14 (.int .i64 v) = NodeR.cells { s with reps := upd s.reps 0 { s.reps 0 with seq := v } } := rfl
theorem NodeR.g15 (s : NodeR) : s.cells[15]? = some (.int .i64 (((s.reps 0).ans).err)) := rfl
theorem NodeR.s15 (s : NodeR) (v : Int) : s.cells.setIfInBounds 15 (.int .i64 v) = NodeR.cells { s with reps := upd s.reps 0 { s.reps 0 with ans := { (s.reps 0).ans with err := v } } } := rfl
theorem NodeR.g16 (s : NodeR) : s.cells[16]? = some (.string (ByteArray.mk (((s.reps 0).ans).val).toArray)) := rfl
theorem NodeR.s16 (s : NodeR) (v : Bs) : s.cells.setIfInBounds 16 (.string (ByteArray.mk v.toArray)) = NodeR.cells { s with reps := upd s.reps 0 { s.reps 0 with ans := { (s.reps 0).ans with val := v } } } := rfl
theorem NodeR.g17 (s : NodeR) : s.cells[17]? = some (.int .i64 ((s.reps 1).client)) := rfl
theorem NodeR.s17 (s : NodeR) (v : Int) : s.cells.setIfInBounds 17 (.int .i64 v) = NodeR.cells { s with reps := upd s.reps 1 { s.reps 1 with client := v } } := rfl
theorem NodeR.g18 (s : NodeR) : s.cells[18]? = some (.int .i64 ((s.reps 1).seq)) := rfl
theorem NodeR.s18 (s : NodeR) (v : Int) : s.cells.setIfInBounds 18 (.int .i64 v) = NodeR.cells { s with reps := upd s.reps 1 { s.reps 1 with seq := v } } := rfl
theorem NodeR.g19 (s : NodeR) : s.cells[19]? = some (.int .i64 (((s.reps 1).ans).err)) := rfl
theorem NodeR.s19 (s : NodeR) (v : Int) : s.cells.setIfInBounds 19 (.int .i64 v) = NodeR.cells { s with reps := upd s.reps 1 { s.reps 1 with ans := { (s.reps 1).ans with err := v } } } := rfl
theorem NodeR.g20 (s : NodeR) : s.cells[20]? = some (.string (ByteArray.mk (((s.reps 1).ans).val).toArray)) := rfl
theorem NodeR.s20 (s : NodeR) (v : Bs) : s.cells.setIfInBounds 20 (.string (ByteArray.mk v.toArray)) = NodeR.cells { s with reps := upd s.reps 1 { s.reps 1 with ans := { (s.reps 1).ans with val := v } } } := rfl
theorem NodeR.g21 (s : NodeR) : s.cells[21]? = some (.int .i64 ((s.reps 2).client)) := rfl
theorem NodeR.s21 (s : NodeR) (v : Int) : s.cells.setIfInBounds 21 (.int .i64 v) = NodeR.cells { s with reps := upd s.reps 2 { s.reps 2 with client := v } } := rfl
theorem NodeR.g22 (s : NodeR) : s.cells[22]? = some (.int .i64 ((s.reps 2).seq)) := rfl
theorem NodeR.s22 (s : NodeR) (v : Int) : s.cells.setIfInBounds 22 (.int .i64 v) = NodeR.cells { s with reps := upd s.reps 2 { s.reps 2 with seq := v } } := rfl
theorem NodeR.g23 (s : NodeR) : s.cells[23]? = some (.int .i64 (((s.reps 2).ans).err)) := rfl
theorem NodeR.s23 (s : NodeR) (v : Int) : s.cells.setIfInBounds 23 (.int .i64 v) = NodeR.cells { s with reps := upd s.reps 2 { s.reps 2 with ans := { (s.reps 2).ans with err := v } } } := rfl
theorem NodeR.g24 (s : NodeR) : s.cells[24]? = some (.string (ByteArray.mk (((s.reps 2).ans).val).toArray)) := rfl
theorem NodeR.s24 (s : NodeR) (v : Bs) : s.cells.setIfInBounds 24 (.string (ByteArray.mk v.toArray)) = NodeR.cells { s with reps := upd s.reps 2 { s.reps 2 with ans := { (s.reps 2).ans with val := v } } } := rfl
theorem NodeR.g25 (s : NodeR) : s.cells[25]? = some (.int .i64 s.nrep) := rfl
theorem NodeR.s25 (s : NodeR) (v : Int) : s.cells.setIfInBounds 25 (.int .i64 v) = NodeR.cells { s with nrep := v } := rfl
theorem NodeR.g26 (s : NodeR) : s.cells[26]? = some (s.w) := rfl
theorem NodeR.s26 (s : NodeR) (v : Value) : s.cells.setIfInBounds 26 (v) = NodeR.cells { s with w := v } := rfl
theorem NodeR.gi_used_0 (s : NodeR) (i : Nat) (h : i < 3) : s.cells[4 + i]? = some (.bool ((s.used i))) := by
  match i, h with
  | 0, _ | 1, _ | 2, _ => rfl
theorem NodeR.si_used_0 (s : NodeR) (i : Nat) (h : i < 3) (v : Bool) : s.cells.setIfInBounds (4 + i) (.bool v) = NodeR.cells { s with used := upd s.used i v } := by
  match i, h with
  | 0, _ | 1, _ | 2, _ => rfl
theorem NodeR.gi_seq_0 (s : NodeR) (i : Nat) (h : i < 3) : s.cells[7 + i]? = some (.int .i64 ((s.seq i))) := by
  match i, h with
  | 0, _ | 1, _ | 2, _ => rfl
theorem NodeR.si_seq_0 (s : NodeR) (i : Nat) (h : i < 3) (v : Int) : s.cells.setIfInBounds (7 + i) (.int .i64 v) = NodeR.cells { s with seq := upd s.seq i v } := by
  match i, h with
  | 0, _ | 1, _ | 2, _ => rfl
theorem NodeR.gi_idx_0 (s : NodeR) (i : Nat) (h : i < 3) : s.cells[10 + i]? = some (.int .i64 ((s.idx i))) := by
  match i, h with
  | 0, _ | 1, _ | 2, _ => rfl
theorem NodeR.si_idx_0 (s : NodeR) (i : Nat) (h : i < 3) (v : Int) : s.cells.setIfInBounds (10 + i) (.int .i64 v) = NodeR.cells { s with idx := upd s.idx i v } := by
  match i, h with
  | 0, _ | 1, _ | 2, _ => rfl
theorem NodeR.gi_reps_0 (s : NodeR) (i : Nat) (h : i < 3) : s.cells[13 + i * 4]? = some (.int .i64 ((s.reps i).client)) := by
  match i, h with
  | 0, _ | 1, _ | 2, _ => rfl
theorem NodeR.si_reps_0 (s : NodeR) (i : Nat) (h : i < 3) (v : Int) : s.cells.setIfInBounds (13 + i * 4) (.int .i64 v) = NodeR.cells { s with reps := upd s.reps i ({ s.reps i with client := v }) } := by
  match i, h with
  | 0, _ | 1, _ | 2, _ => rfl
theorem NodeR.gi_reps_1 (s : NodeR) (i : Nat) (h : i < 3) : s.cells[14 + i * 4]? = some (.int .i64 ((s.reps i).seq)) := by
  match i, h with
  | 0, _ | 1, _ | 2, _ => rfl
theorem NodeR.si_reps_1 (s : NodeR) (i : Nat) (h : i < 3) (v : Int) : s.cells.setIfInBounds (14 + i * 4) (.int .i64 v) = NodeR.cells { s with reps := upd s.reps i ({ s.reps i with seq := v }) } := by
  match i, h with
  | 0, _ | 1, _ | 2, _ => rfl
theorem NodeR.gi_reps_2 (s : NodeR) (i : Nat) (h : i < 3) : s.cells[15 + i * 4]? = some (.int .i64 (((s.reps i).ans).err)) := by
  match i, h with
  | 0, _ | 1, _ | 2, _ => rfl
theorem NodeR.si_reps_2 (s : NodeR) (i : Nat) (h : i < 3) (v : Int) : s.cells.setIfInBounds (15 + i * 4) (.int .i64 v) = NodeR.cells { s with reps := upd s.reps i ({ s.reps i with ans := { (s.reps i).ans with err := v } }) } := by
  match i, h with
  | 0, _ | 1, _ | 2, _ => rfl
theorem NodeR.gi_reps_3 (s : NodeR) (i : Nat) (h : i < 3) : s.cells[16 + i * 4]? = some (.string (ByteArray.mk (((s.reps i).ans).val).toArray)) := by
  match i, h with
  | 0, _ | 1, _ | 2, _ => rfl
theorem NodeR.si_reps_3 (s : NodeR) (i : Nat) (h : i < 3) (v : Bs) : s.cells.setIfInBounds (16 + i * 4) (.string (ByteArray.mk v.toArray)) = NodeR.cells { s with reps := upd s.reps i ({ s.reps i with ans := { (s.reps i).ans with val := v } }) } := by
  match i, h with
  | 0, _ | 1, _ | 2, _ => rfl
structure LogM where
  s : Value
  mark : Value
  hist : Value
def LogM.cells (s : LogM) : Array Value := #[s.s, s.mark, s.hist]
theorem LogM.g0 (s : LogM) : s.cells[0]? = some (s.s) := rfl
theorem LogM.s0 (s : LogM) (v : Value) : s.cells.setIfInBounds 0 (v) = LogM.cells { s with s := v } := rfl
theorem LogM.g1 (s : LogM) : s.cells[1]? = some (s.mark) := rfl
theorem LogM.s1 (s : LogM) (v : Value) : s.cells.setIfInBounds 1 (v) = LogM.cells { s with mark := v } := rfl
theorem LogM.g2 (s : LogM) : s.cells[2]? = some (s.hist) := rfl
theorem LogM.s2 (s : LogM) (v : Value) : s.cells.setIfInBounds 2 (v) = LogM.cells { s with hist := v } := rfl
structure StateM where
  term : Int
  vote : Int
  base : Int
  baseTerm : Int
  snap : Bs
  n : Int
  ents : Nat → Entry
def StateM.cells (s : StateM) : Array Value := #[.int .i64 s.term, .int .i64 s.vote, .int .i64 s.base, .int .i64 s.baseTerm, .string (ByteArray.mk s.snap.toArray), .int .i64 s.n, .int .i64 ((s.ents 0).term), .string (ByteArray.mk ((s.ents 0).data).toArray), .int .i64 ((s.ents 1).term), .string (ByteArray.mk ((s.ents 1).data).toArray), .int .i64 ((s.ents 2).term), .string (ByteArray.mk ((s.ents 2).data).toArray), .int .i64 ((s.ents 3).term), .string (ByteArray.mk ((s.ents 3).data).toArray), .int .i64 ((s.ents 4).term), .string (ByteArray.mk ((s.ents 4).data).toArray), .int .i64 ((s.ents 5).term), .string (ByteArray.mk ((s.ents 5).data).toArray)]
theorem StateM.g0 (s : StateM) : s.cells[0]? = some (.int .i64 s.term) := rfl
theorem StateM.s0 (s : StateM) (v : Int) : s.cells.setIfInBounds 0 (.int .i64 v) = StateM.cells { s with term := v } := rfl
theorem StateM.g1 (s : StateM) : s.cells[1]? = some (.int .i64 s.vote) := rfl
theorem StateM.s1 (s : StateM) (v : Int) : s.cells.setIfInBounds 1 (.int .i64 v) = StateM.cells { s with vote := v } := rfl
theorem StateM.g2 (s : StateM) : s.cells[2]? = some (.int .i64 s.base) := rfl
theorem StateM.s2 (s : StateM) (v : Int) : s.cells.setIfInBounds 2 (.int .i64 v) = StateM.cells { s with base := v } := rfl
theorem StateM.g3 (s : StateM) : s.cells[3]? = some (.int .i64 s.baseTerm) := rfl
theorem StateM.s3 (s : StateM) (v : Int) : s.cells.setIfInBounds 3 (.int .i64 v) = StateM.cells { s with baseTerm := v } := rfl
theorem StateM.g4 (s : StateM) : s.cells[4]? = some (.string (ByteArray.mk s.snap.toArray)) := rfl
theorem StateM.s4 (s : StateM) (v : Bs) : s.cells.setIfInBounds 4 (.string (ByteArray.mk v.toArray)) = StateM.cells { s with snap := v } := rfl
theorem StateM.g5 (s : StateM) : s.cells[5]? = some (.int .i64 s.n) := rfl
theorem StateM.s5 (s : StateM) (v : Int) : s.cells.setIfInBounds 5 (.int .i64 v) = StateM.cells { s with n := v } := rfl
theorem StateM.g6 (s : StateM) : s.cells[6]? = some (.int .i64 ((s.ents 0).term)) := rfl
theorem StateM.s6 (s : StateM) (v : Int) : s.cells.setIfInBounds 6 (.int .i64 v) = StateM.cells { s with ents := upd s.ents 0 { s.ents 0 with term := v } } := rfl
theorem StateM.g7 (s : StateM) : s.cells[7]? = some (.string (ByteArray.mk ((s.ents 0).data).toArray)) := rfl
theorem StateM.s7 (s : StateM) (v : Bs) : s.cells.setIfInBounds 7 (.string (ByteArray.mk v.toArray)) = StateM.cells { s with ents := upd s.ents 0 { s.ents 0 with data := v } } := rfl
theorem StateM.g8 (s : StateM) : s.cells[8]? = some (.int .i64 ((s.ents 1).term)) := rfl
theorem StateM.s8 (s : StateM) (v : Int) : s.cells.setIfInBounds 8 (.int .i64 v) = StateM.cells { s with ents := upd s.ents 1 { s.ents 1 with term := v } } := rfl
theorem StateM.g9 (s : StateM) : s.cells[9]? = some (.string (ByteArray.mk ((s.ents 1).data).toArray)) := rfl
theorem StateM.s9 (s : StateM) (v : Bs) : s.cells.setIfInBounds 9 (.string (ByteArray.mk v.toArray)) = StateM.cells { s with ents := upd s.ents 1 { s.ents 1 with data := v } } := rfl
theorem StateM.g10 (s : StateM) : s.cells[10]? = some (.int .i64 ((s.ents 2).term)) := rfl
theorem StateM.s10 (s : StateM) (v : Int) : s.cells.setIfInBounds 10 (.int .i64 v) = StateM.cells { s with ents := upd s.ents 2 { s.ents 2 with term := v } } := rfl
theorem StateM.g11 (s : StateM) : s.cells[11]? = some (.string (ByteArray.mk ((s.ents 2).data).toArray)) := rfl
theorem StateM.s11 (s : StateM) (v : Bs) : s.cells.setIfInBounds 11 (.string (ByteArray.mk v.toArray)) = StateM.cells { s with ents := upd s.ents 2 { s.ents 2 with data := v } } := rfl
theorem StateM.g12 (s : StateM) : s.cells[12]? = some (.int .i64 ((s.ents 3).term)) := rfl
theorem StateM.s12 (s : StateM) (v : Int) : s.cells.setIfInBounds 12 (.int .i64 v) = StateM.cells { s with ents := upd s.ents 3 { s.ents 3 with term := v } } := rfl
theorem StateM.g13 (s : StateM) : s.cells[13]? = some (.string (ByteArray.mk ((s.ents 3).data).toArray)) := rfl
theorem StateM.s13 (s : StateM) (v : Bs) : s.cells.setIfInBounds 13 (.string (ByteArray.mk v.toArray)) = StateM.cells { s with ents := upd s.ents 3 { s.ents 3 with data := v } } := rfl
theorem StateM.g14 (s : StateM) : s.cells[14]? = some (.int .i64 ((s.ents 4).term)) := rfl
theorem StateM.s14 (s : StateM) (v : Int) : s.cells.setIfInBounds 14 (.int .i64 v) = StateM.cells { s with ents := upd s.ents 4 { s.ents 4 with term := v } } := rfl
theorem StateM.g15 (s : StateM) : s.cells[15]? = some (.string (ByteArray.mk ((s.ents 4).data).toArray)) := rfl
theorem StateM.s15 (s : StateM) (v : Bs) : s.cells.setIfInBounds 15 (.string (ByteArray.mk v.toArray)) = StateM.cells { s with ents := upd s.ents 4 { s.ents 4 with data := v } } := rfl
theorem StateM.g16 (s : StateM) : s.cells[16]? = some (.int .i64 ((s.ents 5).term)) := rfl
theorem StateM.s16 (s : StateM) (v : Int) : s.cells.setIfInBounds 16 (.int .i64 v) = StateM.cells { s with ents := upd s.ents 5 { s.ents 5 with term := v } } := rfl
theorem StateM.g17 (s : StateM) : s.cells[17]? = some (.string (ByteArray.mk ((s.ents 5).data).toArray)) := rfl
theorem StateM.s17 (s : StateM) (v : Bs) : s.cells.setIfInBounds 17 (.string (ByteArray.mk v.toArray)) = StateM.cells { s with ents := upd s.ents 5 { s.ents 5 with data := v } } := rfl
theorem StateM.gi_ents_0 (s : StateM) (i : Nat) (h : i < 6) : s.cells[6 + i * 2]? = some (.int .i64 ((s.ents i).term)) := by
  match i, h with
  | 0, _ | 1, _ | 2, _ | 3, _ | 4, _ | 5, _ => rfl
theorem StateM.si_ents_0 (s : StateM) (i : Nat) (h : i < 6) (v : Int) : s.cells.setIfInBounds (6 + i * 2) (.int .i64 v) = StateM.cells { s with ents := upd s.ents i ({ s.ents i with term := v }) } := by
  match i, h with
  | 0, _ | 1, _ | 2, _ | 3, _ | 4, _ | 5, _ => rfl
theorem StateM.gi_ents_1 (s : StateM) (i : Nat) (h : i < 6) : s.cells[7 + i * 2]? = some (.string (ByteArray.mk ((s.ents i).data).toArray)) := by
  match i, h with
  | 0, _ | 1, _ | 2, _ | 3, _ | 4, _ | 5, _ => rfl
theorem StateM.si_ents_1 (s : StateM) (i : Nat) (h : i < 6) (v : Bs) : s.cells.setIfInBounds (7 + i * 2) (.string (ByteArray.mk v.toArray)) = StateM.cells { s with ents := upd s.ents i ({ s.ents i with data := v }) } := by
  match i, h with
  | 0, _ | 1, _ | 2, _ | 3, _ | 4, _ | 5, _ => rfl
structure SyncM where
  lg : Value
  el : Value
  commit : Int
  next : Nat → Int
  mtch : Nat → Int
def SyncM.cells (s : SyncM) : Array Value := #[s.lg, s.el, .int .i64 s.commit, .int .i64 ((s.next 0)), .int .i64 ((s.next 1)), .int .i64 ((s.next 2)), .int .i64 ((s.mtch 0)), .int .i64 ((s.mtch 1)), .int .i64 ((s.mtch 2))]
theorem SyncM.g0 (s : SyncM) : s.cells[0]? = some (s.lg) := rfl
theorem SyncM.s0 (s : SyncM) (v : Value) : s.cells.setIfInBounds 0 (v) = SyncM.cells { s with lg := v } := rfl
theorem SyncM.g1 (s : SyncM) : s.cells[1]? = some (s.el) := rfl
theorem SyncM.s1 (s : SyncM) (v : Value) : s.cells.setIfInBounds 1 (v) = SyncM.cells { s with el := v } := rfl
theorem SyncM.g2 (s : SyncM) : s.cells[2]? = some (.int .i64 s.commit) := rfl
theorem SyncM.s2 (s : SyncM) (v : Int) : s.cells.setIfInBounds 2 (.int .i64 v) = SyncM.cells { s with commit := v } := rfl
theorem SyncM.g3 (s : SyncM) : s.cells[3]? = some (.int .i64 ((s.next 0))) := rfl
theorem SyncM.s3 (s : SyncM) (v : Int) : s.cells.setIfInBounds 3 (.int .i64 v) = SyncM.cells { s with next := upd s.next 0 v } := rfl
theorem SyncM.g4 (s : SyncM) : s.cells[4]? = some (.int .i64 ((s.next 1))) := rfl
theorem SyncM.s4 (s : SyncM) (v : Int) : s.cells.setIfInBounds 4 (.int .i64 v) = SyncM.cells { s with next := upd s.next 1 v } := rfl
theorem SyncM.g5 (s : SyncM) : s.cells[5]? = some (.int .i64 ((s.next 2))) := rfl
theorem SyncM.s5 (s : SyncM) (v : Int) : s.cells.setIfInBounds 5 (.int .i64 v) = SyncM.cells { s with next := upd s.next 2 v } := rfl
theorem SyncM.g6 (s : SyncM) : s.cells[6]? = some (.int .i64 ((s.mtch 0))) := rfl
theorem SyncM.s6 (s : SyncM) (v : Int) : s.cells.setIfInBounds 6 (.int .i64 v) = SyncM.cells { s with mtch := upd s.mtch 0 v } := rfl
theorem SyncM.g7 (s : SyncM) : s.cells[7]? = some (.int .i64 ((s.mtch 1))) := rfl
theorem SyncM.s7 (s : SyncM) (v : Int) : s.cells.setIfInBounds 7 (.int .i64 v) = SyncM.cells { s with mtch := upd s.mtch 1 v } := rfl
theorem SyncM.g8 (s : SyncM) : s.cells[8]? = some (.int .i64 ((s.mtch 2))) := rfl
theorem SyncM.s8 (s : SyncM) (v : Int) : s.cells.setIfInBounds 8 (.int .i64 v) = SyncM.cells { s with mtch := upd s.mtch 2 v } := rfl
theorem SyncM.gi_next_0 (s : SyncM) (i : Nat) (h : i < 3) : s.cells[3 + i]? = some (.int .i64 ((s.next i))) := by
  match i, h with
  | 0, _ | 1, _ | 2, _ => rfl
theorem SyncM.si_next_0 (s : SyncM) (i : Nat) (h : i < 3) (v : Int) : s.cells.setIfInBounds (3 + i) (.int .i64 v) = SyncM.cells { s with next := upd s.next i v } := by
  match i, h with
  | 0, _ | 1, _ | 2, _ => rfl
theorem SyncM.gi_mtch_0 (s : SyncM) (i : Nat) (h : i < 3) : s.cells[6 + i]? = some (.int .i64 ((s.mtch i))) := by
  match i, h with
  | 0, _ | 1, _ | 2, _ => rfl
theorem SyncM.si_mtch_0 (s : SyncM) (i : Nat) (h : i < 3) (v : Int) : s.cells.setIfInBounds (6 + i) (.int .i64 v) = SyncM.cells { s with mtch := upd s.mtch i v } := by
  match i, h with
  | 0, _ | 1, _ | 2, _ => rfl
structure KvM where
  n : Int
  keys : Nat → Bs
  vals : Nat → Bs
  seq : Nat → Int
  ans : Nat → Ans
def KvM.cells (s : KvM) : Array Value := #[.int .i64 s.n, .string (ByteArray.mk ((s.keys 0)).toArray), .string (ByteArray.mk ((s.keys 1)).toArray), .string (ByteArray.mk ((s.keys 2)).toArray), .string (ByteArray.mk ((s.keys 3)).toArray), .string (ByteArray.mk ((s.vals 0)).toArray), .string (ByteArray.mk ((s.vals 1)).toArray), .string (ByteArray.mk ((s.vals 2)).toArray), .string (ByteArray.mk ((s.vals 3)).toArray), .int .i64 ((s.seq 0)), .int .i64 ((s.seq 1)), .int .i64 ((s.seq 2)), .int .i64 ((s.ans 0).err), .string (ByteArray.mk ((s.ans 0).val).toArray), .int .i64 ((s.ans 1).err), .string (ByteArray.mk ((s.ans 1).val).toArray), .int .i64 ((s.ans 2).err), .string (ByteArray.mk ((s.ans 2).val).toArray)]
theorem KvM.g0 (s : KvM) : s.cells[0]? = some (.int .i64 s.n) := rfl
theorem KvM.s0 (s : KvM) (v : Int) : s.cells.setIfInBounds 0 (.int .i64 v) = KvM.cells { s with n := v } := rfl
theorem KvM.g1 (s : KvM) : s.cells[1]? = some (.string (ByteArray.mk ((s.keys 0)).toArray)) := rfl
theorem KvM.s1 (s : KvM) (v : Bs) : s.cells.setIfInBounds 1 (.string (ByteArray.mk v.toArray)) = KvM.cells { s with keys := upd s.keys 0 v } := rfl
theorem KvM.g2 (s : KvM) : s.cells[2]? = some (.string (ByteArray.mk ((s.keys 1)).toArray)) := rfl
theorem KvM.s2 (s : KvM) (v : Bs) : s.cells.setIfInBounds 2 (.string (ByteArray.mk v.toArray)) = KvM.cells { s with keys := upd s.keys 1 v } := rfl
theorem KvM.g3 (s : KvM) : s.cells[3]? = some (.string (ByteArray.mk ((s.keys 2)).toArray)) := rfl
theorem KvM.s3 (s : KvM) (v : Bs) : s.cells.setIfInBounds 3 (.string (ByteArray.mk v.toArray)) = KvM.cells { s with keys := upd s.keys 2 v } := rfl
theorem KvM.g4 (s : KvM) : s.cells[4]? = some (.string (ByteArray.mk ((s.keys 3)).toArray)) := rfl
theorem KvM.s4 (s : KvM) (v : Bs) : s.cells.setIfInBounds 4 (.string (ByteArray.mk v.toArray)) = KvM.cells { s with keys := upd s.keys 3 v } := rfl
theorem KvM.g5 (s : KvM) : s.cells[5]? = some (.string (ByteArray.mk ((s.vals 0)).toArray)) := rfl
theorem KvM.s5 (s : KvM) (v : Bs) : s.cells.setIfInBounds 5 (.string (ByteArray.mk v.toArray)) = KvM.cells { s with vals := upd s.vals 0 v } := rfl
theorem KvM.g6 (s : KvM) : s.cells[6]? = some (.string (ByteArray.mk ((s.vals 1)).toArray)) := rfl
theorem KvM.s6 (s : KvM) (v : Bs) : s.cells.setIfInBounds 6 (.string (ByteArray.mk v.toArray)) = KvM.cells { s with vals := upd s.vals 1 v } := rfl
theorem KvM.g7 (s : KvM) : s.cells[7]? = some (.string (ByteArray.mk ((s.vals 2)).toArray)) := rfl
theorem KvM.s7 (s : KvM) (v : Bs) : s.cells.setIfInBounds 7 (.string (ByteArray.mk v.toArray)) = KvM.cells { s with vals := upd s.vals 2 v } := rfl
theorem KvM.g8 (s : KvM) : s.cells[8]? = some (.string (ByteArray.mk ((s.vals 3)).toArray)) := rfl
theorem KvM.s8 (s : KvM) (v : Bs) : s.cells.setIfInBounds 8 (.string (ByteArray.mk v.toArray)) = KvM.cells { s with vals := upd s.vals 3 v } := rfl
theorem KvM.g9 (s : KvM) : s.cells[9]? = some (.int .i64 ((s.seq 0))) := rfl
theorem KvM.s9 (s : KvM) (v : Int) : s.cells.setIfInBounds 9 (.int .i64 v) = KvM.cells { s with seq := upd s.seq 0 v } := rfl
theorem KvM.g10 (s : KvM) : s.cells[10]? = some (.int .i64 ((s.seq 1))) := rfl
theorem KvM.s10 (s : KvM) (v : Int) : s.cells.setIfInBounds 10 (.int .i64 v) = KvM.cells { s with seq := upd s.seq 1 v } := rfl
theorem KvM.g11 (s : KvM) : s.cells[11]? = some (.int .i64 ((s.seq 2))) := rfl
theorem KvM.s11 (s : KvM) (v : Int) : s.cells.setIfInBounds 11 (.int .i64 v) = KvM.cells { s with seq := upd s.seq 2 v } := rfl
theorem KvM.g12 (s : KvM) : s.cells[12]? = some (.int .i64 ((s.ans 0).err)) := rfl
theorem KvM.s12 (s : KvM) (v : Int) : s.cells.setIfInBounds 12 (.int .i64 v) = KvM.cells { s with ans := upd s.ans 0 { s.ans 0 with err := v } } := rfl
theorem KvM.g13 (s : KvM) : s.cells[13]? = some (.string (ByteArray.mk ((s.ans 0).val).toArray)) := rfl
theorem KvM.s13 (s : KvM) (v : Bs) : s.cells.setIfInBounds 13 (.string (ByteArray.mk v.toArray)) = KvM.cells { s with ans := upd s.ans 0 { s.ans 0 with val := v } } := rfl
theorem KvM.g14 (s : KvM) : s.cells[14]? = some (.int .i64 ((s.ans 1).err)) := rfl
theorem KvM.s14 (s : KvM) (v : Int) : s.cells.setIfInBounds 14 (.int .i64 v) = KvM.cells { s with ans := upd s.ans 1 { s.ans 1 with err := v } } := rfl
theorem KvM.g15 (s : KvM) : s.cells[15]? = some (.string (ByteArray.mk ((s.ans 1).val).toArray)) := rfl
theorem KvM.s15 (s : KvM) (v : Bs) : s.cells.setIfInBounds 15 (.string (ByteArray.mk v.toArray)) = KvM.cells { s with ans := upd s.ans 1 { s.ans 1 with val := v } } := rfl
theorem KvM.g16 (s : KvM) : s.cells[16]? = some (.int .i64 ((s.ans 2).err)) := rfl
theorem KvM.s16 (s : KvM) (v : Int) : s.cells.setIfInBounds 16 (.int .i64 v) = KvM.cells { s with ans := upd s.ans 2 { s.ans 2 with err := v } } := rfl
theorem KvM.g17 (s : KvM) : s.cells[17]? = some (.string (ByteArray.mk ((s.ans 2).val).toArray)) := rfl
theorem KvM.s17 (s : KvM) (v : Bs) : s.cells.setIfInBounds 17 (.string (ByteArray.mk v.toArray)) = KvM.cells { s with ans := upd s.ans 2 { s.ans 2 with val := v } } := rfl
theorem KvM.gi_keys_0 (s : KvM) (i : Nat) (h : i < 4) : s.cells[1 + i]? = some (.string (ByteArray.mk ((s.keys i)).toArray)) := by
  match i, h with
  | 0, _ | 1, _ | 2, _ | 3, _ => rfl
theorem KvM.si_keys_0 (s : KvM) (i : Nat) (h : i < 4) (v : Bs) : s.cells.setIfInBounds (1 + i) (.string (ByteArray.mk v.toArray)) = KvM.cells { s with keys := upd s.keys i v } := by
  match i, h with
  | 0, _ | 1, _ | 2, _ | 3, _ => rfl
theorem KvM.gi_vals_0 (s : KvM) (i : Nat) (h : i < 4) : s.cells[5 + i]? = some (.string (ByteArray.mk ((s.vals i)).toArray)) := by
  match i, h with
  | 0, _ | 1, _ | 2, _ | 3, _ => rfl
theorem KvM.si_vals_0 (s : KvM) (i : Nat) (h : i < 4) (v : Bs) : s.cells.setIfInBounds (5 + i) (.string (ByteArray.mk v.toArray)) = KvM.cells { s with vals := upd s.vals i v } := by
  match i, h with
  | 0, _ | 1, _ | 2, _ | 3, _ => rfl
theorem KvM.gi_seq_0 (s : KvM) (i : Nat) (h : i < 3) : s.cells[9 + i]? = some (.int .i64 ((s.seq i))) := by
  match i, h with
  | 0, _ | 1, _ | 2, _ => rfl
theorem KvM.si_seq_0 (s : KvM) (i : Nat) (h : i < 3) (v : Int) : s.cells.setIfInBounds (9 + i) (.int .i64 v) = KvM.cells { s with seq := upd s.seq i v } := by
  match i, h with
  | 0, _ | 1, _ | 2, _ => rfl
theorem KvM.gi_ans_0 (s : KvM) (i : Nat) (h : i < 3) : s.cells[12 + i * 2]? = some (.int .i64 ((s.ans i).err)) := by
  match i, h with
  | 0, _ | 1, _ | 2, _ => rfl
theorem KvM.si_ans_0 (s : KvM) (i : Nat) (h : i < 3) (v : Int) : s.cells.setIfInBounds (12 + i * 2) (.int .i64 v) = KvM.cells { s with ans := upd s.ans i ({ s.ans i with err := v }) } := by
  match i, h with
  | 0, _ | 1, _ | 2, _ => rfl
theorem KvM.gi_ans_1 (s : KvM) (i : Nat) (h : i < 3) : s.cells[13 + i * 2]? = some (.string (ByteArray.mk ((s.ans i).val).toArray)) := by
  match i, h with
  | 0, _ | 1, _ | 2, _ => rfl
theorem KvM.si_ans_1 (s : KvM) (i : Nat) (h : i < 3) (v : Bs) : s.cells.setIfInBounds (13 + i * 2) (.string (ByteArray.mk v.toArray)) = KvM.cells { s with ans := upd s.ans i ({ s.ans i with val := v }) } := by
  match i, h with
  | 0, _ | 1, _ | 2, _ => rfl
structure NodeM where
  sy : Value
  kv : Value
  applied : Int
  used : Nat → Bool
  seq : Nat → Int
  idx : Nat → Int
def NodeM.cells (s : NodeM) : Array Value := #[s.sy, s.kv, .int .i64 s.applied, .bool ((s.used 0)), .bool ((s.used 1)), .bool ((s.used 2)), .int .i64 ((s.seq 0)), .int .i64 ((s.seq 1)), .int .i64 ((s.seq 2)), .int .i64 ((s.idx 0)), .int .i64 ((s.idx 1)), .int .i64 ((s.idx 2))]
theorem NodeM.g0 (s : NodeM) : s.cells[0]? = some (s.sy) := rfl
theorem NodeM.s0 (s : NodeM) (v : Value) : s.cells.setIfInBounds 0 (v) = NodeM.cells { s with sy := v } := rfl
theorem NodeM.g1 (s : NodeM) : s.cells[1]? = some (s.kv) := rfl
theorem NodeM.s1 (s : NodeM) (v : Value) : s.cells.setIfInBounds 1 (v) = NodeM.cells { s with kv := v } := rfl
theorem NodeM.g2 (s : NodeM) : s.cells[2]? = some (.int .i64 s.applied) := rfl
theorem NodeM.s2 (s : NodeM) (v : Int) : s.cells.setIfInBounds 2 (.int .i64 v) = NodeM.cells { s with applied := v } := rfl
theorem NodeM.g3 (s : NodeM) : s.cells[3]? = some (.bool ((s.used 0))) := rfl
theorem NodeM.s3 (s : NodeM) (v : Bool) : s.cells.setIfInBounds 3 (.bool v) = NodeM.cells { s with used := upd s.used 0 v } := rfl
theorem NodeM.g4 (s : NodeM) : s.cells[4]? = some (.bool ((s.used 1))) := rfl
theorem NodeM.s4 (s : NodeM) (v : Bool) : s.cells.setIfInBounds 4 (.bool v) = NodeM.cells { s with used := upd s.used 1 v } := rfl
theorem NodeM.g5 (s : NodeM) : s.cells[5]? = some (.bool ((s.used 2))) := rfl
theorem NodeM.s5 (s : NodeM) (v : Bool) : s.cells.setIfInBounds 5 (.bool v) = NodeM.cells { s with used := upd s.used 2 v } := rfl
theorem NodeM.g6 (s : NodeM) : s.cells[6]? = some (.int .i64 ((s.seq 0))) := rfl
theorem NodeM.s6 (s : NodeM) (v : Int) : s.cells.setIfInBounds 6 (.int .i64 v) = NodeM.cells { s with seq := upd s.seq 0 v } := rfl
theorem NodeM.g7 (s : NodeM) : s.cells[7]? = some (.int .i64 ((s.seq 1))) := rfl
theorem NodeM.s7 (s : NodeM) (v : Int) : s.cells.setIfInBounds 7 (.int .i64 v) = NodeM.cells { s with seq := upd s.seq 1 v } := rfl
theorem NodeM.g8 (s : NodeM) : s.cells[8]? = some (.int .i64 ((s.seq 2))) := rfl
theorem NodeM.s8 (s : NodeM) (v : Int) : s.cells.setIfInBounds 8 (.int .i64 v) = NodeM.cells { s with seq := upd s.seq 2 v } := rfl
theorem NodeM.g9 (s : NodeM) : s.cells[9]? = some (.int .i64 ((s.idx 0))) := rfl
theorem NodeM.s9 (s : NodeM) (v : Int) : s.cells.setIfInBounds 9 (.int .i64 v) = NodeM.cells { s with idx := upd s.idx 0 v } := rfl
theorem NodeM.g10 (s : NodeM) : s.cells[10]? = some (.int .i64 ((s.idx 1))) := rfl
theorem NodeM.s10 (s : NodeM) (v : Int) : s.cells.setIfInBounds 10 (.int .i64 v) = NodeM.cells { s with idx := upd s.idx 1 v } := rfl
theorem NodeM.g11 (s : NodeM) : s.cells[11]? = some (.int .i64 ((s.idx 2))) := rfl
theorem NodeM.s11 (s : NodeM) (v : Int) : s.cells.setIfInBounds 11 (.int .i64 v) = NodeM.cells { s with idx := upd s.idx 2 v } := rfl
theorem NodeM.gi_used_0 (s : NodeM) (i : Nat) (h : i < 3) : s.cells[3 + i]? = some (.bool ((s.used i))) := by
  match i, h with
  | 0, _ | 1, _ | 2, _ => rfl
theorem NodeM.si_used_0 (s : NodeM) (i : Nat) (h : i < 3) (v : Bool) : s.cells.setIfInBounds (3 + i) (.bool v) = NodeM.cells { s with used := upd s.used i v } := by
  match i, h with
  | 0, _ | 1, _ | 2, _ => rfl
theorem NodeM.gi_seq_0 (s : NodeM) (i : Nat) (h : i < 3) : s.cells[6 + i]? = some (.int .i64 ((s.seq i))) := by
  match i, h with
  | 0, _ | 1, _ | 2, _ => rfl
theorem NodeM.si_seq_0 (s : NodeM) (i : Nat) (h : i < 3) (v : Int) : s.cells.setIfInBounds (6 + i) (.int .i64 v) = NodeM.cells { s with seq := upd s.seq i v } := by
  match i, h with
  | 0, _ | 1, _ | 2, _ => rfl
theorem NodeM.gi_idx_0 (s : NodeM) (i : Nat) (h : i < 3) : s.cells[9 + i]? = some (.int .i64 ((s.idx i))) := by
  match i, h with
  | 0, _ | 1, _ | 2, _ => rfl
theorem NodeM.si_idx_0 (s : NodeM) (i : Nat) (h : i < 3) (v : Int) : s.cells.setIfInBounds (9 + i) (.int .i64 v) = NodeM.cells { s with idx := upd s.idx i v } := by
  match i, h with
  | 0, _ | 1, _ | 2, _ => rfl
structure SyncV where
  id : Int
  term : Int
  vote : Int
  role : Int
  leader : Int
  clock : Int
  got : Nat → Bool
  commit : Int
  base : Int
  baseTerm : Int
  last : Int
  snap : Bs
  next : Nat → Int
  mtch : Nat → Int
def SyncV.cells (s : SyncV) : Array Value := #[.int .i64 s.id, .int .i64 s.term, .int .i64 s.vote, .int .i64 s.role, .int .i64 s.leader, .int .i64 s.clock, .bool ((s.got 0)), .bool ((s.got 1)), .bool ((s.got 2)), .int .i64 s.commit, .int .i64 s.base, .int .i64 s.baseTerm, .int .i64 s.last, .string (ByteArray.mk s.snap.toArray), .int .i64 ((s.next 0)), .int .i64 ((s.next 1)), .int .i64 ((s.next 2)), .int .i64 ((s.mtch 0)), .int .i64 ((s.mtch 1)), .int .i64 ((s.mtch 2))]
theorem SyncV.g0 (s : SyncV) : s.cells[0]? = some (.int .i64 s.id) := rfl
theorem SyncV.s0 (s : SyncV) (v : Int) : s.cells.setIfInBounds 0 (.int .i64 v) = SyncV.cells { s with id := v } := rfl
theorem SyncV.g1 (s : SyncV) : s.cells[1]? = some (.int .i64 s.term) := rfl
theorem SyncV.s1 (s : SyncV) (v : Int) : s.cells.setIfInBounds 1 (.int .i64 v) = SyncV.cells { s with term := v } := rfl
theorem SyncV.g2 (s : SyncV) : s.cells[2]? = some (.int .i64 s.vote) := rfl
theorem SyncV.s2 (s : SyncV) (v : Int) : s.cells.setIfInBounds 2 (.int .i64 v) = SyncV.cells { s with vote := v } := rfl
theorem SyncV.g3 (s : SyncV) : s.cells[3]? = some (.int .i64 s.role) := rfl
theorem SyncV.s3 (s : SyncV) (v : Int) : s.cells.setIfInBounds 3 (.int .i64 v) = SyncV.cells { s with role := v } := rfl
theorem SyncV.g4 (s : SyncV) : s.cells[4]? = some (.int .i64 s.leader) := rfl
theorem SyncV.s4 (s : SyncV) (v : Int) : s.cells.setIfInBounds 4 (.int .i64 v) = SyncV.cells { s with leader := v } := rfl
theorem SyncV.g5 (s : SyncV) : s.cells[5]? = some (.int .i64 s.clock) := rfl
theorem SyncV.s5 (s : SyncV) (v : Int) : s.cells.setIfInBounds 5 (.int .i64 v) = SyncV.cells { s with clock := v } := rfl
theorem SyncV.g6 (s : SyncV) : s.cells[6]? = some (.bool ((s.got 0))) := rfl
theorem SyncV.s6 (s : SyncV) (v : Bool) : s.cells.setIfInBounds 6 (.bool v) = SyncV.cells { s with got := upd s.got 0 v } := rfl
theorem SyncV.g7 (s : SyncV) : s.cells[7]? = some (.bool ((s.got 1))) := rfl
theorem SyncV.s7 (s : SyncV) (v : Bool) : s.cells.setIfInBounds 7 (.bool v) = SyncV.cells { s with got := upd s.got 1 v } := rfl
theorem SyncV.g8 (s : SyncV) : s.cells[8]? = some (.bool ((s.got 2))) := rfl
theorem SyncV.s8 (s : SyncV) (v : Bool) : s.cells.setIfInBounds 8 (.bool v) = SyncV.cells { s with got := upd s.got 2 v } := rfl
theorem SyncV.g9 (s : SyncV) : s.cells[9]? = some (.int .i64 s.commit) := rfl
theorem SyncV.s9 (s : SyncV) (v : Int) : s.cells.setIfInBounds 9 (.int .i64 v) = SyncV.cells { s with commit := v } := rfl
theorem SyncV.g10 (s : SyncV) : s.cells[10]? = some (.int .i64 s.base) := rfl
theorem SyncV.s10 (s : SyncV) (v : Int) : s.cells.setIfInBounds 10 (.int .i64 v) = SyncV.cells { s with base := v } := rfl
theorem SyncV.g11 (s : SyncV) : s.cells[11]? = some (.int .i64 s.baseTerm) := rfl
theorem SyncV.s11 (s : SyncV) (v : Int) : s.cells.setIfInBounds 11 (.int .i64 v) = SyncV.cells { s with baseTerm := v } := rfl
theorem SyncV.g12 (s : SyncV) : s.cells[12]? = some (.int .i64 s.last) := rfl
theorem SyncV.s12 (s : SyncV) (v : Int) : s.cells.setIfInBounds 12 (.int .i64 v) = SyncV.cells { s with last := v } := rfl
theorem SyncV.g13 (s : SyncV) : s.cells[13]? = some (.string (ByteArray.mk s.snap.toArray)) := rfl
theorem SyncV.s13 (s : SyncV) (v : Bs) : s.cells.setIfInBounds 13 (.string (ByteArray.mk v.toArray)) = SyncV.cells { s with snap := v } := rfl
theorem SyncV.g14 (s : SyncV) : s.cells[14]? = some (.int .i64 ((s.next 0))) := rfl
theorem SyncV.s14 (s : SyncV) (v : Int) : s.cells.setIfInBounds 14 (.int .i64 v) = SyncV.cells { s with next := upd s.next 0 v } := rfl
theorem SyncV.g15 (s : SyncV) : s.cells[15]? = some (.int .i64 ((s.next 1))) := rfl
theorem SyncV.s15 (s : SyncV) (v : Int) : s.cells.setIfInBounds 15 (.int .i64 v) = SyncV.cells { s with next := upd s.next 1 v } := rfl
theorem SyncV.g16 (s : SyncV) : s.cells[16]? = some (.int .i64 ((s.next 2))) := rfl
theorem SyncV.s16 (s : SyncV) (v : Int) : s.cells.setIfInBounds 16 (.int .i64 v) = SyncV.cells { s with next := upd s.next 2 v } := rfl
theorem SyncV.g17 (s : SyncV) : s.cells[17]? = some (.int .i64 ((s.mtch 0))) := rfl
theorem SyncV.s17 (s : SyncV) (v : Int) : s.cells.setIfInBounds 17 (.int .i64 v) = SyncV.cells { s with mtch := upd s.mtch 0 v } := rfl
theorem SyncV.g18 (s : SyncV) : s.cells[18]? = some (.int .i64 ((s.mtch 1))) := rfl
theorem SyncV.s18 (s : SyncV) (v : Int) : s.cells.setIfInBounds 18 (.int .i64 v) = SyncV.cells { s with mtch := upd s.mtch 1 v } := rfl
theorem SyncV.g19 (s : SyncV) : s.cells[19]? = some (.int .i64 ((s.mtch 2))) := rfl
theorem SyncV.s19 (s : SyncV) (v : Int) : s.cells.setIfInBounds 19 (.int .i64 v) = SyncV.cells { s with mtch := upd s.mtch 2 v } := rfl
theorem SyncV.gi_got_0 (s : SyncV) (i : Nat) (h : i < 3) : s.cells[6 + i]? = some (.bool ((s.got i))) := by
  match i, h with
  | 0, _ | 1, _ | 2, _ => rfl
theorem SyncV.si_got_0 (s : SyncV) (i : Nat) (h : i < 3) (v : Bool) : s.cells.setIfInBounds (6 + i) (.bool v) = SyncV.cells { s with got := upd s.got i v } := by
  match i, h with
  | 0, _ | 1, _ | 2, _ => rfl
theorem SyncV.gi_next_0 (s : SyncV) (i : Nat) (h : i < 3) : s.cells[14 + i]? = some (.int .i64 ((s.next i))) := by
  match i, h with
  | 0, _ | 1, _ | 2, _ => rfl
theorem SyncV.si_next_0 (s : SyncV) (i : Nat) (h : i < 3) (v : Int) : s.cells.setIfInBounds (14 + i) (.int .i64 v) = SyncV.cells { s with next := upd s.next i v } := by
  match i, h with
  | 0, _ | 1, _ | 2, _ => rfl
theorem SyncV.gi_mtch_0 (s : SyncV) (i : Nat) (h : i < 3) : s.cells[17 + i]? = some (.int .i64 ((s.mtch i))) := by
  match i, h with
  | 0, _ | 1, _ | 2, _ => rfl
theorem SyncV.si_mtch_0 (s : SyncV) (i : Nat) (h : i < 3) (v : Int) : s.cells.setIfInBounds (17 + i) (.int .i64 v) = SyncV.cells { s with mtch := upd s.mtch i v } := by
  match i, h with
  | 0, _ | 1, _ | 2, _ => rfl
structure NodeV where
  sync : Value
  applied : Int
  used : Nat → Bool
  seq : Nat → Int
  idx : Nat → Int
def NodeV.cells (s : NodeV) : Array Value := #[s.sync, .int .i64 s.applied, .bool ((s.used 0)), .bool ((s.used 1)), .bool ((s.used 2)), .int .i64 ((s.seq 0)), .int .i64 ((s.seq 1)), .int .i64 ((s.seq 2)), .int .i64 ((s.idx 0)), .int .i64 ((s.idx 1)), .int .i64 ((s.idx 2))]
theorem NodeV.g0 (s : NodeV) : s.cells[0]? = some (s.sync) := rfl
theorem NodeV.s0 (s : NodeV) (v : Value) : s.cells.setIfInBounds 0 (v) = NodeV.cells { s with sync := v } := rfl
theorem NodeV.g1 (s : NodeV) : s.cells[1]? = some (.int .i64 s.applied) := rfl
theorem NodeV.s1 (s : NodeV) (v : Int) : s.cells.setIfInBounds 1 (.int .i64 v) = NodeV.cells { s with applied := v } := rfl
theorem NodeV.g2 (s : NodeV) : s.cells[2]? = some (.bool ((s.used 0))) := rfl
theorem NodeV.s2 (s : NodeV) (v : Bool) : s.cells.setIfInBounds 2 (.bool v) = NodeV.cells { s with used := upd s.used 0 v } := rfl
theorem NodeV.g3 (s : NodeV) : s.cells[3]? = some (.bool ((s.used 1))) := rfl
theorem NodeV.s3 (s : NodeV) (v : Bool) : s.cells.setIfInBounds 3 (.bool v) = NodeV.cells { s with used := upd s.used 1 v } := rfl
theorem NodeV.g4 (s : NodeV) : s.cells[4]? = some (.bool ((s.used 2))) := rfl
theorem NodeV.s4 (s : NodeV) (v : Bool) : s.cells.setIfInBounds 4 (.bool v) = NodeV.cells { s with used := upd s.used 2 v } := rfl
theorem NodeV.g5 (s : NodeV) : s.cells[5]? = some (.int .i64 ((s.seq 0))) := rfl
theorem NodeV.s5 (s : NodeV) (v : Int) : s.cells.setIfInBounds 5 (.int .i64 v) = NodeV.cells { s with seq := upd s.seq 0 v } := rfl
theorem NodeV.g6 (s : NodeV) : s.cells[6]? = some (.int .i64 ((s.seq 1))) := rfl
theorem NodeV.s6 (s : NodeV) (v : Int) : s.cells.setIfInBounds 6 (.int .i64 v) = NodeV.cells { s with seq := upd s.seq 1 v } := rfl
theorem NodeV.g7 (s : NodeV) : s.cells[7]? = some (.int .i64 ((s.seq 2))) := rfl
theorem NodeV.s7 (s : NodeV) (v : Int) : s.cells.setIfInBounds 7 (.int .i64 v) = NodeV.cells { s with seq := upd s.seq 2 v } := rfl
theorem NodeV.g8 (s : NodeV) : s.cells[8]? = some (.int .i64 ((s.idx 0))) := rfl
theorem NodeV.s8 (s : NodeV) (v : Int) : s.cells.setIfInBounds 8 (.int .i64 v) = NodeV.cells { s with idx := upd s.idx 0 v } := rfl
theorem NodeV.g9 (s : NodeV) : s.cells[9]? = some (.int .i64 ((s.idx 1))) := rfl
theorem NodeV.s9 (s : NodeV) (v : Int) : s.cells.setIfInBounds 9 (.int .i64 v) = NodeV.cells { s with idx := upd s.idx 1 v } := rfl
theorem NodeV.g10 (s : NodeV) : s.cells[10]? = some (.int .i64 ((s.idx 2))) := rfl
theorem NodeV.s10 (s : NodeV) (v : Int) : s.cells.setIfInBounds 10 (.int .i64 v) = NodeV.cells { s with idx := upd s.idx 2 v } := rfl
theorem NodeV.gi_used_0 (s : NodeV) (i : Nat) (h : i < 3) : s.cells[2 + i]? = some (.bool ((s.used i))) := by
  match i, h with
  | 0, _ | 1, _ | 2, _ => rfl
theorem NodeV.si_used_0 (s : NodeV) (i : Nat) (h : i < 3) (v : Bool) : s.cells.setIfInBounds (2 + i) (.bool v) = NodeV.cells { s with used := upd s.used i v } := by
  match i, h with
  | 0, _ | 1, _ | 2, _ => rfl
theorem NodeV.gi_seq_0 (s : NodeV) (i : Nat) (h : i < 3) : s.cells[5 + i]? = some (.int .i64 ((s.seq i))) := by
  match i, h with
  | 0, _ | 1, _ | 2, _ => rfl
theorem NodeV.si_seq_0 (s : NodeV) (i : Nat) (h : i < 3) (v : Int) : s.cells.setIfInBounds (5 + i) (.int .i64 v) = NodeV.cells { s with seq := upd s.seq i v } := by
  match i, h with
  | 0, _ | 1, _ | 2, _ => rfl
theorem NodeV.gi_idx_0 (s : NodeV) (i : Nat) (h : i < 3) : s.cells[8 + i]? = some (.int .i64 ((s.idx i))) := by
  match i, h with
  | 0, _ | 1, _ | 2, _ => rfl
theorem NodeV.si_idx_0 (s : NodeV) (i : Nat) (h : i < 3) (v : Int) : s.cells.setIfInBounds (8 + i) (.int .i64 v) = NodeV.cells { s with idx := upd s.idx i v } := by
  match i, h with
  | 0, _ | 1, _ | 2, _ => rfl
structure WorldR where
  b : Value
  k : Int
  ra : Int
  rb : Int
  old : Bs
  os : Value
  rs : Value
  vs : Value
  bad : Bool
def WorldR.cells (s : WorldR) : Array Value := #[s.b, .int .i64 s.k, .int .i64 s.ra, .int .i64 s.rb, .string (ByteArray.mk s.old.toArray), s.os, s.rs, s.vs, .bool s.bad]
theorem WorldR.g0 (s : WorldR) : s.cells[0]? = some (s.b) := rfl
theorem WorldR.s0 (s : WorldR) (v : Value) : s.cells.setIfInBounds 0 (v) = WorldR.cells { s with b := v } := rfl
theorem WorldR.g1 (s : WorldR) : s.cells[1]? = some (.int .i64 s.k) := rfl
theorem WorldR.s1 (s : WorldR) (v : Int) : s.cells.setIfInBounds 1 (.int .i64 v) = WorldR.cells { s with k := v } := rfl
theorem WorldR.g2 (s : WorldR) : s.cells[2]? = some (.int .i64 s.ra) := rfl
theorem WorldR.s2 (s : WorldR) (v : Int) : s.cells.setIfInBounds 2 (.int .i64 v) = WorldR.cells { s with ra := v } := rfl
theorem WorldR.g3 (s : WorldR) : s.cells[3]? = some (.int .i64 s.rb) := rfl
theorem WorldR.s3 (s : WorldR) (v : Int) : s.cells.setIfInBounds 3 (.int .i64 v) = WorldR.cells { s with rb := v } := rfl
theorem WorldR.g4 (s : WorldR) : s.cells[4]? = some (.string (ByteArray.mk s.old.toArray)) := rfl
theorem WorldR.s4 (s : WorldR) (v : Bs) : s.cells.setIfInBounds 4 (.string (ByteArray.mk v.toArray)) = WorldR.cells { s with old := v } := rfl
theorem WorldR.g5 (s : WorldR) : s.cells[5]? = some (s.os) := rfl
theorem WorldR.s5 (s : WorldR) (v : Value) : s.cells.setIfInBounds 5 (v) = WorldR.cells { s with os := v } := rfl
theorem WorldR.g6 (s : WorldR) : s.cells[6]? = some (s.rs) := rfl
theorem WorldR.s6 (s : WorldR) (v : Value) : s.cells.setIfInBounds 6 (v) = WorldR.cells { s with rs := v } := rfl
theorem WorldR.g7 (s : WorldR) : s.cells[7]? = some (s.vs) := rfl
theorem WorldR.s7 (s : WorldR) (v : Value) : s.cells.setIfInBounds 7 (v) = WorldR.cells { s with vs := v } := rfl
theorem WorldR.g8 (s : WorldR) : s.cells[8]? = some (.bool s.bad) := rfl
theorem WorldR.s8 (s : WorldR) (v : Bool) : s.cells.setIfInBounds 8 (.bool v) = WorldR.cells { s with bad := v } := rfl
structure BaseR where
  id : Int
  d : Value
  x : Value
  m : Value
def BaseR.cells (s : BaseR) : Array Value := #[.int .i64 s.id, s.d, s.x, s.m]
theorem BaseR.g0 (s : BaseR) : s.cells[0]? = some (.int .i64 s.id) := rfl
theorem BaseR.s0 (s : BaseR) (v : Int) : s.cells.setIfInBounds 0 (.int .i64 v) = BaseR.cells { s with id := v } := rfl
theorem BaseR.g1 (s : BaseR) : s.cells[1]? = some (s.d) := rfl
theorem BaseR.s1 (s : BaseR) (v : Value) : s.cells.setIfInBounds 1 (v) = BaseR.cells { s with d := v } := rfl
theorem BaseR.g2 (s : BaseR) : s.cells[2]? = some (s.x) := rfl
theorem BaseR.s2 (s : BaseR) (v : Value) : s.cells.setIfInBounds 2 (v) = BaseR.cells { s with x := v } := rfl
theorem BaseR.g3 (s : BaseR) : s.cells[3]? = some (s.m) := rfl
theorem BaseR.s3 (s : BaseR) (v : Value) : s.cells.setIfInBounds 3 (v) = BaseR.cells { s with m := v } := rfl
structure Reader where
  s : Bs
  p : Int
  bad : Bool
def Reader.cells (s : Reader) : Array Value := #[.string (ByteArray.mk s.s.toArray), .int .i64 s.p, .bool s.bad]
theorem Reader.g0 (s : Reader) : s.cells[0]? = some (.string (ByteArray.mk s.s.toArray)) := rfl
theorem Reader.s0 (s : Reader) (v : Bs) : s.cells.setIfInBounds 0 (.string (ByteArray.mk v.toArray)) = Reader.cells { s with s := v } := rfl
theorem Reader.g1 (s : Reader) : s.cells[1]? = some (.int .i64 s.p) := rfl
theorem Reader.s1 (s : Reader) (v : Int) : s.cells.setIfInBounds 1 (.int .i64 v) = Reader.cells { s with p := v } := rfl
theorem Reader.g2 (s : Reader) : s.cells[2]? = some (.bool s.bad) := rfl
theorem Reader.s2 (s : Reader) (v : Bool) : s.cells.setIfInBounds 2 (.bool v) = Reader.cells { s with bad := v } := rfl
structure Dec where
  s : Bs
  p : Int
  fin : Int
  bad : Bool
def Dec.cells (s : Dec) : Array Value := #[.string (ByteArray.mk s.s.toArray), .int .i64 s.p, .int .i64 s.fin, .bool s.bad]
theorem Dec.g0 (s : Dec) : s.cells[0]? = some (.string (ByteArray.mk s.s.toArray)) := rfl
theorem Dec.s0 (s : Dec) (v : Bs) : s.cells.setIfInBounds 0 (.string (ByteArray.mk v.toArray)) = Dec.cells { s with s := v } := rfl
theorem Dec.g1 (s : Dec) : s.cells[1]? = some (.int .i64 s.p) := rfl
theorem Dec.s1 (s : Dec) (v : Int) : s.cells.setIfInBounds 1 (.int .i64 v) = Dec.cells { s with p := v } := rfl
theorem Dec.g2 (s : Dec) : s.cells[2]? = some (.int .i64 s.fin) := rfl
theorem Dec.s2 (s : Dec) (v : Int) : s.cells.setIfInBounds 2 (.int .i64 v) = Dec.cells { s with fin := v } := rfl
theorem Dec.g3 (s : Dec) : s.cells[3]? = some (.bool s.bad) := rfl
theorem Dec.s3 (s : Dec) (v : Bool) : s.cells.setIfInBounds 3 (.bool v) = Dec.cells { s with bad := v } := rfl
structure DidR where
  err : Int
  outs : Value
  reps : Value
def DidR.cells (s : DidR) : Array Value := #[.int .i64 s.err, s.outs, s.reps]
theorem DidR.g0 (s : DidR) : s.cells[0]? = some (.int .i64 s.err) := rfl
theorem DidR.s0 (s : DidR) (v : Int) : s.cells.setIfInBounds 0 (.int .i64 v) = DidR.cells { s with err := v } := rfl
theorem DidR.g1 (s : DidR) : s.cells[1]? = some (s.outs) := rfl
theorem DidR.s1 (s : DidR) (v : Value) : s.cells.setIfInBounds 1 (v) = DidR.cells { s with outs := v } := rfl
theorem DidR.g2 (s : DidR) : s.cells[2]? = some (s.reps) := rfl
theorem DidR.s2 (s : DidR) (v : Value) : s.cells.setIfInBounds 2 (v) = DidR.cells { s with reps := v } := rfl
end Go.Tw
