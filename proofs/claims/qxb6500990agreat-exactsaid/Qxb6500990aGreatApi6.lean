/- package api: Sum16, MsgOK -/
import Derived.Test.Qxb6500990aGreatApi5
set_option linter.unusedVariables false
set_option linter.unusedSimpArgs false
namespace Go.Tw
structure Msg where
  kind : Int
  frm : Int
  to : Int
  term : Int
  index : Int
  logTerm : Int
  commit : Int
  ok : Bool
  ents : List Entry
  data : Bs
def Msg.r (m : Msg) (v : Value) : MsgR := ⟨m.kind, m.frm, m.to, m.term, m.index, m.logTerm, m.commit, m.ok, v, m.data⟩
def entsC (es : List Entry) : List Value := es.flatMap fun e => [.int .i64 e.term, .string (ByteArray.mk e.data.toArray)]
/-- the slice v, made since B, holds the entries es -/
def EntsAt (B : Nat) (w : World) (v : Value) (es : List Entry) : Prop := w.ownsRow B 232 2 v es.length (entsC es)
def entOK (e : Entry) : Bool := decide (0 ≤ e.term ∧ e.term ≤ maxT ∧ e.data.length ≤ 24)
def msgOK (m : Msg) : Bool := decide ((1 ≤ m.kind ∧ m.kind ≤ 5 ∧ 0 ≤ m.frm ∧ m.frm < 3 ∧ 0 ≤ m.to ∧ m.to < 3) ∧ (0 ≤ m.term ∧ m.term ≤ maxT ∧ 0 ≤ m.index ∧ m.index ≤ maxT) ∧ (0 ≤ m.logTerm ∧ m.logTerm ≤ maxT ∧ 0 ≤ m.commit ∧ m.commit ≤ maxT) ∧ (m.ents.length ≤ 2 ∧ m.data.length ≤ 128)) && m.ents.all entOK
def sumF (l : List Int) : Int := l.foldl (fun s b => (s * 31 + b + 1) % 65536) 7439
theorem sumF_bd (l : List Int) : 0 ≤ sumF l ∧ sumF l < 65536 := by
  unfold sumF
  have : ∀ (l : List Int) (s : Int), 0 ≤ s → s < 65536 → 0 ≤ l.foldl (fun s b => (s * 31 + b + 1) % 65536) s ∧ l.foldl (fun s b => (s * 31 + b + 1) % 65536) s < 65536 := by
    intro l
    induction l with
    | nil => intro s h1 h2; exact ⟨h1, h2⟩
    | cons b l ih => intro s h1 h2; exact ih _ (by simp only []; omega) (by simp only []; omega)
  exact this l 7439 (by decide) (by decide)
theorem sumF_snoc (l : List Int) (b : Int) : sumF (l ++ [b]) = (sumF l * 31 + b + 1) % 65536 := by simp [sumF]
end Go.Tw
namespace Go.Proofs.Qxb6500990aGreat
open Go Go.RowKit Go.Tw
attribute [local go_sem] World.cell?_put_same World.cell?_put_ne World.cell?_put_ne' World.frozen?_put_same World.frozen?_put_ne World.frozen?_put_ne' World.setCell_put_same World.setCell_put_ne World.setCell_put_ne' World.inB_put World.inB_alloc World.inB_drew World.inB_drewN World.inB_new World.inB_setCell World.put_drew World.put_drewN World.q_setCell_drew World.q_setCell_drewN World.q_alloc_drew World.q_alloc_drewN World.put_put_same World.put_put_2 World.size_put World.q_cell?_alloc_old World.q_frozen?_alloc_old World.cell?_alloc_new' World.frozen?_alloc_new' World.q_setCell_alloc_old World.q_setCell_alloc_new World.q_put_alloc_old
attribute [local go_sem] ba_get w64_byte ByteArray.extract_mk
set_option maxHeartbeats 1000000
set_option maxRecDepth 100000
theorem and_ffff (x : Int) (h0 : 0 ≤ x) (h1 : x < 4294967296) : bits .and .i64 x 65535 = x % 65536 := by
  obtain ⟨n, rfl⟩ := Int.eq_ofNat_of_zero_le h0
  have hn : n < 4294967296 := by omega
  have e : (BitVec.ofInt 64 (n : Int) &&& BitVec.ofInt 64 65535).toNat = n % 65536 := by
    rw [BitVec.toNat_and]
    have e1 : (BitVec.ofInt 64 (n : Int)).toNat = n := by simp [BitVec.toNat_ofInt]; omega
    have e2 : (BitVec.ofInt 64 65535).toNat = 2 ^ 16 - 1 := by decide
    rw [e1, e2, Nat.and_two_pow_sub_one_eq_mod]
  show IntKind.i64.wrap ((BitVec.ofInt 64 (n : Int) &&& BitVec.ofInt 64 65535).toNat : Int) = _
  rw [e, IntKind.wrap_i64]
  omega
theorem c204 {W : World} {B : Nat} {v : Value} {l : List Int} (hb : BytesB B W v l) (hl : l.length ≤ 1000) (hr : ∀ x ∈ l, 0 ≤ x ∧ x < 256) :
    Calls Tryz.prog 204 #[v] W fun r w' => r = .returned (vi (sumF l)) ∧ w' = W := by
  have hc : ∃ ad cap, v = .slice ad l.length cap ∧ ∀ k (h : k < l.length), ∃ g, ad = some ⟨g, 0, none⟩ ∧ W.cell? ⟨g, k, none⟩ = some (.int .u8 l[k]) := by
    rcases hb.2 with ⟨rfl, h0⟩ | ⟨g, cap, cur, rfl, _, hat, hcap, _, hsz, htake⟩
    · exact ⟨none, 0, by rw [h0], fun k h => by omega⟩
    · refine ⟨some ⟨g, 0, none⟩, cap, rfl, fun k h => ⟨g, rfl, ?_⟩⟩
      rw [World.At.cell (T := 5) hat]
      have h1 : (cur.toList.take (l.length * 1))[k]? = some (.int .u8 l[k]) := by rw [htake]; simp [h]
      rw [List.getElem?_take_of_lt (by omega)] at h1
      simpa using h1
  obtain ⟨ad, cap, rfl, hc⟩ := hc
  clear hb
  go_enter Tryz.func204, Tryz.ntmps204
  go_wp2_with fail
  go_loop [3, 4] (fun s i => ∃ k : Nat, k ≤ l.length ∧ i = vi k ∧ s = vi (sumF (l.take k))) (fun _ i => l.length - (intOf i).toNat)
  case atStart => exact ⟨0, Nat.zero_le _, rfl, rfl⟩
  case round =>
    obtain ⟨k, hk, rfl, rfl⟩ := hrel
    obtain ⟨s0, s1⟩ := sumF_bd (l.take k)
    by_cases hlt : k < l.length
    · obtain ⟨g, rfl, hcell⟩ := hc k hlt
      clear hc
      obtain ⟨x0, x1⟩ := hr l[k] (List.getElem_mem hlt)
      have hsn : Hid (sumF (l.take (k + 1)) = (sumF (l.take k) * 31 + l[k] + 1) % 65536) := by unfold Hid; rw [List.take_succ_eq_append_getElem hlt, sumF_snoc]
      have ha : Hid (bits .and .i64 (sumF (l.take k) * 31 + l[k] + 1) 65535 = (sumF (l.take k) * 31 + l[k] + 1) % 65536) := and_ffff _ (by omega) (by omega)
      go_wp2_with fail
      go_round
      case rel => exact ⟨k + 1, by omega, by go_num, congrArg (Value.int .i64) (ha.out.trans hsn.out.symm)⟩
      case measure => simp [intOf]; omega
    · go_wp2
      go_ret
      exact ⟨ret_int (by rw [List.take_of_length_le (by omega)]), rfl⟩
end Go.Proofs.Qxb6500990aGreat
