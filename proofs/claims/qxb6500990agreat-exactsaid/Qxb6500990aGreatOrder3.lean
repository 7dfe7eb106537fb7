/- region2 with a quicker look -/
import Derived.Test.Qxb6500990aGreatOrder2
set_option linter.unusedVariables false
set_option linter.unusedSimpArgs false
namespace Go
namespace Ord
section
variable {P : Program} {Q : Exit → Act → World → Prop} {CA : World → Prop}
def in2f (l : List Oper) (A B : List Nat) (ts : List (List (Nat × Bool))) : Bool :=
  canonB l.toArray A B (ts.map (·.map (·.1))) && (A.all fun i => decide (i < l.length) && isVal (nth l i).op) && (B.all fun i => decide (i < l.length)) &&
  (ts.all fun T => T.all fun p => decide (p.1 < l.length) && (nth l p.1).guard.isNone && (p.2 || !looseOf l.toArray A p.1))
theorem in2_of {l : List Oper} {A B : List Nat} {ts : List (List (Nat × Bool))} (h : in2f l A B ts = true) : in2 l A B ts = true := by
  unfold in2
  unfold in2f at h
  simp only [Bool.or_comm] at h ⊢
  exact h
theorem region2f {id : Nat} {a : Act} {w : World} {l : List Oper} (CA : World → Prop) (A B : List Nat) (ts : List (List (Nat × Bool))) (hm : P.follows .mixedOrders = true)
    (hB : in2f l A B ts = true) (hQ : ∀ c a d v w, Q (.panic c) (Act.put a d v) w → Q (.panic c) a w) (hCA : CA w.drew)
    (h : wpQuiet P l.toArray CA (fun a1 => wpQuiet P l.toArray (fun w' => w' = w.drew) (fun a2 => ∀ T ∈ ts, wpT P l Q CA T a2 w.drew) (pickO l B) a1) (pickO l A) a) :
    (Code.region id l.toArray true).wp P Q a w := region2 CA A B ts hm (in2_of hB) hQ hCA h
end
end Ord
end Go
