/- The plain functions that the program and the reference both compute: stops. -/
import Derived.Test.YtcklnjjbhngbcaaGreatDoorB0
namespace Go.Proofs.Lens
/-- x lies in a .. b. -/
def inB (x a b : Int) : Bool := decide (a ≤ x) && decide (x ≤ b)
theorem inB_true {x a b : Int} : inB x a b = true ↔ a ≤ x ∧ x ≤ b := by simp [inB]
theorem inB_false {x a b : Int} : inB x a b = false ↔ x < a ∨ b < x := by
  rw [← Bool.not_eq_true, inB_true]; omega
def noS (s : ByteArray) : Bool := s.toList.isEmpty
def stopOk (s : PStop) : Bool :=
  inB s.fn 0 299 && (if s.kind = 1 then inB s.line 1 100000 && noS s.nm else if s.kind = 2 then decide (s.line = 0) && noS s.nm
    else if s.kind = 3 then decide (s.line = 0) && inB s.nm.size 1 40 else if s.kind = 4 then decide (s.fn = 0) && decide (s.line = 0) && noS s.nm else false)
end Go.Proofs.Lens
