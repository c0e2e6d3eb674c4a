/-
  Proved here: Punch values: how lists of them are read, copied, compared.
  Conditions: none beyond those in each statement.
-/
import Derived.Test.YtckgjpaccgpdpaaGreatDoorSmall
import Derived.Test.YtckgjpaccgpdpaaGreatDoorLaw
namespace Go.Proofs.YtckgjpaccgpdpaaGreatDoor
open Go.ChangeShapes Go.WideShapes Go.ChangeAt Go.RowKit Go.Joins Go.Deep

structure Pch where
  code : Int
  time : Int
instance : Inhabited Pch := ⟨⟨0, 0⟩⟩
def Pch.c (m : Pch) : Nat → Value
  | 0 => .int .i64 m.code
  | _ => .int .i64 m.time
theorem Pch.c0 (m : Pch) : m.c 0 = .int .i64 m.code := rfl
theorem Pch.c1 (m : Pch) : m.c 1 = .int .i64 m.time := rfl
/-- equal, as the program tests it -/
def Pch.eqB (x y : Pch) : Bool := x.code == y.code && x.time == y.time
theorem Pch.eqB_iff (x y : Pch) : x.eqB y = true ↔ x = y := by
  cases x; cases y; simp [Pch.eqB]

theorem infoPch : (Tryz.prog.info? 35).map (fun i => (i.zero, i.size, i.bytes)) = some (some (.agg #[.int .i64 0, .int .i64 0]), 2, 16) := by kernel_rfl

end Go.Proofs.YtckgjpaccgpdpaaGreatDoor
