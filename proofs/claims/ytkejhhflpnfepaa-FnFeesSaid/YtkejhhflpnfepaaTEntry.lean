/-
  Proved here: Entry values: how lists of them are read, copied, compared.
  Conditions: none beyond those in each statement.
-/
import Derived.Test.YtkejhhflpnfepaaSmall
import Derived.Test.YtkejhhflpnfepaaLaw
namespace Go.Proofs.Ytkejhhflpnfepaa
open Go.ChangeShapes Go.WideShapes Go.ChangeAt Go.RowKit Go.Joins Go.Deep

structure Ent where
  runner : Int
  cls : Int
  day : Int
  rent : Bool
  paid : Int
instance : Inhabited Ent := ⟨⟨0, 0, 0, false, 0⟩⟩
def Ent.c (m : Ent) : Nat → Value
  | 0 => .int .i64 m.runner
  | 1 => .int .i64 m.cls
  | 2 => .int .i64 m.day
  | 3 => .bool m.rent
  | _ => .int .i64 m.paid
theorem Ent.c0 (m : Ent) : m.c 0 = .int .i64 m.runner := rfl
theorem Ent.c1 (m : Ent) : m.c 1 = .int .i64 m.cls := rfl
theorem Ent.c2 (m : Ent) : m.c 2 = .int .i64 m.day := rfl
theorem Ent.c3 (m : Ent) : m.c 3 = .bool m.rent := rfl
theorem Ent.c4 (m : Ent) : m.c 4 = .int .i64 m.paid := rfl
/-- equal, as the program tests it -/
def Ent.eqB (x y : Ent) : Bool := x.runner == y.runner && x.cls == y.cls && x.day == y.day && x.rent == y.rent && x.paid == y.paid
theorem Ent.eqB_iff (x y : Ent) : x.eqB y = true ↔ x = y := by
  cases x; cases y; simp [Ent.eqB, and_assoc]

theorem infoEnt : (Try.prog.info? 26).map (fun i => (i.zero, i.size, i.bytes)) = some (some (.agg #[.int .i64 0, .int .i64 0, .int .i64 0, .bool false, .int .i64 0]), 5, 40) := by kernel_rfl


def Ent.val (x : Ent) : Value := .agg #[.int .i64 x.runner, .int .i64 x.cls, .int .i64 x.day, .bool x.rent, .int .i64 x.paid]

end Go.Proofs.Ytkejhhflpnfepaa
