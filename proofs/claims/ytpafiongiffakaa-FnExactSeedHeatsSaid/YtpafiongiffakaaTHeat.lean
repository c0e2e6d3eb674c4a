/-
  Proved here: heats: how they are read, copied, compared.
  Conditions: the lengths fit an int.
-/
import Derived.Test.YtpafiongiffakaaInts
namespace Go.Proofs.Ytpafiongiffakaa
open Go.ChangeShapes Go.WideShapes Go.ChangeAt Go.RowKit Go.Joins Go.Deep

structure HeatD where
  rs : List Int
  ts : List Int
instance : Inhabited HeatD := ⟨⟨[], []⟩⟩
def HeatD.val (h : HeatD) (ao : Option Addr) (ac : Nat) (bo : Option Addr) (bc : Nat) : Value := .agg #[.slice ao h.rs.length ac, .slice bo h.ts.length bc]
def HeatD.eqB (x y : HeatD) : Bool := eqL eqI x.rs y.rs && eqL eqI x.ts y.ts
theorem HeatD.eqB_iff (x y : HeatD) : x.eqB y = true ↔ x = y := by
  cases x; cases y; simp [HeatD.eqB, eqL_iff eqI_iff]

end Go.Proofs.Ytpafiongiffakaa
