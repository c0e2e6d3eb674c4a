/-
  Proved here: what spec.IsHeat returns; an argument that is a heat, opened.
  Conditions: the lengths fit an int; no slice is longer than its capacity.
-/
import Derived.Test.YtpafiongiffakaaHeat2
import Derived.Test.YtpafiongiffakaaTIntS
namespace Go.Proofs.Ytpafiongiffakaa
open Go.ChangeShapes Go.WideShapes Go.ChangeAt Go.RowKit Go.Joins Go.Deep

/-- What is known of an argument that is a heat. -/
structure HeatOk (h : HeatD) (ac bc : Nat) : Prop where
  n1 : h.rs.length ≤ 9223372036854775807
  n2 : h.ts.length ≤ 9223372036854775807
  i1 : ∀ k, k < h.rs.length → I64 (nth h.rs k)
  i2 : ∀ k, k < h.ts.length → I64 (nth h.ts k)
  c1 : h.rs.length ≤ ac
  c2 : h.ts.length ≤ bc

end Go.Proofs.Ytpafiongiffakaa
