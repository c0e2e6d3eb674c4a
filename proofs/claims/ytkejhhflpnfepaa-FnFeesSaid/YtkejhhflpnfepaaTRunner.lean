/-
  Proved here: Runner values: how lists of them are read, copied, compared.
  Conditions: none beyond those in each statement.
-/
import Derived.Test.YtkejhhflpnfepaaSmall
import Derived.Test.YtkejhhflpnfepaaLaw
namespace Go.Proofs.Ytkejhhflpnfepaa
open Go.ChangeShapes Go.WideShapes Go.ChangeAt Go.RowKit Go.Joins Go.Deep

structure Rnr where
  id : Int
  name : ByteArray
  club : ByteArray
  born : Int
  woman : Bool
  card : Int
instance : Inhabited Rnr := ⟨⟨0, ByteArray.empty, ByteArray.empty, 0, false, 0⟩⟩
def Rnr.c (m : Rnr) : Nat → Value
  | 0 => .int .i64 m.id
  | 1 => .string m.name
  | 2 => .string m.club
  | 3 => .int .i64 m.born
  | 4 => .bool m.woman
  | _ => .int .i64 m.card
theorem Rnr.c0 (m : Rnr) : m.c 0 = .int .i64 m.id := rfl
theorem Rnr.c1 (m : Rnr) : m.c 1 = .string m.name := rfl
theorem Rnr.c2 (m : Rnr) : m.c 2 = .string m.club := rfl
theorem Rnr.c3 (m : Rnr) : m.c 3 = .int .i64 m.born := rfl
theorem Rnr.c4 (m : Rnr) : m.c 4 = .bool m.woman := rfl
theorem Rnr.c5 (m : Rnr) : m.c 5 = .int .i64 m.card := rfl

theorem infoRnr : (Try.prog.info? 88).map (fun i => (i.zero, i.size, i.bytes)) = some (some (.agg #[.int .i64 0, .string ByteArray.empty, .string ByteArray.empty, .int .i64 0, .bool false, .int .i64 0]), 6, 64) := by kernel_rfl


def Rnr.val (x : Rnr) : Value := .agg #[.int .i64 x.id, .string x.name, .string x.club, .int .i64 x.born, .bool x.woman, .int .i64 x.card]

end Go.Proofs.Ytkejhhflpnfepaa
