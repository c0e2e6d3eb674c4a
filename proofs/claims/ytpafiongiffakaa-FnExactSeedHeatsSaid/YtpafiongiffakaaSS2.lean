/-
  Proved here: what functions hand back that return slices of slices of ints and a bool (for seats without proofs).
  Conditions: none beyond those in each statement.
-/
import Derived.Test.YtpafiongiffakaaSS
import Derived.Test.YtpafiongiffakaaForm
namespace Go.Proofs.Ytpafiongiffakaa
open Go.RowKit

theorem infoIntS : (Try.prog.info? 22).map (fun i => (i.zero, i.size, i.bytes)) = some (some (.slice none 0 0), 1, 24) := by kernel_rfl
/-- what is handed back: a slice of slices in new memory, a bool -/
def ResSS (w : World) (L : List (List Int)) (B : Bool) (e : Ending) (w' : World) : Prop := ∃ bo bc f, e = .returned (.tuple #[.slice bo L.length bc, .bool B]) ∧ Ext w w' ∧ FreshG w.heap.size w' bo L.length (lenL L) f (icL L)
theorem freshG_nil {B0 : Nat} {w : World} {ao : Option Addr} {len : Nat → Nat} {f : Nat → Option Addr × Nat} {c : Nat → Nat → Nat → Value} (h : FreshAt B0 w ao 1 0 (fun k _ => .slice (f k).1 (len k) (f k).2)) : FreshG B0 w ao 0 len f c := ⟨h, fun k hk => by omega, fun k hk => by omega, fun j k hj => by omega⟩

end Go.Proofs.Ytpafiongiffakaa
