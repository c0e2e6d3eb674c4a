/-
  Proved here: slices of heats: how they are read, copied, compared, measured.
  Conditions: the lengths fit an int.
-/
import Derived.Test.YtpafiongiffakaaGRow
import Derived.Test.YtpafiongiffakaaHeat3
namespace Go.Proofs.Ytpafiongiffakaa
open Go.ChangeShapes Go.WideShapes Go.ChangeAt Go.RowKit Go.Joins Go.Deep

def HeatD.cd (x : HeatD) : Nat → CD
  | 0 => .l x.rs
  | _ => .l x.ts
def hsC (hs : List HeatD) : Nat → Nat → CD := fun k => (nth hs k).cd
theorem heats_at {w : World} {b off k : Nat} {hs : List HeatD} (H : ∀ j, j < 2 → CellIs w ⟨b, off + k * 2 + j, none⟩ (hsC hs k j)) :
    ∃ ao ac bo bc, w.cell? ⟨b, off + k * 2, none⟩ = some (.slice ao (nth hs k).rs.length ac) ∧ w.cell? ⟨b, off + k * 2 + 1, none⟩ = some (.slice bo (nth hs k).ts.length bc) ∧
      RowAt w ao 1 (nth hs k).rs.length (ic (nth hs k).rs) ∧ RowAt w bo 1 (nth hs k).ts.length (ic (nth hs k).ts) ∧ (nth hs k).rs.length ≤ 9223372036854775807 ∧ (nth hs k).ts.length ≤ 9223372036854775807 ∧ (nth hs k).rs.length ≤ ac ∧ (nth hs k).ts.length ≤ bc := by
  obtain ⟨ao, ac, e1, r1, c1, n1⟩ := H 0 (by decide)
  obtain ⟨bo, bc, e2, r2, c2, n2⟩ := H 1 (by decide)
  exact ⟨ao, ac, bo, bc, e1, e2, r1, r2, n1, n2, c1, c2⟩

end Go.Proofs.Ytpafiongiffakaa
