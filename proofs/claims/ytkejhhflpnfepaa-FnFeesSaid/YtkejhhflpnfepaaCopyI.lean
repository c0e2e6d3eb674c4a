/-
  Proved here: what copyInts and the reference's l1Own return.
  Conditions: the slice has an address.
-/
import Derived.Test.YtkejhhflpnfepaaForm
import Derived.Test.YtkejhhflpnfepaaOwn3
import Derived.Test.YtkejhhflpnfepaaOwn2
import Derived.Test.YtkejhhflpnfepaaInts
namespace Go.Proofs.Ytkejhhflpnfepaa
open Go.RowKit

theorem Owns.down {α : Type} {w : World} {base base' : Nat} {e : TypeId} {s : Nat} {cc : α → Nat → Value} {v : Value} {xs : List α} (h : Owns w base e s cc v xs) (hb : base' ≤ base) : Owns w base' e s cc v xs := by
  have h0 : w.ownsRow base e s v xs.length (fl s cc xs) := h
  refine ⟨h0.1, ?_⟩
  rcases h0.2 with hn | ⟨g, cap, cur, e1, e2, e3⟩
  · exact .inl hn
  · exact .inr ⟨g, cap, cur, e1, Nat.le_trans hb e2, e3⟩

end Go.Proofs.Ytkejhhflpnfepaa
