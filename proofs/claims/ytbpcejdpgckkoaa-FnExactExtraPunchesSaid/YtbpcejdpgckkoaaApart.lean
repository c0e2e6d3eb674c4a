/-
  Proved here: a row that stays apart from a row that a call appends to.
  Conditions: none beyond those in each statement.
-/
import Derived.Test.YtbpcejdpgckkoaaOwn2
import Derived.Test.YtbpcejdpgckkoaaOwn3
import Derived.Test.YtbpcejdpgckkoaaMark
namespace Go.Proofs.Ytbpcejdpgckkoaa
open Go.RowKit

/-- The row at an address lies in a block that is not the slice's. -/
def Apart (w : World) (go : Option Addr) (v : Value) : Prop := ∀ a, go = some a → a.block < w.heap.size ∧ v.ownBlock ≠ some a.block
theorem Apart.ext {w w' : World} {go : Option Addr} {v : Value} (h : Apart w go v) (hx : Ext w w') : Apart w' go v := fun a e => ⟨Nat.lt_of_lt_of_le (h a e).1 hx.size, (h a e).2⟩
theorem Apart.append {w w' : World} {go : Option Addr} {v v' : Value} (h : Apart w go v) (hg : w.grownBy w' v.ownBlock) (hv : v'.ownBlock = v.ownBlock ∨ v'.ownBlock = some w.heap.size) : Apart w' go v' := fun a e => by
  have h1 := h a e
  refine ⟨Nat.lt_of_lt_of_le h1.1 hg.size, fun hb => ?_⟩
  rcases hv with hv | hv
  · exact h1.2 (hv ▸ hb)
  · rw [hv] at hb; injection hb with hb; omega
theorem Apart.row {w w' : World} {go : Option Addr} {v : Value} {s n : Nat} {c : Nat → Nat → Value} (h : Apart w go v) (hs : 0 < s) (hr : RowAt w go s n c) (hg : w.grownBy w' v.ownBlock) : RowAt w' go s n c := hr.grown hs hg (fun a e => (h a e).2)
/-- a slice in newer memory is apart from an older one -/
theorem Apart.new {w : World} {go : Option Addr} {v : Value} {B0 s n : Nat} {c : Nat → Nat → Value} (h : FreshAt B0 w go s n c) (hv : ∀ k, v.ownBlock = some k → k < B0) : Apart w go v := fun a e => ⟨(h.base a e).2, fun hb => by have h1 := hv _ hb; have h2 := (h.base a e).1; omega⟩
/-- an empty slice that was laid before other things were made -/
theorem Owns.early {α : Type} {a w w' : World} {e : TypeId} {s : Nat} {cc : α → Nat → Value} (hx : Ext a w) (hx1 : Ext (w.alloc (.cells #[] e)) w') : Owns w' a.heap.size e s cc (.slice (some ⟨w.heap.size, 0, none⟩) 0 0) ([] : List α) := (Owns.start hx).ext' hx1
theorem early_block {b n c : Nat} : ∀ k, (Value.slice (some ⟨b, 0, none⟩) n c).ownBlock = some k → k < b + 1 := fun k h => by simp [Value.ownBlock] at h; omega

end Go.Proofs.Ytbpcejdpgckkoaa
