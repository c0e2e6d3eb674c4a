/-
  Proved here: what the reference of IsHeat returns.
  Conditions: the lengths fit an int; no slice is longer than its capacity.
-/
import Derived.Test.YtpafiongiffakaaHeat1
namespace Go.Proofs.Ytpafiongiffakaa
open Go.RowKit

def okHeatS (h : HeatD) (k : Nat) : Bool := inB (nth h.rs k) 1 999 && !hasI h.rs k (nth h.rs k) && inB (nth h.ts k) 0 36000 && !(decide (0 < nth h.ts k) && hasI h.ts k (nth h.ts k))
theorem heatB_spec (h : HeatD) : heatB h = (inB h.rs.length 2 6 && decide (h.ts.length = h.rs.length) && upto (okHeatS h) h.rs.length) := by
  rw [Bool.eq_iff_iff]
  simp only [heatB, headH, onceU, okHeatAt, okHeatS, Bool.and_eq_true, upto_true]
  constructor
  · rintro ⟨⟨⟨a, b⟩, c⟩, d⟩
    exact ⟨⟨a, b⟩, fun k hk => ⟨⟨⟨(d k hk).1.1, c k hk⟩, (d k hk).1.2⟩, (d k hk).2⟩⟩
  · rintro ⟨⟨a, b⟩, c⟩
    exact ⟨⟨⟨a, b⟩, fun k hk => (c k hk).1.1.2⟩, fun k hk => ⟨⟨(c k hk).1.1.1, (c k hk).1.2⟩, (c k hk).2⟩⟩

end Go.Proofs.Ytpafiongiffakaa
