/-
  Proved here: what IsHeat and its reference return.
  Conditions: the lengths fit an int; no slice is longer than its capacity.
-/
import Derived.Test.YtpafiongiffakaaTHeat
import Derived.Test.YtpafiongiffakaaSearch
namespace Go.Proofs.Ytpafiongiffakaa
open Go.RowKit

def okHeatAt (h : HeatD) (k : Nat) : Bool := inB (nth h.rs k) 1 999 && inB (nth h.ts k) 0 36000 && !(decide (0 < nth h.ts k) && hasI h.ts k (nth h.ts k))
def headH (h : HeatD) : Bool := inB h.rs.length 2 6 && decide (h.ts.length = h.rs.length) && onceU h.rs h.rs.length
def heatB (h : HeatD) : Bool := headH h && upto (okHeatAt h) h.rs.length

end Go.Proofs.Ytpafiongiffakaa
