/-
  Proved here: the laws' own comparisons of lists of ints, at equal lists; vBig.
  Conditions: the lengths fit an int.
-/
import Derived.Test.YtemencnfackplaaCur1
namespace Go.Proofs.Ytemencnfackplaa
open Go.RowKit

theorem laws_vBig {ao : Option Addr} {cap m : Nat} {w : World} (hm : m ≤ 9223372036854775807) :
    Calls Try.prog 13 #[.slice ao m cap] w fun e w' => e = .returned (.bool (decide (65536 < m))) ∧ w = w' := by
  go_enter Try.func13, Try.ntmps13
  go_wp2
  go_ret
  exact ⟨ret_b (by rw [decide_eq_decide]; omega), rfl⟩

end Go.Proofs.Ytemencnfackplaa
