/-
  Proved here: the laws' own comparisons of lists of ints, at equal lists; vBig.
  Conditions: the lengths fit an int.
-/
import Derived.Test.YtckgjpaccgpdpaaGreatDoorCur1
namespace Go.Proofs.YtckgjpaccgpdpaaGreatDoor
open Go.RowKit

theorem laws_vBig {ao : Option Addr} {cap m : Nat} {w : World} (hm : m ≤ 9223372036854775807) :
    Calls Tryz.prog 4 #[.slice ao m cap] w fun e w' => e = .returned (.bool (decide (65536 < m))) ∧ w = w' := by
  go_enter Tryz.func4, Tryz.ntmps4
  go_wp2
  go_ret
  exact ⟨ret_b (by rw [decide_eq_decide]; omega), rfl⟩

theorem laws_vInts {ao bo : Option Addr} {ac bc : Nat} {xs : List Int} {w : World} (h : RowAt w ao 1 xs.length (ic xs)) (h' : RowAt w bo 1 xs.length (ic xs)) (hn : xs.length ≤ 9223372036854775807) :
    Calls Tryz.prog 8 #[.slice ao xs.length ac, .slice bo xs.length bc] w fun e w' => e = .returned (.bool true) ∧ Ext w w' := by
  go_enter Tryz.func8, Tryz.ntmps8
  go_wp2
  go_loopw [5] (fun i wr => ∃ k : Nat, k ≤ xs.length ∧ i = .int .i64 k ∧ Ext w wr) (fun i _ => xs.length - (intOf i).toNat)
  case atStart => exact ⟨0, Nat.zero_le _, rfl, Ext.refl _⟩
  case round =>
    obtain ⟨k, hk, rfl, hx⟩ := hrel
    by_cases hlt : k < xs.length
    · obtain ⟨b, off, rfl, hcell⟩ := ints_at' h (by omega)
      obtain ⟨b', off', rfl, hcell'⟩ := ints_at' h' (by omega)
      have d0 := hx.cells (hcell k hlt)
      have d1 := hx.cells (hcell' k hlt)
      have hk0 : (0 : Int) ≤ (k : Int) := by omega
      have hk1 : (k : Int) < (xs.length : Int) := by omega
      clear hcell hcell'
      go_wp2
      go_quiet (fail)
      go_wp2
      go_roundw
      case rel => exact ⟨k + 1, by omega, by go_num, hx.trans (Ext.drewQ _ _)⟩
      case measure => simp [intOf] <;> omega
    · have hkn : k = xs.length := by omega
      subst hkn
      go_wp2
      go_ret
      exact ⟨rfl, hx⟩

end Go.Proofs.YtckgjpaccgpdpaaGreatDoor
