/-
  Proved here: the laws' own comparison of lists of marks, at equal lists.
  Conditions: the lengths fit an int.
-/
import Derived.Test.YtemencnfackplaaVeq
import Derived.Test.YtemencnfackplaaTClockMark
namespace Go.Proofs.Ytemencnfackplaa
open Go.RowKit

theorem laws_vMarks {ao bo : Option Addr} {ac bc : Nat} {xs : List Mark} {w : World} (h : RowAt w ao 2 xs.length (fun k => (nth xs k).c)) (h' : RowAt w bo 2 xs.length (fun k => (nth xs k).c)) (hn : xs.length ≤ 9223372036854775807) :
    Calls Try.prog 22 #[.slice ao xs.length ac, .slice bo xs.length bc] w fun e w' => e = .returned (.bool true) ∧ Ext w w' := by
  go_enter Try.func22, Try.ntmps22
  go_wp2
  go_loopw [5] (fun i wr => ∃ k : Nat, k ≤ xs.length ∧ i = .int .i64 k ∧ Ext w wr) (fun i _ => xs.length - (intOf i).toNat)
  case atStart => exact ⟨0, Nat.zero_le _, rfl, Ext.refl _⟩
  case round =>
    obtain ⟨k, hk, rfl, hx⟩ := hrel
    by_cases hlt : k < xs.length
    · obtain ⟨b, off, rfl, hcell⟩ := h (by omega)
      obtain ⟨b', off', rfl, hcell'⟩ := h' (by omega)
      have d0 : wr.cell? ⟨b, off + k * 2, none⟩ = some (.int .i64 (nth xs k).shown) := hx.cells (hcell k hlt 0 (by decide))
      have d1 : wr.cell? ⟨b, off + k * 2 + 1, none⟩ = some (.int .i64 (nth xs k).real) := hx.cells (hcell k hlt 1 (by decide))
      have d2 : wr.cell? ⟨b', off' + k * 2, none⟩ = some (.int .i64 (nth xs k).shown) := hx.cells (hcell' k hlt 0 (by decide))
      have d3 : wr.cell? ⟨b', off' + k * 2 + 1, none⟩ = some (.int .i64 (nth xs k).real) := hx.cells (hcell' k hlt 1 (by decide))
      have hk0 : (0 : Int) ≤ (k : Int) := by omega
      have hk1 : (k : Int) < (xs.length : Int) := by omega
      clear hcell hcell'
      go_wp2
      go_quiet (fail)
      go_wp2
      go_roundw
      case rel => exact ⟨k + 1, by omega, by go_num, hx.trans (Ext.drewQ _ _)⟩
      case measure => simp [intOf] <;> omega
    · have hkn : k = xs.length := by omega
      subst hkn
      go_wp2
      go_ret
      exact ⟨rfl, hx⟩

end Go.Proofs.Ytemencnfackplaa
