/-
  Proved here: the laws' own comparison of cards, at equal cards.
  Conditions: the lengths fit an int.
-/
import Derived.Test.YtckgjpaccgpdpaaGreatDoorVeq
import Derived.Test.YtckgjpaccgpdpaaGreatDoorTCard
namespace Go.Proofs.YtckgjpaccgpdpaaGreatDoor
open Go.RowKit

theorem laws_vPunches {ao bo : Option Addr} {ac bc : Nat} {xs : List Pch} {w : World} (h : RowAt w ao 2 xs.length (fun k => (nth xs k).c)) (h' : RowAt w bo 2 xs.length (fun k => (nth xs k).c)) (hn : xs.length ≤ 9223372036854775807) :
    Calls Tryz.prog 45 #[.slice ao xs.length ac, .slice bo xs.length bc] w fun e w' => e = .returned (.bool true) ∧ Ext w w' := by
  go_enter Tryz.func45, Tryz.ntmps45
  go_wp2
  go_loopw [5] (fun i wr => ∃ k : Nat, k ≤ xs.length ∧ i = .int .i64 k ∧ Ext w wr) (fun i _ => xs.length - (intOf i).toNat)
  case atStart => exact ⟨0, Nat.zero_le _, rfl, Ext.refl _⟩
  case round =>
    obtain ⟨k, hk, rfl, hx⟩ := hrel
    by_cases hlt : k < xs.length
    · obtain ⟨b, off, rfl, hcell⟩ := h (by omega)
      obtain ⟨b', off', rfl, hcell'⟩ := h' (by omega)
      have d0 : wr.cell? ⟨b, off + k * 2, none⟩ = some (.int .i64 (nth xs k).code) := hx.cells (hcell k hlt 0 (by decide))
      have d1 : wr.cell? ⟨b, off + k * 2 + 1, none⟩ = some (.int .i64 (nth xs k).time) := hx.cells (hcell k hlt 1 (by decide))
      have d2 : wr.cell? ⟨b', off' + k * 2, none⟩ = some (.int .i64 (nth xs k).code) := hx.cells (hcell' k hlt 0 (by decide))
      have d3 : wr.cell? ⟨b', off' + k * 2 + 1, none⟩ = some (.int .i64 (nth xs k).time) := hx.cells (hcell' k hlt 1 (by decide))
      have hk0 : (0 : Int) ≤ (k : Int) := by omega
      have hk1 : (k : Int) < (xs.length : Int) := by omega
      clear hcell hcell'
      go_wp2
      go_quiet (fail)
      go_wp2
      go_roundw
      case rel => exact ⟨k + 1, by omega, by go_num, hx.trans (Ext.drewQ _ _)⟩
      case measure => simp [intOf] <;> omega
    · have hkn : k = xs.length := by omega
      subst hkn
      go_wp2
      go_ret
      exact ⟨rfl, hx⟩

theorem laws_vCard {c : CardD} {ao bo : Option Addr} {ac bc : Nat} {w : World} (h : RowAt w ao 2 c.ps.length (fun k => (nth c.ps k).c)) (h' : RowAt w bo 2 c.ps.length (fun k => (nth c.ps k).c)) (hn : c.ps.length ≤ 9223372036854775807) :
    Calls Tryz.prog 21 #[c.val ao ac, c.val bo bc] w fun e w' => e = .returned (.bool true) ∧ Ext w w' := by
  have H := fun x (hx : Ext w x) => laws_vPunches (w := x) (ac := ac) (bc := bc) (h.ext hx) (h'.ext hx) hn
  unfold CardD.val
  go_enter Tryz.func21, Tryz.ntmps21
  go_wp2_with fail
  refine (H _ (by repeat (first | (with_reducible exact Ext.refl _) | (with_reducible assumption) | with_reducible refine Ext.drew ?_ | with_reducible refine Ext.alloc ?_ _ | with_reducible refine Ext.setCell ?_ (by first | (simp; done) | (simp; omega) | omega) _ | with_reducible refine Ext.trans ?_ (by with_reducible assumption)))).mono ?_; rintro e w1 ⟨rfl, hx1⟩
  go_wp2
  go_ret
  exact ⟨rfl, (by repeat (first | (with_reducible exact Ext.refl _) | (with_reducible assumption) | with_reducible refine Ext.drew ?_ | with_reducible refine Ext.alloc ?_ _ | with_reducible refine Ext.setCell ?_ (by first | (simp; done) | (simp; omega) | omega) _ | with_reducible refine Ext.trans ?_ (by with_reducible assumption)))⟩

end Go.Proofs.YtckgjpaccgpdpaaGreatDoor
