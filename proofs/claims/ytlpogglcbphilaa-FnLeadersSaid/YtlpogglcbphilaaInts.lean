/-
  Proved here: slices of ints: how they are read, copied, compared, summed.
  Conditions: none beyond those in each statement.
-/
import Derived.Test.YtlpogglcbphilaaSmall
import Derived.Test.YtlpogglcbphilaaLaw
namespace Go.Proofs.Ytlpogglcbphilaa
open Go.ChangeShapes Go.WideShapes Go.ChangeAt Go.RowKit Go.Joins Go.Deep

/-- the cell of an int -/
def ic (xs : List Int) : Nat → Nat → Value := fun k _ => .int .i64 (nth xs k)
theorem ints_at' {w : World} {ao : Option Addr} {xs : List Int} (h : RowAt w ao 1 xs.length (ic xs)) (hn : 0 < xs.length) : ∃ b off, ao = some ⟨b, off, none⟩ ∧ ∀ k, k < xs.length → w.cell? ⟨b, off + k, none⟩ = some (.int .i64 (nth xs k)) := by
  obtain ⟨b, off, e, H⟩ := h hn
  exact ⟨b, off, e, fun k hk => by simpa [ic] using H k hk 0 (by decide)⟩
/-- sum of the first k -/
def sumU (xs : List Int) : Nat → Int
  | 0 => 0
  | k + 1 => sumU xs k + nth xs k
def eqI (a b : Int) : Bool := a == b
theorem eqI_iff (a b : Int) : eqI a b = true ↔ a = b := by simp [eqI]

theorem infoInt : (Try.prog.info? 3).map (fun i => (i.zero, i.size, i.bytes)) = some (some (.int .i64 0), 1, 8) := by kernel_rfl

theorem impl_sumInts {ao : Option Addr} {cap : Nat} {xs : List Int} {w : World} (h : RowAt w ao 1 xs.length (ic xs)) (hn : xs.length ≤ 9223372036854775807) (hs : ∀ k, k ≤ xs.length → I64 (sumU xs k)) :
    Calls Try.prog 56 #[.slice ao xs.length cap] w fun e w' => e = .returned (.int .i64 (sumU xs xs.length)) ∧ Ext w w' := by
  go_enter Try.func56, Try.ntmps56
  go_wp2
  go_loopw [3, 8] (fun s i wr => ∃ k : Nat, k ≤ xs.length ∧ i = .int .i64 k ∧ s = .int .i64 (sumU xs k) ∧ Ext w wr) (fun _ i _ => xs.length - (intOf i).toNat)
  case atStart => exact ⟨0, Nat.zero_le _, rfl, rfl, Ext.refl _⟩
  case round =>
    obtain ⟨k, hk, rfl, rfl, hx⟩ := hrel
    by_cases hlt : k < xs.length
    · obtain ⟨b, off, rfl, hcell⟩ := ints_at' h (by omega)
      have d0 := hx.cells (hcell k hlt)
      have hb := hs (k + 1) (by omega)
      simp only [sumU, I64] at hb
      clear hcell h hs
      go_wp2
      go_roundw
      case rel => exact ⟨k + 1, by omega, by go_num, rfl, (by repeat (first | (with_reducible exact Ext.refl _) | (with_reducible assumption) | with_reducible refine Ext.drew ?_ | with_reducible refine Ext.alloc ?_ _ | with_reducible refine Ext.setCell ?_ (by first | (simp; done) | (simp; omega) | omega) _ | with_reducible refine Ext.trans ?_ (by with_reducible assumption)))⟩
      case measure => simp [intOf]; omega
    · have hkn : k = xs.length := by omega
      subst hkn
      go_wp2
      go_ret
      exact ⟨rfl, (by repeat (first | (with_reducible exact Ext.refl _) | (with_reducible assumption) | with_reducible refine Ext.drew ?_ | with_reducible refine Ext.alloc ?_ _ | with_reducible refine Ext.setCell ?_ (by first | (simp; done) | (simp; omega) | omega) _ | with_reducible refine Ext.trans ?_ (by with_reducible assumption)))⟩

end Go.Proofs.Ytlpogglcbphilaa
