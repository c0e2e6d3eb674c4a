/-
  Proved here: what marking and holding slices of Punch values does.
  Conditions: none beyond those in each statement.
-/
import Derived.Test.YtckgjpaccgpdpaaDoorTPunch
import Derived.Test.YtckgjpaccgpdpaaDoorMark
namespace Go.Proofs.YtckgjpaccgpdpaaDoor
open Go.RowKit

/-- the mark that begins at k -/
def Pch.mark (k : Int) : Pch := ⟨k, k + 1⟩
def mkPch (k0 : Int) : Nat → Nat → Value := fun i => (Pch.mark (k0 + 2 * i)).c

set_option maxHeartbeats 1000000 in
theorem laws_markPunchS {B0 : Nat} {ao : Option Addr} {cap n : Nat} {c : Nat → Nat → Value} {k0 : Int} {w : World} (h : FreshAt B0 w ao 2 n c) (hn : n ≤ 1099511627776) (h0 : 0 ≤ k0) (h1 : k0 ≤ 1099511627776) :
    Calls Tryd.prog 26 #[.slice ao n cap, .int .i64 k0] w fun e w' => e = .returned (.int .i64 (k0 + 2 * n)) ∧ w.grownBy w' (blk ao) ∧ FreshAt B0 w' ao 2 n (mkPch k0) := by
  by_cases hz : n = 0
  · subst hz
    have hlt0 : ¬ ((0 : Nat) : Int) < ((0 : Nat) : Int) := by omega
    go_enter Tryd.func26, Tryd.ntmps26
    go_wp2
    go_loopw [1, 5] (fun q i wr => q = .int .i64 k0 ∧ i = .int .i64 0 ∧ wr = w) (fun _ _ _ => 0)
    case atStart => exact ⟨rfl, rfl, rfl⟩
    case round =>
      obtain ⟨rfl, rfl, rfl⟩ := hrel
      go_wp2
      go_ret
      exact ⟨ret_i (by simp), grown_refl _ _, ⟨fun hn => absurd hn (by omega), h.base, h.free⟩⟩
  · obtain ⟨b, off, rfl, _⟩ := h.row (by omega)
    have hst : Over w w b off 2 n 0 (mkPch k0) := Over.start h (by omega) (by decide)
    have hbase := (h.base _ rfl).1
    clear h
    go_enter Tryd.func26, Tryd.ntmps26
    go_wp2
    go_loopw [1, 5] (fun q i wr => ∃ k : Nat, k ≤ n ∧ i = .int .i64 k ∧ q = .int .i64 (k0 + 2 * k) ∧ Over w wr b off 2 n (k * 2) (mkPch k0)) (fun _ i _ => n - (intOf i).toNat)
    case atStart => exact ⟨0, Nat.zero_le _, rfl, by simp, by simpa using hst⟩
    case round =>
      clear hst
      obtain ⟨k, hk, rfl, rfl, hO⟩ := hrel
      by_cases hlt : k < n
      · obtain ⟨u0, e0⟩ := hO.cell (k * 2) (by omega)
        skip
        have f0 := hO.free (off + k * 2)
        obtain ⟨u1, e1⟩ := hO.cell (k * 2 + 1) (by omega)
        rw [← Nat.add_assoc] at e1
        have f1 := hO.free (off + k * 2 + 1)
        go_wp2
        have R0 := hO
        have R1 := R0.put (i := k) (j := 0) (by decide) (by omega) hlt
        have R2 := R1.put (i := k) (j := 1) (by decide) (by omega) hlt
        go_roundw
        case rel => exact ⟨k + 1, by omega, by go_num, by go_num, by rw [show (k + 1) * 2 = k * 2 + 1 + 1 by omega]; exact R2⟩
        case measure => simp [intOf]; omega
      · have hkn : k = n := by omega
        subst hkn
        go_wp2
        go_ret
        exact ⟨rfl, hO.grown, hO.fresh rfl hbase⟩

set_option maxHeartbeats 1000000 in
theorem laws_heldPunchS {ao : Option Addr} {cap n : Nat} {k0 : Int} {w : World} (h : RowAt w ao 2 n (mkPch k0)) (hn : n ≤ 1099511627776) (h0 : 0 ≤ k0) (h1 : k0 ≤ 1099511627776) :
    Calls Tryd.prog 27 #[.slice ao n cap, .int .i64 k0] w fun e w' => e = .returned (.int .i64 (k0 + 2 * n)) ∧ Ext w w' := by
  go_enter Tryd.func27, Tryd.ntmps27
  go_wp2
  go_loopw [1, 5] (fun q i wr => ∃ k : Nat, k ≤ n ∧ i = .int .i64 k ∧ q = .int .i64 (k0 + 2 * k) ∧ Ext w wr) (fun _ i _ => n - (intOf i).toNat)
  case atStart => exact ⟨0, Nat.zero_le _, rfl, by simp, Ext.refl _⟩
  case round =>
    obtain ⟨k, hk, rfl, rfl, hx⟩ := hrel
    by_cases hlt : k < n
    · obtain ⟨b, off, rfl, hcell⟩ := h (by omega)
      have d0 := hx.cells (hcell k hlt 0 (by decide))
      have d1 := hx.cells (hcell k hlt 1 (by decide))
      simp only [mkPch, Pch.mark, Pch.c0, Pch.c1, Nat.add_zero] at d0 d1
      clear hcell h
      go_wp2
      go_roundw
      case rel => exact ⟨k + 1, by omega, by go_num, by go_num, (by repeat (first | (with_reducible exact Ext.refl _) | (with_reducible assumption) | with_reducible refine Ext.drew ?_ | with_reducible refine Ext.alloc ?_ _ | with_reducible refine Ext.setCell ?_ (by first | (simp; done) | (simp; omega) | omega) _ | with_reducible refine Ext.trans ?_ (by with_reducible assumption)))⟩
      case measure => simp [intOf]; omega
    · have hkn : k = n := by omega
      subst hkn
      go_wp2
      go_ret
      exact ⟨rfl, (by repeat (first | (with_reducible exact Ext.refl _) | (with_reducible assumption) | with_reducible refine Ext.drew ?_ | with_reducible refine Ext.alloc ?_ _ | with_reducible refine Ext.setCell ?_ (by first | (simp; done) | (simp; omega) | omega) _ | with_reducible refine Ext.trans ?_ (by with_reducible assumption)))⟩

end Go.Proofs.YtckgjpaccgpdpaaDoor
