/-
  Proved here: what marking and holding a slice of ints does.
  Conditions: none beyond those in each statement.
-/
import Derived.Test.YtidcfohlhamgmaaInts
import Derived.Test.YtidcfohlhamgmaaMark
namespace Go.Proofs.Ytidcfohlhamgmaa
open Go.RowKit

/-- the marks of ints from k0 on -/
def mkI (k0 : Int) : Nat → Nat → Value := fun i _ => .int .i64 (k0 + i)

set_option maxHeartbeats 400000 in
theorem laws_markIntS {B0 : Nat} {ao : Option Addr} {cap n : Nat} {c : Nat → Nat → Value} {k0 : Int} {w : World} (h : FreshAt B0 w ao 1 n c) (hn : n ≤ 1099511627776) (h0 : 0 ≤ k0) (h1 : k0 ≤ 4503599627370496) :
    Calls Try.prog 29 #[.slice ao n cap, .int .i64 k0] w fun e w' => e = .returned (.int .i64 (k0 + n)) ∧ w.grownBy w' (blk ao) ∧ FreshAt B0 w' ao 1 n (mkI k0) := by
  by_cases hz : n = 0
  · subst hz
    have hlt0 : ¬ ((0 : Nat) : Int) < ((0 : Nat) : Int) := by omega
    go_enter Try.func29, Try.ntmps29
    go_wp2
    go_loopw [1, 5] (fun q i wr => q = .int .i64 k0 ∧ i = .int .i64 0 ∧ wr = w) (fun _ _ _ => 0)
    case atStart => exact ⟨rfl, rfl, rfl⟩
    case round =>
      obtain ⟨rfl, rfl, rfl⟩ := hrel
      go_wp2
      go_ret
      exact ⟨ret_i (by simp), grown_refl _ _, ⟨fun hn => absurd hn (by omega), h.base, h.free⟩⟩
  · obtain ⟨b, off, rfl, _⟩ := h.row (by omega)
    have hst : Over w w b off 1 n 0 (mkI k0) := Over.start h (by omega) (by decide)
    have hbase := (h.base _ rfl).1
    clear h
    go_enter Try.func29, Try.ntmps29
    go_wp2
    go_loopw [1, 5] (fun q i wr => ∃ k : Nat, k ≤ n ∧ i = .int .i64 k ∧ q = .int .i64 (k0 + k) ∧ Over w wr b off 1 n k (mkI k0)) (fun _ i _ => n - (intOf i).toNat)
    case atStart => exact ⟨0, Nat.zero_le _, rfl, by simp, hst⟩
    case round =>
      clear hst
      obtain ⟨k, hk, rfl, rfl, hO⟩ := hrel
      by_cases hlt : k < n
      · obtain ⟨u0, e0⟩ := hO.cell k (by omega)
        have f0 := hO.free (off + k)
        go_wp2
        have R := hO.put (i := k) (j := 0) (by decide) (by omega) hlt
        go_roundw
        case rel => exact ⟨k + 1, by omega, by go_num, by go_num, R⟩
        case measure => simp [intOf]; omega
      · have hkn : k = n := by omega
        subst hkn
        go_wp2
        go_ret
        exact ⟨rfl, hO.grown, hO.fresh (by omega) hbase⟩

theorem laws_heldIntS {ao : Option Addr} {cap n : Nat} {k0 : Int} {w : World} (h : RowAt w ao 1 n (mkI k0)) (hn : n ≤ 1099511627776) (h0 : 0 ≤ k0) (h1 : k0 ≤ 4503599627370496) :
    Calls Try.prog 30 #[.slice ao n cap, .int .i64 k0] w fun e w' => e = .returned (.int .i64 (k0 + n)) ∧ Ext w w' := by
  go_enter Try.func30, Try.ntmps30
  go_wp2
  go_loopw [1, 5] (fun q i wr => ∃ k : Nat, k ≤ n ∧ i = .int .i64 k ∧ q = .int .i64 (k0 + k) ∧ Ext w wr) (fun _ i _ => n - (intOf i).toNat)
  case atStart => exact ⟨0, Nat.zero_le _, rfl, by simp, Ext.refl _⟩
  case round =>
    obtain ⟨k, hk, rfl, rfl, hx⟩ := hrel
    by_cases hlt : k < n
    · obtain ⟨b, off, rfl, hcell⟩ := h (by omega)
      have d0 := hx.cells (hcell k hlt 0 (by decide))
      simp only [mkI, Nat.mul_one, Nat.add_zero] at d0
      clear hcell h
      go_wp2
      go_roundw
      case rel => exact ⟨k + 1, by omega, by go_num, by go_num, (by repeat (first | (with_reducible exact Ext.refl _) | (with_reducible assumption) | with_reducible refine Ext.drew ?_ | with_reducible refine Ext.alloc ?_ _ | with_reducible refine Ext.setCell ?_ (by first | (simp; done) | (simp; omega) | omega) _ | with_reducible refine Ext.trans ?_ (by with_reducible assumption)))⟩
      case measure => simp [intOf]; omega
    · have hkn : k = n := by omega
      subst hkn
      go_wp2
      go_ret
      exact ⟨rfl, (by repeat (first | (with_reducible exact Ext.refl _) | (with_reducible assumption) | with_reducible refine Ext.drew ?_ | with_reducible refine Ext.alloc ?_ _ | with_reducible refine Ext.setCell ?_ (by first | (simp; done) | (simp; omega) | omega) _ | with_reducible refine Ext.trans ?_ (by with_reducible assumption)))⟩

end Go.Proofs.Ytidcfohlhamgmaa
