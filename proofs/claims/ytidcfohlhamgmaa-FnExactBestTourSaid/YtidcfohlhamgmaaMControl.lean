/-
  Proved here: what marking and holding slices of Control values does.
  Conditions: none beyond those in each statement.
-/
import Derived.Test.YtidcfohlhamgmaaTControl
import Derived.Test.YtidcfohlhamgmaaMark
namespace Go.Proofs.Ytidcfohlhamgmaa
open Go.RowKit

/-- the mark that begins at k -/
def Ctl.mark (k : Int) : Ctl := ⟨k, k + 1⟩
def mkCtl (k0 : Int) : Nat → Nat → Value := fun i => (Ctl.mark (k0 + 2 * i)).c

set_option maxHeartbeats 1000000 in
theorem laws_markControlS {B0 : Nat} {ao : Option Addr} {cap n : Nat} {c : Nat → Nat → Value} {k0 : Int} {w : World} (h : FreshAt B0 w ao 2 n c) (hn : n ≤ 1099511627776) (h0 : 0 ≤ k0) (h1 : k0 ≤ 1099511627776) :
    Calls Try.prog 27 #[.slice ao n cap, .int .i64 k0] w fun e w' => e = .returned (.int .i64 (k0 + 2 * n)) ∧ w.grownBy w' (blk ao) ∧ FreshAt B0 w' ao 2 n (mkCtl k0) := by
  by_cases hz : n = 0
  · subst hz
    have hlt0 : ¬ ((0 : Nat) : Int) < ((0 : Nat) : Int) := by omega
    go_enter Try.func27, Try.ntmps27
    go_wp2
    go_loopw [1, 5] (fun q i wr => q = .int .i64 k0 ∧ i = .int .i64 0 ∧ wr = w) (fun _ _ _ => 0)
    case atStart => exact ⟨rfl, rfl, rfl⟩
    case round =>
      obtain ⟨rfl, rfl, rfl⟩ := hrel
      go_wp2
      go_ret
      exact ⟨ret_i (by simp), grown_refl _ _, ⟨fun hn => absurd hn (by omega), h.base, h.free⟩⟩
  · obtain ⟨b, off, rfl, _⟩ := h.row (by omega)
    have hst : Over w w b off 2 n 0 (mkCtl k0) := Over.start h (by omega) (by decide)
    have hbase := (h.base _ rfl).1
    clear h
    go_enter Try.func27, Try.ntmps27
    go_wp2
    go_loopw [1, 5] (fun q i wr => ∃ k : Nat, k ≤ n ∧ i = .int .i64 k ∧ q = .int .i64 (k0 + 2 * k) ∧ Over w wr b off 2 n (k * 2) (mkCtl k0)) (fun _ i _ => n - (intOf i).toNat)
    case atStart => exact ⟨0, Nat.zero_le _, rfl, by simp, by simpa using hst⟩
    case round =>
      clear hst
      obtain ⟨k, hk, rfl, rfl, hO⟩ := hrel
      by_cases hlt : k < n
      · obtain ⟨u0, e0⟩ := hO.cell (k * 2) (by omega)
        skip
        have f0 := hO.free (off + k * 2)
        obtain ⟨u1, e1⟩ := hO.cell (k * 2 + 1) (by omega)
        rw [← Nat.add_assoc] at e1
        have f1 := hO.free (off + k * 2 + 1)
        go_wp2
        have R0 := hO
        have R1 := R0.put (i := k) (j := 0) (by decide) (by omega) hlt
        have R2 := R1.put (i := k) (j := 1) (by decide) (by omega) hlt
        go_roundw
        case rel => exact ⟨k + 1, by omega, by go_num, by go_num, by rw [show (k + 1) * 2 = k * 2 + 1 + 1 by omega]; exact R2⟩
        case measure => simp [intOf]; omega
      · have hkn : k = n := by omega
        subst hkn
        go_wp2
        go_ret
        exact ⟨rfl, hO.grown, hO.fresh rfl hbase⟩

end Go.Proofs.Ytidcfohlhamgmaa
