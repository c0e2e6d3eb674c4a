/-
  Proved here: what marking and holding slices of Proof values does.
  Conditions: none beyond those in each statement.
-/
import Derived.Test.YtfnjoinkfghalaaTProof
import Derived.Test.YtfnjoinkfghalaaMark
namespace Go.Proofs.Ytfnjoinkfghalaa
open Go.RowKit

/-- the mark that begins at k -/
def Prf.mark (k : Int) : Prf := ⟨k, k + 1, k + 1 + 1, k + 1 + 1 + 1, (k + 1 + 1 + 1 + 1) % 3 == 0⟩
def mkPrf (k0 : Int) : Nat → Nat → Value := fun i => (Prf.mark (k0 + 5 * i)).c

set_option maxHeartbeats 1000000 in
theorem laws_markProofS {B0 : Nat} {ao : Option Addr} {cap n : Nat} {c : Nat → Nat → Value} {k0 : Int} {w : World} (h : FreshAt B0 w ao 5 n c) (hn : n ≤ 1099511627776) (h0 : 0 ≤ k0) (h1 : k0 ≤ 1099511627776) :
    Calls Try.prog 12 #[.slice ao n cap, .int .i64 k0] w fun e w' => e = .returned (.int .i64 (k0 + 5 * n)) ∧ w.grownBy w' (blk ao) ∧ FreshAt B0 w' ao 5 n (mkPrf k0) := by
  by_cases hz : n = 0
  · subst hz
    have hlt0 : ¬ ((0 : Nat) : Int) < ((0 : Nat) : Int) := by omega
    go_enter Try.func12, Try.ntmps12
    go_wp2
    go_loopw [1, 5] (fun q i wr => q = .int .i64 k0 ∧ i = .int .i64 0 ∧ wr = w) (fun _ _ _ => 0)
    case atStart => exact ⟨rfl, rfl, rfl⟩
    case round =>
      obtain ⟨rfl, rfl, rfl⟩ := hrel
      go_wp2
      go_ret
      exact ⟨ret_i (by simp), grown_refl _ _, ⟨fun hn => absurd hn (by omega), h.base, h.free⟩⟩
  · obtain ⟨b, off, rfl, _⟩ := h.row (by omega)
    have hst : Over w w b off 5 n 0 (mkPrf k0) := Over.start h (by omega) (by decide)
    have hbase := (h.base _ rfl).1
    clear h
    go_enter Try.func12, Try.ntmps12
    go_wp2
    go_loopw [1, 5] (fun q i wr => ∃ k : Nat, k ≤ n ∧ i = .int .i64 k ∧ q = .int .i64 (k0 + 5 * k) ∧ Over w wr b off 5 n (k * 5) (mkPrf k0)) (fun _ i _ => n - (intOf i).toNat)
    case atStart => exact ⟨0, Nat.zero_le _, rfl, by simp, by simpa using hst⟩
    case round =>
      clear hst
      obtain ⟨k, hk, rfl, rfl, hO⟩ := hrel
      by_cases hlt : k < n
      · obtain ⟨u0, e0⟩ := hO.cell (k * 5) (by omega)
        skip
        have f0 := hO.free (off + k * 5)
        obtain ⟨u1, e1⟩ := hO.cell (k * 5 + 1) (by omega)
        rw [← Nat.add_assoc] at e1
        have f1 := hO.free (off + k * 5 + 1)
        obtain ⟨u2, e2⟩ := hO.cell (k * 5 + 2) (by omega)
        rw [← Nat.add_assoc] at e2
        have f2 := hO.free (off + k * 5 + 2)
        obtain ⟨u3, e3⟩ := hO.cell (k * 5 + 3) (by omega)
        rw [← Nat.add_assoc] at e3
        have f3 := hO.free (off + k * 5 + 3)
        obtain ⟨u4, e4⟩ := hO.cell (k * 5 + 4) (by omega)
        rw [← Nat.add_assoc] at e4
        have f4 := hO.free (off + k * 5 + 4)
        go_wp2
        have R0 := hO
        have R1 := R0.put (i := k) (j := 0) (by decide) (by omega) hlt
        have R2 := R1.put (i := k) (j := 1) (by decide) (by omega) hlt
        have R3 := R2.put (i := k) (j := 2) (by decide) (by omega) hlt
        have R4 := R3.put (i := k) (j := 3) (by decide) (by omega) hlt
        have R5 := R4.put (i := k) (j := 4) (by decide) (by omega) hlt
        go_roundw
        case rel => exact ⟨k + 1, by omega, by go_num, by go_num, by rw [show (k + 1) * 5 = k * 5 + 1 + 1 + 1 + 1 + 1 by omega]; exact R5⟩
        case measure => simp [intOf]; omega
      · have hkn : k = n := by omega
        subst hkn
        go_wp2
        go_ret
        exact ⟨rfl, hO.grown, hO.fresh rfl hbase⟩

end Go.Proofs.Ytfnjoinkfghalaa
