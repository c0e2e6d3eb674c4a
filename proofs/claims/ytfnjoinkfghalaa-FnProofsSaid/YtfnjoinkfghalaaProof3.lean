/-
  Proved here: the greatest weights, the balance of a visit, and their references.
  Conditions: the proofs are valid ones where a weight is looked up.
-/
import Derived.Test.YtfnjoinkfghalaaProof2
import Derived.Test.YtfnjoinkfghalaaInts
namespace Go.Proofs.Ytfnjoinkfghalaa
open Go.RowKit

/-- proof x counts for this visit, kind and side -/
def cnt (x : Prf) (r c kd : Int) (ag : Bool) : Bool := x.runner == r && x.code == c && x.kind == kd && x.against == ag
/-- the greatest weight among the first k -/
def bestW (xs : List Prf) (r c kd : Int) (ag : Bool) : Nat → Int
  | 0 => 0
  | k + 1 => if cnt (nth xs k) r c kd ag then max (bestW xs r c kd ag k) (nth xs k).weight else bestW xs r c kd ag k
def okPrfs (xs : List Prf) : Prop := ∀ k, k < xs.length → (0 ≤ (nth xs k).kind ∧ (nth xs k).kind ≤ 3) ∧ (1 ≤ (nth xs k).weight ∧ (nth xs k).weight ≤ 10)
theorem okPrfs_of {xs : List Prf} (h : prfsB xs = true) : okPrfs xs := by
  intro k hk
  have h1 := upto_true.1 (Bool.and_eq_true_iff.1 h).2 k hk
  simp only [prfB, Bool.and_eq_true, inB_iff] at h1
  omega
theorem bestW_small {xs : List Prf} {r c kd : Int} {ag : Bool} (h : okPrfs xs) : ∀ k, k ≤ xs.length → 0 ≤ bestW xs r c kd ag k ∧ bestW xs r c kd ag k ≤ 10 := by
  intro k
  induction k with
  | zero => intro _; simp [bestW]
  | succ k ih =>
    intro hk
    have h1 := ih (by omega)
    have h2 := (h k (by omega)).2
    rw [bestW]
    split
    · omega
    · exact h1

theorem spec_l1Most_max {a b : Int} {w : World} :
    Calls Try.prog 97 #[.int .i64 a, .int .i64 b] w fun e w' => e = .returned (.int .i64 (max a b)) ∧ w = w' := by
  by_cases h : b < a
  · rw [show max a b = a by omega]
    go_enter Try.func97, Try.ntmps97
    go_wp2
    go_ret
    exact ⟨rfl, rfl⟩
  · rw [show max a b = b by omega]
    go_enter Try.func97, Try.ntmps97
    go_wp2
    go_ret
    exact ⟨rfl, rfl⟩

set_option maxHeartbeats 1000000 in
theorem spec_l14Best {ao : Option Addr} {cap : Nat} {xs : List Prf} {r c kd : Int} {ag : Bool} {w : World} (h : RowAt w ao 5 xs.length (fun k => (nth xs k).c)) (hn : xs.length ≤ 9223372036854775807) :
    Calls Try.prog 85 #[.slice ao xs.length cap, .int .i64 r, .int .i64 c, .int .i64 kd, .bool ag] w fun e w' => e = .returned (.int .i64 (bestW xs r c kd ag xs.length)) ∧ Ext w w' := by
  go_enter Try.func85, Try.ntmps85
  go_wp2
  go_loopw [11, 12] (fun m i wr => ∃ k : Nat, k ≤ xs.length ∧ i = .int .i64 k ∧ m = .int .i64 (bestW xs r c kd ag k) ∧ Ext w wr) (fun _ i _ => xs.length - (intOf i).toNat)
  case atStart => exact ⟨0, Nat.zero_le _, rfl, rfl, Ext.refl _⟩
  case round =>
    obtain ⟨k, hk, rfl, rfl, hx⟩ := hrel
    by_cases hlt : k < xs.length
    · obtain ⟨b, off, rfl, hcell⟩ := h (by omega)
      have d0 := hx.cells (hcell k hlt 0 (by decide))
      have d1 := hx.cells (hcell k hlt 1 (by decide))
      have d2 := hx.cells (hcell k hlt 2 (by decide))
      have d3 := hx.cells (hcell k hlt 3 (by decide))
      have d4 := hx.cells (hcell k hlt 4 (by decide))
      simp only [Prf.c0, Prf.c1, Prf.c2, Prf.c3, Prf.c4, Nat.add_zero] at d0 d1 d2 d3 d4
      clear hcell h
      by_cases hc : cnt (nth xs k) r c kd ag = true
      · have hn1 : bestW xs r c kd ag (k + 1) = max (bestW xs r c kd ag k) (nth xs k).weight := by rw [bestW, if_pos hc]
        have HN := Lib.hid hn1; clear hn1
        simp only [cnt, Bool.and_eq_true] at hc
        obtain ⟨⟨⟨hc1, hc2⟩, hc3⟩, hc4⟩ := hc
        go_wp2_with (go_at_call 97; refine spec_l1Most_max.mono ?_; rintro e w1 ⟨rfl, rfl⟩)
        go_roundw
        case rel => exact ⟨k + 1, by omega, by go_num, by rw [HN.out], (by repeat (first | (with_reducible exact Ext.refl _) | (with_reducible assumption) | with_reducible refine Ext.drew ?_ | with_reducible refine Ext.alloc ?_ _ | with_reducible refine Ext.setCell ?_ (by first | (simp; done) | (simp; omega) | omega) _ | with_reducible refine Ext.trans ?_ (by with_reducible assumption)))⟩
        case measure => simp [intOf]; omega
      · have hn1 : bestW xs r c kd ag (k + 1) = bestW xs r c kd ag k := by rw [bestW, if_neg hc]
        have HN := Lib.hid hn1; clear hn1
        have hcc : cnt (nth xs k) r c kd ag = false := by simpa using hc
        have HC := Lib.hid hcc; clear hcc hc
        go_wp2_with fail
        all_goals first
          | (go_roundw
             case rel => exact ⟨k + 1, by omega, by go_num, by rw [HN.out], (by repeat (first | (with_reducible exact Ext.refl _) | (with_reducible assumption) | with_reducible refine Ext.drew ?_ | with_reducible refine Ext.alloc ?_ _ | with_reducible refine Ext.setCell ?_ (by first | (simp; done) | (simp; omega) | omega) _ | with_reducible refine Ext.trans ?_ (by with_reducible assumption)))⟩
             case measure => simp [intOf]; omega)
          | (exfalso
             have hc := HC.out
             simp [cnt, *] at hc
             done)
    · have hkn : k = xs.length := by omega
      subst hkn
      go_wp2
      go_ret
      exact ⟨rfl, (by repeat (first | (with_reducible exact Ext.refl _) | (with_reducible assumption) | with_reducible refine Ext.drew ?_ | with_reducible refine Ext.alloc ?_ _ | with_reducible refine Ext.setCell ?_ (by first | (simp; done) | (simp; omega) | omega) _ | with_reducible refine Ext.trans ?_ (by with_reducible assumption)))⟩

end Go.Proofs.Ytfnjoinkfghalaa
