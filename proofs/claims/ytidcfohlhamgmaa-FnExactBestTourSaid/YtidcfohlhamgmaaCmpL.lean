/-
  Proved here: what slices.Compare and slices.Equal return at slices of ints.
  Conditions: the lengths fit an int.
-/
import Derived.Test.YtidcfohlhamgmaaCmp1
import Derived.Test.YtidcfohlhamgmaaInts
import Derived.Test.YtidcfohlhamgmaaCur1
import Derived.Test.YtidcfohlhamgmaaSearch
import Derived.BigQuiet
namespace Go.Proofs.Ytidcfohlhamgmaa
open Go.RowKit

/-- the order of two lists: 1, 0 or -1 -/
def cmpLI : List Int → List Int → Int
  | [], [] => 0
  | [], _ :: _ => -1
  | _ :: _, [] => 1
  | x :: xs, y :: ys => if cmpI x y ≠ 0 then cmpI x y else cmpLI xs ys
theorem cmpLI_skip : ∀ {k : Nat} {xs ys : List Int}, k ≤ xs.length → k ≤ ys.length → (∀ j, j < k → cmpI (nth xs j) (nth ys j) = 0) → cmpLI xs ys = cmpLI (xs.drop k) (ys.drop k) := by
  intro k
  induction k with
  | zero => intro xs ys _ _ _; rfl
  | succ k ih =>
    intro xs ys h1 h2 h
    cases xs with
    | nil => simp at h1
    | cons x xs =>
      cases ys with
      | nil => simp at h2
      | cons y ys =>
        have h0 : cmpI x y = 0 := by simpa [nth] using h 0 (by omega)
        rw [cmpLI, if_neg (by simp [h0])]
        exact ih (by simpa using h1) (by simpa using h2) (fun j hj => by simpa [nth] using h (j + 1) (by omega))
theorem drop_nth {xs : List Int} {k : Nat} (h : k < xs.length) : xs.drop k = nth xs k :: xs.drop (k + 1) := by
  rw [List.drop_eq_getElem_cons h]; simp [nth, h]
theorem cmpLI_at {k : Nat} {xs ys : List Int} (h1 : k < xs.length) (h2 : k < ys.length) (h : ∀ j, j < k → cmpI (nth xs j) (nth ys j) = 0) (hn : cmpI (nth xs k) (nth ys k) ≠ 0) : cmpLI xs ys = cmpI (nth xs k) (nth ys k) := by
  rw [cmpLI_skip (by omega) (by omega) h, drop_nth h1, drop_nth h2, cmpLI, if_pos hn]
theorem cmpLI_long {xs ys : List Int} (h1 : ys.length < xs.length) (h : ∀ j, j < ys.length → cmpI (nth xs j) (nth ys j) = 0) : cmpLI xs ys = 1 := by
  rw [cmpLI_skip (by omega) (Nat.le_refl _) h, drop_nth h1, List.drop_length, cmpLI]
theorem cmpLI_end {xs ys : List Int} (h1 : xs.length ≤ ys.length) (h : ∀ j, j < xs.length → cmpI (nth xs j) (nth ys j) = 0) : cmpLI xs ys = if xs.length < ys.length then -1 else 0 := by
  rw [cmpLI_skip (Nat.le_refl _) h1 h, List.drop_length]
  split
  · rename_i h2; rw [drop_nth h2, cmpLI]
  · rename_i h2; rw [List.drop_of_length_le (by omega), cmpLI]

set_option maxHeartbeats 1000000 in
theorem slices_Compare {ao bo : Option Addr} {ac bc : Nat} {xs ys : List Int} {w : World} (h : RowAt w ao 1 xs.length (ic xs)) (h' : RowAt w bo 1 ys.length (ic ys)) (hn : xs.length ≤ 9223372036854775807) (hn' : ys.length ≤ 9223372036854775807) :
    Calls Try.prog 76 #[.slice ao xs.length ac, .slice bo ys.length bc] w fun e w' => e = .returned (.int .i64 (cmpLI xs ys)) ∧ w = w' := by
  go_enter Try.func76, Try.ntmps76
  go_wp2
  go_loop [11] (fun i => ∃ k : Nat, k ≤ xs.length ∧ k ≤ ys.length ∧ i = .int .i64 k ∧ ∀ j, j < k → cmpI (nth xs j) (nth ys j) = 0) (fun i => xs.length - (intOf i).toNat)
  case atStart => exact ⟨0, Nat.zero_le _, Nat.zero_le _, rfl, fun j hj => by omega⟩
  case round =>
    obtain ⟨k, hk, hk', rfl, hb⟩ := hrel
    have HB := Lib.hid hb; clear hb
    by_cases hlt : k < xs.length
    · obtain ⟨b, off, rfl, hcell⟩ := ints_at' h (by omega)
      have d0 := hcell k hlt
      have hk0 : (0 : Int) ≤ (k : Int) := by omega
      have hk1 : (k : Int) < (xs.length : Int) := by omega
      clear hcell
      by_cases hlt2 : k < ys.length
      · obtain ⟨b', off', rfl, hcell'⟩ := ints_at' h' (by omega)
        have d1 := hcell' k hlt2
        have hk2 : ¬ (ys.length : Int) ≤ (k : Int) := by omega
        have hk3 : (k : Int) < (ys.length : Int) := by omega
        clear hcell'
        by_cases hc : cmpI (nth xs k) (nth ys k) = 0
        · have HC := Lib.hid hc
          have hb1 : (cmpI (nth xs k) (nth ys k) != 0) = false := by simp [hc]
          clear hc
          go_wp2_with (go_at_call 69; refine cmp_Compare.mono ?_; rintro e w1 ⟨rfl, rfl⟩)
          go_round
          case rel => exact ⟨k + 1, by omega, by omega, by go_num, fun j hj => by by_cases e : j = k; (subst e; exact HC.out); exact HB.out j (by omega)⟩
          case measure => simp [intOf] <;> omega
        · have HC := Lib.hid hc
          have hb1 : (cmpI (nth xs k) (nth ys k) != 0) = true := by simpa using hc
          clear hc
          go_wp2_with (go_at_call 69; refine cmp_Compare.mono ?_; rintro e w1 ⟨rfl, rfl⟩)
          go_ret
          exact ⟨ret_i (cmpLI_at hlt hlt2 HB.out HC.out).symm, rfl⟩
      · have hk2 : (ys.length : Int) ≤ (k : Int) := by omega
        go_wp2
        go_ret
        exact ⟨ret_i (cmpLI_long (by omega) (fun j hj => HB.out j (by omega))).symm, rfl⟩
    · have hkn : k = xs.length := by omega
      have hk1 : ¬ (k : Int) < (xs.length : Int) := by omega
      have hfin := cmpLI_end (xs := xs) (ys := ys) (by omega) (fun j hj => HB.out j (by omega))
      have HF := Lib.hid hfin; clear hfin hkn
      by_cases hl : xs.length < ys.length
      · have hl2 : (xs.length : Int) < (ys.length : Int) := by omega
        go_wp2
        go_ret
        exact ⟨ret_i (by rw [HF.out, if_pos hl]), rfl⟩
      · have hl2 : ¬ (xs.length : Int) < (ys.length : Int) := by omega
        go_wp2
        go_ret
        exact ⟨ret_i (by rw [HF.out, if_neg hl]), rfl⟩

end Go.Proofs.Ytidcfohlhamgmaa
