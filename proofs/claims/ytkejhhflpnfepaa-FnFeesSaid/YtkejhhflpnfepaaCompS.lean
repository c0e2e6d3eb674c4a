/-
  Proved here: what slices.CompactFunc returns and leaves of a row of slices of ints, whatever the test.
  Conditions: the test leaves what was there as it was; the length fits an int.
-/
import Derived.Test.YtkejhhflpnfepaaSortP
import Derived.Test.YtkejhhflpnfepaaRows
import Derived.Test.YtkejhhflpnfepaaDel
import Derived.BigQuiet
namespace Go.Proofs.Ytkejhhflpnfepaa
open Go.RowKit

section
variable {α : Type} [Inhabited α]
/-- the first n without those that are like their left neighbours -/
def keepU (q : α → α → Bool) (d : List α) : Nat → List α
  | 0 => []
  | n + 1 => if n ≠ 0 ∧ q (nth d n) (nth d (n - 1)) = true then keepU q d n else keepU q d n ++ [nth d n]
theorem keepU_yes {q : α → α → Bool} {d : List α} {n : Nat} (h0 : n ≠ 0) (h : q (nth d n) (nth d (n - 1)) = true) : keepU q d (n + 1) = keepU q d n := by rw [keepU, if_pos ⟨h0, h⟩]
theorem keepU_no {q : α → α → Bool} {d : List α} {n : Nat} (h : q (nth d n) (nth d (n - 1)) = false) : keepU q d (n + 1) = keepU q d n ++ [nth d n] := by rw [keepU, if_neg (by rw [h]; simp)]
theorem keepU_le (q : α → α → Bool) (d : List α) (n : Nat) : (keepU q d n).length ≤ n := by
  induction n with
  | zero => simp [keepU]
  | succ n ih =>
    rw [keepU]
    split
    · omega
    · simp; omega
theorem keepU_all {q : α → α → Bool} {d : List α} {n : Nat} (hn : n ≤ d.length) (h : ∀ j, 1 ≤ j → j < n → q (nth d j) (nth d (j - 1)) = false) : keepU q d n = d.take n := by
  induction n with
  | zero => simp [keepU]
  | succ n ih =>
    have e : keepU q d (n + 1) = keepU q d n ++ [nth d n] := by
      by_cases h0 : n = 0
      · rw [keepU, if_neg (fun hh => hh.1 h0)]
      · exact keepU_no (h n (by omega) (by omega))
    rw [e, ih (by omega) (fun j h1 h2 => h j h1 (by omega)), take_succ_nth (by omega)]
theorem keepU_pre {q : α → α → Bool} {d : List α} {n m : Nat} (h : n ≤ m) : ∃ t, keepU q d m = keepU q d n ++ t := by
  induction m with
  | zero => obtain rfl : n = 0 := by omega
            exact ⟨[], by simp⟩
  | succ m ih =>
    by_cases e : n = m + 1
    · subst e; exact ⟨[], by simp⟩
    · obtain ⟨t, ht⟩ := ih (by omega)
      rw [keepU]
      split
      · exact ⟨t, ht⟩
      · exact ⟨t ++ [nth d m], by rw [ht, List.append_assoc]⟩
/-- where element n comes to lie -/
theorem keepU_nth {q : α → α → Bool} {d : List α} {n N : Nat} (hn : n < N) (h : keepU q d (n + 1) = keepU q d n ++ [nth d n]) : nth (keepU q d N) (keepU q d n).length = nth d n := by
  obtain ⟨t, ht⟩ := keepU_pre (q := q) (d := d) (show n + 1 ≤ N from hn)
  rw [ht, h, nth_app_lt (by simp), nth_app_ge (Nat.le_refl _), Nat.sub_self]
  rfl
end

end Go.Proofs.Ytkejhhflpnfepaa
