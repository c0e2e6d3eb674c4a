/-
  Proved here: the cursor's marks and shown.
  Conditions: the cursor lies in one block; counts are small.
-/
import Derived.Test.YtidcfohlhamgmaaCurL
import Derived.Test.YtidcfohlhamgmaaTClockMark
namespace Go.Proofs.Ytidcfohlhamgmaa
open Go.RowKit

theorem mark_cells : ∀ (x : Mark) (j : Nat), j < 2 → (x.c j).oneCell' = true := by
  intro x j hj
  rcases j with _ | _ | j <;> first | rfl | omega
def mkOk (m : Mark) : Prop := (-100000 ≤ m.shown ∧ m.shown ≤ 100000) ∧ (-100000 ≤ m.real ∧ m.real ≤ 100000)
def mksOk (ms : List Mark) : Prop := ∀ k, k < ms.length → mkOk (nth ms k)
theorem mksOk.snoc {ms : List Mark} {m : Mark} (h : mksOk ms) (hm : mkOk m) : mksOk (ms ++ [m]) := by
  intro k hk
  by_cases e : k < ms.length
  · have : nth (ms ++ [m]) k = nth ms k := by simp only [nth, List.getD]; rw [List.getElem?_append_left e]
    rw [this]; exact h k e
  · have hk' : k = ms.length := by simp at hk; omega
    subst hk'
    have : nth (ms ++ [m]) ms.length = m := by simp [nth]
    rw [this]; exact hm

end Go.Proofs.Ytidcfohlhamgmaa
