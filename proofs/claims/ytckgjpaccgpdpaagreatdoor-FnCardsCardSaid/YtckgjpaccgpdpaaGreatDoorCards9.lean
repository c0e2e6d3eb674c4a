/-
  Proved here: what MergeRepeats and its reference return.
  Conditions: the number of punches fits an int.
-/
import Derived.Test.YtckgjpaccgpdpaaGreatDoorCards1
import Derived.Test.YtckgjpaccgpdpaaGreatDoorApart
import Derived.Deep.RegionLaw
import Derived.Deep.DrawnRows
namespace Go.Proofs.YtckgjpaccgpdpaaGreatDoor
open Go.RowKit

/-- whether punch k stays -/
def stays (c : CardD) (k : Nat) : Bool := k == 0 || (nth c.ps (k - 1)).code != (nth c.ps k).code
/-- the punches that stay among the first -/
def mrU (c : CardD) : Nat → List Pch
  | 0 => []
  | k + 1 => if stays c k then mrU c k ++ [nth c.ps k] else mrU c k
def mrC (c : CardD) : CardD := if cardB c then ⟨c.number, c.start, c.finish, mrU c c.ps.length⟩ else ⟨0, 0, 0, []⟩
theorem mrU_len (c : CardD) (k : Nat) : (mrU c k).length ≤ k := by
  induction k with
  | zero => simp [mrU]
  | succ k ih => rw [mrU]; split <;> (try simp) <;> omega
theorem mrC_len (c : CardD) : (mrC c).ps.length ≤ 12 := by
  unfold mrC
  split
  · rename_i h
    have := mrU_len c c.ps.length
    simp only [cardB, headB, Bool.and_eq_true, decide_eq_true_eq] at h
    have := h.1.2
    show (mrU c c.ps.length).length ≤ 12
    omega
  · simp
theorem pch_cells : ∀ (x : Pch) (j : Nat), j < 2 → (x.c j).oneCell' = true := by
  intro x j hj
  match j, hj with
  | 0, _ => rfl
  | 1, _ => rfl
theorem grown_put (w : World) (p : Addr) (u : Value) : w.grownBy (w.setCell p u) (some p.block) :=
  ⟨rfl, rfl, rfl, by simp [World.setCell], fun k _ hne => Below.heap_setCell _ _ _ _ (fun e => hne (by rw [e]))⟩
theorem Owns.keptG {α : Type} {w w' : World} {base : Nat} {e : TypeId} {s : Nat} {cc : α → Nat → Value} {v : Value} {xs : List α} {row : Option Nat} (h : Owns w base e s cc v xs) (hg : w.grownBy w' row) (hne : v.ownBlock ≠ row) : Owns w' base e s cc v xs := by
  have h0 : w.ownsRow base e s v xs.length (fl s cc xs) := h
  exact h0.kept hg (.inr hne)
theorem Apart.mono {w w' : World} {go : Option Addr} {v : Value} (h : Apart w go v) (hs : w.heap.size ≤ w'.heap.size) : Apart w' go v := fun a e => ⟨Nat.lt_of_lt_of_le (h a e).1 hs, (h a e).2⟩

attribute [local go_sem ↓] Go.wp_at_zero Go.wp_at_succ

end Go.Proofs.YtckgjpaccgpdpaaGreatDoor
