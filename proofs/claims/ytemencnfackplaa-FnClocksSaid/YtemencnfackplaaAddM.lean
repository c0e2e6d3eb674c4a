/-
  Proved here: what AddMark and its reference return.
  Conditions: the marks are few.
-/
import Derived.Test.YtemencnfackplaaInsMark
import Derived.Test.YtemencnfackplaaClocks1
namespace Go.Proofs.Ytemencnfackplaa
open Go.RowKit

/-- the place of a new mark -/
def insAt (ms : List Mark) (s : Int) : Nat := (ms.takeWhile fun m => decide (m.shown < s)).length
theorem insAt_is {ms : List Mark} {s : Int} : ∀ {k : Nat}, k ≤ ms.length → (∀ j, j < k → (nth ms j).shown < s) → (k < ms.length → ¬ (nth ms k).shown < s) → insAt ms s = k := by
  induction ms with
  | nil => intro k hk _ _; simp [insAt]; simp at hk; omega
  | cons m ms ih =>
    intro k hk h1 h2
    cases k with
    | zero =>
      have := h2 (by simp)
      have hm : ¬ m.shown < s := by simpa [nth] using this
      simp [insAt, hm]
    | succ k =>
      have hm : m.shown < s := by simpa [nth] using h1 0 (by omega)
      have := ih (k := k) (by simpa using hk) (fun j hj => by simpa [nth] using h1 (j + 1) (by omega)) (fun hlt => by simpa [nth] using h2 (by simpa using hlt))
      simp only [insAt] at this ⊢
      rw [List.takeWhile_cons, if_pos (by simpa using hm), List.length_cons, this]
theorem insAt_le (ms : List Mark) (s : Int) : insAt ms s ≤ ms.length := by
  have : ms.takeWhile (fun m => decide (m.shown < s)) ++ ms.dropWhile (fun m => decide (m.shown < s)) = ms := List.takeWhile_append_dropWhile
  have h := congrArg List.length this
  rw [List.length_append] at h
  unfold insAt
  omega
/-- the marks with a new one -/
def addM (ms : List Mark) (x : Mark) : List Mark := insL ms (insAt ms x.shown) x
def adB (ms : List Mark) (x : Mark) : Bool := (decide (ms.length = 0) || marksB ms) && marksB (addM ms x)
def adL (ms : List Mark) (x : Mark) : List Mark := if adB ms x then addM ms x else []
theorem addM_len (ms : List Mark) (x : Mark) : (addM ms x).length = ms.length + 1 := insL_len (insAt_le _ _)

theorem own_at {α : Type} [Inhabited α] {w : World} {base s n gc E H : Nat} {e : TypeId} {cc : α → Nat → Value} {go : Option Addr} {xs : List α} (ho : Owns w base e s cc (.slice go n gc) xs) (hv : (Value.slice go n gc).ownBlock = some E ∨ (Value.slice go n gc).ownBlock = some H) :
    ∃ g, go = some ⟨g, 0, none⟩ ∧ (g = E ∨ g = H) := by
  have h0 : w.ownsRow base e s (.slice go n gc) xs.length (fl s cc xs) := ho
  rcases h0.2 with ⟨e1, _⟩ | ⟨g, cap', cur, e1, _⟩
  · injection e1 with e1 e2 e3
    subst e1
    simp [Value.ownBlock] at hv
  · injection e1 with e1 e2 e3
    subst e1
    refine ⟨g, rfl, ?_⟩
    rcases hv with hv | hv
    · exact .inl (by simpa [Value.ownBlock] using hv)
    · exact .inr (by simpa [Value.ownBlock] using hv)

end Go.Proofs.Ytemencnfackplaa
