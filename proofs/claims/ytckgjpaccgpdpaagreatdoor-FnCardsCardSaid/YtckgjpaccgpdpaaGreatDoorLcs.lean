/-
  Proved here: the length of a longest common part of two lists, from the front and from the back (plain lists).
  Conditions: none.
-/
import Derived.Test.YtckgjpaccgpdpaaGreatDoorBase
namespace Go.Proofs.YtckgjpaccgpdpaaGreatDoor

/-- the length of a longest common part -/
def lcs : List Int → List Int → Nat
  | [], _ => 0
  | _ :: _, [] => 0
  | x :: a, y :: b => max (max (lcs a (y :: b)) (lcs (x :: a) b)) (if x = y then lcs a b + 1 else 0)
termination_by a b => a.length + b.length

theorem lcs_nil (b : List Int) : lcs [] b = 0 := by rw [lcs]
theorem lcs_nil' (a : List Int) : lcs a [] = 0 := by cases a <;> rw [lcs]
theorem lcs_cons (x y : Int) (a b : List Int) : lcs (x :: a) (y :: b) = max (max (lcs a (y :: b)) (lcs (x :: a) b)) (if x = y then lcs a b + 1 else 0) := by rw [lcs]

theorem lcs_ge : ∀ (n : Nat) (a b s : List Int), a.length + b.length ≤ n → List.Sublist s a → List.Sublist s b → s.length ≤ lcs a b := by
  intro n
  induction n with
  | zero =>
    intro a b s h h1 _
    have : a.length = 0 := by omega
    have := h1.length_le
    omega
  | succ n ih =>
    intro a b s h h1 h2
    cases a with
    | nil => have := h1.length_le; simp at this; simp [this]
    | cons x a =>
      cases b with
      | nil => have := h2.length_le; simp at this; simp [this]
      | cons y b =>
        rw [lcs_cons]
        simp only [List.length_cons] at h
        cases h1 with
        | cons _ h1 => have := ih a (y :: b) s (by simp only [List.length_cons]; omega) h1 h2; omega
        | cons_cons _ h1 =>
          rename_i s
          cases h2 with
          | cons _ h2 => have := ih (x :: a) b (x :: s) (by simp only [List.length_cons]; omega) (h1.cons_cons x) h2; omega
          | cons_cons _ h2 =>
            have := ih a b s (by omega) h1 h2
            simp only [if_true, List.length_cons]
            omega

theorem lcs_ex : ∀ (n : Nat) (a b : List Int), a.length + b.length ≤ n → ∃ s, List.Sublist s a ∧ List.Sublist s b ∧ s.length = lcs a b := by
  intro n
  induction n with
  | zero =>
    intro a b h
    obtain rfl : a = [] := List.length_eq_zero_iff.1 (by omega)
    exact ⟨[], List.Sublist.refl _, List.nil_sublist _, by rw [lcs_nil]; rfl⟩
  | succ n ih =>
    intro a b h
    cases a with
    | nil => exact ⟨[], List.Sublist.refl _, List.nil_sublist _, by rw [lcs_nil]; rfl⟩
    | cons x a =>
      cases b with
      | nil => exact ⟨[], List.nil_sublist _, List.Sublist.refl _, by rw [lcs_nil']; rfl⟩
      | cons y b =>
        simp only [List.length_cons] at h
        obtain ⟨s1, p1, q1, e1⟩ := ih a (y :: b) (by simp only [List.length_cons]; omega)
        obtain ⟨s2, p2, q2, e2⟩ := ih (x :: a) b (by simp only [List.length_cons]; omega)
        obtain ⟨s3, p3, q3, e3⟩ := ih a b (by omega)
        rw [lcs_cons]
        by_cases hxy : x = y
        · subst hxy
          simp only [if_true]
          by_cases h12 : max (lcs a (x :: b)) (lcs (x :: a) b) ≤ lcs a b + 1
          · exact ⟨x :: s3, p3.cons_cons x, q3.cons_cons x, by simp only [List.length_cons]; omega⟩
          · by_cases h1 : lcs (x :: a) b ≤ lcs a (x :: b)
            · exact ⟨s1, p1.cons x, q1, by omega⟩
            · exact ⟨s2, p2, q2.cons x, by omega⟩
        · simp only [if_neg hxy]
          by_cases h1 : lcs (x :: a) b ≤ lcs a (y :: b)
          · exact ⟨s1, p1.cons x, q1, by omega⟩
          · exact ⟨s2, p2, q2.cons y, by omega⟩

theorem lcs_rev_le (a b : List Int) : lcs a b ≤ lcs a.reverse b.reverse := by
  obtain ⟨s, p, q, e⟩ := lcs_ex _ a b (Nat.le_refl _)
  have := lcs_ge _ a.reverse b.reverse s.reverse (Nat.le_refl _) p.reverse q.reverse
  simp only [List.length_reverse] at this
  omega
theorem lcs_rev (a b : List Int) : lcs a.reverse b.reverse = lcs a b := by
  have h1 := lcs_rev_le a b
  have h2 := lcs_rev_le a.reverse b.reverse
  simp only [List.reverse_reverse] at h2
  omega
theorem lcs_le (a b : List Int) : lcs a b ≤ a.length ∧ lcs a b ≤ b.length := by
  obtain ⟨s, p, q, e⟩ := lcs_ex _ a b (Nat.le_refl _)
  have h1 := p.length_le
  have h2 := q.length_le
  omega

theorem drop_nth {xs : List Int} {k : Nat} (h : k < xs.length) : xs.drop k = nth xs k :: xs.drop (k + 1) := by
  rw [List.drop_eq_getElem_cons h]
  simp [nth, List.getD, h]
theorem take_nth {xs : List Int} {k : Nat} (h : k < xs.length) : (xs.take (k + 1)).reverse = nth xs k :: (xs.take k).reverse := by
  rw [List.take_succ_eq_append_getElem h, List.reverse_append]
  simp [nth, List.getD, h]

/-- from the back: the longest common part of what is left -/
def lcsB (cs ps : List Int) (i k : Nat) : Nat := lcs (cs.drop i) (ps.drop k)
/-- from the front -/
def lcsF (cs ps : List Int) (i k : Nat) : Nat := lcs (cs.take i).reverse (ps.take k).reverse
theorem lcsB_end (cs ps : List Int) (k : Nat) : lcsB cs ps cs.length k = 0 := by simp [lcsB, lcs_nil]
theorem lcsB_end' (cs ps : List Int) (i : Nat) : lcsB cs ps i ps.length = 0 := by simp [lcsB, lcs_nil']
theorem lcsF_zero (cs ps : List Int) (k : Nat) : lcsF cs ps 0 k = 0 := by simp [lcsF, lcs_nil]
theorem lcsF_zero' (cs ps : List Int) (i : Nat) : lcsF cs ps i 0 = 0 := by simp [lcsF, lcs_nil']
theorem lcsB_step {cs ps : List Int} {i k : Nat} (hi : i < cs.length) (hk : k < ps.length) :
    lcsB cs ps i k = max (max (lcsB cs ps (i + 1) k) (lcsB cs ps i (k + 1))) (if nth ps k = nth cs i then lcsB cs ps (i + 1) (k + 1) + 1 else 0) := by
  unfold lcsB
  rw [drop_nth hi, drop_nth hk, lcs_cons]
  by_cases e : nth ps k = nth cs i
  · simp [e]
  · simp [e, show ¬ nth cs i = nth ps k from fun h => e h.symm]
theorem lcsF_step {cs ps : List Int} {i k : Nat} (hi : i < cs.length) (hk : k < ps.length) :
    lcsF cs ps (i + 1) (k + 1) = max (max (lcsF cs ps i (k + 1)) (lcsF cs ps (i + 1) k)) (if nth ps k = nth cs i then lcsF cs ps i k + 1 else 0) := by
  unfold lcsF
  rw [take_nth hi, take_nth hk, lcs_cons]
  by_cases e : nth ps k = nth cs i
  · simp [e]
  · simp [e, show ¬ nth cs i = nth ps k from fun h => e h.symm]
theorem lcs_meet (cs ps : List Int) : lcsF cs ps cs.length ps.length = lcsB cs ps 0 0 := by simp [lcsF, lcsB, lcs_rev]
theorem lcsB_le (cs ps : List Int) (i k : Nat) : lcsB cs ps i k ≤ cs.length := by
  have := (lcs_le (cs.drop i) (ps.drop k)).1
  simp only [List.length_drop] at this
  unfold lcsB; omega
theorem lcsF_le (cs ps : List Int) (i k : Nat) : lcsF cs ps i k ≤ cs.length := by
  have := (lcs_le (cs.take i).reverse (ps.take k).reverse).1
  simp only [List.length_reverse, List.length_take] at this
  unfold lcsF; omega

end Go.Proofs.YtckgjpaccgpdpaaGreatDoor
