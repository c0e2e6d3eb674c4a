/-
  Proved here: the first place at which a test holds; that a call of a function enters it.
  Conditions: none beyond those in each statement.
-/
import Derived.Test.YtckgjpaccgpdpaaGreatDoorBase
namespace Go.Proofs.YtckgjpaccgpdpaaGreatDoor
open Go.RowKit

/-- A call of function f enters it. -/
def EntersF (P : Program) (f : FuncId) : Prop := ∀ (args : Array Value) (w : World), (callFunc f args).run P w = .ok (.enter f args) w
theorem entersF_of {P : Program} {f : FuncId} {fn : Func} {c : Code} (hf : P.funcs[f]? = some fn) (hname : (fn.name == "runtime.NumGoroutine") = false) (hb : fn.body = some c) : EntersF P f := by
  intro args w
  have h1 : fn.name ≠ "runtime.NumGoroutine" := by simpa using hname
  simp [callFunc, hf, h1, hb, mark]

/-- the first place at which a test holds, -1 if there is none -/
def idxU (p : Nat → Bool) (n : Nat) : Int := match (List.range n).find? p with | some k => (k : Int) | none => -1
theorem idxU_at {p : Nat → Bool} {n k : Nat} (hk : k < n) (h : p k = true) (hb : ∀ j, j < k → p j = false) : idxU p n = k := by
  have : (List.range n).find? p = some k := by
    rw [List.find?_range_eq_some]
    exact ⟨h, by simpa using hk, fun j hj => by simp [hb j hj]⟩
  simp [idxU, this]
theorem idxU_none {p : Nat → Bool} {n : Nat} (hb : ∀ j, j < n → p j = false) : idxU p n = -1 := by
  have : (List.range n).find? p = none := by
    rw [List.find?_eq_none]
    intro j hj
    rw [hb j (by simpa using hj)]
    simp
  simp [idxU, this]
theorem idxU_nonneg {p : Nat → Bool} {n : Nat} : decide (0 ≤ idxU p n) = !upto (fun k => !p k) n := by
  by_cases h : ∀ j, j < n → p j = false
  · rw [idxU_none h, (upto_true (p := fun k => !p k)).2 (fun k hk => by simp [h k hk])]
    simp
  · have hex : ∃ j, j < n ∧ p j = true := by
      refine Classical.byContradiction fun hne => h fun j hj => ?_
      cases e : p j
      · rfl
      · exact absurd ⟨j, hj, e⟩ hne
    obtain ⟨j, hj, hp⟩ := hex
    rw [upto_false hj (by simp [hp])]
    unfold idxU
    cases e : (List.range n).find? p with
    | none => exact absurd (List.find?_eq_none.1 e j (by simpa using hj)) (by simp [hp])
    | some k => simp

theorem idxU_zero (p : Nat → Bool) : idxU p 0 = -1 := rfl

/-- the first place, seen by cases -/
theorem idxU_cases (p : Nat → Bool) (n : Nat) : (idxU p n = -1 ∧ ∀ j, j < n → p j = false) ∨ ∃ k, k < n ∧ idxU p n = (k : Int) ∧ p k = true ∧ ∀ j, j < k → p j = false := by
  by_cases h : ∀ j, j < n → p j = false
  · exact .inl ⟨idxU_none h, h⟩
  · right
    unfold idxU
    cases e : (List.range n).find? p with
    | none =>
      refine absurd (fun j hj => ?_) h
      have := List.find?_eq_none.1 e j (by simpa using hj)
      simpa using this
    | some k =>
      rw [List.find?_range_eq_some] at e
      obtain ⟨e1, e2, e3⟩ := e
      exact ⟨k, by simpa using e2, rfl, e1, fun j hj => by have := e3 j hj; simpa using this⟩
theorem idxU_bd (p : Nat → Bool) (n : Nat) : -1 ≤ idxU p n ∧ idxU p n ≤ n := by
  rcases idxU_cases p n with ⟨e, _⟩ | ⟨k, hk, e, _⟩ <;> omega

end Go.Proofs.YtckgjpaccgpdpaaGreatDoor
