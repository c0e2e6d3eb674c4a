/-
  Proved here (plain lists): sums of sizes.
  Conditions: none beyond those in each statement.
-/
import Derived.Test.YtkejhhflpnfepaaCls
import Derived.Test.YtkejhhflpnfepaaReqE
namespace Go.Proofs.Ytkejhhflpnfepaa
open Go.RowKit

theorem sumU_bd {xs : List Int} {M : Int} (h : ∀ k, k < xs.length → 0 ≤ nth xs k ∧ nth xs k ≤ M) : ∀ k, k ≤ xs.length → 0 ≤ sumU xs k ∧ sumU xs k ≤ M * k := by
  intro k
  induction k with
  | zero => intro _; simp [sumU]
  | succ k ih =>
    intro hk
    have h1 := ih (by omega)
    have h2 := h k hk
    have e : sumU xs (k + 1) = sumU xs k + nth xs k := rfl
    rw [e, show ((k + 1 : Nat) : Int) = (k : Int) + 1 by omega, Int.mul_add, Int.mul_one]
    omega
theorem sizL_bd (xs : List Ent) : (sizL xs).length ≤ 99 ∧ (clsL xs).length ≤ 99 := by
  unfold sizL clsL
  have h1 := clsU_len xs 99
  have h2 := szU_len xs 99
  split
  · exact ⟨by omega, by omega⟩
  · simp
theorem sizL_in {xs : List Ent} {k : Nat} (hk : k < (sizL xs).length) : 0 ≤ nth (sizL xs) k ∧ nth (sizL xs) k ≤ xs.length := by
  unfold sizL at hk ⊢
  split at hk
  · rename_i h
    rw [if_pos h]
    rw [szU_map] at hk ⊢
    have e : nth ((clsU xs 99).map fun c => (cntC xs c xs.length : Int)) k = (cntC xs (nth (clsU xs 99) k) xs.length : Int) := by
      have hk2 : k < (clsU xs 99).length := by rw [List.length_map] at hk; exact hk
      simp [nth, List.getD, List.getElem?_map, List.getElem?_eq_getElem hk2]
    rw [e]
    have := cntC_le xs (nth (clsU xs 99) k) xs.length
    omega
  · simp at hk
theorem sizL_fact {xs : List Ent} (hl : xs.length ≤ 13) : (entsB xs = true → sumU (sizL xs) (sizL xs).length = (xs.length : Int)) ∧ ∀ k, k ≤ (sizL xs).length → I64 (sumU (sizL xs) k) := by
  refine ⟨fun h => ?_, fun k hk => ?_⟩
  · rw [sumU_sum _ _ (Nat.le_refl _), List.take_length]
    exact sizL_sum h
  · have h1 := sumU_bd (M := xs.length) (fun k hk => sizL_in hk) k hk
    have h2 := (sizL_bd xs).1
    have h3 : (xs.length : Int) * (k : Int) ≤ 13 * 99 := by
      have : xs.length * k ≤ 13 * 99 := Nat.mul_le_mul hl (by omega)
      have e : ((xs.length * k : Nat) : Int) = (xs.length : Int) * (k : Int) := by simp
      omega
    exact ⟨by omega, by omega⟩
theorem enL_len13 {xs : List Ent} {x : Ent} (h : xs.length ≤ 13) : (enL xs x).length ≤ 14 := by
  unfold enL
  split
  · rw [entL_len]; omega
  · simp
theorem setL_len13 {xs : List Ent} {i : Nat} {x : Ent} (h : xs.length ≤ 13) : (setL xs i x).length ≤ 13 := by
  unfold setL
  split
  · rw [List.length_set]; exact h
  · simp
theorem payL_len13 {xs : List Ent} {r p : Int} (h : xs.length ≤ 13) : (payL xs r p).length ≤ 13 := by
  unfold payL
  split
  · exact setL_len13 h
  · simp
theorem chgL_len13 {xs : List Ent} {r c d : Int} (h : xs.length ≤ 13) : (chgL xs r c d).length ≤ 13 := by
  unfold chgL
  split
  · exact setL_len13 h
  · simp
theorem refL_len13 {xs : List Ent} {r d : Int} (h : xs.length ≤ 13) : (refL xs r d).length ≤ 13 := by
  unfold refL
  split
  · unfold delL; simp; omega
  · simp
theorem lateL_len13 {xs : List Ent} (h : xs.length ≤ 13) : (lateL xs).length ≤ 13 := by
  unfold lateL
  split
  · have := lateU_len xs xs.length; omega
  · simp
theorem enL_pos {xs : List Ent} {x : Ent} (h : enB xs x = true) : 0 < (enL xs x).length := by
  unfold enL; rw [h]; simp only [if_true]; rw [entL_len]; omega

end Go.Proofs.Ytkejhhflpnfepaa
