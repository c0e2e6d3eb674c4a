/-
  Proved here (plain lists): without a needless mark the true time at it stays.
  Conditions: the marks are valid.
-/
import Derived.Test.YtfbmablfolknpaaTrue1
import Derived.Test.YtfbmablfolknpaaClocks6
namespace Go.Proofs.Ytfbmablfolknpaa
open Go.RowKit

/-- the marks without mark k -/
def lessM (ms : List Mark) (k : Nat) : List Mark := ms.take k ++ ms.drop (k + 1)
theorem lessM_len {ms : List Mark} {k : Nat} (hk : k < ms.length) : (lessM ms k).length = ms.length - 1 := by
  simp [lessM]; omega
theorem lessM_lo {ms : List Mark} {k j : Nat} (hk : k < ms.length) (hj : j < k) : nth (lessM ms k) j = nth ms j := by
  simp only [nth, List.getD, lessM]
  rw [List.getElem?_append_left (by simp; omega), List.getElem?_take_of_lt hj]
theorem lessM_hi {ms : List Mark} {k j : Nat} (hk : k < ms.length) (hj : k ≤ j) : nth (lessM ms k) j = nth ms (j + 1) := by
  simp only [nth, List.getD, lessM]
  rw [List.getElem?_append_right (by simp; omega), List.getElem?_drop]
  have e : k + 1 + (j - (List.take k ms).length) = j + 1 := by simp; omega
  rw [e]
theorem lessM_ok {ms : List Mark} {k : Nat} (h : marksB ms = true) (h1 : 1 ≤ k) (h2 : k + 1 < ms.length) : marksB (lessM ms k) = true := by
  have hl := (mk_at h).1
  have hlen := lessM_len (ms := ms) (k := k) (by omega)
  unfold marksB
  rw [Bool.and_eq_true]
  refine ⟨upto_true.2 (fun j hj => ?_), by rw [inB_iff]; omega⟩
  rw [hlen] at hj
  have at' : ∀ i, i < ms.length - 1 → ∃ i', i' < ms.length ∧ nth (lessM ms k) i = nth ms i' ∧ (i' = i ∨ i' = i + 1) ∧ (i < k → i' = i) ∧ (k ≤ i → i' = i + 1) := by
    intro i hi
    rcases Nat.lt_or_ge i k with c | c
    · exact ⟨i, by omega, lessM_lo (by omega) c, .inl rfl, fun _ => rfl, fun _ => by omega⟩
    · exact ⟨i + 1, by omega, lessM_hi (by omega) c, .inr rfl, fun _ => by omega, fun _ => rfl⟩
  obtain ⟨j', hj', ej, _, ja, jb⟩ := at' j hj
  have hb := (mk_at h).2 j' hj'
  have hs := inB_iff.2 hb.1
  have hr := inB_iff.2 hb.2.1
  by_cases h0 : 0 < j
  · obtain ⟨p', hp', ep, _, pa, pb⟩ := at' (j - 1) (by omega)
    have hlt : p' < j' := by
      rcases Nat.lt_or_ge j k with c | c
      · have := ja c; have := pa (by omega); omega
      · have := jb c
        rcases Nat.lt_or_ge (j - 1) k with d | d
        · have := pa d; omega
        · have := pb d; omega
    have := mk_lt' h hlt hj'
    exact okMark_f (by rw [ej]; exact hs) (by rw [ej]; exact hr) (by rw [ej, ep]; omega) (by rw [ej, ep]; omega)
  · exact okMark_e (by rw [ej]; exact hs) (by rw [ej]; exact hr) h0
theorem lessM_true {ms : List Mark} {k : Nat} (h : marksB ms = true) (h1 : 1 ≤ k) (h2 : k + 1 < ms.length) (hn : ndB ms k = true) : trueT (lessM ms k) (nth ms k).shown = (nth ms k).real := by
  have hlen := lessM_len (ms := ms) (k := k) (by omega)
  have hok := lessM_ok h h1 h2
  have e0 : nth (lessM ms k) 0 = nth ms 0 := lessM_lo (by omega) (by omega)
  have eL : nth (lessM ms k) ((lessM ms k).length - 1) = nth ms (ms.length - 1) := by
    rw [hlen, lessM_hi (by omega) (by omega)]
    congr 1
    omega
  have c0 := mk_lt' h (show 0 < k by omega) (by omega)
  have cL := mk_lt' h (show k < ms.length - 1 by omega) (by omega)
  unfold trueT
  rw [if_neg (by rw [e0]; omega), if_neg (by rw [eL]; omega)]
  have hs := segF_at (ms := lessM ms k) (t := (nth ms k).shown) (by rw [eL]; omega) (lessM ms k).length 0 (by omega) (by rw [e0]; omega) (by omega)
  generalize segF (lessM ms k) (nth ms k).shown (lessM ms k).length 0 = i at hs
  obtain ⟨g1, g2, g3⟩ := hs
  rw [hlen] at g1
  have hi : i = k - 1 := by
    rcases Nat.lt_trichotomy i (k - 1) with c | c | c
    · rw [lessM_lo (by omega) (by omega : i + 1 < k)] at g3
      have := mk_lt' h (show i + 1 < k by omega) (by omega)
      omega
    · exact c
    · rw [lessM_hi (by omega) (by omega : k ≤ i)] at g2
      have := mk_lt' h (show k < i + 1 by omega) (by omega)
      omega
  subst hi
  have ea : nth (lessM ms k) (k - 1) = nth ms (k - 1) := lessM_lo (by omega) (by omega)
  have eb : nth (lessM ms k) (k - 1 + 1) = nth ms (k + 1) := by
    rw [lessM_hi (by omega) (by omega)]
    congr 1
    omega
  have hlt := mk_lt' h (show k - 1 < k + 1 by omega) h2
  unfold segT
  rw [ea, eb]
  unfold ndB at hn
  have hn' := eq_of_beq hn
  have e1 : 2 * ((nth ms k).shown - (nth ms (k - 1)).shown) * ((nth ms (k + 1)).real - (nth ms (k - 1)).real) = ((nth ms k).real - (nth ms (k - 1)).real) * (2 * ((nth ms (k + 1)).shown - (nth ms (k - 1)).shown)) := by
    rw [Int.mul_assoc, Int.mul_comm ((nth ms k).shown - (nth ms (k - 1)).shown), ← hn', ← Int.mul_assoc, Int.mul_comm 2, Int.mul_assoc]
  rw [e1, Int.add_comm (_ * _) _, Int.add_mul_ediv_right _ _ (by omega), Int.ediv_eq_zero_of_lt (by omega) (by omega)]
  omega

end Go.Proofs.Ytfbmablfolknpaa
