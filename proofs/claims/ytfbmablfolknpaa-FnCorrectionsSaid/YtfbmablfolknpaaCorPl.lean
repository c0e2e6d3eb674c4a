/-
  Proved here (plain lists): what a corrected card has; where needless marks stand; the true time without one.
  Conditions: those in each statement.
-/
import Derived.Test.YtfbmablfolknpaaCorr3
import Derived.Test.YtfbmablfolknpaaCorr4
import Derived.Test.YtfbmablfolknpaaTrue2
namespace Go.Proofs.Ytfbmablfolknpaa
open Go.RowKit

theorem otU_none {L : List Pch} {n : Nat} (h : ∀ k, 0 < k → k < n → (nth L (k - 1)).time ≤ (nth L k).time) : otU L n = [] := by
  induction n with
  | zero => rfl
  | succ n ih =>
    rw [otU, if_neg (fun hq => by have := h n hq.1 (by omega); omega)]
    exact ih fun k h0 hk => h k h0 (by omega)
theorem card_next {c : CardD} (h : cardB c = true) {k : Nat} (h0 : 0 < k) (hk : k < c.ps.length) : (nth c.ps (k - 1)).time ≤ (nth c.ps k).time := by
  simp only [cardB, Bool.and_eq_true] at h
  have := upto_true.1 h.2 k hk
  simp only [okPunch, Bool.and_eq_true, Bool.not_eq_true', decide_eq_false_iff_not] at this
  have h1 := this.1.2
  have e : lastT c k = (nth c.ps (k - 1)).time := by
    obtain ⟨j, rfl⟩ : ∃ j, k = j + 1 := ⟨k - 1, by omega⟩
    rw [lastT_succ]; simp
  rw [e] at h1
  omega
theorem corr_ok {c : CardD} {code : Int} {ms : List Mark} (h : ccB c code ms = true) :
    corA c code ms = true ∧ otL c code ms = [] ∧ (ccC c code ms).ps.length = c.ps.length ∧ cardB (ccC c code ms) = true ∧ cardB c = true ∧ marksB ms = true ∧ ∀ k, k < c.ps.length → nth (ccC c code ms).ps k = corP ms code (nth c.ps k) := by
  have h0 := h
  simp only [ccB, Bool.and_eq_true] at h
  have eC : ccC c code ms = corC c code ms := by simp [ccC, h0]
  have hA := h.1
  simp only [corA, Bool.and_eq_true] at hA
  have hL : (corL c code ms c.ps.length).length = c.ps.length := corL_len _ _ _ _
  refine ⟨h.1, ?_, by rw [eC]; exact hL, by rw [eC]; exact h.2, hA.1.1, hA.2, fun k hk => by rw [eC]; exact corL_nth c code ms hk⟩
  unfold otL
  rw [if_pos h.1]
  exact otU_none fun k h0 hk => card_next h.2 h0 (by show k < (corL c code ms c.ps.length).length; rw [hL]; exact hk)
theorem needU_at (ms : List Mark) : ∀ n i, i < (needU ms n).length → ∃ k : Nat, nth (needU ms n) i = (k : Int) ∧ 1 ≤ k ∧ k < n ∧ ndB ms k = true := by
  intro n
  induction n with
  | zero => intro i hi; simp [needU] at hi
  | succ n ih =>
    intro i hi
    rw [needU] at hi ⊢
    split
    · rename_i h
      rw [if_pos h] at hi
      simp only [Bool.and_eq_true, decide_eq_true_eq] at h
      simp only [List.length_append, List.length_singleton] at hi
      by_cases e : i = (needU ms n).length
      · subst e
        exact ⟨n, nth_last _ _, h.1, by omega, h.2⟩
      · obtain ⟨k, e1, e2, e3, e4⟩ := ih i (by omega)
        exact ⟨k, by rw [nth_init (by omega)]; exact e1, e2, by omega, e4⟩
    · rename_i h
      rw [if_neg h] at hi
      obtain ⟨k, e1, e2, e3, e4⟩ := ih i hi
      exact ⟨k, e1, e2, by omega, e4⟩
theorem need_ok {ms : List Mark} {i : Nat} (hi : i < (nmL ms).length) : ∃ k : Nat, nth (nmL ms) i = (k : Int) ∧ 1 ≤ k ∧ k + 1 < ms.length ∧ (lessM ms k).length ≤ 6 ∧ I64 (nth ms k).shown ∧ gTrue (lessM ms k) (nth ms k).shown = .tuple #[.int .i64 (nth ms k).real, .bool true] := by
  unfold nmL at hi ⊢
  split at hi
  · rename_i hm
    rw [if_pos hm]
    obtain ⟨k, e1, e2, e3, e4⟩ := needU_at ms _ i hi
    have hl := (mk_at hm).1
    have hk : k + 1 < ms.length := by omega
    have hat := (mk_at hm).2 k (by omega)
    have ht := lessM_true hm e2 hk e4
    have hok := lessM_ok hm e2 hk
    refine ⟨k, e1, e2, hk, by rw [lessM_len (by omega)]; omega, ⟨by omega, by omega⟩, ?_⟩
    unfold gTrue
    rw [if_pos (by simp only [ttB, Bool.and_eq_true, inB_iff]; rw [ht]; exact ⟨⟨hok, hat.1⟩, hat.2.1⟩), ht]
  · simp at hi
/-- a true time that is told is the one of the corrected punch -/
theorem cor_time {c : CardD} {code : Int} {ms : List Mark} (hc : cardB c = true) {k : Nat} (hk : k < c.ps.length) :
    (corP ms code (nth c.ps k)).code = (nth c.ps k).code ∧ ((nth c.ps k).code ≠ code → (corP ms code (nth c.ps k)).time = (nth c.ps k).time) ∧ I64 (nth c.ps k).time ∧
    ∃ (r : Int) (o : Bool), gTrue ms (nth c.ps k).time = .tuple #[.int .i64 r, .bool o] ∧ ((nth c.ps k).code = code → o = true → (corP ms code (nth c.ps k)).time = r) := by
  have ht := card_punch hc hk
  refine ⟨by unfold corP; split <;> rfl, fun h => by rw [corP, if_neg h], ⟨by omega, by omega⟩, ?_⟩
  unfold gTrue
  split
  · exact ⟨_, _, rfl, fun h _ => by rw [corP, if_pos h]⟩
  · exact ⟨_, _, rfl, fun _ h => by cases h⟩

end Go.Proofs.Ytfbmablfolknpaa
