/-
  Proved here (plain lists): true times never decrease, and each mark is met exactly.
  Conditions: the marks are valid.
-/
import Derived.Test.YtemencnfackplaaClocks5
namespace Go.Proofs.Ytemencnfackplaa
open Go.RowKit

theorem mk_at {ms : List Mark} (h : marksB ms = true) : (1 ≤ ms.length ∧ ms.length ≤ 6) ∧ ∀ k, k < ms.length → (0 ≤ (nth ms k).shown ∧ (nth ms k).shown ≤ 36000) ∧ (0 ≤ (nth ms k).real ∧ (nth ms k).real ≤ 36000) ∧ (0 < k → (nth ms (k - 1)).shown < (nth ms k).shown ∧ (nth ms (k - 1)).real < (nth ms k).real) := by
  unfold marksB at h
  rw [Bool.and_eq_true] at h
  obtain ⟨h1, h2⟩ := h
  rw [inB_iff] at h2
  refine ⟨by omega, fun k hk => ?_⟩
  have h3 := upto_true.1 h1 k hk
  simp only [okMark, Bool.and_eq_true, inB_iff, Bool.not_eq_true', Bool.and_eq_false_iff, Bool.or_eq_false_iff, decide_eq_false_iff_not] at h3
  obtain ⟨⟨h4, h5⟩, h6⟩ := h3
  exact ⟨h4, h5, fun h0 => by rcases h6 with h6 | ⟨h6, h7⟩ <;> omega⟩
theorem mk_lt {ms : List Mark} (h : marksB ms = true) : ∀ d j, j + 1 + d < ms.length → (nth ms j).shown < (nth ms (j + 1 + d)).shown ∧ (nth ms j).real < (nth ms (j + 1 + d)).real := by
  intro d
  induction d with
  | zero => intro j hj; have := ((mk_at h).2 (j + 1) hj).2.2 (by omega); simpa using this
  | succ d ih =>
    intro j hj
    have h1 := ih j (by omega)
    have h2 := ((mk_at h).2 (j + 1 + d + 1) hj).2.2 (by omega)
    have e : j + 1 + d + 1 - 1 = j + 1 + d := by omega
    rw [e] at h2
    have e2 : j + 1 + (d + 1) = j + 1 + d + 1 := by omega
    rw [e2]
    omega
theorem mk_lt' {ms : List Mark} (h : marksB ms = true) {j k : Nat} (hjk : j < k) (hk : k < ms.length) : (nth ms j).shown < (nth ms k).shown ∧ (nth ms j).real < (nth ms k).real := by
  have := mk_lt h (k - j - 1) j (by omega)
  have e : j + 1 + (k - j - 1) = k := by omega
  rw [e] at this
  exact this
theorem mk_le' {ms : List Mark} (h : marksB ms = true) {j k : Nat} (hjk : j ≤ k) (hk : k < ms.length) : (nth ms j).shown ≤ (nth ms k).shown ∧ (nth ms j).real ≤ (nth ms k).real := by
  rcases Nat.lt_or_eq_of_le hjk with h1 | h1
  · have := mk_lt' h h1 hk; omega
  · subst h1; omega
theorem segF_at {ms : List Mark} {t : Int} (ht : t ≤ (nth ms (ms.length - 1)).shown) : ∀ f i, i + 2 ≤ ms.length → (nth ms i).shown < t → ms.length ≤ f + i + 2 → segF ms t f i + 2 ≤ ms.length ∧ (nth ms (segF ms t f i)).shown < t ∧ t ≤ (nth ms (segF ms t f i + 1)).shown := by
  intro f
  induction f with
  | zero =>
    intro i h1 h2 h3
    have e : i + 1 = ms.length - 1 := by omega
    exact ⟨h1, h2, by show t ≤ (nth ms (i + 1)).shown; rw [e]; exact ht⟩
  | succ f ih =>
    intro i h1 h2 h3
    rw [segF]
    split
    · rename_i hlt
      have hne : i + 1 ≠ ms.length - 1 := fun e => by rw [e] at hlt; omega
      exact ih (i + 1) (by omega) hlt (by omega)
    · rename_i hlt
      exact ⟨h1, h2, by omega⟩
theorem seg_bd {sa sb ra rb t : Int} (h1 : sa ≤ t) (h2 : t ≤ sb) (h3 : sa < sb) (h4 : ra < rb) : 0 ≤ (2 * (t - sa) * (rb - ra) + (sb - sa)) / (2 * (sb - sa)) ∧ (2 * (t - sa) * (rb - ra) + (sb - sa)) / (2 * (sb - sa)) ≤ rb - ra := by
  have hp : 0 ≤ 2 * (t - sa) * (rb - ra) := Int.mul_nonneg (by omega) (by omega)
  have hq : (t - sa) * (rb - ra) ≤ (sb - sa) * (rb - ra) := Int.mul_le_mul_of_nonneg_right (by omega) (by omega)
  have e1 : 2 * (t - sa) * (rb - ra) = 2 * ((t - sa) * (rb - ra)) := by rw [Int.mul_assoc]
  constructor
  · exact Int.ediv_nonneg (by omega) (by omega)
  · have : (2 * (t - sa) * (rb - ra) + (sb - sa)) / (2 * (sb - sa)) < rb - ra + 1 := by
      refine Int.ediv_lt_of_lt_mul (by omega) ?_
      have e2 : (rb - ra + 1) * (2 * (sb - sa)) = 2 * ((sb - sa) * (rb - ra)) + 2 * (sb - sa) := by
        rw [Int.add_mul, Int.one_mul, Int.mul_left_comm, Int.mul_comm (rb - ra)]
      rw [e2, e1]
      omega
    omega
theorem seg_mono {sa sb ra rb t t' : Int} (h1 : t ≤ t') (h3 : sa < sb) (h4 : ra < rb) : (2 * (t - sa) * (rb - ra) + (sb - sa)) / (2 * (sb - sa)) ≤ (2 * (t' - sa) * (rb - ra) + (sb - sa)) / (2 * (sb - sa)) := by
  refine Int.ediv_le_ediv (by omega) ?_
  have : 2 * (t - sa) * (rb - ra) ≤ 2 * (t' - sa) * (rb - ra) := Int.mul_le_mul_of_nonneg_right (by omega) (by omega)
  omega
theorem seg_end {sa sb ra rb : Int} (h3 : sa < sb) : (2 * (sb - sa) * (rb - ra) + (sb - sa)) / (2 * (sb - sa)) = rb - ra := by
  rw [Int.mul_comm (2 * (sb - sa)) (rb - ra), Int.add_comm, Int.add_mul_ediv_right _ _ (by omega), Int.ediv_eq_zero_of_lt (by omega) (by omega)]
  omega

/-- a true time lies between those of the two marks around it -/
theorem true_mark {ms : List Mark} (h : marksB ms = true) {k : Nat} (hk : k < ms.length) : trueT ms (nth ms k).shown = (nth ms k).real := by
  have hl := (mk_at h).1
  unfold trueT
  split
  · rename_i h0
    have : k = 0 := by
      rcases Nat.eq_zero_or_pos k with e | e
      · exact e
      · have := (mk_lt' h e hk).1; omega
    subst this; omega
  · rename_i h0
    split
    · rename_i h1
      have : k = ms.length - 1 := by
        rcases Nat.lt_or_ge k (ms.length - 1) with e | e
        · have := (mk_lt' h e (by omega)).1; omega
        · omega
      subst this; omega
    · rename_i h1
      have h2 : 2 ≤ ms.length := by
        rcases Nat.lt_or_ge ms.length 2 with e | e
        · have e1 : k = 0 := by omega
          subst e1; omega
        · exact e
      have hs := segF_at (ms := ms) (t := (nth ms k).shown) (by omega) ms.length 0 (by omega) (by omega) (by omega)
      generalize segF ms (nth ms k).shown ms.length 0 = i at hs
      have hki : k = i + 1 := by
        rcases Nat.lt_trichotomy k (i + 1) with e | e | e
        · have := (mk_le' h (show k ≤ i by omega) (by omega)).1; omega
        · exact e
        · have := (mk_lt' h e hk).1; omega
      subst hki
      have h3 := mk_lt' h (Nat.lt_succ_self i) hk
      unfold segT
      rw [seg_end (by omega)]
      omega
theorem true_mono {ms : List Mark} (h : marksB ms = true) {t t' : Int} (htt : t ≤ t') : trueT ms t ≤ trueT ms t' := by
  have hl := (mk_at h).1
  have seg : ∀ t : Int, ¬ t ≤ (nth ms 0).shown → ¬ (nth ms (ms.length - 1)).shown ≤ t → ∃ i, segF ms t ms.length 0 = i ∧ i + 1 < ms.length ∧ (nth ms i).shown < t ∧ t ≤ (nth ms (i + 1)).shown := by
    intro t a b
    have h2 : 2 ≤ ms.length := by
      rcases Nat.lt_or_ge ms.length 2 with e | e
      · have e1 : ms.length - 1 = 0 := by omega
        rw [e1] at b; omega
      · exact e
    have hs := segF_at (ms := ms) (t := t) (by omega) ms.length 0 (by omega) (by omega) (by omega)
    exact ⟨_, rfl, by omega, hs.2.1, hs.2.2⟩
  have bd : ∀ (t : Int) (i : Nat), i + 1 < ms.length → (nth ms i).shown < t → t ≤ (nth ms (i + 1)).shown → (nth ms i).real ≤ segT ms t i ∧ segT ms t i ≤ (nth ms (i + 1)).real := by
    intro t i hi a b
    have h3 := mk_lt' h (Nat.lt_succ_self i) hi
    have := seg_bd (sa := (nth ms i).shown) (sb := (nth ms (i + 1)).shown) (ra := (nth ms i).real) (rb := (nth ms (i + 1)).real) (t := t) (by omega) b h3.1 h3.2
    unfold segT
    omega
  have hends := mk_le' h (Nat.zero_le (ms.length - 1)) (by omega)
  unfold trueT
  by_cases a : t ≤ (nth ms 0).shown
  · rw [if_pos a]
    by_cases a' : t' ≤ (nth ms 0).shown
    · rw [if_pos a']; omega
    · rw [if_neg a']
      by_cases b' : (nth ms (ms.length - 1)).shown ≤ t'
      · rw [if_pos b']; omega
      · rw [if_neg b']
        obtain ⟨i, e, hi, p, q⟩ := seg t' a' b'
        rw [e]
        have := bd t' i hi p q
        have := mk_le' h (Nat.zero_le i) (by omega)
        omega
  · rw [if_neg a, if_neg (by omega : ¬ t' ≤ (nth ms 0).shown)]
    by_cases b : (nth ms (ms.length - 1)).shown ≤ t
    · rw [if_pos b, if_pos (by omega)]; omega
    · rw [if_neg b]
      obtain ⟨i, e, hi, p, q⟩ := seg t a b
      rw [e]
      have h1 := bd t i hi p q
      by_cases b' : (nth ms (ms.length - 1)).shown ≤ t'
      · rw [if_pos b']
        have := mk_le' h (show i + 1 ≤ ms.length - 1 by omega) (by omega)
        omega
      · rw [if_neg b']
        obtain ⟨i', e', hi', p', q'⟩ := seg t' (by omega) b'
        rw [e']
        have h2 := bd t' i' hi' p' q'
        rcases Nat.lt_trichotomy i i' with c | c | c
        · have := mk_le' h (show i + 1 ≤ i' by omega) (by omega)
          omega
        · subst c
          have h3 := mk_lt' h (Nat.lt_succ_self i) hi
          have := seg_mono (sa := (nth ms i).shown) (sb := (nth ms (i + 1)).shown) (ra := (nth ms i).real) (rb := (nth ms (i + 1)).real) htt h3.1 h3.2
          unfold segT
          omega
        · have := mk_le' h (show i' + 1 ≤ i by omega) (by omega)
          omega

end Go.Proofs.Ytemencnfackplaa
