/-
  Proved here (plain lists): split times rise and stay below the run's time; merging repeats twice is merging them once; what a first code adds to the most found.
  Conditions: those in each statement.
-/
import Derived.Test.YtbpcejdpgckkoaaCards7
import Derived.Test.YtbpcejdpgckkoaaCards9
import Derived.Test.YtbpcejdpgckkoaaCards10
namespace Go.Proofs.Ytbpcejdpgckkoaa
open Go.RowKit

theorem card_len {c : CardD} (h : cardB c = true) : c.ps.length ≤ 12 := by
  simp only [cardB, headB, Bool.and_eq_true, decide_eq_true_eq] at h
  exact h.1.2
theorem card_at {c : CardD} (h : cardB c = true) {k : Nat} (hk : k < c.ps.length) : (31 ≤ (nth c.ps k).code ∧ (nth c.ps k).code ≤ 99) ∧ (0 ≤ (nth c.ps k).time ∧ (nth c.ps k).time ≤ 36000) ∧ lastT c k ≤ (nth c.ps k).time ∧ (c.finish ≠ -1 → (nth c.ps k).time ≤ c.finish) := by
  simp only [cardB, Bool.and_eq_true] at h
  have := upto_true.1 h.2 k hk
  simp only [okPunch, Bool.and_eq_true, inB_iff, Bool.not_eq_true', Bool.and_eq_false_iff, decide_eq_false_iff_not] at this
  obtain ⟨⟨⟨h1, h2⟩, h3⟩, h4⟩ := this
  refine ⟨h1, h2, by omega, fun hf => ?_⟩
  rcases h4 with h4 | h4
  · exact absurd (by simpa using h4) hf
  · omega
theorem card_rise {c : CardD} (h : cardB c = true) : ∀ (d j : Nat), j + d < c.ps.length → c.start ≤ (nth c.ps j).time ∧ (nth c.ps j).time ≤ (nth c.ps (j + d)).time := by
  have first : ∀ j, j < c.ps.length → c.start ≤ (nth c.ps j).time := by
    intro j
    induction j with
    | zero => intro hj; have := (card_at h hj).2.2.1; simpa [lastT] using this
    | succ j ih => intro hj; have := (card_at h hj).2.2.1; rw [lastT_succ] at this; have := ih (by omega); omega
  intro d
  induction d with
  | zero => intro j hj; exact ⟨first j (by omega), Int.le_refl _⟩
  | succ d ih =>
    intro j hj
    have h1 := ih j (by omega)
    have h2 := (card_at h (k := j + d + 1) (by omega)).2.2.1
    rw [lastT_succ] at h2
    exact ⟨h1.1, by rw [show j + (d + 1) = j + d + 1 by omega]; omega⟩

theorem spU_nth (c : CardD) (cs : List Int) {n k : Nat} (h : k < n) : nth (spU c cs n) k = (nth c.ps (fI c cs k).toNat).time - c.start := by
  induction n with
  | zero => omega
  | succ n ih =>
    rw [spU]
    by_cases e : k = n
    · subst e
      have := nth_last (spU c cs k) ((nth c.ps (fI c cs k).toNat).time - c.start)
      rwa [spU_len] at this
    · rw [nth_init (by rw [spU_len]; omega)]
      exact ih (by omega)
theorem fI_next {c : CardD} {cs : List Int} {k q : Nat} (e : fI c cs k = (q : Int)) : fN c cs k ≤ q ∧ fN c cs (k + 1) = q + 1 := by
  unfold fI at e
  rw [fN]
  cases h : atU c (nth cs k) (fN c cs k) with
  | none => rw [h] at e; simp at e
  | some j =>
    rw [h] at e
    simp only at e
    obtain rfl : j = q := by omega
    exact ⟨(atU_lt h).1, rfl⟩

/-- The split times of a card: none is negative, none is less than the one before, none is greater than the run's time. -/
theorem split_ok {c : CardD} {cs : List Int} (h : spB c cs = true) : (spL c cs).length = cs.length ∧ ∀ i, i < cs.length → 0 ≤ nth (spL c cs) i ∧ (0 < i → nth (spL c cs) (i - 1) ≤ nth (spL c cs) i) ∧ (c.finish ≠ -1 → nth (spL c cs) i ≤ c.finish - c.start) := by
  have eL : spL c cs = spU c cs cs.length := by simp [spL, h]
  rw [eL]
  refine ⟨spU_len _ _ _, fun i hi => ?_⟩
  simp only [spB, Bool.and_eq_true, Bool.not_eq_true'] at h
  have hc : cardB c = true := by have := h.1; simp only [askB, Bool.and_eq_true] at this; exact this.1
  obtain ⟨q, hq, e⟩ := fI_found h.2 hi
  rw [spU_nth c cs hi, e]
  have h1 := card_rise hc 0 q (by omega)
  have h2 := (card_at hc hq).2.2.2
  simp only [Int.toNat_natCast]
  refine ⟨by omega, fun h0 => ?_, fun hf => by have := h2 hf; omega⟩
  obtain ⟨p, hp, e'⟩ := fI_found h.2 (k := i - 1) (by omega)
  rw [spU_nth c cs (by omega), e']
  simp only [Int.toNat_natCast]
  have h3 := (fI_next e').2
  have h4 := (fI_next e).1
  rw [show i - 1 + 1 = i by omega] at h3
  have h5 := card_rise hc (q - p) p (by omega)
  rw [show p + (q - p) = q by omega] at h5
  omega

/-- no two neighbours have one code -/
def apartB (ps : List Pch) : Prop := ∀ j, j + 1 < ps.length → (nth ps j).code ≠ (nth ps (j + 1)).code
theorem mrU_spec (c : CardD) : ∀ k, apartB (mrU c k) ∧ (0 < k → 0 < (mrU c k).length ∧ (nth (mrU c k) ((mrU c k).length - 1)).code = (nth c.ps (k - 1)).code ∧ ∃ j, j < k ∧ nth (mrU c k) ((mrU c k).length - 1) = nth c.ps j) ∧
    (∀ j, j < (mrU c k).length → ∃ q, q < k ∧ nth (mrU c k) j = nth c.ps q ∧ (0 < j → ∃ p, p < q ∧ nth (mrU c k) (j - 1) = nth c.ps p)) := by
  intro k
  induction k with
  | zero => exact ⟨fun j hj => by simp [mrU] at hj, fun h => by omega, fun j hj => by simp [mrU] at hj⟩
  | succ k ih =>
    obtain ⟨i1, i2, i3⟩ := ih
    rw [mrU]
    split
    · rename_i hs
      refine ⟨fun j hj => ?_, fun _ => ⟨by simp, ?_, k, by omega, ?_⟩, fun j hj => ?_⟩
      · simp only [List.length_append, List.length_singleton] at hj
        by_cases e : j + 1 = (mrU c k).length
        · have hk : 0 < k := by
            rcases Nat.eq_zero_or_pos k with e0 | e0
            · subst e0; simp [mrU] at e
            · exact e0
          rw [nth_init (by omega), e, nth_last]
          have h2 := (i2 hk).2.1
          rw [show (mrU c k).length - 1 = j by omega] at h2
          rw [h2]
          simp only [stays, Bool.or_eq_true, beq_iff_eq, bne_iff_ne] at hs
          rcases hs with hs | hs
          · omega
          · exact hs
        · rw [nth_init (by omega), nth_init (by omega)]
          exact i1 j (by omega)
      · simp only [List.length_append, List.length_singleton, Nat.add_sub_cancel, nth_last]
      · simp only [List.length_append, List.length_singleton, Nat.add_sub_cancel, nth_last]
      · simp only [List.length_append, List.length_singleton] at hj
        by_cases e : j = (mrU c k).length
        · subst e
          refine ⟨k, by omega, nth_last _ _, fun h0 => ?_⟩
          obtain ⟨q, hq, e1, _⟩ := i3 ((mrU c k).length - 1) (by omega)
          exact ⟨q, hq, by rw [nth_init (by omega)]; exact e1⟩
        · obtain ⟨q, hq, e1, e2⟩ := i3 j (by omega)
          exact ⟨q, by omega, by rw [nth_init (by omega)]; exact e1, fun h0 => by
            obtain ⟨p, hp, e3⟩ := e2 h0
            exact ⟨p, hp, by rw [nth_init (by omega)]; exact e3⟩⟩
    · rename_i hs
      simp only [stays, Bool.or_eq_true, beq_iff_eq, bne_iff_ne, not_or, Decidable.not_not] at hs
      refine ⟨i1, fun _ => ?_, fun j hj => ?_⟩
      · have h2 := i2 (by omega)
        refine ⟨h2.1, by rw [h2.2.1]; exact hs.2, ?_⟩
        obtain ⟨j, hj, e⟩ := h2.2.2
        exact ⟨j, by omega, e⟩
      · obtain ⟨q, hq, e⟩ := i3 j hj
        exact ⟨q, by omega, e⟩
theorem mrU_same {c : CardD} (h : apartB c.ps) : ∀ k, k ≤ c.ps.length → mrU c k = c.ps.take k := by
  intro k
  induction k with
  | zero => intro _; rfl
  | succ k ih =>
    intro hk
    have hs : stays c k = true := by
      simp only [stays, Bool.or_eq_true, beq_iff_eq, bne_iff_ne]
      by_cases e : k = 0
      · exact .inl e
      · have := h (k - 1) (by omega)
        rw [show k - 1 + 1 = k by omega] at this
        exact .inr this
    rw [mrU, if_pos hs, ih (by omega), List.take_succ_eq_append_getElem (by omega)]
    simp [nth, List.getD, List.getElem?_eq_getElem (show k < c.ps.length by omega)]
theorem merge_ok {c : CardD} (h : cardB c = true) : cardB (mrC c) = true ∧ mrC (mrC c) = mrC c ∧ (mrC c).ps.length ≤ c.ps.length := by
  have hlen := mrU_len c c.ps.length
  have h12 := card_len h
  obtain ⟨i1, _, i3⟩ := mrU_spec c c.ps.length
  have eC : mrC c = ⟨c.number, c.start, c.finish, mrU c c.ps.length⟩ := by simp [mrC, h]
  have hB : cardB ⟨c.number, c.start, c.finish, mrU c c.ps.length⟩ = true := by
    have h0 := h
    simp only [cardB, Bool.and_eq_true] at h0 ⊢
    refine ⟨?_, upto_true.2 fun k hk => ?_⟩
    · have := h0.1
      simp only [headB, Bool.and_eq_true, decide_eq_true_eq] at this ⊢
      exact ⟨this.1, by show (mrU c c.ps.length).length ≤ 12; omega⟩
    · obtain ⟨q, hq, e, hp⟩ := i3 k hk
      have ha := card_at h hq
      have hl : lastT ⟨c.number, c.start, c.finish, mrU c c.ps.length⟩ k ≤ (nth c.ps q).time := by
        cases k with
        | zero => simp only [lastT, if_true]; exact (card_rise h 0 q (by omega)).1
        | succ k =>
          rw [lastT_succ]
          obtain ⟨p, hpq, e'⟩ := hp (by omega)
          simp only [Nat.add_sub_cancel] at e'
          rw [e']
          have := (card_rise h (q - p) p (by omega)).2
          rwa [show p + (q - p) = q by omega] at this
      simp only [okPunch, Bool.and_eq_true, inB_iff, Bool.not_eq_true', Bool.and_eq_false_iff, decide_eq_false_iff_not]
      rw [e]
      refine ⟨⟨⟨ha.1, ha.2.1⟩, by omega⟩, ?_⟩
      by_cases hf : c.finish = -1
      · exact .inl (by simp [hf])
      · exact .inr (by have := ha.2.2.2 hf; show ¬ c.finish < _; omega)
  rw [eC]
  refine ⟨hB, ?_, hlen⟩
  have e2 : mrC ⟨c.number, c.start, c.finish, mrU c c.ps.length⟩ = ⟨c.number, c.start, c.finish, mrU ⟨c.number, c.start, c.finish, mrU c c.ps.length⟩ (mrU c c.ps.length).length⟩ := by simp [mrC, hB]
  rw [e2, mrU_same (c := ⟨c.number, c.start, c.finish, mrU c c.ps.length⟩) i1 _ (Nat.le_refl _)]
  simp

theorem lcs_tail (x : Int) (a b : List Int) : lcs a b ≤ lcs (x :: a) b ∧ lcs (x :: a) b ≤ lcs a b + 1 := by
  constructor
  · obtain ⟨s, h1, h2, h3⟩ := lcs_ex _ a b (Nat.le_refl _)
    rw [← h3]
    exact lcs_ge _ _ _ _ (Nat.le_refl _) (h1.cons x) h2
  · obtain ⟨s, h1, h2, h3⟩ := lcs_ex _ (x :: a) b (Nat.le_refl _)
    rw [← h3]
    cases h1 with
    | cons _ h1 => have := lcs_ge _ _ _ _ (Nat.le_refl _) h1 h2; omega
    | cons_cons _ h1 =>
      rename_i s
      have := lcs_ge _ a b s (Nat.le_refl _) h1 ((List.sublist_cons_self x s).trans h2)
      simp only [List.length_cons]
      omega
theorem most_tail {c : CardD} {cs : List Int} (h : askB c cs = true) (h1 : 0 < cs.length) : askB c (cs.drop 1) = true ∧ lcsB (cs.drop 1) (pco c) 0 0 ≤ lcsB cs (pco c) 0 0 ∧ lcsB cs (pco c) 0 0 ≤ lcsB (cs.drop 1) (pco c) 0 0 + 1 := by
  cases cs with
  | nil => simp at h1
  | cons x a =>
    refine ⟨?_, by simpa [lcsB] using (lcs_tail x a (pco c)).1, by simpa [lcsB] using (lcs_tail x a (pco c)).2⟩
    simp only [askB, codesB, Bool.and_eq_true, decide_eq_true_eq] at h ⊢
    refine ⟨h.1, by have := h.2.1; simp at this ⊢; omega, upto_true.2 fun k hk => ?_⟩
    have := upto_true.1 h.2.2 (k + 1) (by simpa using hk)
    simpa [nth] using this

end Go.Proofs.Ytbpcejdpgckkoaa
