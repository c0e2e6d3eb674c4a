/-
  Proved here (plain lists): ascending lists of numbers; a number put into one.
  Conditions: none beyond those in each statement.
-/
import Derived.Test.YtkejhhflpnfepaaPut
namespace Go.Proofs.Ytkejhhflpnfepaa
open Go.RowKit

/-- ascending -/
def AscI (K : List Int) : Prop := K.Pairwise (· < ·)
theorem asc_ext : ∀ {K M : List Int}, AscI K → AscI M → (∀ z, z ∈ K ↔ z ∈ M) → K = M := by
  intro K
  induction K with
  | nil =>
    intro M _ _ h
    cases M with
    | nil => rfl
    | cons m M => have := (h m).2 (by simp); simp at this
  | cons k K ih =>
    intro M hK hM h
    cases M with
    | nil => have := (h k).1 (by simp); simp at this
    | cons m M =>
      unfold AscI at hK hM
      rw [List.pairwise_cons] at hK hM
      have hkm : k = m := by
        have h1 := (h k).1 (by simp)
        have h2 := (h m).2 (by simp)
        simp only [List.mem_cons] at h1 h2
        rcases h1 with h1 | h1
        · exact h1
        · rcases h2 with h2 | h2
          · exact h2.symm
          · have a := hM.1 k h1
            have b := hK.1 m h2
            omega
      subst hkm
      rw [ih hK.2 hM.2 (fun z => ?_)]
      have hz := h z
      simp only [List.mem_cons] at hz
      constructor
      · intro hzK
        rcases hz.1 (.inr hzK) with e | e
        · have := hK.1 z hzK; omega
        · exact e
      · intro hzM
        rcases hz.2 (.inr hzM) with e | e
        · have := hM.1 z hzM; omega
        · exact e

/-- a number put into an ascending list, by recursion -/
def putR : List Int → Int → List Int
  | [], n => [n]
  | k :: ks, n => if k < n then k :: putR ks n else if k = n then k :: ks else n :: k :: ks
theorem putL_eq (K : List Int) (n : Int) : putL K n = putR K n := by
  induction K with
  | nil => rfl
  | cons k K ih =>
    rw [putR]
    by_cases h1 : k < n
    · rw [if_pos h1, ← ih]
      have e : putAt (k :: K) n = putAt K n + 1 := by simp [putAt, h1]
      unfold putL
      rw [e]
      have e2 : nth (k :: K) (putAt K n + 1) = nth K (putAt K n) := rfl
      rw [e2, List.length_cons]
      by_cases h2 : putAt K n < K.length ∧ nth K (putAt K n) = n
      · rw [if_pos h2, if_pos ⟨by omega, h2.2⟩]
      · rw [if_neg h2, if_neg (fun hh => h2 ⟨by omega, hh.2⟩)]
        rfl
    · have e : putAt (k :: K) n = 0 := by simp [putAt, h1]
      rw [if_neg h1]
      unfold putL
      rw [e]
      have e2 : nth (k :: K) 0 = k := rfl
      rw [e2]
      by_cases h2 : k = n
      · rw [if_pos ⟨by simp, h2⟩, if_pos h2]
      · rw [if_neg (fun hh => h2 hh.2), if_neg h2]
        rfl
theorem mem_putR {K : List Int} {n z : Int} : z ∈ putR K n ↔ z ∈ K ∨ z = n := by
  induction K with
  | nil => simp [putR]
  | cons k K ih =>
    rw [putR]
    split
    · simp only [List.mem_cons, ih]; exact or_assoc.symm
    · split
      · rename_i h; subst h; simp only [List.mem_cons]
        constructor
        · exact .inl
        · rintro (h | h)
          · exact h
          · exact .inl h
      · simp only [List.mem_cons]
        constructor
        · rintro (h | h)
          · exact .inr h
          · exact .inl h
        · rintro (h | h)
          · exact .inr h
          · exact .inl h
theorem asc_putR {K : List Int} {n : Int} (h : AscI K) : AscI (putR K n) := by
  induction K with
  | nil => simp [putR, AscI]
  | cons k K ih =>
    have h0 := h
    unfold AscI at h
    rw [List.pairwise_cons] at h
    rw [putR]
    split
    · rename_i h1
      show List.Pairwise _ _
      rw [List.pairwise_cons]
      refine ⟨fun z hz => ?_, ih h.2⟩
      rcases mem_putR.1 hz with h2 | h2
      · exact h.1 z h2
      · omega
    · split
      · exact h0
      · rename_i h1 h2
        show List.Pairwise _ _
        rw [List.pairwise_cons]
        refine ⟨fun z hz => ?_, h0⟩
        rcases List.mem_cons.1 hz with h3 | h3
        · omega
        · have := h.1 z h3; omega

theorem mem_nthA {α : Type} [Inhabited α] {x : α} {xs : List α} (h : x ∈ xs) : ∃ k, k < xs.length ∧ nth xs k = x := by
  obtain ⟨k, hk, e⟩ := List.mem_iff_getElem.1 h
  exact ⟨k, hk, by simp [nth, List.getD, List.getElem?_eq_getElem hk, e]⟩
theorem hasI_mem {K : List Int} {v : Int} : hasI K K.length v = true ↔ v ∈ K := by
  constructor
  · intro h
    by_cases hn : ∃ j, j < K.length ∧ nth K j = v
    · obtain ⟨j, h1, h2⟩ := hn
      rw [← h2]; simp [nth, h1]
    · rw [hasI_no (fun j hj e => hn ⟨j, hj, e⟩)] at h; cases h
  · intro h
    obtain ⟨j, h1, h2⟩ := mem_nthA h
    exact hasI_yes h1 h2
end Go.Proofs.Ytkejhhflpnfepaa
