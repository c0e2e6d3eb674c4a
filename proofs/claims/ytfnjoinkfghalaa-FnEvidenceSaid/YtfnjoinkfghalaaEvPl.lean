/-
  Proved here (plain lists): what FnEvidence asks of what is lacking, of believed codes and of the strongest proof.
  Conditions: those in each statement.
-/
import Derived.Test.YtfnjoinkfghalaaProof7
import Derived.Test.YtfnjoinkfghalaaProof8
import Derived.Test.YtfnjoinkfghalaaProof10
import Derived.Test.YtfnjoinkfghalaaStr4
namespace Go.Proofs.Ytfnjoinkfghalaa
open Go.RowKit

theorem askB_of {ms : List Prf} {r c l : Int} (h : askB ms r c l = true) : prfsB ms = true ∧ (1 ≤ r ∧ r ≤ 999) ∧ (31 ≤ c ∧ c ≤ 99) ∧ (1 ≤ l ∧ l ≤ 20) := by
  simp only [askB, visB, Bool.and_eq_true, inB_iff] at h
  exact ⟨h.1.1.1, h.1.1.2, h.1.2, h.2⟩
/-- the three ways of FnEvidence's first part -/
theorem lacks_form (ms : List Prf) (r c l : Int) :
    (gLacks ms r c l = .tuple #[.int .i64 0, .bool false] ∧ ∃ b f, gBel ms r c l = .tuple #[.bool b, .bool f]) ∨
    (gLacks ms r c l = .tuple #[.int .i64 0, .bool true] ∧ gBel ms r c l = .tuple #[.bool true, .bool true]) ∨
    ∃ k : Nat, k < 10 ∧ gLacks ms r c l = .tuple #[.int .i64 ((k : Int) + 1), .bool true] ∧ gBel ms r c l = .tuple #[.bool false, .bool true] ∧ (addB ms (dev r c k) = true → gBel (addL ms (dev r c k)) r c l = .tuple #[.bool true, .bool true]) := by
  have hbel : ∃ b f, gBel ms r c l = .tuple #[.bool b, .bool f] := by unfold gBel; split <;> exact ⟨_, _, rfl⟩
  by_cases ha : askB ms r c l = true
  · by_cases hb : belB ms r c l = true
    · refine .inr (.inl ⟨?_, ?_⟩)
      · unfold gLacks; rw [if_pos ha, if_pos hb]
      · unfold gBel; rw [if_pos ha, hb]
    · cases hu : lackU ms r c l with
      | none => exact .inl ⟨by unfold gLacks; rw [if_pos ha, if_neg hb, hu], hbel⟩
      | some k =>
        have hb' : belB ms r c l = false := by simpa using hb
        rw [lackU, List.find?_range_eq_some] at hu
        obtain ⟨h1, h2, h3⟩ := hu
        have hk : k < 10 := by simpa using h2
        refine .inr (.inr ⟨k, hk, ?_, ?_, fun hadd => ?_⟩)
        · have hu' : lackU ms r c l = some k := lackU_at hk h1 (fun j hj => by have := h3 j hj; simpa using this)
          unfold gLacks; rw [if_pos ha, if_neg hb, hu']
        · unfold gBel; rw [if_pos ha, hb']
        · have e : addL ms (dev r c k) = ms ++ [dev r c k] := by unfold addL; rw [if_pos hadd]
          rw [e]
          rw [addB_spec] at hadd
          have hq := askB_of ha
          have ha2 : askB (ms ++ [dev r c k]) r c l = true := by
            simp only [askB, visB, Bool.and_eq_true, inB_iff]
            exact ⟨⟨⟨hadd, hq.2.1⟩, hq.2.2.1⟩, hq.2.2.2⟩
          unfold gBel
          rw [if_pos ha2]
          have : belB (ms ++ [dev r c k]) r c l = true := h1
          rw [this]
  · exact .inl ⟨by unfold gLacks; rw [if_neg ha], hbel⟩

theorem bel_best {ms : List Prf} {r c l : Int} (h : belB ms r c l = true) : l ≤ balI ms r c ∧ ∃ q : Nat, q < 4 ∧ 0 < bestW ms r c q false ms.length := by
  simp only [belB, Bool.and_eq_true, Bool.or_eq_true, decide_eq_true_eq] at h
  refine ⟨h.1, ?_⟩
  rcases h.2 with h2 | h2
  · by_cases hn : ∃ q : Nat, q < 4 ∧ 0 < bestW ms r c q false ms.length
    · exact hn
    · exfalso
      have hno : ∀ q : Nat, q < 4 → ¬ 0 < bestW ms r c q false ms.length := fun q hq h => hn ⟨q, hq, h⟩
      have : kindsU ms r c 4 = 0 := by
        rw [kindsU_no (hno 3 (by decide)), kindsU_no (hno 2 (by decide)), kindsU_no (hno 1 (by decide)), kindsU_no (hno 0 (by decide))]
        rfl
      omega
  · exact ⟨3, by decide, h2⟩
theorem belU_at {xs : List Prf} {r l : Int} : ∀ {n i : Nat}, i < (belU xs r l n).length → ∃ k : Nat, k < n ∧ nth (belU xs r l n) i = 31 + (k : Int) ∧ belB xs r (31 + (k : Int)) l = true := by
  intro n
  induction n with
  | zero => intro i hi; simp [belU] at hi
  | succ n ih =>
    intro i hi
    rw [belU] at hi ⊢
    split
    · rename_i h
      rw [if_pos h] at hi
      simp only [List.length_append, List.length_singleton] at hi
      by_cases e : i = (belU xs r l n).length
      · subst e
        exact ⟨n, by omega, by simp [nth], h⟩
      · obtain ⟨k, e1, e2, e3⟩ := ih (i := i) (by omega)
        refine ⟨k, by omega, ?_, e3⟩
        rw [← e2]
        simp only [nth, List.getD]
        rw [List.getElem?_append_left (by omega)]
    · rename_i h
      rw [if_neg h] at hi
      obtain ⟨k, e1, e2, e3⟩ := ih hi
      exact ⟨k, by omega, e2, e3⟩
/-- a believed code's balance and strongest proof -/
theorem cod_at {ms : List Prf} {r l : Int} {i : Nat} (hi : i < (codL ms r l).length) :
    (31 ≤ nth (codL ms r l) i ∧ nth (codL ms r l) i ≤ 99) ∧ (∃ b : Int, gBal ms r (nth (codL ms r l) i) = .tuple #[.int .i64 b, .bool true] ∧ l ≤ b) ∧ strB ms r (nth (codL ms r l) i) = true ∧ (strP ms r (nth (codL ms r l) i)).against = false ∧ (strP ms r (nth (codL ms r l) i)).runner = r := by
  have hB : codB ms r l = true := by
    cases h : codB ms r l
    · rw [codL, h] at hi; simp at hi
    · rfl
  have e : codL ms r l = belU ms r l 69 := by rw [codL, if_pos hB]
  rw [e] at hi ⊢
  obtain ⟨k, hk, e1, h1⟩ := belU_at hi
  rw [e1]
  simp only [codB, Bool.and_eq_true, inB_iff] at hB
  have hv : visB ms r (31 + (k : Int)) = true := by
    simp only [visB, Bool.and_eq_true, inB_iff]
    exact ⟨hB.1, by omega⟩
  obtain ⟨h2, q, hq, hw⟩ := bel_best h1
  have hpos : 0 < (bkU ms r (31 + (k : Int)) 4).weight := by have := bkU_ge 4 q hq (xs := ms) (r := r) (c := 31 + (k : Int)); omega
  obtain ⟨kd, _, e2, _⟩ := bkU_at 4 hpos
  refine ⟨by omega, ⟨_, by unfold gBal; rw [if_pos hv], h2⟩, ?_, ?_, ?_⟩
  · unfold strB; rw [hv]; simpa using hpos
  · unfold strP; rw [if_pos hv, e2]
  · unfold strP; rw [if_pos hv, e2]

end Go.Proofs.Ytfnjoinkfghalaa
