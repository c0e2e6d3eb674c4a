/-
  Proved here (plain lists): what FnClocks asks of true times, of an added mark, of offsets and of drifts.
  Conditions: those in each statement.
-/
import Derived.Test.YtemencnfackplaaTrue1
import Derived.Test.YtemencnfackplaaClocks2
import Derived.Test.YtemencnfackplaaClocks3
import Derived.Test.YtemencnfackplaaAddM
namespace Go.Proofs.Ytemencnfackplaa
open Go.RowKit

theorem true_at {ms : List Mark} (h : marksB ms = true) {k : Nat} (hk : k < ms.length) : I64 (nth ms k).shown ∧ gTrue ms (nth ms k).shown = .tuple #[.int .i64 (nth ms k).real, .bool true] := by
  have hat := (mk_at h).2 k hk
  have ht := true_mark h hk
  refine ⟨⟨by omega, by omega⟩, ?_⟩
  unfold gTrue
  rw [if_pos (by simp only [ttB, Bool.and_eq_true, inB_iff]; rw [ht]; exact ⟨⟨h, hat.1⟩, hat.2.1⟩), ht]

theorem clk_form (ms : List Mark) (t : Int) :
    ∃ (T O : Int) (B : Bool), gTrue ms t = .tuple #[.int .i64 T, .bool B] ∧ gOffs ms t = .tuple #[.int .i64 O, .bool B] ∧ (B = true → T = t + O ∧ (0 ≤ t ∧ t ≤ 36000) ∧ (0 ≤ T ∧ T ≤ 36000) ∧ I64 (t + 1) ∧
      (∃ (r : Int) (b : Bool), gTrue ms (t + 1) = .tuple #[.int .i64 r, .bool b] ∧ (b = true → T ≤ r)) ∧ ∀ k, k < ms.length → I64 (nth ms k).shown ∧ gTrue ms (nth ms k).shown = .tuple #[.int .i64 (nth ms k).real, .bool true]) := by
  cases h : ttB ms t
  · refine ⟨0, 0, false, ?_, ?_, fun h => by cases h⟩
    · unfold gTrue; rw [h]; rfl
    · unfold gOffs; rw [h]; rfl
  · have h0 := h
    simp only [ttB, Bool.and_eq_true, inB_iff] at h0
    refine ⟨trueT ms t, trueT ms t - t, true, ?_, ?_, fun _ => ⟨by omega, h0.1.2, h0.2, ⟨by omega, by omega⟩, ?_, fun k hk => true_at h0.1.1 hk⟩⟩
    · unfold gTrue; rw [h]; rfl
    · unfold gOffs; rw [h]; rfl
    · unfold gTrue
      cases hb : ttB ms (t + 1)
      · exact ⟨_, _, rfl, fun hh => by cases hh⟩
      · exact ⟨_, _, rfl, fun _ => true_mono h0.1.1 (by omega)⟩

theorem insL_at {α : Type} [Inhabited α] {xs : List α} {i : Nat} {x : α} (hi : i ≤ xs.length) : nth (insL xs i x) i = x := by
  simp only [nth, insL, List.getD]
  rw [List.getElem?_append_right (by simp; omega), show i - (xs.take i).length = 0 by simp; omega]
  rfl
theorem add_yes {ms : List Mark} {x : Mark} (h : adB ms x = true) : (adL ms x).length = ms.length + 1 ∧ gTrue (adL ms x) x.shown = .tuple #[.int .i64 x.real, .bool true] := by
  have hm : marksB (addM ms x) = true := by simp only [adB, Bool.and_eq_true] at h; exact h.2
  have e : adL ms x = addM ms x := by unfold adL; rw [if_pos h]
  have hl := insAt_le ms x.shown
  have hk : insAt ms x.shown < (addM ms x).length := by rw [addM_len]; omega
  have hat : nth (addM ms x) (insAt ms x.shown) = x := insL_at hl
  have := (true_at hm hk).2
  rw [hat] at this
  rw [e]
  exact ⟨addM_len _ _, this⟩
theorem adL_len (ms : List Mark) (x : Mark) : (adL ms x).length ≤ ms.length + 1 := by
  unfold adL
  split
  · rw [addM_len]; exact Nat.le_refl _
  · simp

theorem off_form (ms : List Mark) : ∃ (a d : Int) (b : Bool), gOff ms = .tuple #[.int .i64 a, .int .i64 d, .bool b] := by
  unfold gOff
  split <;> exact ⟨_, _, _, rfl⟩
theorem drift_form (ms : List Mark) : ∃ (n d : Int) (b : Bool), gDrift ms = .tuple #[.int .i64 n, .int .i64 d, .bool b] ∧ (b = true → 0 < n ∧ 0 < d) := by
  unfold gDrift
  split
  · rename_i h
    simp only [Bool.and_eq_true, decide_eq_true_eq] at h
    have h1 := mk_lt' h.1 (show 0 < ms.length - 1 by omega) (by omega)
    have hn : 0 < (dNum ms).toNat := by unfold dNum; omega
    have hd : 0 < (dDen ms).toNat := by unfold dDen; omega
    refine ⟨_, _, _, rfl, fun _ => ?_⟩
    have hg : 0 < Nat.gcd (dNum ms).toNat (dDen ms).toNat := Nat.gcd_pos_of_pos_left _ hn
    have k1 := Nat.div_pos (Nat.le_of_dvd hn (Nat.gcd_dvd_left (dNum ms).toNat (dDen ms).toNat)) hg
    have k2 := Nat.div_pos (Nat.le_of_dvd hd (Nat.gcd_dvd_right (dNum ms).toNat (dDen ms).toNat)) hg
    constructor
    · have := Int.natCast_ediv (dNum ms).toNat (Nat.gcd (dNum ms).toNat (dDen ms).toNat)
      omega
    · have := Int.natCast_ediv (dDen ms).toNat (Nat.gcd (dNum ms).toNat (dDen ms).toNat)
      omega
  · exact ⟨_, _, _, rfl, fun h => by cases h⟩

end Go.Proofs.Ytemencnfackplaa
