/-
  Proved here (plain): the order of texts; what cmp.Less returns at texts.
  Conditions: none.
-/
import Derived.Test.YtkejhhflpnfepaaSortP
import Derived.Test.YtkejhhflpnfepaaIdx
import Derived.Test.YtkejhhflpnfepaaRows
import Derived.Sort.Walk0
namespace Go.Proofs.Ytkejhhflpnfepaa
open Go.RowKit

/-- a comes before b -/
def ltS (a b : ByteArray) : Bool := Op.bytesLess a.toList b.toList
def coS (a b : ByteArray) : Int := if ltS a b then -1 else 0
theorem ltS_iff {a b : ByteArray} : ltS a b = true ↔ a.toList < b.toList := by unfold ltS; rw [bytesLess_eq]; simp
theorem ltS_no {a b : ByteArray} : ltS a b = false ↔ b.toList ≤ a.toList := by
  rw [← Bool.not_eq_true, ltS_iff]
  exact List.not_lt
theorem coS_neg {a b : ByteArray} : coS a b < 0 ↔ ltS a b = true := by unfold coS; split <;> rename_i h <;> simp [h]
theorem coS_pos {a b : ByteArray} : 0 ≤ coS a b ↔ ltS a b = false := by unfold coS; split <;> rename_i h <;> simp [h]
theorem coS_flip {a b : ByteArray} (h : coS a b < 0) : 0 ≤ coS b a := by
  rw [coS_pos, ltS_no]
  rw [coS_neg, ltS_iff] at h
  exact List.le_of_lt h
theorem coS_trans {a b c : ByteArray} (h1 : 0 ≤ coS b a) (h2 : 0 ≤ coS c b) : 0 ≤ coS c a := by
  rw [coS_pos, ltS_no] at h1 h2 ⊢
  exact List.le_trans h1 h2
theorem ltS_anti {a b : ByteArray} (h1 : ltS a b = false) (h2 : ltS b a = false) : a.toList = b.toList := by
  rw [ltS_no] at h1 h2
  exact List.le_antisymm h2 h1

theorem cmp_isNaN_S {x : ByteArray} {w : World} : Calls Try.prog 109 #[.string x] w fun e w' => e = .returned (.bool false) ∧ w = w' := by
  go_enter Try.func109, Try.ntmps109
  go_wp2
  go_ret
  exact ⟨by simp, rfl⟩
theorem cmp_Less_S {x y : ByteArray} {w : World} : Calls Try.prog 99 #[.string x, .string y] w fun e w' => e = .returned (.bool (ltS x y)) ∧ w = w' := by
  go_enter Try.func99, Try.ntmps99
  go_wp2_with (go_at_call 109; refine cmp_isNaN_S.mono ?_; rintro e w1 ⟨rfl, rfl⟩)
  go_ret
  exact ⟨rfl, rfl⟩

end Go.Proofs.Ytkejhhflpnfepaa
