/-
  Proved here: what the small tests on numbers return.
  Conditions: none.
-/
import Derived.Test.YtdfnkdikmijjdaaRows
import Derived.Test.YtdfnkdikmijjdaaBase
namespace Go.Proofs.Ytdfnkdikmijjdaa
open Go.RowKit

theorem spec_l1In {x a b : Int} {w : World} :
    Calls Try.prog 39 #[.int .i64 x, .int .i64 a, .int .i64 b] w fun e w' => e = .returned (.bool (inB x a b)) ∧ w = w' := by
  by_cases h1 : a ≤ x
  · go_enter Try.func39, Try.ntmps39
    go_wp2
    go_ret
    exact ⟨ret_b (by simp [inB, h1]), rfl⟩
  · go_enter Try.func39, Try.ntmps39
    go_wp2
    go_ret
    exact ⟨ret_b (by simp [inB]; omega), rfl⟩

theorem impl_inside {x a b : Int} {w : World} :
    Calls Try.prog 30 #[.int .i64 x, .int .i64 a, .int .i64 b] w fun e w' => e = .returned (.bool (inB x a b)) ∧ w = w' := by
  by_cases h1 : a ≤ x
  · go_enter Try.func30, Try.ntmps30
    go_wp2
    go_ret
    exact ⟨ret_b (by simp [inB, h1]), rfl⟩
  · go_enter Try.func30, Try.ntmps30
    go_wp2
    go_ret
    exact ⟨ret_b (by simp [inB]; omega), rfl⟩

theorem impl_isCode {x : Int} {w : World} :
    Calls Try.prog 45 #[.int .i64 x] w fun e w' => e = .returned (.bool (inB x 31 99)) ∧ w = w' := by
  go_enter Try.func45, Try.ntmps45
  go_wp2_with (go_at_call 30; refine (impl_inside).mono ?_; rintro e w1 ⟨rfl, rfl⟩)
  go_ret
  exact ⟨rfl, rfl⟩

theorem spec_l6Code {x : Int} {w : World} :
    Calls Try.prog 56 #[.int .i64 x] w fun e w' => e = .returned (.bool (inB x 31 99)) ∧ w = w' := by
  go_enter Try.func56, Try.ntmps56
  go_wp2_with (go_at_call 39; refine (spec_l1In).mono ?_; rintro e w1 ⟨rfl, rfl⟩)
  go_ret
  exact ⟨rfl, rfl⟩

end Go.Proofs.Ytdfnkdikmijjdaa
