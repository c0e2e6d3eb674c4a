/-
  Proved here: what the small tests on numbers return.
  Conditions: none.
-/
import Derived.Test.YtdklibjbdhnljaaRows
import Derived.Test.YtdklibjbdhnljaaBase
namespace Go.Proofs.Ytdklibjbdhnljaa
open Go.RowKit

theorem spec_l1In {x a b : Int} {w : World} :
    Calls Try.prog 41 #[.int .i64 x, .int .i64 a, .int .i64 b] w fun e w' => e = .returned (.bool (inB x a b)) ∧ w = w' := by
  by_cases h1 : a ≤ x
  · go_enter Try.func41, Try.ntmps41
    go_wp2
    go_ret
    exact ⟨ret_b (by simp [inB, h1]), rfl⟩
  · go_enter Try.func41, Try.ntmps41
    go_wp2
    go_ret
    exact ⟨ret_b (by simp [inB]; omega), rfl⟩

theorem impl_inside {x a b : Int} {w : World} :
    Calls Try.prog 45 #[.int .i64 x, .int .i64 a, .int .i64 b] w fun e w' => e = .returned (.bool (inB x a b)) ∧ w = w' := by
  by_cases h1 : a ≤ x
  · go_enter Try.func45, Try.ntmps45
    go_wp2
    go_ret
    exact ⟨ret_b (by simp [inB, h1]), rfl⟩
  · go_enter Try.func45, Try.ntmps45
    go_wp2
    go_ret
    exact ⟨ret_b (by simp [inB]; omega), rfl⟩

theorem impl_isCode {x : Int} {w : World} :
    Calls Try.prog 47 #[.int .i64 x] w fun e w' => e = .returned (.bool (inB x 31 99)) ∧ w = w' := by
  go_enter Try.func47, Try.ntmps47
  go_wp2_with (go_at_call 45; refine (impl_inside).mono ?_; rintro e w1 ⟨rfl, rfl⟩)
  go_ret
  exact ⟨rfl, rfl⟩

theorem impl_isTime {x : Int} {w : World} :
    Calls Try.prog 46 #[.int .i64 x] w fun e w' => e = .returned (.bool (inB x 0 36000)) ∧ w = w' := by
  go_enter Try.func46, Try.ntmps46
  go_wp2_with (go_at_call 45; refine (impl_inside).mono ?_; rintro e w1 ⟨rfl, rfl⟩)
  go_ret
  exact ⟨rfl, rfl⟩

theorem spec_l12Time {x : Int} {w : World} :
    Calls Try.prog 42 #[.int .i64 x] w fun e w' => e = .returned (.bool (inB x 0 36000)) ∧ w = w' := by
  go_enter Try.func42, Try.ntmps42
  go_wp2_with (go_at_call 41; refine (spec_l1In).mono ?_; rintro e w1 ⟨rfl, rfl⟩)
  go_ret
  exact ⟨rfl, rfl⟩

theorem spec_l6Code {x : Int} {w : World} :
    Calls Try.prog 43 #[.int .i64 x] w fun e w' => e = .returned (.bool (inB x 31 99)) ∧ w = w' := by
  go_enter Try.func43, Try.ntmps43
  go_wp2_with (go_at_call 41; refine (spec_l1In).mono ?_; rintro e w1 ⟨rfl, rfl⟩)
  go_ret
  exact ⟨rfl, rfl⟩

end Go.Proofs.Ytdklibjbdhnljaa
