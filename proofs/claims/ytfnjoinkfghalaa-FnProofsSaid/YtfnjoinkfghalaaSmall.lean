/-
  Proved here: what the small tests on numbers return.
  Conditions: none.
-/
import Derived.Test.YtfnjoinkfghalaaRows
import Derived.Test.YtfnjoinkfghalaaBase
namespace Go.Proofs.Ytfnjoinkfghalaa
open Go.RowKit

theorem spec_l1In {x a b : Int} {w : World} :
    Calls Try.prog 84 #[.int .i64 x, .int .i64 a, .int .i64 b] w fun e w' => e = .returned (.bool (inB x a b)) ∧ w = w' := by
  by_cases h1 : a ≤ x
  · go_enter Try.func84, Try.ntmps84
    go_wp2
    go_ret
    exact ⟨ret_b (by simp [inB, h1]), rfl⟩
  · go_enter Try.func84, Try.ntmps84
    go_wp2
    go_ret
    exact ⟨ret_b (by simp [inB]; omega), rfl⟩

theorem impl_inside {x a b : Int} {w : World} :
    Calls Try.prog 87 #[.int .i64 x, .int .i64 a, .int .i64 b] w fun e w' => e = .returned (.bool (inB x a b)) ∧ w = w' := by
  by_cases h1 : a ≤ x
  · go_enter Try.func87, Try.ntmps87
    go_wp2
    go_ret
    exact ⟨ret_b (by simp [inB, h1]), rfl⟩
  · go_enter Try.func87, Try.ntmps87
    go_wp2
    go_ret
    exact ⟨ret_b (by simp [inB]; omega), rfl⟩

theorem impl_isCode {x : Int} {w : World} :
    Calls Try.prog 66 #[.int .i64 x] w fun e w' => e = .returned (.bool (inB x 31 99)) ∧ w = w' := by
  go_enter Try.func66, Try.ntmps66
  go_wp2_with (go_at_call 87; refine (impl_inside).mono ?_; rintro e w1 ⟨rfl, rfl⟩)
  go_ret
  exact ⟨rfl, rfl⟩

theorem impl_isWeight {x : Int} {w : World} :
    Calls Try.prog 59 #[.int .i64 x] w fun e w' => e = .returned (.bool (inB x 1 10)) ∧ w = w' := by
  go_enter Try.func59, Try.ntmps59
  go_wp2_with (go_at_call 87; refine (impl_inside).mono ?_; rintro e w1 ⟨rfl, rfl⟩)
  go_ret
  exact ⟨rfl, rfl⟩

theorem spec_l6Code {x : Int} {w : World} :
    Calls Try.prog 91 #[.int .i64 x] w fun e w' => e = .returned (.bool (inB x 31 99)) ∧ w = w' := by
  go_enter Try.func91, Try.ntmps91
  go_wp2_with (go_at_call 84; refine (spec_l1In).mono ?_; rintro e w1 ⟨rfl, rfl⟩)
  go_ret
  exact ⟨rfl, rfl⟩

theorem spec_l14Who {x : Int} {w : World} :
    Calls Try.prog 67 #[.int .i64 x] w fun e w' => e = .returned (.bool (inB x 1 999)) ∧ w = w' := by
  go_enter Try.func67, Try.ntmps67
  go_wp2_with (go_at_call 84; refine (spec_l1In).mono ?_; rintro e w1 ⟨rfl, rfl⟩)
  go_ret
  exact ⟨rfl, rfl⟩

end Go.Proofs.Ytfnjoinkfghalaa
