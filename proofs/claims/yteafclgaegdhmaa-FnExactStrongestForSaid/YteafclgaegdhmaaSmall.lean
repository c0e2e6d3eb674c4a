/-
  Proved here: what the small tests on numbers return.
  Conditions: none.
-/
import Derived.Test.YteafclgaegdhmaaRows
import Derived.Test.YteafclgaegdhmaaBase
namespace Go.Proofs.Yteafclgaegdhmaa
open Go.RowKit

theorem spec_l1In {x a b : Int} {w : World} :
    Calls Try.prog 19 #[.int .i64 x, .int .i64 a, .int .i64 b] w fun e w' => e = .returned (.bool (inB x a b)) ∧ w = w' := by
  by_cases h1 : a ≤ x
  · go_enter Try.func19, Try.ntmps19
    go_wp2
    go_ret
    exact ⟨ret_b (by simp [inB, h1]), rfl⟩
  · go_enter Try.func19, Try.ntmps19
    go_wp2
    go_ret
    exact ⟨ret_b (by simp [inB]; omega), rfl⟩

theorem impl_inside {x a b : Int} {w : World} :
    Calls Try.prog 21 #[.int .i64 x, .int .i64 a, .int .i64 b] w fun e w' => e = .returned (.bool (inB x a b)) ∧ w = w' := by
  by_cases h1 : a ≤ x
  · go_enter Try.func21, Try.ntmps21
    go_wp2
    go_ret
    exact ⟨ret_b (by simp [inB, h1]), rfl⟩
  · go_enter Try.func21, Try.ntmps21
    go_wp2
    go_ret
    exact ⟨ret_b (by simp [inB]; omega), rfl⟩

theorem impl_isCode {x : Int} {w : World} :
    Calls Try.prog 45 #[.int .i64 x] w fun e w' => e = .returned (.bool (inB x 31 99)) ∧ w = w' := by
  go_enter Try.func45, Try.ntmps45
  go_wp2_with (go_at_call 21; refine (impl_inside).mono ?_; rintro e w1 ⟨rfl, rfl⟩)
  go_ret
  exact ⟨rfl, rfl⟩

theorem impl_isWeight {x : Int} {w : World} :
    Calls Try.prog 53 #[.int .i64 x] w fun e w' => e = .returned (.bool (inB x 1 10)) ∧ w = w' := by
  go_enter Try.func53, Try.ntmps53
  go_wp2_with (go_at_call 21; refine (impl_inside).mono ?_; rintro e w1 ⟨rfl, rfl⟩)
  go_ret
  exact ⟨rfl, rfl⟩

theorem impl_isRunnerNumber {x : Int} {w : World} :
    Calls Try.prog 25 #[.int .i64 x] w fun e w' => e = .returned (.bool (inB x 1 999)) ∧ w = w' := by
  go_enter Try.func25, Try.ntmps25
  go_wp2_with (go_at_call 21; refine (impl_inside).mono ?_; rintro e w1 ⟨rfl, rfl⟩)
  go_ret
  exact ⟨rfl, rfl⟩

theorem spec_l6Code {x : Int} {w : World} :
    Calls Try.prog 42 #[.int .i64 x] w fun e w' => e = .returned (.bool (inB x 31 99)) ∧ w = w' := by
  go_enter Try.func42, Try.ntmps42
  go_wp2_with (go_at_call 19; refine (spec_l1In).mono ?_; rintro e w1 ⟨rfl, rfl⟩)
  go_ret
  exact ⟨rfl, rfl⟩

theorem spec_l14Who {x : Int} {w : World} :
    Calls Try.prog 41 #[.int .i64 x] w fun e w' => e = .returned (.bool (inB x 1 999)) ∧ w = w' := by
  go_enter Try.func41, Try.ntmps41
  go_wp2_with (go_at_call 19; refine (spec_l1In).mono ?_; rintro e w1 ⟨rfl, rfl⟩)
  go_ret
  exact ⟨rfl, rfl⟩

end Go.Proofs.Yteafclgaegdhmaa
