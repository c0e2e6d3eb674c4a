/-
  Proved here: what the small tests on numbers return.
  Conditions: none.
-/
import Derived.Test.YtckgjpaccgpdpaaDoorRows
import Derived.Test.YtckgjpaccgpdpaaDoorBase
namespace Go.Proofs.YtckgjpaccgpdpaaDoor
open Go.RowKit

theorem spec_l1In {x a b : Int} {w : World} :
    Calls Tryd.prog 28 #[.int .i64 x, .int .i64 a, .int .i64 b] w fun e w' => e = .returned (.bool (inB x a b)) ∧ w = w' := by
  by_cases h1 : a ≤ x
  · go_enter Tryd.func28, Tryd.ntmps28
    go_wp2
    go_ret
    exact ⟨ret_b (by simp [inB, h1]), rfl⟩
  · go_enter Tryd.func28, Tryd.ntmps28
    go_wp2
    go_ret
    exact ⟨ret_b (by simp [inB]; omega), rfl⟩

theorem impl_inside {x a b : Int} {w : World} :
    Calls Tryd.prog 33 #[.int .i64 x, .int .i64 a, .int .i64 b] w fun e w' => e = .returned (.bool (inB x a b)) ∧ w = w' := by
  by_cases h1 : a ≤ x
  · go_enter Tryd.func33, Tryd.ntmps33
    go_wp2
    go_ret
    exact ⟨ret_b (by simp [inB, h1]), rfl⟩
  · go_enter Tryd.func33, Tryd.ntmps33
    go_wp2
    go_ret
    exact ⟨ret_b (by simp [inB]; omega), rfl⟩

theorem impl_isCode {x : Int} {w : World} :
    Calls Tryd.prog 35 #[.int .i64 x] w fun e w' => e = .returned (.bool (inB x 31 99)) ∧ w = w' := by
  go_enter Tryd.func35, Tryd.ntmps35
  go_wp2_with (go_at_call 33; refine (impl_inside).mono ?_; rintro e w1 ⟨rfl, rfl⟩)
  go_ret
  exact ⟨rfl, rfl⟩

theorem impl_isTime {x : Int} {w : World} :
    Calls Tryd.prog 34 #[.int .i64 x] w fun e w' => e = .returned (.bool (inB x 0 36000)) ∧ w = w' := by
  go_enter Tryd.func34, Tryd.ntmps34
  go_wp2_with (go_at_call 33; refine (impl_inside).mono ?_; rintro e w1 ⟨rfl, rfl⟩)
  go_ret
  exact ⟨rfl, rfl⟩

theorem spec_l12Time {x : Int} {w : World} :
    Calls Tryd.prog 29 #[.int .i64 x] w fun e w' => e = .returned (.bool (inB x 0 36000)) ∧ w = w' := by
  go_enter Tryd.func29, Tryd.ntmps29
  go_wp2_with (go_at_call 28; refine (spec_l1In).mono ?_; rintro e w1 ⟨rfl, rfl⟩)
  go_ret
  exact ⟨rfl, rfl⟩

theorem spec_l6Code {x : Int} {w : World} :
    Calls Tryd.prog 30 #[.int .i64 x] w fun e w' => e = .returned (.bool (inB x 31 99)) ∧ w = w' := by
  go_enter Tryd.func30, Tryd.ntmps30
  go_wp2_with (go_at_call 28; refine (spec_l1In).mono ?_; rintro e w1 ⟨rfl, rfl⟩)
  go_ret
  exact ⟨rfl, rfl⟩

end Go.Proofs.YtckgjpaccgpdpaaDoor
