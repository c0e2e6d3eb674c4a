/-
  Proved here: the cursor's code6.
  Conditions: the cursor lies in one block; counts are small.
-/
import Derived.Test.YtidcfohlhamgmaaCur3
namespace Go.Proofs.Ytidcfohlhamgmaa
open Go.RowKit

theorem cu_code6 {B n : Nat} {w : World} (h : Cu w B n) (hn : n ≤ 900000) :
    Calls Try.prog 121 #[.pointer (some ⟨B, 0, none⟩)] w fun e w' => ∃ x : Int, e = .returned (.int .i64 x) ∧ (0 ≤ x ∧ x ≤ 100) ∧ Cu w' B (n + 2) ∧ Touch w w' (Span B (B + 1)) := by
  have H := Lib.hid (cu_one (N := 24) h (by omega) (by decide) (by decide))
  clear h
  go_enter Try.func121, Try.ntmps121
  go_wp2_with fail
  refine H.out.mono ?_; rintro e w1 ⟨b, rfl, hc, ht⟩
  have HT := Lib.hid ht
  have HA := Lib.hid (fun T => cu_lit (T := T) (cs := #[.int .i64 0, .int .i64 30, .int .i64 31, .int .i64 99, .int .i64 100]) [0, 30, 31, 99, 100] 0 100 hc (by omega) rfl (by decide) (by decide) (by decide))
  have HB := Lib.hid (fun T => cu_lit (T := T) (cs := #[.int .i64 31, .int .i64 32, .int .i64 34, .int .i64 41, .int .i64 43, .int .i64 45, .int .i64 54, .int .i64 60, .int .i64 77, .int .i64 99]) [31, 32, 34, 41, 43, 45, 54, 60, 77, 99] 0 100 hc (by omega) rfl (by decide) (by decide) (by decide))
  clear hc ht H
  cases b
  · go_wp2_with fail
    refine (HB.out _).mono ?_; rintro e w2 ⟨x, rfl, hx, hc, ht⟩
    have HX := Lib.hid hx; have HC := Lib.hid hc; have HT2 := Lib.hid (HT.out.trans ht)
    clear hx hc ht
    go_wp2
    go_ret
    exact ⟨x, rfl, HX.out, HC.out, HT2.out⟩
  · go_wp2_with fail
    refine (HA.out _).mono ?_; rintro e w2 ⟨x, rfl, hx, hc, ht⟩
    have HX := Lib.hid hx; have HC := Lib.hid hc; have HT2 := Lib.hid (HT.out.trans ht)
    clear hx hc ht
    go_wp2
    go_ret
    exact ⟨x, rfl, HX.out, HC.out, HT2.out⟩

end Go.Proofs.Ytidcfohlhamgmaa
