/-
  Proved here: what cmp.Compare and cmp.Or return at ints.
  Conditions: none beyond those in each statement.
-/
import Derived.Test.YtidcfohlhamgmaaOwn
import Derived.Test.YtidcfohlhamgmaaInts
import Derived.Deep.RegionWith
namespace Go.Proofs.Ytidcfohlhamgmaa
open Go.RowKit

def cmpI (a b : Int) : Int := if a < b then -1 else if b < a then 1 else 0
def orI (a b : Int) : Int := if a ≠ 0 then a else b

theorem cmp_isNaN {a : Int} {w : World} :
    Calls Try.prog 109 #[.int .i64 a] w fun e w' => e = .returned (.bool false) ∧ w = w' := by
  go_enter Try.func109, Try.ntmps109
  go_wp2
  go_ret
  exact ⟨ret_b (by simp), rfl⟩

theorem cmp_Compare {a b : Int} {w : World} :
    Calls Try.prog 69 #[.int .i64 a, .int .i64 b] w fun e w' => e = .returned (.int .i64 (cmpI a b)) ∧ w = w' := by
  by_cases h1 : a < b
  all_goals by_cases h2 : b < a
  all_goals
    go_enter Try.func69, Try.ntmps69
    go_wp2_with fail
    refine cmp_isNaN.mono ?_; rintro e w1 ⟨rfl, rfl⟩
    go_wp2_with fail
    refine cmp_isNaN.mono ?_; rintro e w1 ⟨rfl, rfl⟩
    go_wp2
    go_ret
    exact ⟨ret_i (by unfold cmpI; split <;> (try split) <;> omega), rfl⟩

theorem cmp_Or {a b : Int} {B : Nat} {w : World} (h0 : w.cell? ⟨B, 0, none⟩ = some (.int .i64 a)) (h1 : w.cell? ⟨B, 1, none⟩ = some (.int .i64 b)) :
    Calls Try.prog 68 #[.slice (some ⟨B, 0, none⟩) 2 2] w fun e w' => e = .returned (.int .i64 (orI a b)) ∧ Ext w w' := by
  have hbl := World.block_lt_of_cell? _ _ h0
  by_cases ha : a = 0
  all_goals by_cases hb : b = 0
  all_goals
    go_enter Try.func68, Try.ntmps68
    go_wp2
    go_loopw [8] (fun i wr => Ext w wr ∧ (i = .int .i64 0 ∨ (a = 0 ∧ i = .int .i64 1) ∨ (a = 0 ∧ b = 0 ∧ i = .int .i64 2))) (fun i _ => 2 - (intOf i).toNat)
    case atStart => exact ⟨Ext.refl _, .inl rfl⟩
    case round =>
      obtain ⟨hx, hh⟩ := hrel
      have g0 := hx.cells h0
      have g1 := hx.cells h1
      have hlw := Nat.lt_of_lt_of_le hbl hx.size
      rcases hh with rfl | ⟨e1, rfl⟩ | ⟨e1, e2, rfl⟩
      all_goals go_wp2
      all_goals first
        | (go_ret; exact ⟨ret_i (by first | (simp [orI, *]; done) | simp_all [orI]), (by repeat (first | (with_reducible exact Ext.refl _) | (with_reducible assumption) | with_reducible refine Ext.drew ?_ | with_reducible refine Ext.alloc ?_ _ | with_reducible refine Ext.setCell ?_ (by first | (simp; done) | (simp; omega) | omega) _ | with_reducible refine Ext.trans ?_ (by with_reducible assumption)))⟩)
        | (exfalso; simp_all; done)
        | (go_roundw
           case rel => exact ⟨(by repeat (first | (with_reducible exact Ext.refl _) | (with_reducible assumption) | with_reducible refine Ext.drew ?_ | with_reducible refine Ext.alloc ?_ _ | with_reducible refine Ext.setCell ?_ (by first | (simp; done) | (simp; omega) | omega) _ | with_reducible refine Ext.trans ?_ (by with_reducible assumption))), by first | exact .inr (.inl ⟨ha, by go_num⟩) | exact .inr (.inr ⟨ha, hb, by go_num⟩)⟩
           case measure => simp [intOf])

theorem cmp_same {a b : Int} {w : World} :
    Calls Try.prog 69 #[.int .i64 a, .int .i64 b] w fun e w' => e = .returned (.int .i64 (cmpI a b)) ∧ w' = w := cmp_Compare.mono fun _ _ ⟨h1, h2⟩ => ⟨h1, h2.symm⟩

end Go.Proofs.Ytidcfohlhamgmaa
