/-
  Proved here: what cmp.Compare and cmp.Or return at ints; what StrongestFor's tests return.
  Conditions: none beyond those in each statement.
-/
import Derived.Test.YtfnjoinkfghalaaStr0
import Derived.Test.YtfnjoinkfghalaaOwn
import Derived.Deep.RegionWith
namespace Go.Proofs.Ytfnjoinkfghalaa
open Go.RowKit

def cmpI (a b : Int) : Int := if a < b then -1 else if b < a then 1 else 0
def orI (a b : Int) : Int := if a ≠ 0 then a else b
def ordI (x y : Prf) : Int := orI (cmpI y.weight x.weight) (cmpI x.kind y.kind)
theorem ordI_less (x y : Prf) : decide (ordI x y < 0) = lessP x y := by
  have hw : cmpI y.weight x.weight = 0 ∨ cmpI y.weight x.weight ≠ 0 := by omega
  unfold ordI orI lessP
  rw [Bool.eq_iff_iff]
  simp only [Bool.or_eq_true, Bool.and_eq_true, decide_eq_true_eq]
  unfold cmpI
  by_cases h1 : y.weight < x.weight
  · rw [if_pos h1, if_pos (by decide)]
    simp [h1]
  · rw [if_neg h1]
    by_cases h2 : x.weight < y.weight
    · rw [if_pos h2, if_pos (by decide)]
      simp [h1]; omega
    · rw [if_neg h2, if_neg (by decide)]
      by_cases h3 : x.kind < y.kind
      · rw [if_pos h3]; simp [h3]; omega
      · rw [if_neg h3]
        by_cases h4 : y.kind < x.kind
        · rw [if_pos h4]; simp [h1]; omega
        · rw [if_neg h4]; simp [h1]; omega

theorem cmp_isNaN {a : Int} {w : World} :
    Calls Try.prog 95 #[.int .i64 a] w fun e w' => e = .returned (.bool false) ∧ w = w' := by
  go_enter Try.func95, Try.ntmps95
  go_wp2
  go_ret
  exact ⟨ret_b (by simp), rfl⟩

theorem cmp_Compare {a b : Int} {w : World} :
    Calls Try.prog 75 #[.int .i64 a, .int .i64 b] w fun e w' => e = .returned (.int .i64 (cmpI a b)) ∧ w = w' := by
  by_cases h1 : a < b
  all_goals by_cases h2 : b < a
  all_goals
    go_enter Try.func75, Try.ntmps75
    go_wp2_with fail
    refine cmp_isNaN.mono ?_; rintro e w1 ⟨rfl, rfl⟩
    go_wp2_with fail
    refine cmp_isNaN.mono ?_; rintro e w1 ⟨rfl, rfl⟩
    go_wp2
    go_ret
    exact ⟨ret_i (by unfold cmpI; split <;> (try split) <;> omega), rfl⟩

theorem cmp_Or {a b : Int} {B : Nat} {w : World} (h0 : w.cell? ⟨B, 0, none⟩ = some (.int .i64 a)) (h1 : w.cell? ⟨B, 1, none⟩ = some (.int .i64 b)) :
    Calls Try.prog 74 #[.slice (some ⟨B, 0, none⟩) 2 2] w fun e w' => e = .returned (.int .i64 (orI a b)) ∧ Ext w w' := by
  have hbl := World.block_lt_of_cell? _ _ h0
  by_cases ha : a = 0
  all_goals by_cases hb : b = 0
  all_goals
    go_enter Try.func74, Try.ntmps74
    go_wp2
    go_loopw [8] (fun i wr => Ext w wr ∧ (i = .int .i64 0 ∨ (a = 0 ∧ i = .int .i64 1) ∨ (a = 0 ∧ b = 0 ∧ i = .int .i64 2))) (fun i _ => 2 - (intOf i).toNat)
    case atStart => exact ⟨Ext.refl _, .inl rfl⟩
    case round =>
      obtain ⟨hx, hh⟩ := hrel
      have g0 := hx.cells h0
      have g1 := hx.cells h1
      have hlw := Nat.lt_of_lt_of_le hbl hx.size
      rcases hh with rfl | ⟨e1, rfl⟩ | ⟨e1, e2, rfl⟩
      all_goals go_wp2
      all_goals first
        | (go_ret; exact ⟨ret_i (by first | (simp [orI, *]; done) | simp_all [orI]), (by repeat (first | (with_reducible exact Ext.refl _) | (with_reducible assumption) | with_reducible refine Ext.drew ?_ | with_reducible refine Ext.alloc ?_ _ | with_reducible refine Ext.setCell ?_ (by first | (simp; done) | (simp; omega) | omega) _ | with_reducible refine Ext.trans ?_ (by with_reducible assumption)))⟩)
        | (exfalso; simp_all; done)
        | (go_roundw
           case rel => exact ⟨(by repeat (first | (with_reducible exact Ext.refl _) | (with_reducible assumption) | with_reducible refine Ext.drew ?_ | with_reducible refine Ext.alloc ?_ _ | with_reducible refine Ext.setCell ?_ (by first | (simp; done) | (simp; omega) | omega) _ | with_reducible refine Ext.trans ?_ (by with_reducible assumption))), by first | exact .inr (.inl ⟨ha, by go_num⟩) | exact .inr (.inr ⟨ha, hb, by go_num⟩)⟩
           case measure => simp [intOf])

theorem impl_StrongestFor_1 {r c k t : Int} {g : Bool} {R C : Int} {B1 B2 : Nat} {w : World} (h1 : w.cell? ⟨B1, 0, none⟩ = some (.int .i64 R)) (h2 : w.cell? ⟨B2, 0, none⟩ = some (.int .i64 C)) :
    Calls Try.prog 71 #[.agg #[.int .i64 r, .int .i64 c, .int .i64 k, .int .i64 t, .bool g], .pointer (some ⟨B1, 0, none⟩), .pointer (some ⟨B2, 0, none⟩)] w fun e w' => e = .returned (.bool (notOwn R C ⟨r, c, k, t, g⟩)) ∧ Ext w w' := by
  have hb1 := World.block_lt_of_cell? _ _ h1
  have hb2 := World.block_lt_of_cell? _ _ h2
  cases e1 : (r != R)
  all_goals cases e2 : (c != C)
  all_goals cases g
  all_goals
    go_enter Try.func71, Try.ntmps71
    go_wp2
    go_ret
    exact ⟨ret_b (by simp [notOwn, e1, e2]), (by repeat (first | (with_reducible exact Ext.refl _) | (with_reducible assumption) | with_reducible refine Ext.drew ?_ | with_reducible refine Ext.alloc ?_ _ | with_reducible refine Ext.setCell ?_ (by first | (simp; done) | (simp; omega) | omega) _ | with_reducible refine Ext.trans ?_ (by with_reducible assumption)))⟩

end Go.Proofs.Ytfnjoinkfghalaa
