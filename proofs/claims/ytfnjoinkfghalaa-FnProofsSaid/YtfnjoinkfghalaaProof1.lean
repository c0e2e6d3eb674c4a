/-
  Proved here: what IsProof, AreProofs and their references return.
  Conditions: the number of proofs fits an int.
-/
import Derived.Test.YtfnjoinkfghalaaTProof
namespace Go.Proofs.Ytfnjoinkfghalaa
open Go.RowKit

def prfB (p : Prf) : Bool := inB p.runner 1 999 && inB p.code 31 99 && inB p.kind 0 3 && inB p.weight 1 10

theorem impl_IsProof {r c k t : Int} {g : Bool} {w : World} :
    Calls Try.prog 41 #[.agg #[.int .i64 r, .int .i64 c, .int .i64 k, .int .i64 t, .bool g]] w fun e w' => e = .returned (.bool (prfB ⟨r, c, k, t, g⟩)) ∧ Ext w w' := by
  go_enter Try.func41, Try.ntmps41
  go_wp2_with (first | (go_at_call 87; refine (impl_inside).mono ?_; rintro e w1 ⟨rfl, rfl⟩) | (go_at_call 66; refine (impl_isCode).mono ?_; rintro e w1 ⟨rfl, rfl⟩) | (go_at_call 59; refine (impl_isWeight).mono ?_; rintro e w1 ⟨rfl, rfl⟩))
  all_goals go_ret
  all_goals exact ⟨ret_b (by simp [prfB, *]), (by repeat (first | (with_reducible exact Ext.refl _) | (with_reducible assumption) | with_reducible refine Ext.drew ?_ | with_reducible refine Ext.alloc ?_ _ | with_reducible refine Ext.setCell ?_ (by first | (simp; done) | (simp; omega) | omega) _ | with_reducible refine Ext.trans ?_ (by with_reducible assumption)))⟩

theorem spec_l14One {r c k t : Int} {g : Bool} {w : World} :
    Calls Try.prog 88 #[.agg #[.int .i64 r, .int .i64 c, .int .i64 k, .int .i64 t, .bool g]] w fun e w' => e = .returned (.bool (prfB ⟨r, c, k, t, g⟩)) ∧ Ext w w' := by
  go_enter Try.func88, Try.ntmps88
  go_wp2_with (first | (go_at_call 67; refine (spec_l14Who).mono ?_; rintro e w1 ⟨rfl, rfl⟩) | (go_at_call 91; refine (spec_l6Code).mono ?_; rintro e w1 ⟨rfl, rfl⟩) | (go_at_call 84; refine (spec_l1In).mono ?_; rintro e w1 ⟨rfl, rfl⟩))
  all_goals go_ret
  all_goals exact ⟨ret_b (by simp [prfB, *]), (by repeat (first | (with_reducible exact Ext.refl _) | (with_reducible assumption) | with_reducible refine Ext.drew ?_ | with_reducible refine Ext.alloc ?_ _ | with_reducible refine Ext.setCell ?_ (by first | (simp; done) | (simp; omega) | omega) _ | with_reducible refine Ext.trans ?_ (by with_reducible assumption)))⟩

end Go.Proofs.Ytfnjoinkfghalaa
