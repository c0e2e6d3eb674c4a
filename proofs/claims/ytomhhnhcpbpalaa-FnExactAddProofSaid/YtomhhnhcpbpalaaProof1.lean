/-
  Proved here: what IsProof, AreProofs and their references return.
  Conditions: the number of proofs fits an int.
-/
import Derived.Test.YtomhhnhcpbpalaaTProof
namespace Go.Proofs.Ytomhhnhcpbpalaa
open Go.RowKit

def prfB (p : Prf) : Bool := inB p.runner 1 999 && inB p.code 31 99 && inB p.kind 0 3 && inB p.weight 1 10

theorem impl_IsProof {r c k t : Int} {g : Bool} {w : World} :
    Calls Try.prog 17 #[.agg #[.int .i64 r, .int .i64 c, .int .i64 k, .int .i64 t, .bool g]] w fun e w' => e = .returned (.bool (prfB ⟨r, c, k, t, g⟩)) ∧ Ext w w' := by
  go_enter Try.func17, Try.ntmps17
  go_wp2_with (first | (go_at_call 60; refine (impl_inside).mono ?_; rintro e w1 ⟨rfl, rfl⟩) | (go_at_call 61; refine (impl_isCode).mono ?_; rintro e w1 ⟨rfl, rfl⟩) | (go_at_call 62; refine (impl_isWeight).mono ?_; rintro e w1 ⟨rfl, rfl⟩))
  all_goals go_ret
  all_goals exact ⟨ret_b (by simp [prfB, *]), (by repeat (first | (with_reducible exact Ext.refl _) | (with_reducible assumption) | with_reducible refine Ext.drew ?_ | with_reducible refine Ext.alloc ?_ _ | with_reducible refine Ext.setCell ?_ (by first | (simp; done) | (simp; omega) | omega) _ | with_reducible refine Ext.trans ?_ (by with_reducible assumption)))⟩

theorem spec_l14One {r c k t : Int} {g : Bool} {w : World} :
    Calls Try.prog 59 #[.agg #[.int .i64 r, .int .i64 c, .int .i64 k, .int .i64 t, .bool g]] w fun e w' => e = .returned (.bool (prfB ⟨r, c, k, t, g⟩)) ∧ Ext w w' := by
  go_enter Try.func59, Try.ntmps59
  go_wp2_with (first | (go_at_call 84; refine (spec_l14Who).mono ?_; rintro e w1 ⟨rfl, rfl⟩) | (go_at_call 101; refine (spec_l6Code).mono ?_; rintro e w1 ⟨rfl, rfl⟩) | (go_at_call 70; refine (spec_l1In).mono ?_; rintro e w1 ⟨rfl, rfl⟩))
  all_goals go_ret
  all_goals exact ⟨ret_b (by simp [prfB, *]), (by repeat (first | (with_reducible exact Ext.refl _) | (with_reducible assumption) | with_reducible refine Ext.drew ?_ | with_reducible refine Ext.alloc ?_ _ | with_reducible refine Ext.setCell ?_ (by first | (simp; done) | (simp; omega) | omega) _ | with_reducible refine Ext.trans ?_ (by with_reducible assumption)))⟩

theorem spec_IsProof {r c k t : Int} {g : Bool} {w : World} :
    Calls Try.prog 15 #[.agg #[.int .i64 r, .int .i64 c, .int .i64 k, .int .i64 t, .bool g]] w fun e w' => e = .returned (.bool (prfB ⟨r, c, k, t, g⟩)) ∧ Ext w w' := by
  go_enter Try.func15, Try.ntmps15
  go_wp2_with (go_at_call 59; refine (spec_l14One).mono ?_; rintro e w1 ⟨rfl, hx1⟩; have hc1 := Ext.cellr hx1; have hf1 := Ext.frozenr hx1; have hz1 := Ext.size hx1; (try simp at hz1))
  go_ret
  exact ⟨rfl, (by repeat (first | (with_reducible exact Ext.refl _) | (with_reducible assumption) | with_reducible refine Ext.drew ?_ | with_reducible refine Ext.alloc ?_ _ | with_reducible refine Ext.setCell ?_ (by first | (simp; done) | (simp; omega) | omega) _ | with_reducible refine Ext.trans ?_ (by with_reducible assumption)))⟩

end Go.Proofs.Ytomhhnhcpbpalaa
