/-
  Proved here: the law FnExactIsProof answers true for every input and leaves its argument as it was.
  Conditions: none.
-/
import Derived.Test.YtbgihimacepfpaaProof1
namespace Go.Proofs.Ytbgihimacepfpaa.IsProof
open Go.ChangeShapes Go.WideShapes Go.ChangeAt Go.RowKit

theorem walk {x : Prf} {w : World} (_hw : I64 x.runner ∧ I64 x.code ∧ I64 x.kind ∧ I64 x.weight) :
    Calls Try.prog 3 #[x.val] w fun e w' => e = .returned (.bool true) ∧ Ext w w' := by
  obtain ⟨r, c, k, t, g⟩ := x
  unfold Prf.val
  have hx0 := Ext.refl (w.alloc (Obj.cells #[.int .i64 r, .int .i64 c, .int .i64 k, .int .i64 t, .bool g] 23))
  go_enter Try.func3, Try.ntmps3
  go_wp2_with (first | (go_at_call 11; refine (laws_toProof).mono ?_; rintro e w1 ⟨rfl, hx1⟩; have hx0 := Ext.trans (by repeat (first | exact hx0 | refine Ext.drew ?_ | refine Ext.alloc ?_ _)) hx1; have hc1 := Ext.cellr hx0; have hf1 := Ext.frozenr hx0) | (go_at_call 10; refine (spec_IsProof).mono ?_; rintro e w1 ⟨rfl, hx1⟩; have hx0 := Ext.trans (by repeat (first | exact hx0 | refine Ext.drew ?_ | refine Ext.alloc ?_ _)) hx1; have hc1 := Ext.cellr hx0; have hf1 := Ext.frozenr hx0) | (go_at_call 12; refine (impl_IsProof).mono ?_; rintro e w1 ⟨rfl, hx1⟩; have hx0 := Ext.trans (by repeat (first | exact hx0 | refine Ext.drew ?_ | refine Ext.alloc ?_ _)) hx1; have hc1 := Ext.cellr hx0; have hf1 := Ext.frozenr hx0))
  go_ret
  exact ⟨rfl, (by repeat (first | exact Ext.refl _ | assumption | refine Ext.drew ?_ | refine Ext.alloc ?_ _ | refine Ext.setCell ?_ (by first | (simp; done) | (simp; omega) | omega) _ | refine Ext.trans ?_ (by assumption)))⟩

set_option maxRecDepth 100000 in
theorem lifted (os : Os) (started : os.Started) (H : Type) (enc : TypeId × Value → H) :
    ReturnsInHanded {} Try.checked os 3 .any (Rows.fnExactIsProofSpec.pre6 enc Try.prog Try.f3 Rows.fnExactIsProofRow.domain false) (Rows.fnExactIsProofSpec.post enc Try.prog Try.f3 false true false false) := by
  refine returnsInHanded_of_change (C := Try.checked) (by kernel_rfl) started (by kernel_rfl) Try.func3
    (ChangeSpec.witness6 (enc := enc) (C := Try.checked) false ⟨#[], #[.agg #[.int .i64 0, .int .i64 0, .int .i64 0, .int .i64 0, .bool false]], []⟩ 8 (by kernel_rfl) (by kernel_rfl) (by kernel_rfl) (by kernel_rfl)) ?_
  intro W base args ds gs before hval0 hW _ _
  have hval : ∀ (j : Nat) t v, Try.f3.params[j]? = some t → args[j]? = some v → Value.okWide Try.prog W .any base t v := hval0
  have hW' := hW
  obtain ⟨p, q, hA0, hV, rfl, hfz, hnd⟩ := hW
  have hA : DataW.TrodAll enc Try.prog W 0 (fun _ => true) true Try.f3.params.toList args.toList ds p := hA0
  rw [Try.params3] at hA hval
  obtain ⟨v0, vs0, d0, ds0, p0, q0, hargs, rfl, rfl, h0, r0⟩ := trodAll_cons hA
  obtain ⟨rfl, rfl, rfl⟩ := trodAll_nil r0
  obtain rfl : args = #[v0] := by cases args; simp_all
  obtain ⟨rfl, rfl⟩ := trodVars_none hV
  obtain ⟨x0, rfl, hx0⟩ := open_Proof (hval 0 23 v0 rfl rfl) h0
  refine (walk hx0).mono fun e W' ⟨he, hx⟩ => ?_
  subst he
  exact ⟨_, rfl, law_post (by kernel_rfl) (by kernel_rfl) Try.underlying4 rfl rfl hW' rfl hx⟩

theorem holds : Rows.FnExactIsProofSaid :=
  OpenClaim.holds_of_wide 3 Try.f3 rfl rfl rfl rfl rfl rfl rfl ⟨rfl, rfl, rfl, rfl, rfl⟩ rfl rfl rfl rfl rfl (by kernel_rfl) Try.func3 (by kernel_rfl)
    (of_decide_eq_true (by kernel_rfl)) (by unfold Func.isWrapper; first | (rw [if_pos (by decide +kernel)]; kernel_rfl) | (rw [if_neg (by decide +kernel)]; exact ⟨rfl, rfl⟩))
    (fun os started H enc _ => lifted os started H enc)

end Go.Proofs.Ytbgihimacepfpaa.IsProof
