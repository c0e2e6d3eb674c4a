/-
  Proved here: the law FnExactIsRound answers true for every input and leaves its argument as it was.
  Conditions: none.
-/
import Derived.Test.YtdbibdecnepobaaRound1
namespace Go.Proofs.Ytdbibdecnepobaa.IsRound
open Go.ChangeShapes Go.WideShapes Go.ChangeAt Go.RowKit

set_option maxHeartbeats 1000000 in
theorem walk {ao : Option Addr} {cap : Nat} {hs : List HeatD} {w : World} (hn : hs.length ≤ 9223372036854775807) (h : GRow w ao 2 hs.length (hsC hs)) (_ : True) :
    Calls Try.prog 6 #[.slice ao hs.length cap] w fun e w' => e = .returned (.bool true) ∧ Ext w w' := by
  go_enter Try.func6, Try.ntmps6
  go_wp2_with fail
  refine (laws_szHeatS h hn).mono ?_; rintro e w1 ⟨r, rfl, hx1, hr⟩
  rcases hr with hr | ⟨hr, hl, hb⟩
  · go_wp2
    go_ret
    exact ⟨rfl, (by repeat (first | (with_reducible exact Ext.refl _) | (with_reducible assumption) | with_reducible refine Ext.drew ?_ | with_reducible refine Ext.alloc ?_ _ | with_reducible refine Ext.setCell ?_ (by first | (simp; done) | (simp; omega) | omega) _ | with_reducible refine Ext.trans ?_ (by with_reducible assumption)))⟩
  · have HB := Lib.hid hb; clear hb
    go_wp2_with fail
    refine (laws_toHeatS (h.ext hx1) hl HB.out).mono ?_; rintro e w2 ⟨B2, rfl, hx2, hG2⟩
    go_wp2_with fail
    refine (spec_IsRound hG2 hl).mono ?_; rintro e w3 ⟨rfl, hx3⟩
    go_wp2_with fail
    refine (laws_toHeatS (h.ext (hx1.trans (hx2.trans hx3))) hl HB.out).mono ?_; rintro e w4 ⟨B4, rfl, hx4, hG4⟩
    go_wp2_with fail
    refine (impl_IsRound hG4 hl).mono ?_; rintro e w5 ⟨rfl, hx5⟩
    go_wp2_with fail
    refine (laws_toHeatS (h.ext (hx1.trans (hx2.trans (hx3.trans (hx4.trans hx5))))) hl HB.out).mono ?_; rintro e w6 ⟨B6, rfl, hx6, hG6⟩
    go_wp2_with fail
    refine (laws_eqHeatS (hG4.ext (hx5.trans hx6)) hG6 hn hn).mono ?_; rintro e w7 ⟨rfl, hx7⟩
    rw [(eqL_iff HeatD.eqB_iff).2 rfl]
    go_wp2
    go_ret
    exact ⟨rfl, (by repeat (first | (with_reducible exact Ext.refl _) | (with_reducible assumption) | with_reducible refine Ext.drew ?_ | with_reducible refine Ext.alloc ?_ _ | with_reducible refine Ext.setCell ?_ (by first | (simp; done) | (simp; omega) | omega) _ | with_reducible refine Ext.trans ?_ (by with_reducible assumption)))⟩

set_option maxRecDepth 100000 in
theorem lifted (os : Os) (started : os.Started) (H : Type) (enc : TypeId × Value → H) :
    ReturnsInHanded {} Try.checked os 6 .any (Rows.fnExactIsRoundSpec.pre6 enc Try.prog Try.f6 Rows.fnExactIsRoundRow.domain false) (Rows.fnExactIsRoundSpec.post enc Try.prog Try.f6 false true false false) := by
  refine returnsInHanded_of_change (C := Try.checked) (by kernel_rfl) started (by kernel_rfl) Try.func6
    (ChangeSpec.witness6 (enc := enc) (C := Try.checked) false ⟨#[], #[.slice none 0 0], []⟩ 8 (by kernel_rfl) (by kernel_rfl) (by kernel_rfl) (by kernel_rfl)) ?_
  intro W base args ds gs before hval0 hW _ _
  have hval : ∀ (j : Nat) t v, Try.f6.params[j]? = some t → args[j]? = some v → Value.okWide Try.prog W .any base t v := hval0
  have hW' := hW
  obtain ⟨p, q, hA0, hV, rfl, hfz, hnd⟩ := hW
  have hA : DataW.TrodAll enc Try.prog W 0 (fun _ => true) true Try.f6.params.toList args.toList ds p := hA0
  rw [Try.params6] at hA hval
  obtain ⟨v0, vs0, d0, ds0, p0, q0, hargs, rfl, rfl, h0, r0⟩ := trodAll_cons hA
  obtain ⟨rfl, rfl, rfl⟩ := trodAll_nil r0
  obtain rfl : args = #[v0] := by cases args; simp_all
  obtain ⟨rfl, rfl⟩ := trodVars_none hV
  obtain ⟨ao0, cap0, xs0, rfl, hl0, hr0, hw0⟩ := open_HeatS (hval 0 43 v0 rfl rfl) h0
  refine (walk hl0 hr0 hw0).mono fun e W' ⟨he, hx⟩ => ?_
  subst he
  exact ⟨_, rfl, law_post (by kernel_rfl) (by kernel_rfl) Try.underlying4 rfl rfl hW' rfl hx⟩

theorem holds : Rows.FnExactIsRoundSaid :=
  OpenClaim.holds_of_wide 6 Try.f6 rfl rfl rfl rfl rfl rfl rfl ⟨rfl, rfl, rfl, rfl, rfl⟩ rfl rfl rfl rfl rfl (by kernel_rfl) Try.func6 (by kernel_rfl)
    (of_decide_eq_true (by kernel_rfl)) (by unfold Func.isWrapper; first | (rw [if_pos (by decide +kernel)]; kernel_rfl) | (rw [if_neg (by decide +kernel)]; exact ⟨rfl, rfl⟩))
    (fun os started H enc _ => lifted os started H enc)

end Go.Proofs.Ytdbibdecnepobaa.IsRound
