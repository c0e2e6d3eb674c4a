/-
  Proved here: the law FnExactLacksFor answers true for every input and leaves its arguments as they were.
  Conditions: none.
-/
import Derived.Test.YtomhhnhcpbpalaaProof7
namespace Go.Proofs.Ytomhhnhcpbpalaa.LacksFor
open Go.ChangeShapes Go.WideShapes Go.ChangeAt Go.RowKit

set_option maxHeartbeats 1000000 in
theorem walk {ao : Option Addr} {cap : Nat} {ms : List Prf} {r : Int} {c : Int} {l : Int} {w : World} (h : RowAt w ao 5 ms.length (fun k => (nth ms k).c)) (hn : ms.length ≤ 9223372036854775807)
    (hw : ∀ k, k < ms.length → I64 (nth ms k).runner ∧ I64 (nth ms k).code ∧ I64 (nth ms k).kind ∧ I64 (nth ms k).weight) (hr : I64 r) (hc : I64 c) (hl : I64 l) :
    Calls Try.prog 9 #[.slice ao ms.length cap, .int .i64 r, .int .i64 c, .int .i64 l] w fun e w' => e = .returned (.bool true) ∧ Ext w w' := by
  have _hw := hw
  by_cases hle : ms.length ≤ 1048576
  · obtain ⟨r0, r1, hres⟩ : ∃ (r0 : Int) (r1 : Bool), gLacks ms r c l = .tuple #[.int .i64 r0, .bool r1] := by
      unfold gLacks; (repeat' split) <;> exact ⟨_, _, rfl⟩
    have hsp := fun x ao' cap' hx hnil => spec_LacksFor (w := x) (ao := ao') (cap := cap') (ms := ms) hx hn hr hc hl hle hnil
    have him := fun x ao' cap' hx hnil => impl_LacksFor (w := x) (ao := ao') (cap := cap') (ms := ms) hx hn hr hc hl hle hnil
    rw [hres] at hsp him
    go_enter Try.func9, Try.ntmps9
    go_wp2_with fail
    refine (laws_szProofS hn (by decide) (by decide)).mono ?_; rintro e w1 ⟨rfl, rfl⟩
    rw [show szI ms.length 1048576 = 1048576 - (ms.length : Int) by simp [szI]; omega]
    go_wp2_with fail
    refine (laws_toProofS h hle).mono ?_; rintro e w1 ⟨B1, rfl, hx1, hF1⟩
    go_wp2_with fail
    refine (hsp _ _ _ hF1.row (fun h => by cases h)).mono ?_; rintro e w2 ⟨rfl, hx2⟩
    go_wp2_with fail
    refine (laws_toProofS (h.ext (hx1.trans hx2)) hle).mono ?_; rintro e w3 ⟨B3, rfl, hx3, hF3⟩
    go_wp2_with fail
    refine (him _ _ _ hF3.row (fun h => by cases h)).mono ?_; rintro e w4 ⟨rfl, hx4⟩
    go_wp2_with fail
    refine (laws_toProofS (h.ext (hx1.trans (hx2.trans (hx3.trans hx4)))) hle).mono ?_; rintro e w5 ⟨B5, rfl, hx5, hF5⟩
    go_wp2_with fail
    refine (laws_eqProofS (hF3.ext (hx4.trans hx5)).row hF5.row hn hn).mono ?_; rintro e w6 ⟨rfl, hx6⟩
    rw [(eqL_iff Prf.eqB_iff).2 rfl]
    go_wp2
    go_ret
    exact ⟨rfl, (by repeat (first | (with_reducible exact Ext.refl _) | (with_reducible assumption) | with_reducible refine Ext.drew ?_ | with_reducible refine Ext.alloc ?_ _ | with_reducible refine Ext.setCell ?_ (by first | (simp; done) | (simp; omega) | omega) _ | with_reducible refine Ext.trans ?_ (by with_reducible assumption)))⟩
  · go_enter Try.func9, Try.ntmps9
    go_wp2_with fail
    refine (laws_szProofS hn (by decide) (by decide)).mono ?_; rintro e w1 ⟨rfl, rfl⟩
    rw [show szI ms.length 1048576 = -1 by simp [szI]; omega]
    go_wp2
    go_ret
    exact ⟨rfl, Ext.refl _⟩

set_option maxRecDepth 100000 in
theorem lifted (os : Os) (started : os.Started) (H : Type) (enc : TypeId × Value → H) :
    ReturnsInHanded {} Try.checked os 9 .any (Rows.fnExactLacksForSpec.pre6 enc Try.prog Try.f9 Rows.fnExactLacksForRow.domain false) (Rows.fnExactLacksForSpec.post enc Try.prog Try.f9 false true false false) := by
  refine returnsInHanded_of_change (C := Try.checked) (by kernel_rfl) started (by kernel_rfl) Try.func9
    (ChangeSpec.witness6 (enc := enc) (C := Try.checked) false ⟨#[], #[.slice none 0 0, .int .i64 0, .int .i64 0, .int .i64 0], []⟩ 8 (by kernel_rfl) (by kernel_rfl) (by kernel_rfl) (by kernel_rfl)) ?_
  intro W base args ds gs before hval0 hW _ _
  have hval : ∀ (j : Nat) t v, Try.f9.params[j]? = some t → args[j]? = some v → Value.okWide Try.prog W .any base t v := hval0
  have hW' := hW
  obtain ⟨p, q, hA0, hV, rfl, hfz, hnd⟩ := hW
  have hA : DataW.TrodAll enc Try.prog W 0 (fun _ => true) true Try.f9.params.toList args.toList ds p := hA0
  rw [Try.params9] at hA hval
  obtain ⟨v0, vs0, d0, ds0, p0, q0, hargs, rfl, rfl, h0, r0⟩ := trodAll_cons hA
  obtain ⟨v1, vs1, d1, ds1, p1, q1, rfl, rfl, rfl, h1, r1⟩ := trodAll_cons r0
  obtain ⟨v2, vs2, d2, ds2, p2, q2, rfl, rfl, rfl, h2, r2⟩ := trodAll_cons r1
  obtain ⟨v3, vs3, d3, ds3, p3, q3, rfl, rfl, rfl, h3, r3⟩ := trodAll_cons r2
  obtain ⟨rfl, rfl, rfl⟩ := trodAll_nil r3
  obtain rfl : args = #[v0, v1, v2, v3] := by cases args; simp_all
  obtain ⟨rfl, rfl⟩ := trodVars_none hV
  obtain ⟨ao0, cap0, xs0, rfl, hl0, hr0, hw0⟩ := open_ProofS (hval 0 28 v0 rfl rfl) h0
  obtain ⟨a1, rfl, _, _, wa1⟩ := open_int Try.underlying3 (hval 1 3 v1 rfl rfl) h1
  obtain ⟨a2, rfl, _, _, wa2⟩ := open_int Try.underlying3 (hval 2 3 v2 rfl rfl) h2
  obtain ⟨a3, rfl, _, _, wa3⟩ := open_int Try.underlying3 (hval 3 3 v3 rfl rfl) h3
  refine (walk hr0 hl0 hw0 (I64.of_wf wa1) (I64.of_wf wa2) (I64.of_wf wa3)).mono fun e W' ⟨he, hx⟩ => ?_
  subst he
  exact ⟨_, rfl, law_post (by kernel_rfl) (by kernel_rfl) Try.underlying4 rfl rfl hW' rfl hx⟩

theorem holds : Rows.FnExactLacksForSaid :=
  OpenClaim.holds_of_wide 9 Try.f9 rfl rfl rfl rfl rfl rfl rfl ⟨rfl, rfl, rfl, rfl, rfl⟩ rfl rfl rfl rfl rfl (by kernel_rfl) Try.func9 (by kernel_rfl)
    (of_decide_eq_true (by kernel_rfl)) (by unfold Func.isWrapper; first | (rw [if_pos (by decide +kernel)]; kernel_rfl) | (rw [if_neg (by decide +kernel)]; exact ⟨rfl, rfl⟩))
    (fun os started H enc _ => lifted os started H enc)
end Go.Proofs.Ytomhhnhcpbpalaa.LacksFor
