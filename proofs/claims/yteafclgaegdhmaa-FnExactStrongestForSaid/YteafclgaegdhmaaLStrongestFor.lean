/-
  Proved here: the law FnExactStrongestFor answers true for every input and leaves its arguments as they were.
  Conditions: none.
-/
import Derived.Test.YteafclgaegdhmaaStr4
import Derived.Test.YteafclgaegdhmaaTIntS
namespace Go.Proofs.Yteafclgaegdhmaa.StrongestFor
open Go.ChangeShapes Go.WideShapes Go.ChangeAt Go.RowKit

set_option maxRecDepth 100000 in
set_option maxHeartbeats 2000000 in
theorem walk {ao : Option Addr} {cap : Nat} {ms : List Prf} {r : Int} {c : Int} {w : World} (h : RowAt w ao 5 ms.length (fun k => (nth ms k).c)) (hn : ms.length ≤ 9223372036854775807)
    (_hw : ∀ k, k < ms.length → I64 (nth ms k).runner ∧ I64 (nth ms k).code ∧ I64 (nth ms k).kind ∧ I64 (nth ms k).weight) (_hr : I64 r) (_hc : I64 c) :
    Calls Try.prog 4 #[.slice ao ms.length cap, .int .i64 r, .int .i64 c] w fun e w' => e = .returned (.bool true) ∧ Ext w w' := by
  by_cases hle : ms.length ≤ 1048576
  · have hsp := fun x ao' cap' hx => spec_StrongestFor (w := x) (ao := ao') (cap := cap') (ms := ms) (r := r) (c := c) hx hn
    have him := fun x ao' cap' hx hnil => impl_StrongestFor (w := x) (ao := ao') (cap := cap') (ms := ms) (r := r) (c := c) hx hn (by omega) hnil
    generalize strP ms r c = m at hsp him
    generalize strB ms r c = B at hsp him
    unfold Prf.val at hsp him
    have HSP := Lib.hid hsp; have HIM := Lib.hid him
    have HTO := Lib.hid (fun x hx => laws_toProofS (w := x) (cap := cap) (h.ext hx) hle)
    clear h hsp him
    go_enter Try.func4, Try.ntmps4
    go_wp2_with fail
    refine (laws_szProofS hn (by decide) (by decide)).mono ?_; rintro e w1 ⟨rfl, rfl⟩
    rw [show szI ms.length 1048576 = 1048576 - (ms.length : Int) by simp [szI]; omega]
    go_wp2_with fail
    refine (HTO.out _ (Ext.refl _)).mono ?_; rintro e w1 ⟨B1, rfl, hx1, hF1⟩
    go_wp2_with fail
    refine (HSP.out _ _ _ hF1.row).mono ?_; rintro e w2 ⟨rfl, hx2⟩
    have HX2 := Lib.hid (hx1.trans hx2)
    have hxa := (Ext.refl w2).alloc (.cells #[.int .i64 m.runner, .int .i64 m.code, .int .i64 m.kind, .int .i64 m.weight, .bool m.against] 35)
    clear hx1 hx2 hF1 HSP
    go_wp2_with fail
    refine (HTO.out _ (HX2.out.trans hxa)).mono ?_; rintro e w3 ⟨B3, rfl, hx3, hF3⟩
    have HX3 := Lib.hid (HX2.out.trans (hxa.trans hx3))
    have HF3 := Lib.hid hF3.row
    have q0 : w3.cell? ⟨w2.heap.size, 0, none⟩ = some (.int .i64 m.runner) := hx3.cells (by go_simp)
    have q1 : w3.cell? ⟨w2.heap.size, 1, none⟩ = some (.int .i64 m.code) := hx3.cells (by go_simp)
    have q2 : w3.cell? ⟨w2.heap.size, 2, none⟩ = some (.int .i64 m.kind) := hx3.cells (by go_simp)
    have q3 : w3.cell? ⟨w2.heap.size, 3, none⟩ = some (.int .i64 m.weight) := hx3.cells (by go_simp)
    have q4 : w3.cell? ⟨w2.heap.size, 4, none⟩ = some (.bool m.against) := hx3.cells (by go_simp)
    clear hx3 hF3 HX2 hxa
    go_wp2_with fail
    refine (HIM.out _ _ _ HF3.out (fun h => by cases h)).mono ?_; rintro e w4 ⟨rfl, hx4⟩
    have q0 := hx4.cells q0
    have q1 := hx4.cells q1
    have q2 := hx4.cells q2
    have q3 := hx4.cells q3
    have q4 := hx4.cells q4
    have ql := World.block_lt_of_cell? _ _ q0
    have HX4 := Lib.hid (HX3.out.trans hx4)
    have HXB := Lib.hid ((Ext.refl w4).alloc (.cells #[.int .i64 m.runner, .int .i64 m.code, .int .i64 m.kind, .int .i64 m.weight, .bool m.against] 35))
    have HF4 := Lib.hid (HF3.out.ext (hx4.trans HXB.out))
    clear hx4 HIM HX3 HF3
    go_wp2_with fail
    refine laws_eqProof.mono ?_; rintro e w5 ⟨rfl, hx5⟩
    rw [show Prf.eqB _ _ = true from (Prf.eqB_iff _ _).2 rfl]
    have HX5 := Lib.hid (HX4.out.trans (HXB.out.trans hx5))
    have HF5 := Lib.hid (HF4.out.ext hx5)
    clear hx5 HF4 HX4 HXB q0 q1 q2 q3 q4 ql
    go_wp2_with fail
    refine (HTO.out _ HX5.out).mono ?_; rintro e w6 ⟨B6, rfl, hx6, hF6⟩
    go_wp2_with fail
    refine (laws_eqProofS (HF5.out.ext hx6) hF6.row hn hn).mono ?_; rintro e w7 ⟨rfl, hx7⟩
    rw [(eqL_iff Prf.eqB_iff).2 rfl]
    have HX7 := Lib.hid (HX5.out.trans (hx6.trans hx7))
    clear hx6 hF6 hx7
    go_wp2
    go_ret
    exact ⟨rfl, HX7.out⟩
  · go_enter Try.func4, Try.ntmps4
    go_wp2_with fail
    refine (laws_szProofS hn (by decide) (by decide)).mono ?_; rintro e w1 ⟨rfl, rfl⟩
    rw [show szI ms.length 1048576 = -1 by simp [szI]; omega]
    go_wp2
    go_ret
    exact ⟨rfl, Ext.refl _⟩

set_option maxRecDepth 100000 in
theorem lifted (os : Os) (started : os.Started) (H : Type) (enc : TypeId × Value → H) :
    ReturnsInHanded {} Try.checked os 4 .any (Rows.fnExactStrongestForSpec.pre6 enc Try.prog Try.f4 Rows.fnExactStrongestForRow.domain false) (Rows.fnExactStrongestForSpec.post enc Try.prog Try.f4 false true false false) := by
  refine returnsInHanded_of_change (C := Try.checked) (by kernel_rfl) started (by kernel_rfl) Try.func4
    (ChangeSpec.witness6 (enc := enc) (C := Try.checked) false ⟨#[], #[.slice none 0 0, .int .i64 0, .int .i64 0], []⟩ 8 (by kernel_rfl) (by kernel_rfl) (by kernel_rfl) (by kernel_rfl)) ?_
  intro W base args ds gs before hval0 hW _ _
  have hval : ∀ (j : Nat) t v, Try.f4.params[j]? = some t → args[j]? = some v → Value.okWide Try.prog W .any base t v := hval0
  have hW' := hW
  obtain ⟨p, q, hA0, hV, rfl, hfz, hnd⟩ := hW
  have hA : DataW.TrodAll enc Try.prog W 0 (fun _ => true) true Try.f4.params.toList args.toList ds p := hA0
  rw [Try.params4] at hA hval
  obtain ⟨v0, vs0, d0, ds0, p0, q0, hargs, rfl, rfl, h0, r0⟩ := trodAll_cons hA
  obtain ⟨v1, vs1, d1, ds1, p1, q1, rfl, rfl, rfl, h1, r1⟩ := trodAll_cons r0
  obtain ⟨v2, vs2, d2, ds2, p2, q2, rfl, rfl, rfl, h2, r2⟩ := trodAll_cons r1
  obtain ⟨rfl, rfl, rfl⟩ := trodAll_nil r2
  obtain rfl : args = #[v0, v1, v2] := by cases args; simp_all
  obtain ⟨rfl, rfl⟩ := trodVars_none hV
  obtain ⟨ao0, cap0, xs0, rfl, hl0, hr0, hw0⟩ := open_ProofS (hval 0 32 v0 rfl rfl) h0
  obtain ⟨a1, rfl, _, _, wa1⟩ := open_int Try.underlying3 (hval 1 3 v1 rfl rfl) h1
  obtain ⟨a2, rfl, _, _, wa2⟩ := open_int Try.underlying3 (hval 2 3 v2 rfl rfl) h2
  refine (walk hr0 hl0 hw0 (I64.of_wf wa1) (I64.of_wf wa2)).mono fun e W' ⟨he, hx⟩ => ?_
  subst he
  exact ⟨_, rfl, law_post (by kernel_rfl) (by kernel_rfl) Try.underlying4 rfl rfl hW' rfl hx⟩

theorem holds : Rows.FnExactStrongestForSaid :=
  OpenClaim.holds_of_wide 4 Try.f4 rfl rfl rfl rfl rfl rfl rfl ⟨rfl, rfl, rfl, rfl, rfl⟩ rfl rfl rfl rfl rfl (by kernel_rfl) Try.func4 (by kernel_rfl)
    (of_decide_eq_true (by kernel_rfl)) (by unfold Func.isWrapper; first | (rw [if_pos (by decide +kernel)]; kernel_rfl) | (rw [if_neg (by decide +kernel)]; exact ⟨rfl, rfl⟩))
    (fun os started H enc _ => lifted os started H enc)

end Go.Proofs.Yteafclgaegdhmaa.StrongestFor
