/-
  Proved here: the law FnExactDropWeak answers true for every input and leaves its arguments as they were.
  Conditions: none.
-/
import Derived.Test.YtomhhnhcpbpalaaProof9
import Derived.Test.YtomhhnhcpbpalaaMProof
namespace Go.Proofs.Ytomhhnhcpbpalaa.DropWeak
open Go.ChangeShapes Go.WideShapes Go.ChangeAt Go.RowKit

theorem list_len {ms : List Prf} {l : Int} (_h : ms.length ≤ 1048576) : (drpL ms l).length ≤ 1048577 := by have := drpL_len ms l; omega

set_option maxHeartbeats 2000000 in
theorem walk {ao : Option Addr} {cap : Nat} {ms : List Prf} {l : Int} {w : World} (h : RowAt w ao 5 ms.length (fun k => (nth ms k).c)) (hn : ms.length ≤ 9223372036854775807)
    (hw : ∀ k, k < ms.length → I64 (nth ms k).runner ∧ I64 (nth ms k).code ∧ I64 (nth ms k).kind ∧ I64 (nth ms k).weight) (hl : I64 l) :
    Calls Try.prog 7 #[.slice ao ms.length cap, .int .i64 l] w fun e w' => e = .returned (.bool true) ∧ Ext w w' := by
  have _hw := hw
  by_cases hle : ms.length ≤ 1048576
  · have hsp := fun x ao' cap' hx hnil => spec_DropWeak (w := x) (ao := ao') (cap := cap') (ms := ms) hx hn hl hle hnil
    have him := fun x ao' cap' hx hnil => impl_DropWeak (w := x) (ao := ao') (cap := cap') (ms := ms) hx hn hl hle hnil
    have hLl := list_len (ms := ms) (l := l) hle
    have hone : eqL Prf.eqB (drpL ms l) (drpL ms l) = true := (eqL_iff Prf.eqB_iff).2 rfl
    generalize drpL ms l = L at *
    generalize drpB ms l = B at *
    have hL2 : L.length ≤ 9223372036854775807 := by omega
    have hL3 : L.length ≤ 1099511627776 := by omega
    go_enter Try.func7, Try.ntmps7
    go_wp2_with fail
    refine (laws_szProofS hn (by decide) (by decide)).mono ?_; rintro e w1 ⟨rfl, rfl⟩
    rw [show szI ms.length 1048576 = 1048576 - (ms.length : Int) by simp [szI]; omega]
    go_wp2_with fail
    refine (laws_toProofS h hle).mono ?_; rintro e w1 ⟨B1, rfl, hx1, hF1⟩
    go_wp2_with fail
    refine (hsp _ _ _ hF1.row (fun h => by cases h)).mono ?_; rintro e w2 ⟨bo, bc, rfl, hx2, hW⟩
    have hy2 := hx1.trans hx2
    go_wp2_with fail
    refine (laws_toProofS (h.ext hy2) hle).mono ?_; rintro e w3 ⟨B3, rfl, hx3, hF3⟩
    have hy3 := hy2.trans hx3
    go_wp2_with fail
    refine (him _ _ _ hF3.row (fun h => by cases h)).mono ?_; rintro e w4 ⟨go, gc, rfl, hx4, hG⟩
    have hy4 := hy3.trans hx4
    have hX3 := (hF3.base _ rfl)
    have hsz2 := hx1.trans hx2
    have hdWX : ∀ a, bo = some a → blk (some (⟨B3, 0, none⟩ : Addr)) ≠ some a.block := fun a e e' => by
      have h1 := (hW.base a e).2
      injection e' with e'
      have h2 := hX3.1
      simp only at e' h2
      omega
    have hdGX : ∀ a, go = some a → blk (some (⟨B3, 0, none⟩ : Addr)) ≠ some a.block := fun a e e' => by
      have h1 := (hG.base a e).1
      injection e' with e'
      have h2 := hX3.2
      simp only at e' h2
      omega
    have hdWG : ∀ a, bo = some a → blk go ≠ some a.block := fun a e e' => by
      have h1 := (hW.base a e).2
      cases hgo : go with
      | none => rw [hgo] at e'; cases e'
      | some g =>
        rw [hgo] at e'
        injection e' with e'
        have h2 := (hG.base g hgo).1
        have h3 := hX3.1
        have h4 := hX3.2
        simp only at e' h3 h4
        omega
    have hbX : ∀ k, blk (some (⟨B3, 0, none⟩ : Addr)) = some k → w.heap.size ≤ k := fun k e => by
      injection e with e
      have h1 := hX3.1
      have h2 := hy2.size
      simp only at e h1
      omega
    have hbG : ∀ k, blk go = some k → w.heap.size ≤ k := fun k e => by
      cases hgo : go with
      | none => rw [hgo] at e; cases e
      | some g =>
        rw [hgo] at e
        injection e with e
        have h1 := (hG.base g hgo).1
        have h2 := hy3.size
        simp only at e
        omega
    go_wp2_with fail
    refine (laws_eqProofS hG.row (hW.ext (hx3.trans hx4)).row hL2 hL2).mono ?_; rintro e w5 ⟨rfl, hx5⟩
    rw [hone]
    have hy5 := hy4.trans hx5
    go_wp2_with fail
    refine (laws_toProofS (h.ext hy5) hle).mono ?_; rintro e w6 ⟨B6, rfl, hx6, hF6⟩
    have hy6 := hy5.trans hx6
    go_wp2_with fail
    refine (laws_eqProofS (hF3.ext (hx4.trans (hx5.trans hx6))).row hF6.row hn hn).mono ?_; rintro e w7 ⟨rfl, hx7⟩
    rw [(eqL_iff Prf.eqB_iff).2 rfl]
    have hy7 := hy6.trans hx7
    have hX7 := hF3.ext (hx4.trans (hx5.trans (hx6.trans hx7)))
    have hG7 := hG.ext (hx5.trans (hx6.trans hx7))
    have hW7 := hW.ext (hx3.trans (hx4.trans (hx5.trans (hx6.trans hx7))))
    clear hF1 hF3 hF6 hG hW hx1 hx2 hx3 hx4 hx5 hx6 hx7 hy2 hy3 hy4 hy5 hy6 hsz2
    go_wp2_with fail
    refine (laws_markProofS hX7 (by omega) (by decide) (by decide)).mono ?_; rintro e w8 ⟨rfl, hg8, hX8⟩
    have hy8 := grown_ext hy7 hg8 hbX
    have hG8 := hG7.grown hg8 hdGX
    have hW8 := hW7.grown hg8 hdWX
    clear hX7 hX8 hG7 hW7 hg8 hy7
    go_wp2_with fail
    refine (laws_eqProofS hG8.row hW8.row hL2 hL2).mono ?_; rintro e w9 ⟨rfl, hx9⟩
    rw [hone]
    have hy9 := hy8.trans hx9
    have hG9 := hG8.ext hx9
    have hW9 := hW8.ext hx9
    clear hG8 hW8 hx9 hy8
    go_wp2_with fail
    refine (laws_markProofS hG9 hL3 (by decide) (by decide)).mono ?_; rintro e w10 ⟨rfl, hg10, hG10⟩
    have hy10 := grown_ext hy9 hg10 hbG
    have hW10 := hW9.grown hg10 hdWG
    clear hG9 hW9 hg10 hy9
    go_wp2_with fail
    refine (laws_heldProofS hG10.row hL3 (by decide) (by decide)).mono ?_; rintro e w11 ⟨rfl, hx11⟩
    have hy11 := hy10.trans hx11
    go_wp2_with fail
    refine (laws_toProofS (h.ext hy11) hle).mono ?_; rintro e w12 ⟨B12, rfl, hx12, hF12⟩
    go_wp2_with fail
    refine (him _ _ _ hF12.row (fun h => by cases h)).mono ?_; rintro e w13 ⟨ho, hc, rfl, hx13, hH⟩
    go_wp2_with fail
    refine (laws_eqProofS hH.row (hW10.ext (hx11.trans (hx12.trans hx13))).row hL2 hL2).mono ?_; rintro e w14 ⟨rfl, hx14⟩
    rw [hone]
    go_wp2_with fail
    refine (laws_heldProofS (hG10.ext (hx11.trans (hx12.trans (hx13.trans hx14)))).row hL3 (by decide) (by decide)).mono ?_; rintro e w15 ⟨rfl, hx15⟩
    go_wp2
    go_ret
    exact ⟨rfl, hy11.trans (hx12.trans (hx13.trans (hx14.trans hx15)))⟩
  · go_enter Try.func7, Try.ntmps7
    go_wp2_with fail
    refine (laws_szProofS hn (by decide) (by decide)).mono ?_; rintro e w1 ⟨rfl, rfl⟩
    rw [show szI ms.length 1048576 = -1 by simp [szI]; omega]
    go_wp2
    go_ret
    exact ⟨rfl, Ext.refl _⟩

set_option maxRecDepth 100000 in
theorem lifted (os : Os) (started : os.Started) (H : Type) (enc : TypeId × Value → H) :
    ReturnsInHanded {} Try.checked os 7 .any (Rows.fnExactDropWeakSpec.pre6 enc Try.prog Try.f7 Rows.fnExactDropWeakRow.domain false) (Rows.fnExactDropWeakSpec.post enc Try.prog Try.f7 false true false false) := by
  refine returnsInHanded_of_change (C := Try.checked) (by kernel_rfl) started (by kernel_rfl) Try.func7
    (ChangeSpec.witness6 (enc := enc) (C := Try.checked) false ⟨#[], #[.slice none 0 0, .int .i64 0], []⟩ 8 (by kernel_rfl) (by kernel_rfl) (by kernel_rfl) (by kernel_rfl)) ?_
  intro W base args ds gs before hval0 hW _ _
  have hval : ∀ (j : Nat) t v, Try.f7.params[j]? = some t → args[j]? = some v → Value.okWide Try.prog W .any base t v := hval0
  have hW' := hW
  obtain ⟨p, q, hA0, hV, rfl, hfz, hnd⟩ := hW
  have hA : DataW.TrodAll enc Try.prog W 0 (fun _ => true) true Try.f7.params.toList args.toList ds p := hA0
  rw [Try.params7] at hA hval
  obtain ⟨v0, vs0, d0, ds0, p0, q0, hargs, rfl, rfl, h0, r0⟩ := trodAll_cons hA
  obtain ⟨v1, vs1, d1, ds1, p1, q1, rfl, rfl, rfl, h1, r1⟩ := trodAll_cons r0
  obtain ⟨rfl, rfl, rfl⟩ := trodAll_nil r1
  obtain rfl : args = #[v0, v1] := by cases args; simp_all
  obtain ⟨rfl, rfl⟩ := trodVars_none hV
  obtain ⟨ao0, cap0, xs0, rfl, hl0, hr0, hw0⟩ := open_ProofS (hval 0 28 v0 rfl rfl) h0
  obtain ⟨a1, rfl, _, _, wa1⟩ := open_int Try.underlying3 (hval 1 3 v1 rfl rfl) h1
  refine (walk hr0 hl0 hw0 (I64.of_wf wa1)).mono fun e W' ⟨he, hx⟩ => ?_
  subst he
  exact ⟨_, rfl, law_post (by kernel_rfl) (by kernel_rfl) Try.underlying4 rfl rfl hW' rfl hx⟩

theorem holds : Rows.FnExactDropWeakSaid :=
  OpenClaim.holds_of_wide 7 Try.f7 rfl rfl rfl rfl rfl rfl rfl ⟨rfl, rfl, rfl, rfl, rfl⟩ rfl rfl rfl rfl rfl (by kernel_rfl) Try.func7 (by kernel_rfl)
    (of_decide_eq_true (by kernel_rfl)) (by unfold Func.isWrapper; first | (rw [if_pos (by decide +kernel)]; kernel_rfl) | (rw [if_neg (by decide +kernel)]; exact ⟨rfl, rfl⟩))
    (fun os started H enc _ => lifted os started H enc)
end Go.Proofs.Ytomhhnhcpbpalaa.DropWeak
