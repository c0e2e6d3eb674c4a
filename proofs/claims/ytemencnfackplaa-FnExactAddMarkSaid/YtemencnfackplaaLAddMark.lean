/-
  Proved here: the law FnExactAddMark answers true for every input and leaves its arguments as they were.
  Conditions: none.
-/
import Derived.Test.YtemencnfackplaaAddM4
import Derived.Test.YtemencnfackplaaMClockMark
import Derived.Deep.RegionWith
import Derived.Deep.DeepCutAuto
namespace Go.Proofs.Ytemencnfackplaa.AddMark
open Go.ChangeShapes Go.WideShapes Go.ChangeAt Go.RowKit

theorem list_len {ms : List Mark} {p : Mark} (_h : ms.length ≤ 1048576) : (adL ms p).length ≤ 1048577 := by have := adL_len ms p; omega

set_option maxRecDepth 100000 in
set_option maxHeartbeats 2000000 in
theorem walk {ao : Option Addr} {cap : Nat} {ms : List Mark} {p : Mark} {w : World} (h : RowAt w ao 2 ms.length (fun k => (nth ms k).c)) (hn : ms.length ≤ 9223372036854775807)
    (hw : ∀ k, k < ms.length → I64 (nth ms k).shown ∧ I64 (nth ms k).real) :
    Calls Try.prog 3 #[.slice ao ms.length cap, p.val] w fun e w' => e = .returned (.bool true) ∧ Ext w w' := by
  have _hw := hw
  by_cases hle : ms.length ≤ 1048576
  · have hsp := fun x b' cap' hx hc => spec_AddMark' (w := x) (b := b') (cap := cap') (ms := ms) (p := p) hx hle hc
    have him := fun x b' cap' hx hc => impl_AddMark' (w := x) (b := b') (cap := cap') (ms := ms) (p := p) hx hle hc
    have hLl := list_len (ms := ms) (p := p) hle
    have hone : eqL Mark.eqB (adL ms p) (adL ms p) = true := (eqL_iff Mark.eqB_iff).2 rfl
    generalize adL ms p = L at *
    generalize adB ms p = B at *
    have hL2 : L.length ≤ 9223372036854775807 := by omega
    have hL3 : L.length ≤ 1099511627776 := by omega
    obtain ⟨p0, p1⟩ := p
    unfold Mark.val at hsp him ⊢
    dsimp only at hsp him ⊢
    go_enter Try.func3, Try.ntmps3
    go_wp2_with fail
    have hw0 : Ext w (w.alloc (Obj.cells #[.int .i64 p0, .int .i64 p1] 24)) := (Ext.refl _).alloc _
    have q0 : (w.alloc (Obj.cells #[.int .i64 p0, .int .i64 p1] 24)).cell? ⟨w.heap.size, 0, none⟩ = some (.int .i64 p0) := by go_simp
    have q1 : (w.alloc (Obj.cells #[.int .i64 p0, .int .i64 p1] 24)).cell? ⟨w.heap.size, 1, none⟩ = some (.int .i64 p1) := by go_simp
    generalize hwb : w.alloc (Obj.cells #[.int .i64 p0, .int .i64 p1] 24) = wb at hw0 q0 q1 ⊢
    clear hwb
    have h := h.ext hw0
    refine (laws_szClockMarkS hn (by decide) (by decide)).mono ?_; rintro e w1 ⟨rfl, rfl⟩
    rw [show szI ms.length 1048576 = 1048576 - (ms.length : Int) by simp [szI]; omega]
    go_wp2_with fail
    go_cut [6, 7] (fun v0 v1 wc => ∃ bo bc, v0 = .slice bo L.length bc ∧ v1 = .bool B ∧ Ext wb wc ∧ FreshAt wb.heap.size wc bo 2 L.length (fun k => (nth L k).c))
    case first =>
      go_region_with (first
        | (go_at_call 7; refine (laws_toClockMarkS (h.ext (by repeat (first | (with_reducible exact Ext.refl _) | (with_reducible assumption) | with_reducible refine Ext.drew ?_ | with_reducible refine Ext.alloc ?_ _ | with_reducible refine Ext.setCell ?_ (by first | (simp; done) | (simp; omega) | omega) _ | with_reducible refine Ext.trans ?_ (by with_reducible assumption)))) hle).mono ?_; rintro e w1 ⟨B1, rfl, hx1, hF1⟩; have c0 := Ext.cells (show Ext wb w1 from (by repeat (first | (with_reducible exact Ext.refl _) | (with_reducible assumption) | with_reducible refine Ext.drew ?_ | with_reducible refine Ext.alloc ?_ _ | with_reducible refine Ext.setCell ?_ (by first | (simp; done) | (simp; omega) | omega) _ | with_reducible refine Ext.trans ?_ (by with_reducible assumption)))) q0; have c1 := Ext.cells (show Ext wb w1 from (by repeat (first | (with_reducible exact Ext.refl _) | (with_reducible assumption) | with_reducible refine Ext.drew ?_ | with_reducible refine Ext.alloc ?_ _ | with_reducible refine Ext.setCell ?_ (by first | (simp; done) | (simp; omega) | omega) _ | with_reducible refine Ext.trans ?_ (by with_reducible assumption)))) q1)
        | (go_at_call 8; refine laws_toClockMark.mono ?_; rintro e w1b ⟨rfl, hx1b⟩)
        | (go_at_call 6; refine (hsp _ _ _ (hF1.row.ext (by repeat (first | (with_reducible exact Ext.refl _) | (with_reducible assumption) | with_reducible refine Ext.drew ?_ | with_reducible refine Ext.alloc ?_ _ | with_reducible refine Ext.setCell ?_ (by first | (simp; done) | (simp; omega) | omega) _ | with_reducible refine Ext.trans ?_ (by with_reducible assumption)))) ⟨Nat.le_refl _, hn⟩).mono ?_; rintro e w2 ⟨bo, bc, rfl, hx2, hW⟩))
      all_goals
        go_wp2_with fail
        go_meet
        exact ⟨bo, bc, rfl, rfl, (by repeat (first | (with_reducible exact Ext.refl _) | (with_reducible assumption) | with_reducible refine Ext.drew ?_ | with_reducible refine Ext.alloc ?_ _ | with_reducible refine Ext.setCell ?_ (by first | (simp; done) | (simp; omega) | omega) _ | with_reducible refine Ext.trans ?_ (by with_reducible assumption))), hW.mono (Ext.size (show Ext wb _ from (by repeat (first | (with_reducible exact Ext.refl _) | (with_reducible assumption) | with_reducible refine Ext.drew ?_ | with_reducible refine Ext.alloc ?_ _ | with_reducible refine Ext.setCell ?_ (by first | (simp; done) | (simp; omega) | omega) _ | with_reducible refine Ext.trans ?_ (by with_reducible assumption)))))⟩
    case rest =>
    obtain ⟨bo, bc, rfl, rfl, hy2, hW⟩ := hcut
    go_wp2_with fail
    refine (laws_toClockMarkS (h.ext hy2) hle).mono ?_; rintro e w3 ⟨B3, rfl, hx3, hF3⟩
    have hy3 := hy2.trans hx3
    have c0 := Ext.cells hy3 q0
    have c1 := Ext.cells hy3 q1
    go_wp2_with fail
    refine laws_toClockMark.mono ?_; rintro e w3b ⟨rfl, hx4b⟩
    clear c0 c1
    go_wp2_with fail
    refine (him _ _ _ (hF3.row.ext hx4b) ⟨Nat.le_refl _, hn⟩).mono ?_; rintro e w4 ⟨go, gc, rfl, hx4q, hGq⟩
    have hx4 := hx4b.trans hx4q
    have hG := hGq.mono hx4b.size
    clear hx4b hx4q hGq
    have hy4 := hy3.trans hx4
    have hX3 := (hF3.base _ rfl)
    have hdWX : ∀ a, bo = some a → blk (some (⟨B3, 0, none⟩ : Addr)) ≠ some a.block := fun a e e' => by
      have h1 := (hW.base a e).2
      injection e' with e'
      have h2 := hX3.1
      simp only at e' h2
      omega
    have hdGX : ∀ a, go = some a → blk (some (⟨B3, 0, none⟩ : Addr)) ≠ some a.block := fun a e e' => by
      have h1 := (hG.base a e).1
      injection e' with e'
      have h2 := hX3.2
      simp only at e' h2
      omega
    have hdWG : ∀ a, bo = some a → blk go ≠ some a.block := fun a e e' => by
      have h1 := (hW.base a e).2
      cases hgo : go with
      | none => rw [hgo] at e'; cases e'
      | some g =>
        rw [hgo] at e'
        injection e' with e'
        have h2 := (hG.base g hgo).1
        have h3 := hX3.1
        have h4 := hX3.2
        simp only at e' h3 h4
        omega
    have hbX : ∀ k, blk (some (⟨B3, 0, none⟩ : Addr)) = some k → wb.heap.size ≤ k := fun k e => by
      injection e with e
      have h1 := hX3.1
      have h2 := hy2.size
      simp only at e h1
      omega
    have hbG : ∀ k, blk go = some k → wb.heap.size ≤ k := fun k e => by
      cases hgo : go with
      | none => rw [hgo] at e; cases e
      | some g =>
        rw [hgo] at e
        injection e with e
        have h1 := (hG.base g hgo).1
        have h2 := hy3.size
        simp only at e
        omega
    go_wp2_with fail
    refine (laws_eqClockMarkS hG.row (hW.ext (hx3.trans hx4)).row hL2 hL2).mono ?_; rintro e w5 ⟨rfl, hx5⟩
    rw [hone]
    have hy5 := hy4.trans hx5
    go_wp2_with fail
    refine (laws_toClockMarkS (h.ext hy5) hle).mono ?_; rintro e w6 ⟨B6, rfl, hx6, hF6⟩
    have hy6 := hy5.trans hx6
    go_wp2_with fail
    refine (laws_eqClockMarkS (hF3.ext (hx4.trans (hx5.trans hx6))).row hF6.row hn hn).mono ?_; rintro e w7 ⟨rfl, hx7⟩
    rw [(eqL_iff Mark.eqB_iff).2 rfl]
    have hy7 := hy6.trans hx7
    have hX7 := hF3.ext (hx4.trans (hx5.trans (hx6.trans hx7)))
    have hG7 := hG.ext (hx5.trans (hx6.trans hx7))
    have hW7 := hW.ext (hx3.trans (hx4.trans (hx5.trans (hx6.trans hx7))))
    clear hF3 hF6 hG hW hx3 hx4 hx5 hx6 hx7 hy2 hy3 hy4 hy5 hy6
    go_wp2_with fail
    refine (laws_markClockMarkS hX7 (by omega) (by decide) (by decide)).mono ?_; rintro e w8 ⟨rfl, hg8, hX8⟩
    have hy8 := grown_ext hy7 hg8 hbX
    have hG8 := hG7.grown hg8 hdGX
    have hW8 := hW7.grown hg8 hdWX
    clear hX7 hX8 hG7 hW7 hg8 hy7
    go_wp2_with fail
    refine (laws_eqClockMarkS hG8.row hW8.row hL2 hL2).mono ?_; rintro e w9 ⟨rfl, hx9⟩
    rw [hone]
    have hy9 := hy8.trans hx9
    have hG9 := hG8.ext hx9
    have hW9 := hW8.ext hx9
    clear hG8 hW8 hx9 hy8
    go_wp2_with fail
    refine (laws_markClockMarkS hG9 hL3 (by decide) (by decide)).mono ?_; rintro e w10 ⟨rfl, hg10, hG10⟩
    have hy10 := grown_ext hy9 hg10 hbG
    have hW10 := hW9.grown hg10 hdWG
    clear hG9 hW9 hg10 hy9
    go_wp2_with fail
    refine (laws_heldClockMarkS hG10.row hL3 (by decide) (by decide)).mono ?_; rintro e w11 ⟨rfl, hx11⟩
    have hy11 := hy10.trans hx11
    have c0 := Ext.cells hy11 q0
    have c1 := Ext.cells hy11 q1
    go_wp2_with fail
    go_cut [14, 15] (fun v0 v1 wc => ∃ bo bc, v0 = .slice bo L.length bc ∧ v1 = .bool B ∧ Ext w11 wc ∧ FreshAt w11.heap.size wc bo 2 L.length (fun k => (nth L k).c))
    case first =>
      go_region_with (first
        | (go_at_call 7; refine (laws_toClockMarkS ((h.ext hy11).ext (by repeat (first | (with_reducible exact Ext.refl _) | (with_reducible assumption) | with_reducible refine Ext.drew ?_ | with_reducible refine Ext.alloc ?_ _ | with_reducible refine Ext.setCell ?_ (by first | (simp; done) | (simp; omega) | omega) _ | with_reducible refine Ext.trans ?_ (by with_reducible assumption)))) hle).mono ?_; rintro e w1 ⟨B1, rfl, hx1, hF1⟩; have c0 := Ext.cells (Ext.trans hy11 (show Ext w11 w1 from (by repeat (first | (with_reducible exact Ext.refl _) | (with_reducible assumption) | with_reducible refine Ext.drew ?_ | with_reducible refine Ext.alloc ?_ _ | with_reducible refine Ext.setCell ?_ (by first | (simp; done) | (simp; omega) | omega) _ | with_reducible refine Ext.trans ?_ (by with_reducible assumption))))) q0; have c1 := Ext.cells (Ext.trans hy11 (show Ext w11 w1 from (by repeat (first | (with_reducible exact Ext.refl _) | (with_reducible assumption) | with_reducible refine Ext.drew ?_ | with_reducible refine Ext.alloc ?_ _ | with_reducible refine Ext.setCell ?_ (by first | (simp; done) | (simp; omega) | omega) _ | with_reducible refine Ext.trans ?_ (by with_reducible assumption))))) q1)
        | (go_at_call 8; refine laws_toClockMark.mono ?_; rintro e w1b ⟨rfl, hx1b⟩)
        | (go_at_call 9; refine (him _ _ _ (hF1.row.ext (by repeat (first | (with_reducible exact Ext.refl _) | (with_reducible assumption) | with_reducible refine Ext.drew ?_ | with_reducible refine Ext.alloc ?_ _ | with_reducible refine Ext.setCell ?_ (by first | (simp; done) | (simp; omega) | omega) _ | with_reducible refine Ext.trans ?_ (by with_reducible assumption)))) ⟨Nat.le_refl _, hn⟩).mono ?_; rintro e w2 ⟨bo, bc, rfl, hx2, hW⟩))
      all_goals
        go_wp2_with fail
        go_meet
        exact ⟨bo, bc, rfl, rfl, (by repeat (first | (with_reducible exact Ext.refl _) | (with_reducible assumption) | with_reducible refine Ext.drew ?_ | with_reducible refine Ext.alloc ?_ _ | with_reducible refine Ext.setCell ?_ (by first | (simp; done) | (simp; omega) | omega) _ | with_reducible refine Ext.trans ?_ (by with_reducible assumption))), hW.mono (Ext.size (show Ext w11 _ from (by repeat (first | (with_reducible exact Ext.refl _) | (with_reducible assumption) | with_reducible refine Ext.drew ?_ | with_reducible refine Ext.alloc ?_ _ | with_reducible refine Ext.setCell ?_ (by first | (simp; done) | (simp; omega) | omega) _ | with_reducible refine Ext.trans ?_ (by with_reducible assumption)))))⟩
    case rest =>
    clear c0 c1
    obtain ⟨ho, hc, rfl, rfl, hx13, hH⟩ := hcut
    go_wp2_with fail
    refine (laws_eqClockMarkS hH.row (hW10.ext (hx11.trans hx13)).row hL2 hL2).mono ?_; rintro e w14 ⟨rfl, hx14⟩
    rw [hone]
    go_wp2_with fail
    refine (laws_heldClockMarkS (hG10.ext (hx11.trans (hx13.trans hx14))).row hL3 (by decide) (by decide)).mono ?_; rintro e w15 ⟨rfl, hx15⟩
    go_wp2
    go_ret
    exact ⟨rfl, hw0.trans (hy11.trans (hx13.trans (hx14.trans hx15)))⟩
  · obtain ⟨p0, p1⟩ := p
    unfold Mark.val
    dsimp only
    go_enter Try.func3, Try.ntmps3
    go_wp2_with fail
    refine (laws_szClockMarkS hn (by decide) (by decide)).mono ?_; rintro e w1 ⟨rfl, rfl⟩
    rw [show szI ms.length 1048576 = -1 by simp [szI]; omega]
    go_wp2
    go_ret
    exact ⟨rfl, (by repeat (first | (with_reducible exact Ext.refl _) | (with_reducible assumption) | with_reducible refine Ext.drew ?_ | with_reducible refine Ext.alloc ?_ _ | with_reducible refine Ext.setCell ?_ (by first | (simp; done) | (simp; omega) | omega) _ | with_reducible refine Ext.trans ?_ (by with_reducible assumption)))⟩

set_option maxRecDepth 100000 in
theorem lifted (os : Os) (started : os.Started) (H : Type) (enc : TypeId × Value → H) :
    ReturnsInHanded {} Try.checked os 3 .any (Rows.fnExactAddMarkSpec.pre6 enc Try.prog Try.f3 Rows.fnExactAddMarkRow.domain false) (Rows.fnExactAddMarkSpec.post enc Try.prog Try.f3 false true false false) := by
  refine returnsInHanded_of_change (C := Try.checked) (by kernel_rfl) started (by kernel_rfl) Try.func3
    (ChangeSpec.witness6 (enc := enc) (C := Try.checked) false ⟨#[], #[.slice none 0 0, .agg #[.int .i64 0, .int .i64 0]], []⟩ 8 (by kernel_rfl) (by kernel_rfl) (by kernel_rfl) (by kernel_rfl)) ?_
  intro W base args ds gs before hval0 hW _ _
  have hval : ∀ (j : Nat) t v, Try.f3.params[j]? = some t → args[j]? = some v → Value.okWide Try.prog W .any base t v := hval0
  have hW' := hW
  obtain ⟨p, q, hA0, hV, rfl, hfz, hnd⟩ := hW
  have hA : DataW.TrodAll enc Try.prog W 0 (fun _ => true) true Try.f3.params.toList args.toList ds p := hA0
  rw [Try.params3] at hA hval
  obtain ⟨v0, vs0, d0, ds0, p0, q0, hargs, rfl, rfl, h0, r0⟩ := trodAll_cons hA
  obtain ⟨v1, vs1, d1, ds1, p1, q1, rfl, rfl, rfl, h1, r1⟩ := trodAll_cons r0
  obtain ⟨rfl, rfl, rfl⟩ := trodAll_nil r1
  obtain rfl : args = #[v0, v1] := by cases args; simp_all
  obtain ⟨rfl, rfl⟩ := trodVars_none hV
  obtain ⟨ao0, cap0, xs0, rfl, hl0, hr0, hw0⟩ := open_ClockMarkS (hval 0 22 v0 rfl rfl) h0
  obtain ⟨x1, rfl, hx1⟩ := open_ClockMark (hval 1 24 v1 rfl rfl) h1
  refine (walk hr0 hl0 hw0).mono fun e W' ⟨he, hx⟩ => ?_
  subst he
  exact ⟨_, rfl, law_post (by kernel_rfl) (by kernel_rfl) Try.underlying4 rfl rfl hW' rfl hx⟩

theorem holds : Rows.FnExactAddMarkSaid :=
  OpenClaim.holds_of_wide 3 Try.f3 rfl rfl rfl rfl rfl rfl rfl ⟨rfl, rfl, rfl, rfl, rfl⟩ rfl rfl rfl rfl rfl (by kernel_rfl) Try.func3 (by kernel_rfl)
    (of_decide_eq_true (by kernel_rfl)) (by unfold Func.isWrapper; first | (rw [if_pos (by decide +kernel)]; kernel_rfl) | (rw [if_neg (by decide +kernel)]; exact ⟨rfl, rfl⟩))
    (fun os started H enc _ => lifted os started H enc)
end Go.Proofs.Ytemencnfackplaa.AddMark
