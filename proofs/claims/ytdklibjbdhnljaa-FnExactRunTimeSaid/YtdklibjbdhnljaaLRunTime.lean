/-
  Proved here: the law FnExactRunTime answers true for every input and leaves its argument as it was.
  Conditions: none.
-/
import Derived.Test.YtdklibjbdhnljaaCards2
import Derived.Deep.RegionWith
namespace Go.Proofs.Ytdklibjbdhnljaa.RunTime
open Go.ChangeShapes Go.WideShapes Go.ChangeAt Go.RowKit

set_option maxHeartbeats 1000000 in
theorem walk {c : CardD} {ao : Option Addr} {cap : Nat} {w : World} (h : RowAt w ao 2 c.ps.length (fun k => (nth c.ps k).c)) (hn : c.ps.length ≤ 9223372036854775807)
    (_hw : I64 c.number ∧ I64 c.start ∧ I64 c.finish ∧ ∀ k, k < c.ps.length → I64 (nth c.ps k).code ∧ I64 (nth c.ps k).time) :
    Calls Try.prog 3 #[c.val ao cap] w fun e w' => e = .returned (.bool true) ∧ Ext w w' := by
  obtain ⟨box, hbox⟩ : ∃ o, o = Obj.cells #[.int .i64 c.number, .int .i64 c.start, .int .i64 c.finish, .slice ao c.ps.length cap] 24 := ⟨_, rfl⟩
  have hw0 : Ext w (w.alloc box) := (Ext.refl _).alloc _
  have hsz := fun x => laws_szCard (w := x) (c := c) (ao := ao) (cap := cap) (x := 1048576) hn (by decide) (by decide)
  by_cases hle : c.ps.length ≤ 1048576
  · have hto := fun x hx => laws_toCard (w := x) (cap := cap) (h.ext hx) hle
    obtain ⟨r0, r1, hres⟩ : ∃ (r0 : Int) (r1 : Bool), gRun c = .tuple #[.int .i64 r0, .bool r1] := by
      unfold gRun; split <;> exact ⟨_, _, rfl⟩
    have hsp := fun x ao' cap' hx => spec_RunTime (w := x) (ao := ao') (cap := cap') (c := c) hx hn
    have him := fun x ao' cap' hx => impl_RunTime (w := x) (ao := ao') (cap := cap') (c := c) hx hn
    rw [hres] at hsp him
    unfold CardD.val at hsz hto hsp him ⊢
    subst hbox
    go_enter Try.func3, Try.ntmps3
    go_wp2_with fail
    refine (hsz _).mono ?_; rintro e w1 ⟨rfl, hx1⟩
    rw [show szI c.ps.length 1048576 = 1048576 - (c.ps.length : Int) by simp [szI]; omega]
    have hc := hx1.cellr
    go_wp2_with fail
    refine (hto _ (hw0.trans hx1)).mono ?_; rintro e w2 ⟨B2, rfl, hx2, hF2⟩
    have hy2 := hx1.trans hx2
    clear hc; have hc := hy2.cellr
    go_wp2_with fail
    refine (hsp _ _ _ hF2.row).mono ?_; rintro e w3 ⟨rfl, hx3⟩
    have hy3 := hy2.trans hx3
    clear hc; have hc := hy3.cellr
    go_wp2_with fail
    refine (hto _ (hw0.trans hy3)).mono ?_; rintro e w4 ⟨B4, rfl, hx4, hF4⟩
    have hy4 := hy3.trans hx4
    clear hc
    go_wp2_with fail
    refine (him _ _ _ (hF4.row.ext ((Ext.refl _).alloc _))).mono ?_; rintro e w5 ⟨rfl, hx5⟩
    have hy5 : Ext (w.alloc (Obj.cells #[.int .i64 c.number, .int .i64 c.start, .int .i64 c.finish, .slice ao c.ps.length cap] 24)) w5 := (hy4.alloc _).trans hx5
    have hF5 := hF4.ext (((Ext.refl _).alloc _).trans hx5)
    have heq := fun x B (hx : Ext w5 x) (hF : FreshAt w5.heap.size x (some ⟨B, 0, none⟩) 2 c.ps.length (fun k => (nth c.ps k).c)) => laws_eqCard (w := x) (x := c) (y := c) (cap := c.ps.length) (cap' := c.ps.length) (hF5.row.ext hx) hF.row hn hn
    unfold CardD.val at heq
    have hone : c.eqB c = true := (CardD.eqB_iff c c).2 rfl
    go_wp2
    have p0 : w5.cell? ⟨w4.heap.size, 0, none⟩ = some (.int .i64 c.number) := hx5.cells (by go_simp)
    have p1 : w5.cell? ⟨w4.heap.size, 1, none⟩ = some (.int .i64 c.start) := hx5.cells (by go_simp)
    have p2 : w5.cell? ⟨w4.heap.size, 2, none⟩ = some (.int .i64 c.finish) := hx5.cells (by go_simp)
    have p3 : w5.cell? ⟨w4.heap.size, 3, none⟩ = some (.slice (some ⟨B4, 0, none⟩) c.ps.length c.ps.length) := hx5.cells (by go_simp)
    have q0 : w5.cell? ⟨w.heap.size, 0, none⟩ = some (.int .i64 c.number) := hy5.cells (by go_simp)
    have q1 : w5.cell? ⟨w.heap.size, 1, none⟩ = some (.int .i64 c.start) := hy5.cells (by go_simp)
    have q2 : w5.cell? ⟨w.heap.size, 2, none⟩ = some (.int .i64 c.finish) := hy5.cells (by go_simp)
    have q3 : w5.cell? ⟨w.heap.size, 3, none⟩ = some (.slice ao c.ps.length cap) := hy5.cells (by go_simp)
    have z0 : w4.heap.size < w5.heap.size := Nat.lt_of_lt_of_le (by simp) hx5.size
    have z1 : w.heap.size < w5.heap.size := Nat.lt_of_lt_of_le (by simp) hy5.size
    have hw5 := hw0.trans hy5
    clear hF4 hF5 hF2 hx1 hx2 hx3 hx4 hx5 hy2 hy3 hy4 hy5 hw0 h hsz
    have HTO := Lib.hid hto; clear hto
    have HEQ := Lib.hid heq; clear heq
    go_region_with (first
      | (go_at_call 10; refine (HTO.out _ (by repeat (first | (with_reducible exact Ext.refl _) | (with_reducible assumption) | with_reducible refine Ext.drew ?_ | with_reducible refine Ext.alloc ?_ _ | with_reducible refine Ext.setCell ?_ (by first | (simp; done) | (simp; omega) | omega) _ | with_reducible refine Ext.trans ?_ (by with_reducible assumption)))).mono ?_; rintro e w6 ⟨B6, rfl, hx6, hF6⟩; have hc6 := Ext.cellr (Ext.trans (Ext.refl w5).drew hx6))
      | (go_at_call 12; refine (HEQ.out _ _ (Ext.trans (Ext.refl _).drew hx6) hF6).mono ?_; rintro e w7 ⟨rfl, hx7⟩))
    all_goals
      go_wp2
      go_ret
      exact ⟨rfl, (by repeat (first | (with_reducible exact Ext.refl _) | (with_reducible assumption) | with_reducible refine Ext.drew ?_ | with_reducible refine Ext.alloc ?_ _ | with_reducible refine Ext.setCell ?_ (by first | (simp; done) | (simp; omega) | omega) _ | with_reducible refine Ext.trans ?_ (by with_reducible assumption)))⟩
  · unfold CardD.val at hsz ⊢
    subst hbox
    go_enter Try.func3, Try.ntmps3
    go_wp2_with fail
    refine (hsz _).mono ?_; rintro e w1 ⟨rfl, hx1⟩
    rw [show szI c.ps.length 1048576 = -1 by simp [szI]; omega]
    go_wp2
    go_ret
    exact ⟨rfl, (by repeat (first | (with_reducible exact Ext.refl _) | (with_reducible assumption) | with_reducible refine Ext.drew ?_ | with_reducible refine Ext.alloc ?_ _ | with_reducible refine Ext.setCell ?_ (by first | (simp; done) | (simp; omega) | omega) _ | with_reducible refine Ext.trans ?_ (by with_reducible assumption)))⟩

set_option maxRecDepth 100000 in
theorem lifted (os : Os) (started : os.Started) (H : Type) (enc : TypeId × Value → H) :
    ReturnsInHanded {} Try.checked os 3 .any (Rows.fnExactRunTimeSpec.pre6 enc Try.prog Try.f3 Rows.fnExactRunTimeRow.domain false) (Rows.fnExactRunTimeSpec.post enc Try.prog Try.f3 false true false false) := by
  refine returnsInHanded_of_change (C := Try.checked) (by kernel_rfl) started (by kernel_rfl) Try.func3
    (ChangeSpec.witness6 (enc := enc) (C := Try.checked) false ⟨#[], #[.agg #[.int .i64 0, .int .i64 0, .int .i64 0, .slice none 0 0]], []⟩ 8 (by kernel_rfl) (by kernel_rfl) (by kernel_rfl) (by kernel_rfl)) ?_
  intro W base args ds gs before hval0 hW _ _
  have hval : ∀ (j : Nat) t v, Try.f3.params[j]? = some t → args[j]? = some v → Value.okWide Try.prog W .any base t v := hval0
  have hW' := hW
  obtain ⟨p, q, hA0, hV, rfl, hfz, hnd⟩ := hW
  have hA : DataW.TrodAll enc Try.prog W 0 (fun _ => true) true Try.f3.params.toList args.toList ds p := hA0
  rw [Try.params3] at hA hval
  obtain ⟨v0, vs0, d0, ds0, p0, q0, hargs, rfl, rfl, h0, r0⟩ := trodAll_cons hA
  obtain ⟨rfl, rfl, rfl⟩ := trodAll_nil r0
  obtain rfl : args = #[v0] := by cases args; simp_all
  obtain ⟨rfl, rfl⟩ := trodVars_none hV
  obtain ⟨x0, ao0, cap0, rfl, hr0, hl0, hw0⟩ := open_Card (hval 0 24 v0 rfl rfl) h0
  refine (walk hr0 hl0 hw0).mono fun e W' ⟨he, hx⟩ => ?_
  subst he
  exact ⟨_, rfl, law_post (by kernel_rfl) (by kernel_rfl) Try.underlying4 rfl rfl hW' rfl hx⟩

theorem holds : Rows.FnExactRunTimeSaid :=
  OpenClaim.holds_of_wide 3 Try.f3 rfl rfl rfl rfl rfl rfl rfl ⟨rfl, rfl, rfl, rfl, rfl⟩ rfl rfl rfl rfl rfl (by kernel_rfl) Try.func3 (by kernel_rfl)
    (of_decide_eq_true (by kernel_rfl)) (by unfold Func.isWrapper; first | (rw [if_pos (by decide +kernel)]; kernel_rfl) | (rw [if_neg (by decide +kernel)]; exact ⟨rfl, rfl⟩))
    (fun os started H enc _ => lifted os started H enc)

end Go.Proofs.Ytdklibjbdhnljaa.RunTime
