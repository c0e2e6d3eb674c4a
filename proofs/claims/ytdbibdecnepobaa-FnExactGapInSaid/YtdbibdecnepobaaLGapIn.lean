/-
  Proved here: the law FnExactGapIn answers true for every input and leaves its arguments as they were.
  Conditions: none.
-/
import Derived.Test.YtdbibdecnepobaaHeat5
import Derived.Deep.RegionWith
namespace Go.Proofs.Ytdbibdecnepobaa.GapIn
open Go.ChangeShapes Go.WideShapes Go.ChangeAt Go.RowKit

set_option maxHeartbeats 1000000 in
theorem walk {c : HeatD} {ao bo : Option Addr} {ac bc : Nat} {a b : Int} {w : World} (hr : RowAt w ao 1 c.rs.length (ic c.rs)) (ht : RowAt w bo 1 c.ts.length (ic c.ts)) (ok : HeatOk c ac bc) (_ : True) (_ha : I64 a) (_hb : I64 b) :
    Calls Try.prog 4 #[c.val ao ac bo bc, .int .i64 a, .int .i64 b] w fun e w' => e = .returned (.bool true) ∧ Ext w w' := by
  obtain ⟨box, hbox⟩ : ∃ o, o = Obj.cells #[.slice ao c.rs.length ac, .slice bo c.ts.length bc] 24 := ⟨_, rfl⟩
  have hw0 : Ext w (w.alloc box) := (Ext.refl _).alloc _
  have hsz := fun x => laws_szHeat (w := x) (h := c) (ao := ao) (ac := ac) (bo := bo) (bc := bc) ok.n1 ok.n2
  by_cases hle : (c.rs.length : Int) + c.ts.length ≤ 1048576
  · rw [if_pos hle] at hsz
    have hto := fun x hx => laws_toHeat (w := x) (h := c) (ac := ac) (bc := bc) (hr.ext hx) (ht.ext hx) (by omega) (by omega)
    have hnn : ((1048576 - (c.rs.length : Int) - (c.ts.length : Int)) < 0) = False := by simp; omega
    obtain ⟨r0, r1, hres⟩ : ∃ (r0 : Int) (r1 : Bool), gGap c a b = .tuple #[.int .i64 r0, .bool r1] := by
      unfold gGap; (repeat' split) <;> exact ⟨_, _, rfl⟩
    have hsp := fun x ao' bo' ac' bc' hr ht c1 c2 => spec_GapIn (w := x) (h := c) (ao := ao') (bo := bo') (ac := ac') (bc := bc') (a := a) (b := b) hr ht ok.n1 ok.n2 c1 c2
    have him := fun x ao' bo' ac' bc' hr ht c1 c2 => impl_GapIn (w := x) (h := c) (ao := ao') (bo := bo') (ac := ac') (bc := bc') (a := a) (b := b) hr ht ok.n1 ok.n2 c1 c2
    rw [hres] at hsp him
    unfold HeatD.val at hsz hto hsp him ⊢
    subst hbox
    have n1 := ok.n1
    have n2 := ok.n2
    go_enter Try.func4, Try.ntmps4
    go_wp2_with fail
    refine (hsz _).mono ?_; rintro e w1 ⟨rfl, hx1⟩
    have hc := hx1.cellr
    go_wp2_with fail
    refine (hto _ (hw0.trans hx1)).mono ?_; rintro e w2 ⟨B2, D2, rfl, hx2, hF2, hG2, _⟩
    have hy2 := hx1.trans hx2
    clear hc; have hc := hy2.cellr
    go_wp2_with fail
    refine (hsp _ _ _ _ _ hF2.row hG2.row (Nat.le_refl _) (Nat.le_refl _)).mono ?_; rintro e w3 ⟨rfl, hx3⟩
    have hy3 := hy2.trans hx3
    clear hc; have hc := hy3.cellr
    go_wp2_with fail
    refine (hto _ (hw0.trans hy3)).mono ?_; rintro e w4 ⟨B4, D4, rfl, hx4, hF4, hG4, _⟩
    have hy4 := hy3.trans hx4
    clear hc
    go_wp2_with fail
    refine (him _ _ _ _ _ (hF4.row.ext ((Ext.refl _).alloc _)) (hG4.row.ext ((Ext.refl _).alloc _)) (Nat.le_refl _) (Nat.le_refl _)).mono ?_; rintro e w5 ⟨rfl, hx5⟩
    have hy5 : Ext (w.alloc (Obj.cells #[.slice ao c.rs.length ac, .slice bo c.ts.length bc] 24)) w5 := (hy4.alloc _).trans hx5
    have hF5 := hF4.ext (((Ext.refl _).alloc _).trans hx5)
    have hG5 := hG4.ext (((Ext.refl _).alloc _).trans hx5)
    have heq := fun x B D (hx : Ext w5 x) (hF : FreshAt w5.heap.size x (some ⟨B, 0, none⟩) 1 c.rs.length (ic c.rs)) (hG : FreshAt w5.heap.size x (some ⟨D, 0, none⟩) 1 c.ts.length (ic c.ts)) => laws_eqHeat (w := x) (x := c) (y := c) (ac := c.rs.length) (bc := c.ts.length) (ac' := c.rs.length) (bc' := c.ts.length) (hF5.row.ext hx) (hG5.row.ext hx) hF.row hG.row n1 n2 n1 n2
    unfold HeatD.val at heq
    have hone : c.eqB c = true := (HeatD.eqB_iff c c).2 rfl
    go_wp2
    have p0 : w5.cell? ⟨w4.heap.size, 0, none⟩ = some (.slice (some ⟨B4, 0, none⟩) c.rs.length c.rs.length) := hx5.cells (by go_simp)
    have p1 : w5.cell? ⟨w4.heap.size, 1, none⟩ = some (.slice (some ⟨D4, 0, none⟩) c.ts.length c.ts.length) := hx5.cells (by go_simp)
    have q0 : w5.cell? ⟨w.heap.size, 0, none⟩ = some (.slice ao c.rs.length ac) := hy5.cells (by go_simp)
    have q1 : w5.cell? ⟨w.heap.size, 1, none⟩ = some (.slice bo c.ts.length bc) := hy5.cells (by go_simp)
    have z0 : w4.heap.size < w5.heap.size := Nat.lt_of_lt_of_le (by simp) hx5.size
    have z1 : w.heap.size < w5.heap.size := Nat.lt_of_lt_of_le (by simp) hy5.size
    have hw5 := hw0.trans hy5
    clear hF4 hF5 hF2 hG4 hG5 hG2 hx1 hx2 hx3 hx4 hx5 hy2 hy3 hy4 hy5 hw0 hr ht hsz
    have HTO := Lib.hid hto; clear hto
    have HEQ := Lib.hid heq; clear heq
    go_region_with (first
      | (go_at_call 9; refine (HTO.out _ (by repeat (first | (with_reducible exact Ext.refl _) | (with_reducible assumption) | with_reducible refine Ext.drew ?_ | with_reducible refine Ext.alloc ?_ _ | with_reducible refine Ext.setCell ?_ (by first | (simp; done) | (simp; omega) | omega) _ | with_reducible refine Ext.trans ?_ (by with_reducible assumption)))).mono ?_; rintro e w6 ⟨B6, D6, rfl, hx6, hF6, hG6, _⟩; have hc6 := Ext.cellr (Ext.trans (Ext.refl w5).drew hx6))
      | (go_at_call 11; refine (HEQ.out _ _ _ (Ext.trans (Ext.refl _).drew hx6) hF6 hG6).mono ?_; rintro e w7 ⟨rfl, hx7⟩))
    all_goals
      go_wp2
      go_ret
      exact ⟨rfl, (by repeat (first | (with_reducible exact Ext.refl _) | (with_reducible assumption) | with_reducible refine Ext.drew ?_ | with_reducible refine Ext.alloc ?_ _ | with_reducible refine Ext.setCell ?_ (by first | (simp; done) | (simp; omega) | omega) _ | with_reducible refine Ext.trans ?_ (by with_reducible assumption)))⟩
  · rw [if_neg hle] at hsz
    unfold HeatD.val at hsz ⊢
    subst hbox
    go_enter Try.func4, Try.ntmps4
    go_wp2_with fail
    refine (hsz _).mono ?_; rintro e w1 ⟨rfl, hx1⟩
    go_wp2
    go_ret
    exact ⟨rfl, (by repeat (first | (with_reducible exact Ext.refl _) | (with_reducible assumption) | with_reducible refine Ext.drew ?_ | with_reducible refine Ext.alloc ?_ _ | with_reducible refine Ext.setCell ?_ (by first | (simp; done) | (simp; omega) | omega) _ | with_reducible refine Ext.trans ?_ (by with_reducible assumption)))⟩

set_option maxRecDepth 100000 in
theorem lifted (os : Os) (started : os.Started) (H : Type) (enc : TypeId × Value → H) :
    ReturnsInHanded {} Try.checked os 4 .any (Rows.fnExactGapInSpec.pre6 enc Try.prog Try.f4 Rows.fnExactGapInRow.domain false) (Rows.fnExactGapInSpec.post enc Try.prog Try.f4 false true false false) := by
  refine returnsInHanded_of_change (C := Try.checked) (by kernel_rfl) started (by kernel_rfl) Try.func4
    (ChangeSpec.witness6 (enc := enc) (C := Try.checked) false ⟨#[], #[.agg #[.slice none 0 0, .slice none 0 0], .int .i64 0, .int .i64 0], []⟩ 8 (by kernel_rfl) (by kernel_rfl) (by kernel_rfl) (by kernel_rfl)) ?_
  intro W base args ds gs before hval0 hW _ _
  have hval : ∀ (j : Nat) t v, Try.f4.params[j]? = some t → args[j]? = some v → Value.okWide Try.prog W .any base t v := hval0
  have hW' := hW
  obtain ⟨p, q, hA0, hV, rfl, hfz, hnd⟩ := hW
  have hA : DataW.TrodAll enc Try.prog W 0 (fun _ => true) true Try.f4.params.toList args.toList ds p := hA0
  rw [Try.params4] at hA hval
  obtain ⟨v0, vs0, d0, ds0, p0, q0, hargs, rfl, rfl, h0, r0⟩ := trodAll_cons hA
  obtain ⟨v1, vs1, d1, ds1, p1, q1, rfl, rfl, rfl, h1, r1⟩ := trodAll_cons r0
  obtain ⟨v2, vs2, d2, ds2, p2, q2, rfl, rfl, rfl, h2, r2⟩ := trodAll_cons r1
  obtain ⟨rfl, rfl, rfl⟩ := trodAll_nil r2
  obtain rfl : args = #[v0, v1, v2] := by cases args; simp_all
  obtain ⟨rfl, rfl⟩ := trodVars_none hV
  obtain ⟨x0, ao0, cap0, bo0, cbp0, rfl, hr0, hs0, hl0, hw0⟩ := open_Heat (hval 0 24 v0 rfl rfl) h0
  obtain ⟨a1, rfl, _, _, wa1⟩ := open_int Try.underlying3 (hval 1 3 v1 rfl rfl) h1
  obtain ⟨a2, rfl, _, _, wa2⟩ := open_int Try.underlying3 (hval 2 3 v2 rfl rfl) h2
  refine (walk hr0 hs0 hl0 hw0 (I64.of_wf wa1) (I64.of_wf wa2)).mono fun e W' ⟨he, hx⟩ => ?_
  subst he
  exact ⟨_, rfl, law_post (by kernel_rfl) (by kernel_rfl) Try.underlying4 rfl rfl hW' rfl hx⟩

theorem holds : Rows.FnExactGapInSaid :=
  OpenClaim.holds_of_wide 4 Try.f4 rfl rfl rfl rfl rfl rfl rfl ⟨rfl, rfl, rfl, rfl, rfl⟩ rfl rfl rfl rfl rfl (by kernel_rfl) Try.func4 (by kernel_rfl)
    (of_decide_eq_true (by kernel_rfl)) (by unfold Func.isWrapper; first | (rw [if_pos (by decide +kernel)]; kernel_rfl) | (rw [if_neg (by decide +kernel)]; exact ⟨rfl, rfl⟩))
    (fun os started H enc _ => lifted os started H enc)

end Go.Proofs.Ytdbibdecnepobaa.GapIn
