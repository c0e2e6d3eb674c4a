/-
  Proved here: the law FnExactComesBack answers true for every input and leaves its arguments as they were.
  Conditions: none.
-/
import Derived.Test.YtaplegdconmkiaaRel8
namespace Go.Proofs.Ytaplegdconmkiaa.ComesBack
open Go.ChangeShapes Go.WideShapes Go.ChangeAt Go.RowKit

set_option maxHeartbeats 1000000 in
theorem walk {ao : Option Addr} {cap : Nat} {hs : List TeamD} {legs : Int} {mass : Int} {number : Int} {leg : Int} {w : World} (hn : hs.length ≤ 9223372036854775807) (h : GRow w ao 2 hs.length (tsC hs)) (_ : True) (hlegs : I64 legs) (hmass : I64 mass) (hnumber : I64 number) (hleg : I64 leg) :
    Calls Try.prog 9 #[.slice ao hs.length cap, .int .i64 legs, .int .i64 mass, .int .i64 number, .int .i64 leg] w fun e w' => e = .returned (.bool true) ∧ Ext w w' := by
  have hsp := fun x ao' cap' hx => spec_ComesBack (w := x) (ao := ao') (cap := cap') (ts := hs) hx hn hlegs hmass hnumber hleg
  have him := fun x ao' cap' hx => impl_ComesBack (w := x) (ao := ao') (cap := cap') (ts := hs) hx hn hlegs hmass hnumber hleg
  obtain ⟨r0, r1, hres⟩ : ∃ (r0 : Int) (r1 : Bool), gBack hs legs mass number leg = .tuple #[.int .i64 r0, .bool r1] := by
    unfold gBack stV; (repeat' split) <;> exact ⟨_, _, rfl⟩
  rw [hres] at hsp him
  go_enter Try.func9, Try.ntmps9
  go_wp2_with fail
  refine (laws_szTeamS h hn).mono ?_; rintro e w1 ⟨r, rfl, hx1, hr⟩
  rcases hr with hr | ⟨hr, hl, hb⟩
  · go_wp2
    go_ret
    exact ⟨rfl, (by repeat (first | (with_reducible exact Ext.refl _) | (with_reducible assumption) | with_reducible refine Ext.drew ?_ | with_reducible refine Ext.alloc ?_ _ | with_reducible refine Ext.setCell ?_ (by first | (simp; done) | (simp; omega) | omega) _ | with_reducible refine Ext.trans ?_ (by with_reducible assumption)))⟩
  · have HB := Lib.hid hb; clear hb
    go_wp2_with fail
    refine (laws_toTeamS (h.ext hx1) hl HB.out).mono ?_; rintro e w2 ⟨B2, rfl, hx2, hG2⟩
    go_wp2_with fail
    refine (hsp _ _ _ hG2).mono ?_; rintro e w3 ⟨rfl, hx3⟩
    go_wp2_with fail
    refine (laws_toTeamS (h.ext (hx1.trans (hx2.trans hx3))) hl HB.out).mono ?_; rintro e w4 ⟨B4, rfl, hx4, hG4⟩
    go_wp2_with fail
    refine (him _ _ _ hG4).mono ?_; rintro e w5 ⟨rfl, hx5⟩
    go_wp2_with fail
    refine (laws_toTeamS (h.ext (hx1.trans (hx2.trans (hx3.trans (hx4.trans hx5))))) hl HB.out).mono ?_; rintro e w6 ⟨B6, rfl, hx6, hG6⟩
    go_wp2_with fail
    refine (laws_eqTeamS (hG4.ext (hx5.trans hx6)) hG6 hn hn).mono ?_; rintro e w7 ⟨rfl, hx7⟩
    rw [(eqL_iff TeamD.eqB_iff).2 rfl]
    go_wp2
    go_ret
    exact ⟨rfl, (by repeat (first | (with_reducible exact Ext.refl _) | (with_reducible assumption) | with_reducible refine Ext.drew ?_ | with_reducible refine Ext.alloc ?_ _ | with_reducible refine Ext.setCell ?_ (by first | (simp; done) | (simp; omega) | omega) _ | with_reducible refine Ext.trans ?_ (by with_reducible assumption)))⟩

set_option maxRecDepth 100000 in
theorem lifted (os : Os) (started : os.Started) (H : Type) (enc : TypeId × Value → H) :
    ReturnsInHanded {} Try.checked os 9 .any (Rows.fnExactComesBackSpec.pre6 enc Try.prog Try.f9 Rows.fnExactComesBackRow.domain false) (Rows.fnExactComesBackSpec.post enc Try.prog Try.f9 false true false false) := by
  refine returnsInHanded_of_change (C := Try.checked) (by kernel_rfl) started (by kernel_rfl) Try.func9
    (ChangeSpec.witness6 (enc := enc) (C := Try.checked) false ⟨#[], #[.slice none 0 0, .int .i64 0, .int .i64 0, .int .i64 0, .int .i64 0], []⟩ 8 (by kernel_rfl) (by kernel_rfl) (by kernel_rfl) (by kernel_rfl)) ?_
  intro W base args ds gs before hval0 hW _ _
  have hval : ∀ (j : Nat) t v, Try.f9.params[j]? = some t → args[j]? = some v → Value.okWide Try.prog W .any base t v := hval0
  have hW' := hW
  obtain ⟨p, q, hA0, hV, rfl, hfz, hnd⟩ := hW
  have hA : DataW.TrodAll enc Try.prog W 0 (fun _ => true) true Try.f9.params.toList args.toList ds p := hA0
  rw [Try.params9] at hA hval
  obtain ⟨v0, vs0, d0, ds0, p0, q0, hargs, rfl, rfl, h0, r0⟩ := trodAll_cons hA
  obtain ⟨v1, vs1, d1, ds1, p1, q1, rfl, rfl, rfl, h1, r1⟩ := trodAll_cons r0
  obtain ⟨v2, vs2, d2, ds2, p2, q2, rfl, rfl, rfl, h2, r2⟩ := trodAll_cons r1
  obtain ⟨v3, vs3, d3, ds3, p3, q3, rfl, rfl, rfl, h3, r3⟩ := trodAll_cons r2
  obtain ⟨v4, vs4, d4, ds4, p4, q4, rfl, rfl, rfl, h4, r4⟩ := trodAll_cons r3
  obtain ⟨rfl, rfl, rfl⟩ := trodAll_nil r4
  obtain rfl : args = #[v0, v1, v2, v3, v4] := by cases args; simp_all
  obtain ⟨rfl, rfl⟩ := trodVars_none hV
  obtain ⟨ao0, cap0, xs0, rfl, hl0, hr0, hw0⟩ := open_TeamS (hval 0 22 v0 rfl rfl) h0
  obtain ⟨a1, rfl, _, _, wa1⟩ := open_int Try.underlying3 (hval 1 3 v1 rfl rfl) h1
  obtain ⟨a2, rfl, _, _, wa2⟩ := open_int Try.underlying3 (hval 2 3 v2 rfl rfl) h2
  obtain ⟨a3, rfl, _, _, wa3⟩ := open_int Try.underlying3 (hval 3 3 v3 rfl rfl) h3
  obtain ⟨a4, rfl, _, _, wa4⟩ := open_int Try.underlying3 (hval 4 3 v4 rfl rfl) h4
  refine (walk hl0 hr0 hw0 (I64.of_wf wa1) (I64.of_wf wa2) (I64.of_wf wa3) (I64.of_wf wa4)).mono fun e W' ⟨he, hx⟩ => ?_
  subst he
  exact ⟨_, rfl, law_post (by kernel_rfl) (by kernel_rfl) Try.underlying4 rfl rfl hW' rfl hx⟩

theorem holds : Rows.FnExactComesBackSaid :=
  OpenClaim.holds_of_wide 9 Try.f9 rfl rfl rfl rfl rfl rfl rfl ⟨rfl, rfl, rfl, rfl, rfl⟩ rfl rfl rfl rfl rfl (by kernel_rfl) Try.func9 (by kernel_rfl)
    (of_decide_eq_true (by kernel_rfl)) (by unfold Func.isWrapper; first | (rw [if_pos (by decide +kernel)]; kernel_rfl) | (rw [if_neg (by decide +kernel)]; exact ⟨rfl, rfl⟩))
    (fun os started H enc _ => lifted os started H enc)
end Go.Proofs.Ytaplegdconmkiaa.ComesBack
