/-
  Proved here: the law FnExactTourTime answers true for every input and leaves its arguments as they were.
  Conditions: none.
-/
import Derived.Test.YtidcfohlhamgmaaTour10
import Derived.Test.YtidcfohlhamgmaaTouch
import Derived.Deep.RegionWith
import Derived.Deep.DeepCutAuto
namespace Go.Proofs.Ytidcfohlhamgmaa.TourTime
open Go.ChangeShapes Go.WideShapes Go.ChangeAt Go.RowKit

set_option maxRecDepth 100000 in
set_option maxHeartbeats 4000000 in
theorem walk {ao0 : Option Addr} {ac0 : Nat} {bo0 : Option Addr} {bc0 : Nat} {x0 : MapD} {ao1 : Option Addr} {ac1 : Nat} {xs1 : List Ctl} {a2 : Int} {ao3 : Option Addr} {ac3 : Nat} {xs3 : List Int} {w : World} (h0r : RowAt w ao0 1 x0.rise.length (ic x0.rise)) (h0c : RowAt w bo0 1 x0.cost.length (ic x0.cost)) (n0r : x0.rise.length ≤ 9223372036854775807) (n0c : x0.cost.length ≤ 9223372036854775807) (h1 : RowAt w ao1 2 xs1.length (fun k => (nth xs1 k).c)) (n1 : xs1.length ≤ 9223372036854775807) (_hw1 : ∀ k, k < xs1.length → I64 (nth xs1 k).code ∧ I64 (nth xs1 k).cell) (_hw2 : I64 a2) (h3 : RowAt w ao3 1 xs3.length (ic xs3)) (n3 : xs3.length ≤ 9223372036854775807) (_hw3 : (∀ k, k < xs3.length → I64 (nth xs3 k)) ∧ xs3.length ≤ ac3) :
    Calls Try.prog 3 #[x0.val ao0 ac0 bo0 bc0, .slice ao1 xs1.length ac1, .int .i64 a2, .slice ao3 xs3.length ac3] w fun e w' => e = .returned (.bool true) ∧ Ext w w' := by
  have hw0 : Ext w (w.alloc (Obj.cells #[.int .i64 x0.wid, .int .i64 x0.hei, .slice ao0 x0.rise.length ac0, .slice bo0 x0.cost.length bc0] 24)) := (by repeat (first | (with_reducible exact Ext.refl _) | (with_reducible assumption) | with_reducible refine Ext.drew ?_ | with_reducible refine Ext.alloc ?_ _ | with_reducible refine Ext.setCell ?_ (by first | (simp; done) | (simp; omega) | omega) _ | with_reducible refine Ext.trans ?_ (by with_reducible assumption)))
  have hsz0 := fun x => laws_szMap (w := x) (m := x0) (ao := ao0) (bo := bo0) (ac := ac0) (bc := bc0) (x := 1048576) n0r n0c (by decide) (by decide)
  unfold MapD.val at hsz0
  have HSZ0 := Lib.hid hsz0; clear hsz0
  unfold MapD.val
  by_cases c3 : xs3.length ≤ 1048576
  · skip
    by_cases c0 : x0.rise.length + x0.cost.length ≤ 1048576
    · skip
      by_cases c1 : x0.rise.length + x0.cost.length + xs1.length ≤ 1048576
      · skip
        have m0r : x0.rise.length ≤ 1048576 := by omega
        have m0c : x0.cost.length ≤ 1048576 := by omega
        have m1 : xs1.length ≤ 1048576 := by omega
        have m3 : xs3.length ≤ 1048576 := by omega
        have hto0 := fun x hx => laws_toMap (w := x) (ac := ac0) (bc := bc0) (h0r.ext hx) (h0c.ext hx) m0r m0c
        have hto1 := fun x hx => laws_toControlS (w := x) (cap := ac1) (h1.ext hx) m1
        have hto3 := fun x hx => laws_toIntS (w := x) (cap := ac3) (h3.ext hx) m3
        have hsp := fun x b0r b0c b1 b3 (h0r : RowAt x (some ⟨b0r, 0, none⟩) 1 x0.rise.length (ic x0.rise)) (h0c : RowAt x (some ⟨b0c, 0, none⟩) 1 x0.cost.length (ic x0.cost)) (h1 : RowAt x (some ⟨b1, 0, none⟩) 2 xs1.length (fun k => (nth xs1 k).c)) (h3 : RowAt x (some ⟨b3, 0, none⟩) 1 xs3.length (ic xs3)) => spec_TourTime (w := x) (ac := x0.rise.length) (bc := x0.cost.length) (cap := xs1.length) (qc := xs3.length) (center := a2) ⟨h0r, h0c, h1, n0r, n0c, n1, Nat.le_refl _⟩ h3 n3 (Nat.le_refl _)
        have him := fun x b0r b0c b1 b3 (h0r : RowAt x (some ⟨b0r, 0, none⟩) 1 x0.rise.length (ic x0.rise)) (h0c : RowAt x (some ⟨b0c, 0, none⟩) 1 x0.cost.length (ic x0.cost)) (h1 : RowAt x (some ⟨b1, 0, none⟩) 2 xs1.length (fun k => (nth xs1 k).c)) (h3 : RowAt x (some ⟨b3, 0, none⟩) 1 xs3.length (ic xs3)) => impl_TourTime (w := x) (ac := x0.rise.length) (bc := x0.cost.length) (cap := xs1.length) (qc := xs3.length) (center := a2) ⟨h0r, h0c, h1, n0r, n0c, n1, Nat.le_refl _⟩ h3 n3 (Nat.le_refl _)
        have heq0 := fun x a b a' b' (r1 : RowAt x (some ⟨a, 0, none⟩) 1 x0.rise.length (ic x0.rise)) (r2 : RowAt x (some ⟨b, 0, none⟩) 1 x0.cost.length (ic x0.cost)) (r3 : RowAt x (some ⟨a', 0, none⟩) 1 x0.rise.length (ic x0.rise)) (r4 : RowAt x (some ⟨b', 0, none⟩) 1 x0.cost.length (ic x0.cost)) => laws_eqMap (w := x) (x := x0) (y := x0) (ao := some ⟨a, 0, none⟩) (bo := some ⟨b, 0, none⟩) (ao' := some ⟨a', 0, none⟩) (bo' := some ⟨b', 0, none⟩) (ac := x0.rise.length) (bc := x0.cost.length) (ac' := x0.rise.length) (bc' := x0.cost.length) r1 r2 r3 r4 n0r n0c n0r n0c
        rw [show x0.eqB x0 = true from (MapD.eqB_iff _ _).2 rfl] at heq0
        have heqv1 : eqL Ctl.eqB xs1 xs1 = true := (eqL_iff Ctl.eqB_iff).2 rfl
        have heqv3 : eqL eqI xs3 xs3 = true := (eqL_iff eqI_iff).2 rfl
        obtain ⟨r0, r1, hres⟩ : ∃ (r0 : Int) (r1 : Bool), gTT x0 xs1 a2 xs3 = .tuple #[.int .i64 r0, .bool r1] := by
          unfold gTT; (repeat' split) <;> exact ⟨_, _, rfl⟩
        rw [hres] at hsp him
        clear hres
        unfold MapD.val at hsp him heq0 hto0
        have HTO0 := Lib.hid hto0; clear hto0
        have HTO1 := Lib.hid hto1; clear hto1
        have HTO3 := Lib.hid hto3; clear hto3
        have HSP := Lib.hid hsp; clear hsp
        have HIM := Lib.hid him; clear him
        have HEQ0 := Lib.hid heq0; clear heq0
        have HEQV1 := Lib.hid heqv1; clear heqv1
        have HEQV3 := Lib.hid heqv3; clear heqv3
        go_enter Try.func3, Try.ntmps3
        go_wp2_with fail
        refine (HSZ0.out _).mono ?_; rintro e ws0 ⟨rfl, hxs0⟩
        rw [if_pos (by omega)]
        go_wp2_with fail
        refine (laws_szControlS n1 (by omega) (by omega)).mono ?_; rintro e ws1 ⟨rfl, rfl⟩
        rw [show szI xs1.length (1048576 - (x0.rise.length : Int) - (x0.cost.length : Int)) = (1048576 - (x0.rise.length : Int) - (x0.cost.length : Int)) - (xs1.length : Int) by simp [szI]; omega]
        have hy : Ext w ws0 := hw0.trans hxs0
        have hb0 : Ext (w.alloc (Obj.cells #[.int .i64 x0.wid, .int .i64 x0.hei, .slice ao0 x0.rise.length ac0, .slice bo0 x0.cost.length bc0] 24)) ws0 := hxs0
        have bxA0 := BoxL.of hb0; clear hb0
        clear hw0 hxs0
        have qbxA00 := bxA0.2 0 _ rfl
        have qbxA01 := bxA0.2 1 _ rfl
        have qbxA02 := bxA0.2 2 _ rfl
        have qbxA03 := bxA0.2 3 _ rfl
        have zbxA0 := bxA0.1
        go_wp2_with fail
        refine (HTO0.out _ hy).mono ?_; rintro e w1 ⟨s0r, s0c, rfl, hx1, fs0r, fs0c⟩
        have hg1 := hx1
        replace bxA0 := bxA0.ext hg1
        replace hy := hy.trans hg1
        clear hg1 hx1
        have Os0r := fs0r.row; clear fs0r
        have Os0c := fs0c.row; clear fs0c
        clear qbxA00 qbxA01 qbxA02 qbxA03 zbxA0
        go_wp2_with fail
        refine (HTO1.out _ hy).mono ?_; rintro e w2 ⟨s1, rfl, hx2, fs1⟩
        have hg2 := hx2
        replace bxA0 := bxA0.ext hg2
        replace Os0r := Os0r.ext hg2
        replace Os0c := Os0c.ext hg2
        replace hy := hy.trans hg2
        clear hg2 hx2
        have Os1 := fs1.row; clear fs1
        go_wp2_with fail
        refine (HTO3.out _ hy).mono ?_; rintro e w3 ⟨s3, rfl, hx3, fs3⟩
        have hg3 := hx3
        replace bxA0 := bxA0.ext hg3
        replace Os0r := Os0r.ext hg3
        replace Os0c := Os0c.ext hg3
        replace Os1 := Os1.ext hg3
        replace hy := hy.trans hg3
        clear hg3 hx3
        have Os3 := fs3.row; clear fs3
        go_wp2_with fail
        refine (HSP.out _ s0r s0c s1 s3 Os0r Os0c Os1 Os3).mono ?_; rintro e w4 ⟨rfl, hx4⟩
        have hg4 := hx4
        replace bxA0 := bxA0.ext hg4
        replace Os0r := Os0r.ext hg4
        replace Os0c := Os0c.ext hg4
        replace Os1 := Os1.ext hg4
        replace Os3 := Os3.ext hg4
        replace hy := hy.trans hg4
        clear hg4 hx4
        clear Os0r
        clear Os0c
        clear Os1
        clear Os3
        have qbxA00 := bxA0.2 0 _ rfl
        have qbxA01 := bxA0.2 1 _ rfl
        have qbxA02 := bxA0.2 2 _ rfl
        have qbxA03 := bxA0.2 3 _ rfl
        have zbxA0 := bxA0.1
        go_wp2_with fail
        refine (HTO0.out _ hy).mono ?_; rintro e w5 ⟨x0r, x0c, rfl, hx5, fx0r, fx0c⟩
        have hg5 := hx5
        replace bxA0 := bxA0.ext hg5
        replace hy := hy.trans hg5
        clear hg5 hx5
        have Ox0r := fx0r.row; clear fx0r
        have Ox0c := fx0c.row; clear fx0c
        clear qbxA00 qbxA01 qbxA02 qbxA03 zbxA0
        go_wp2_with fail
        refine (HTO1.out _ (hy.trans (by repeat (first | (with_reducible exact Ext.refl _) | (with_reducible assumption) | with_reducible refine Ext.drew ?_ | with_reducible refine Ext.alloc ?_ _ | with_reducible refine Ext.setCell ?_ (by first | (simp; done) | (simp; omega) | omega) _ | with_reducible refine Ext.trans ?_ (by with_reducible assumption))))).mono ?_; rintro e w6 ⟨x1, rfl, hx6, fx1⟩
        have hg6 : Ext w5 w6 := (by repeat (first | (with_reducible exact Ext.refl _) | (with_reducible assumption) | with_reducible refine Ext.drew ?_ | with_reducible refine Ext.alloc ?_ _ | with_reducible refine Ext.setCell ?_ (by first | (simp; done) | (simp; omega) | omega) _ | with_reducible refine Ext.trans ?_ (by with_reducible assumption)))
        have bxX0 := BoxL.of hx6
        replace bxA0 := bxA0.ext hg6
        replace Ox0r := Ox0r.ext hg6
        replace Ox0c := Ox0c.ext hg6
        replace hy := hy.trans hg6
        clear hg6 hx6
        have Ox1 := fx1.row; clear fx1
        go_wp2_with fail
        refine (HTO3.out _ hy).mono ?_; rintro e w7 ⟨x3, rfl, hx7, fx3⟩
        have hg7 := hx7
        replace bxA0 := bxA0.ext hg7
        replace bxX0 := bxX0.ext hg7
        replace Ox0r := Ox0r.ext hg7
        replace Ox0c := Ox0c.ext hg7
        replace Ox1 := Ox1.ext hg7
        replace hy := hy.trans hg7
        clear hg7 hx7
        have Ox3 := fx3.row; clear fx3
        have qbxX00 := bxX0.2 0 _ rfl
        have qbxX01 := bxX0.2 1 _ rfl
        have qbxX02 := bxX0.2 2 _ rfl
        have qbxX03 := bxX0.2 3 _ rfl
        have zbxX0 := bxX0.1
        go_wp2_with fail
        refine (HIM.out _ x0r x0c x1 x3 Ox0r Ox0c Ox1 Ox3).mono ?_; rintro e w8 ⟨rfl, hx8⟩
        have hg8 := hx8
        replace bxA0 := bxA0.ext hg8
        replace bxX0 := bxX0.ext hg8
        replace Ox0r := Ox0r.ext hg8
        replace Ox0c := Ox0c.ext hg8
        replace Ox1 := Ox1.ext hg8
        replace Ox3 := Ox3.ext hg8
        replace hy := hy.trans hg8
        clear hg8 hx8
        clear qbxX00 qbxX01 qbxX02 qbxX03 zbxX0
        have qbxA00 := bxA0.2 0 _ rfl
        have qbxA01 := bxA0.2 1 _ rfl
        have qbxA02 := bxA0.2 2 _ rfl
        have qbxA03 := bxA0.2 3 _ rfl
        have zbxA0 := bxA0.1
        have qbxX00 := bxX0.2 0 _ rfl
        have qbxX01 := bxX0.2 1 _ rfl
        have qbxX02 := bxX0.2 2 _ rfl
        have qbxX03 := bxX0.2 3 _ rfl
        have zbxX0 := bxX0.1
        go_wp2_with fail
        go_cut [67] (fun v wc => v = .bool false ∧ Ext w8 wc)
        case first =>
          go_region_with (first
            | (go_at_call 12; refine (HTO0.out _ (hy.trans (by repeat (first | (with_reducible exact Ext.refl _) | (with_reducible assumption) | with_reducible refine Ext.drew ?_ | with_reducible refine Ext.alloc ?_ _ | with_reducible refine Ext.setCell ?_ (by first | (simp; done) | (simp; omega) | omega) _ | with_reducible refine Ext.trans ?_ (by with_reducible assumption))))).mono ?_; rintro e wa ⟨t0, t1, rfl, hxa, ft0, ft1⟩; have hca := Ext.cellr (Ext.trans (Ext.refl w8).drew hxa))
            | (go_at_call 16; refine (HEQ0.out _ _ _ _ _ (Ox0r.ext (Ext.trans (Ext.refl w8).drew hxa)) (Ox0c.ext (Ext.trans (Ext.refl w8).drew hxa)) ft0.row ft1.row).mono ?_; rintro e wb ⟨rfl, hxb⟩))
          all_goals
            go_wp2_with fail
            go_meet
            exact ⟨rfl, (by repeat (first | (with_reducible exact Ext.refl _) | (with_reducible assumption) | with_reducible refine Ext.drew ?_ | with_reducible refine Ext.alloc ?_ _ | with_reducible refine Ext.setCell ?_ (by first | (simp; done) | (simp; omega) | omega) _ | with_reducible refine Ext.trans ?_ (by with_reducible assumption)))⟩
        case rest =>
        obtain ⟨rfl, hg9⟩ := hcut
        rename_i w9
        clear qbxA00 qbxA01 qbxA02 qbxA03 zbxA0
        clear qbxX00 qbxX01 qbxX02 qbxX03 zbxX0
        replace bxA0 := bxA0.ext hg9
        replace bxX0 := bxX0.ext hg9
        replace Ox0r := Ox0r.ext hg9
        replace Ox0c := Ox0c.ext hg9
        replace Ox1 := Ox1.ext hg9
        replace Ox3 := Ox3.ext hg9
        replace hy := hy.trans hg9
        clear hg9
        go_wp2_with fail
        refine (HTO1.out _ hy).mono ?_; rintro e w10 ⟨t1, rfl, hx10, ft1⟩
        have hg10 := hx10
        replace bxA0 := bxA0.ext hg10
        replace bxX0 := bxX0.ext hg10
        replace Ox0r := Ox0r.ext hg10
        replace Ox0c := Ox0c.ext hg10
        replace Ox1 := Ox1.ext hg10
        replace Ox3 := Ox3.ext hg10
        replace hy := hy.trans hg10
        clear hg10 hx10
        have Ot1 := ft1.row; clear ft1
        go_wp2_with fail
        refine (laws_eqControlS Ox1 Ot1 n1 n1).mono ?_; rintro e w11 ⟨rfl, hx11⟩
        rw [HEQV1.out]
        have hg11 := hx11
        replace bxA0 := bxA0.ext hg11
        replace bxX0 := bxX0.ext hg11
        replace Ox0r := Ox0r.ext hg11
        replace Ox0c := Ox0c.ext hg11
        replace Ox1 := Ox1.ext hg11
        replace Ox3 := Ox3.ext hg11
        replace Ot1 := Ot1.ext hg11
        replace hy := hy.trans hg11
        clear hg11 hx11
        clear Ot1
        go_wp2_with fail
        refine (HTO3.out _ hy).mono ?_; rintro e w12 ⟨t3, rfl, hx12, ft3⟩
        have hg12 := hx12
        replace bxA0 := bxA0.ext hg12
        replace bxX0 := bxX0.ext hg12
        replace Ox0r := Ox0r.ext hg12
        replace Ox0c := Ox0c.ext hg12
        replace Ox1 := Ox1.ext hg12
        replace Ox3 := Ox3.ext hg12
        replace hy := hy.trans hg12
        clear hg12 hx12
        have Ot3 := ft3.row; clear ft3
        go_wp2_with fail
        refine (laws_eqIntS Ox3 Ot3 n3 n3).mono ?_; rintro e w13 ⟨rfl, hx13⟩
        rw [HEQV3.out]
        have hg13 := hx13
        replace bxA0 := bxA0.ext hg13
        replace bxX0 := bxX0.ext hg13
        replace Ox0r := Ox0r.ext hg13
        replace Ox0c := Ox0c.ext hg13
        replace Ox1 := Ox1.ext hg13
        replace Ox3 := Ox3.ext hg13
        replace Ot3 := Ot3.ext hg13
        replace hy := hy.trans hg13
        clear hg13 hx13
        clear Ot3
        go_wp2
        go_ret
        exact ⟨rfl, hy⟩
      · skip
        go_enter Try.func3, Try.ntmps3
        go_wp2_with fail
        refine (HSZ0.out _).mono ?_; rintro e ws0 ⟨rfl, hxs0⟩
        rw [if_pos (by omega)]
        go_wp2_with fail
        refine (laws_szControlS n1 (by omega) (by omega)).mono ?_; rintro e ws1 ⟨rfl, rfl⟩
        rw [show szI xs1.length (1048576 - (x0.rise.length : Int) - (x0.cost.length : Int)) = -1 by simp [szI]; omega]
        go_wp2
        go_ret
        exact ⟨rfl, (by repeat (first | (with_reducible exact Ext.refl _) | (with_reducible assumption) | with_reducible refine Ext.drew ?_ | with_reducible refine Ext.alloc ?_ _ | with_reducible refine Ext.setCell ?_ (by first | (simp; done) | (simp; omega) | omega) _ | with_reducible refine Ext.trans ?_ (by with_reducible assumption)))⟩
    · skip
      go_enter Try.func3, Try.ntmps3
      go_wp2_with fail
      refine (HSZ0.out _).mono ?_; rintro e ws0 ⟨rfl, hxs0⟩
      rw [if_neg (by omega)]
      go_wp2
      go_ret
      exact ⟨rfl, (by repeat (first | (with_reducible exact Ext.refl _) | (with_reducible assumption) | with_reducible refine Ext.drew ?_ | with_reducible refine Ext.alloc ?_ _ | with_reducible refine Ext.setCell ?_ (by first | (simp; done) | (simp; omega) | omega) _ | with_reducible refine Ext.trans ?_ (by with_reducible assumption)))⟩
  · skip
    go_enter Try.func3, Try.ntmps3
    go_wp2
    go_ret
    exact ⟨rfl, (by repeat (first | (with_reducible exact Ext.refl _) | (with_reducible assumption) | with_reducible refine Ext.drew ?_ | with_reducible refine Ext.alloc ?_ _ | with_reducible refine Ext.setCell ?_ (by first | (simp; done) | (simp; omega) | omega) _ | with_reducible refine Ext.trans ?_ (by with_reducible assumption)))⟩

set_option maxRecDepth 100000 in
theorem lifted (os : Os) (started : os.Started) (H : Type) (enc : TypeId × Value → H) :
    ReturnsInHanded {} Try.checked os 3 .any (Rows.fnExactTourTimeSpec.pre6 enc Try.prog Try.f3 Rows.fnExactTourTimeRow.domain false) (Rows.fnExactTourTimeSpec.post enc Try.prog Try.f3 false true false false) := by
  refine returnsInHanded_of_change (C := Try.checked) (by kernel_rfl) started (by kernel_rfl) Try.func3
    (ChangeSpec.witness6 (enc := enc) (C := Try.checked) false ⟨#[], #[.agg #[.int .i64 0, .int .i64 0, .slice none 0 0, .slice none 0 0], .slice none 0 0, .int .i64 0, .slice none 0 0], []⟩ 8 (by kernel_rfl) (by kernel_rfl) (by kernel_rfl) (by kernel_rfl)) ?_
  intro W base args ds gs before hval0 hW _ _
  have hval : ∀ (j : Nat) t v, Try.f3.params[j]? = some t → args[j]? = some v → Value.okWide Try.prog W .any base t v := hval0
  have hW' := hW
  obtain ⟨p, q, hA0, hV, rfl, hfz, hnd⟩ := hW
  have hA : DataW.TrodAll enc Try.prog W 0 (fun _ => true) true Try.f3.params.toList args.toList ds p := hA0
  rw [Try.params3] at hA hval
  obtain ⟨v0, vs0, d0, ds0, p0, q0, hargs, rfl, rfl, h0, r0⟩ := trodAll_cons hA
  obtain ⟨v1, vs1, d1, ds1, p1, q1, rfl, rfl, rfl, h1, r1⟩ := trodAll_cons r0
  obtain ⟨v2, vs2, d2, ds2, p2, q2, rfl, rfl, rfl, h2, r2⟩ := trodAll_cons r1
  obtain ⟨v3, vs3, d3, ds3, p3, q3, rfl, rfl, rfl, h3, r3⟩ := trodAll_cons r2
  obtain ⟨rfl, rfl, rfl⟩ := trodAll_nil r3
  obtain rfl : args = #[v0, v1, v2, v3] := by cases args; simp_all
  obtain ⟨rfl, rfl⟩ := trodVars_none hV
  obtain ⟨x0, ao0, ac0, bo0, bc0, rfl, hr0, ht0, hl0, hm0, hw0⟩ := open_Map (hval 0 24 v0 rfl rfl) h0
  obtain ⟨ao1, cap1, xs1, rfl, hl1, hr1, hw1⟩ := open_ControlS (hval 1 25 v1 rfl rfl) h1
  obtain ⟨a2, rfl, _, _, wa2⟩ := open_int Try.underlying3 (hval 2 3 v2 rfl rfl) h2
  obtain ⟨ao3, cap3, xs3, rfl, hl3, hr3, hw3⟩ := open_IntS (hval 3 22 v3 rfl rfl) h3
  refine (walk hr0 ht0 hl0 hm0 hr1 hl1 hw1 (I64.of_wf wa2) hr3 hl3 hw3).mono fun e W' ⟨he, hx⟩ => ?_
  subst he
  exact ⟨_, rfl, law_post (by kernel_rfl) (by kernel_rfl) Try.underlying4 rfl rfl hW' rfl hx⟩

theorem holds : Rows.FnExactTourTimeSaid :=
  OpenClaim.holds_of_wide 3 Try.f3 rfl rfl rfl rfl rfl rfl rfl ⟨rfl, rfl, rfl, rfl, rfl⟩ rfl rfl rfl rfl rfl (by kernel_rfl) Try.func3 (by kernel_rfl)
    (of_decide_eq_true (by kernel_rfl)) (by unfold Func.isWrapper; first | (rw [if_pos (by decide +kernel)]; kernel_rfl) | (rw [if_neg (by decide +kernel)]; exact ⟨rfl, rfl⟩))
    (fun os started H enc _ => lifted os started H enc)
end Go.Proofs.Ytidcfohlhamgmaa.TourTime
