/-
  Proved here: the law FnExactTourScore answers true for every input and leaves its arguments as they were.
  Conditions: none.
-/
import Derived.Test.YtidcfohlhamgmaaTour11
import Derived.Test.YtidcfohlhamgmaaTouch
import Derived.Deep.RegionWith
import Derived.Deep.DeepCutAuto
namespace Go.Proofs.Ytidcfohlhamgmaa.TourScore
open Go.ChangeShapes Go.WideShapes Go.ChangeAt Go.RowKit

set_option maxRecDepth 100000 in
set_option maxHeartbeats 4000000 in
theorem walk {ao0 : Option Addr} {ac0 : Nat} {bo0 : Option Addr} {bc0 : Nat} {x0 : MapD} {ao1 : Option Addr} {ac1 : Nat} {xs1 : List Ctl} {ao2 : Option Addr} {ac2 : Nat} {x2 : RuleD} {a3 : Int} {ao4 : Option Addr} {ac4 : Nat} {xs4 : List Int} {w : World} (h0r : RowAt w ao0 1 x0.rise.length (ic x0.rise)) (h0c : RowAt w bo0 1 x0.cost.length (ic x0.cost)) (n0r : x0.rise.length ≤ 9223372036854775807) (n0c : x0.cost.length ≤ 9223372036854775807) (h1 : RowAt w ao1 2 xs1.length (fun k => (nth xs1 k).c)) (n1 : xs1.length ≤ 9223372036854775807) (_hw1 : ∀ k, k < xs1.length → I64 (nth xs1 k).code ∧ I64 (nth xs1 k).cell) (h2 : RowAt w ao2 1 x2.pts.length (ic x2.pts)) (n2 : x2.pts.length ≤ 9223372036854775807) (_hw3 : I64 a3) (h4 : RowAt w ao4 1 xs4.length (ic xs4)) (n4 : xs4.length ≤ 9223372036854775807) (_hw4 : (∀ k, k < xs4.length → I64 (nth xs4 k)) ∧ xs4.length ≤ ac4) :
    Calls Try.prog 4 #[x0.val ao0 ac0 bo0 bc0, .slice ao1 xs1.length ac1, x2.val ao2 ac2, .int .i64 a3, .slice ao4 xs4.length ac4] w fun e w' => e = .returned (.bool true) ∧ Ext w w' := by
  have hw0 : Ext w ((w.alloc (Obj.cells #[.int .i64 x0.wid, .int .i64 x0.hei, .slice ao0 x0.rise.length ac0, .slice bo0 x0.cost.length bc0] 24)).alloc (Obj.cells #[.slice ao2 x2.pts.length ac2, .int .i64 x2.lim, .int .i64 x2.pen] 40)) := (by repeat (first | (with_reducible exact Ext.refl _) | (with_reducible assumption) | with_reducible refine Ext.drew ?_ | with_reducible refine Ext.alloc ?_ _ | with_reducible refine Ext.setCell ?_ (by first | (simp; done) | (simp; omega) | omega) _ | with_reducible refine Ext.trans ?_ (by with_reducible assumption)))
  have hsz0 := fun x => laws_szMap (w := x) (m := x0) (ao := ao0) (bo := bo0) (ac := ac0) (bc := bc0) (x := 1048576) n0r n0c (by decide) (by decide)
  unfold MapD.val at hsz0
  have HSZ0 := Lib.hid hsz0; clear hsz0
  unfold MapD.val RuleD.val
  by_cases c4 : xs4.length ≤ 1048576
  · skip
    by_cases c0 : x0.rise.length + x0.cost.length ≤ 1048576
    · skip
      by_cases c1 : x0.rise.length + x0.cost.length + xs1.length ≤ 1048576
      · skip
        by_cases c2 : x0.rise.length + x0.cost.length + xs1.length + x2.pts.length ≤ 1048576
        · skip
          have m0r : x0.rise.length ≤ 1048576 := by omega
          have m0c : x0.cost.length ≤ 1048576 := by omega
          have m1 : xs1.length ≤ 1048576 := by omega
          have m2 : x2.pts.length ≤ 1048576 := by omega
          have m4 : xs4.length ≤ 1048576 := by omega
          have hto0 := fun x hx => laws_toMap (w := x) (ac := ac0) (bc := bc0) (h0r.ext hx) (h0c.ext hx) m0r m0c
          have hto1 := fun x hx => laws_toControlS (w := x) (cap := ac1) (h1.ext hx) m1
          have hto2 := fun x hx => laws_toScoreRule (w := x) (ac := ac2) (h2.ext hx) m2
          have hto4 := fun x hx => laws_toIntS (w := x) (cap := ac4) (h4.ext hx) m4
          have hsp := fun x b0r b0c b1 b2 b4 (h0r : RowAt x (some ⟨b0r, 0, none⟩) 1 x0.rise.length (ic x0.rise)) (h0c : RowAt x (some ⟨b0c, 0, none⟩) 1 x0.cost.length (ic x0.cost)) (h1 : RowAt x (some ⟨b1, 0, none⟩) 2 xs1.length (fun k => (nth xs1 k).c)) (h2 : RowAt x (some ⟨b2, 0, none⟩) 1 x2.pts.length (ic x2.pts)) (h4 : RowAt x (some ⟨b4, 0, none⟩) 1 xs4.length (ic xs4)) => spec_TourScore (w := x) (ac := x0.rise.length) (bc := x0.cost.length) (cap := xs1.length) (pc := x2.pts.length) (qc := xs4.length) (center := a3) ⟨h0r, h0c, h1, n0r, n0c, n1, Nat.le_refl _⟩ h2 n2 h4 n4 (Nat.le_refl _)
          have him := fun x b0r b0c b1 b2 b4 (h0r : RowAt x (some ⟨b0r, 0, none⟩) 1 x0.rise.length (ic x0.rise)) (h0c : RowAt x (some ⟨b0c, 0, none⟩) 1 x0.cost.length (ic x0.cost)) (h1 : RowAt x (some ⟨b1, 0, none⟩) 2 xs1.length (fun k => (nth xs1 k).c)) (h2 : RowAt x (some ⟨b2, 0, none⟩) 1 x2.pts.length (ic x2.pts)) (h4 : RowAt x (some ⟨b4, 0, none⟩) 1 xs4.length (ic xs4)) => impl_TourScore (w := x) (ac := x0.rise.length) (bc := x0.cost.length) (cap := xs1.length) (pc := x2.pts.length) (qc := xs4.length) (center := a3) ⟨h0r, h0c, h1, n0r, n0c, n1, Nat.le_refl _⟩ h2 n2 h4 n4 (Nat.le_refl _)
          have heq0 := fun x a b a' b' (r1 : RowAt x (some ⟨a, 0, none⟩) 1 x0.rise.length (ic x0.rise)) (r2 : RowAt x (some ⟨b, 0, none⟩) 1 x0.cost.length (ic x0.cost)) (r3 : RowAt x (some ⟨a', 0, none⟩) 1 x0.rise.length (ic x0.rise)) (r4 : RowAt x (some ⟨b', 0, none⟩) 1 x0.cost.length (ic x0.cost)) => laws_eqMap (w := x) (x := x0) (y := x0) (ao := some ⟨a, 0, none⟩) (bo := some ⟨b, 0, none⟩) (ao' := some ⟨a', 0, none⟩) (bo' := some ⟨b', 0, none⟩) (ac := x0.rise.length) (bc := x0.cost.length) (ac' := x0.rise.length) (bc' := x0.cost.length) r1 r2 r3 r4 n0r n0c n0r n0c
          rw [show x0.eqB x0 = true from (MapD.eqB_iff _ _).2 rfl] at heq0
          have heqv1 : eqL Ctl.eqB xs1 xs1 = true := (eqL_iff Ctl.eqB_iff).2 rfl
          have heq2 := fun x a a' (r1 : RowAt x (some ⟨a, 0, none⟩) 1 x2.pts.length (ic x2.pts)) (r3 : RowAt x (some ⟨a', 0, none⟩) 1 x2.pts.length (ic x2.pts)) => laws_eqScoreRule (w := x) (x := x2) (y := x2) (ao := some ⟨a, 0, none⟩) (ao' := some ⟨a', 0, none⟩) (ac := x2.pts.length) (ac' := x2.pts.length) r1 r3 n2 n2
          rw [show x2.eqB x2 = true from (RuleD.eqB_iff _ _).2 rfl] at heq2
          have heqv4 : eqL eqI xs4 xs4 = true := (eqL_iff eqI_iff).2 rfl
          obtain ⟨r0, r1, hres⟩ : ∃ (r0 : Int) (r1 : Bool), gTS x0 xs1 x2 a3 xs4 = .tuple #[.int .i64 r0, .bool r1] := by
            unfold gTS; (repeat' split) <;> exact ⟨_, _, rfl⟩
          rw [hres] at hsp him
          clear hres
          unfold MapD.val at hsp him heq0 hto0
          unfold RuleD.val at hsp him heq2 hto2
          have HTO0 := Lib.hid hto0; clear hto0
          have HTO1 := Lib.hid hto1; clear hto1
          have HTO2 := Lib.hid hto2; clear hto2
          have HTO4 := Lib.hid hto4; clear hto4
          have HSP := Lib.hid hsp; clear hsp
          have HIM := Lib.hid him; clear him
          have HEQ0 := Lib.hid heq0; clear heq0
          have HEQV1 := Lib.hid heqv1; clear heqv1
          have HEQ2 := Lib.hid heq2; clear heq2
          have HEQV4 := Lib.hid heqv4; clear heqv4
          go_enter Try.func4, Try.ntmps4
          go_wp2_with fail
          refine (HSZ0.out _).mono ?_; rintro e ws0 ⟨rfl, hxs0⟩
          rw [if_pos (by omega)]
          go_wp2_with fail
          refine (laws_szControlS n1 (by omega) (by omega)).mono ?_; rintro e ws1 ⟨rfl, rfl⟩
          rw [show szI xs1.length (1048576 - (x0.rise.length : Int) - (x0.cost.length : Int)) = (1048576 - (x0.rise.length : Int) - (x0.cost.length : Int)) - (xs1.length : Int) by simp [szI]; omega]
          have hsz2 := fun x h0 h1 => laws_szScoreRule (w := x) (r := x2) (ao := ao2) (ac := ac2) (x := ((1048576 - (x0.rise.length : Int) - (x0.cost.length : Int)) - (xs1.length : Int))) n2 h0 h1
          unfold RuleD.val at hsz2
          have qr0 : ws0.cell? ⟨w.heap.size + 1, 0, none⟩ = some (.slice ao2 x2.pts.length ac2) := hxs0.cells (by go_simp)
          have qr1 : ws0.cell? ⟨w.heap.size + 1, 1, none⟩ = some (.int .i64 x2.lim) := hxs0.cells (by go_simp)
          have qr2 : ws0.cell? ⟨w.heap.size + 1, 2, none⟩ = some (.int .i64 x2.pen) := hxs0.cells (by go_simp)
          have zr : w.heap.size + 1 < ws0.heap.size := World.block_lt_of_cell? _ _ qr0
          go_wp2_with fail
          refine (hsz2 _ (by omega) (by omega)).mono ?_; rintro e ws2 ⟨rfl, hxs2⟩
          clear hsz2 qr0 qr1 qr2 zr
          rw [show szI x2.pts.length ((1048576 - (x0.rise.length : Int) - (x0.cost.length : Int)) - (xs1.length : Int)) = ((1048576 - (x0.rise.length : Int) - (x0.cost.length : Int)) - (xs1.length : Int)) - (x2.pts.length : Int) by simp [szI]; omega]
          have hy : Ext w ws0 := hw0.trans hxs0
          have hb2 : Ext ((w.alloc (Obj.cells #[.int .i64 x0.wid, .int .i64 x0.hei, .slice ao0 x0.rise.length ac0, .slice bo0 x0.cost.length bc0] 24)).alloc (Obj.cells #[.slice ao2 x2.pts.length ac2, .int .i64 x2.lim, .int .i64 x2.pen] 40)) ws0 := hxs0
          have bxA2 := BoxL.of hb2; clear hb2
          simp only [World.size_alloc] at bxA2
          have hb0 : Ext (w.alloc (Obj.cells #[.int .i64 x0.wid, .int .i64 x0.hei, .slice ao0 x0.rise.length ac0, .slice bo0 x0.cost.length bc0] 24)) ws0 := Ext.trans ((Ext.refl _).alloc _) hxs0
          have bxA0 := BoxL.of hb0; clear hb0
          replace bxA2 := bxA2.ext hxs2
          replace bxA0 := bxA0.ext hxs2
          replace hy := hy.trans hxs2
          clear hxs2
          clear hw0 hxs0
          have qbxA20 := bxA2.2 0 _ rfl
          have qbxA21 := bxA2.2 1 _ rfl
          have qbxA22 := bxA2.2 2 _ rfl
          have zbxA2 := bxA2.1
          have qbxA00 := bxA0.2 0 _ rfl
          have qbxA01 := bxA0.2 1 _ rfl
          have qbxA02 := bxA0.2 2 _ rfl
          have qbxA03 := bxA0.2 3 _ rfl
          have zbxA0 := bxA0.1
          go_wp2_with fail
          go_cut [12, 13] (fun v0 v1 wc => v0 = .int .i64 r0 ∧ v1 = .bool r1 ∧ Ext ws2 wc)
          case first =>
            go_region_with (first
              | (go_at_call 12; refine (HTO0.out _ (hy.trans (by repeat (first | (with_reducible exact Ext.refl _) | (with_reducible assumption) | with_reducible refine Ext.drew ?_ | with_reducible refine Ext.alloc ?_ _ | with_reducible refine Ext.setCell ?_ (by first | (simp; done) | (simp; omega) | omega) _ | with_reducible refine Ext.trans ?_ (by with_reducible assumption))))).mono ?_; rintro e wa0 ⟨s0r, s0c, rfl, hxa0, fs0r, fs0c⟩; have hca0 := Ext.cellr (show Ext ws2 wa0 from (by repeat (first | (with_reducible exact Ext.refl _) | (with_reducible assumption) | with_reducible refine Ext.drew ?_ | with_reducible refine Ext.alloc ?_ _ | with_reducible refine Ext.setCell ?_ (by first | (simp; done) | (simp; omega) | omega) _ | with_reducible refine Ext.trans ?_ (by with_reducible assumption)))))
              | (go_at_call 13; refine (HTO1.out _ (hy.trans (by repeat (first | (with_reducible exact Ext.refl _) | (with_reducible assumption) | with_reducible refine Ext.drew ?_ | with_reducible refine Ext.alloc ?_ _ | with_reducible refine Ext.setCell ?_ (by first | (simp; done) | (simp; omega) | omega) _ | with_reducible refine Ext.trans ?_ (by with_reducible assumption))))).mono ?_; rintro e wa1 ⟨s1, rfl, hxa1, fs1⟩; have hca1 := Ext.cellr (show Ext ws2 wa1 from (by repeat (first | (with_reducible exact Ext.refl _) | (with_reducible assumption) | with_reducible refine Ext.drew ?_ | with_reducible refine Ext.alloc ?_ _ | with_reducible refine Ext.setCell ?_ (by first | (simp; done) | (simp; omega) | omega) _ | with_reducible refine Ext.trans ?_ (by with_reducible assumption)))))
              | (go_at_call 21; refine (HTO2.out _ (hy.trans (by repeat (first | (with_reducible exact Ext.refl _) | (with_reducible assumption) | with_reducible refine Ext.drew ?_ | with_reducible refine Ext.alloc ?_ _ | with_reducible refine Ext.setCell ?_ (by first | (simp; done) | (simp; omega) | omega) _ | with_reducible refine Ext.trans ?_ (by with_reducible assumption))))).mono ?_; rintro e wa2 ⟨s2, rfl, hxa2, fs2⟩; have hca2 := Ext.cellr (show Ext ws2 wa2 from (by repeat (first | (with_reducible exact Ext.refl _) | (with_reducible assumption) | with_reducible refine Ext.drew ?_ | with_reducible refine Ext.alloc ?_ _ | with_reducible refine Ext.setCell ?_ (by first | (simp; done) | (simp; omega) | omega) _ | with_reducible refine Ext.trans ?_ (by with_reducible assumption)))))
              | (go_at_call 14; refine (HTO4.out _ (hy.trans (by repeat (first | (with_reducible exact Ext.refl _) | (with_reducible assumption) | with_reducible refine Ext.drew ?_ | with_reducible refine Ext.alloc ?_ _ | with_reducible refine Ext.setCell ?_ (by first | (simp; done) | (simp; omega) | omega) _ | with_reducible refine Ext.trans ?_ (by with_reducible assumption))))).mono ?_; rintro e wa4 ⟨s4, rfl, hxa4, fs4⟩; have hca4 := Ext.cellr (show Ext ws2 wa4 from (by repeat (first | (with_reducible exact Ext.refl _) | (with_reducible assumption) | with_reducible refine Ext.drew ?_ | with_reducible refine Ext.alloc ?_ _ | with_reducible refine Ext.setCell ?_ (by first | (simp; done) | (simp; omega) | omega) _ | with_reducible refine Ext.trans ?_ (by with_reducible assumption)))))
              | (go_at_call 20; refine (HSP.out _ s0r s0c s1 s2 s4 (fs0r.row.ext (by repeat (first | (with_reducible exact Ext.refl _) | (with_reducible assumption) | with_reducible refine Ext.drew ?_ | with_reducible refine Ext.alloc ?_ _ | with_reducible refine Ext.setCell ?_ (by first | (simp; done) | (simp; omega) | omega) _ | with_reducible refine Ext.trans ?_ (by with_reducible assumption)))) (fs0c.row.ext (by repeat (first | (with_reducible exact Ext.refl _) | (with_reducible assumption) | with_reducible refine Ext.drew ?_ | with_reducible refine Ext.alloc ?_ _ | with_reducible refine Ext.setCell ?_ (by first | (simp; done) | (simp; omega) | omega) _ | with_reducible refine Ext.trans ?_ (by with_reducible assumption)))) (fs1.row.ext (by repeat (first | (with_reducible exact Ext.refl _) | (with_reducible assumption) | with_reducible refine Ext.drew ?_ | with_reducible refine Ext.alloc ?_ _ | with_reducible refine Ext.setCell ?_ (by first | (simp; done) | (simp; omega) | omega) _ | with_reducible refine Ext.trans ?_ (by with_reducible assumption)))) (fs2.row.ext (by repeat (first | (with_reducible exact Ext.refl _) | (with_reducible assumption) | with_reducible refine Ext.drew ?_ | with_reducible refine Ext.alloc ?_ _ | with_reducible refine Ext.setCell ?_ (by first | (simp; done) | (simp; omega) | omega) _ | with_reducible refine Ext.trans ?_ (by with_reducible assumption)))) (fs4.row.ext (by repeat (first | (with_reducible exact Ext.refl _) | (with_reducible assumption) | with_reducible refine Ext.drew ?_ | with_reducible refine Ext.alloc ?_ _ | with_reducible refine Ext.setCell ?_ (by first | (simp; done) | (simp; omega) | omega) _ | with_reducible refine Ext.trans ?_ (by with_reducible assumption))))).mono ?_; rintro e we ⟨rfl, hxe⟩))
            all_goals
              go_wp2_with fail
              go_meet
              exact ⟨rfl, rfl, (by repeat (first | (with_reducible exact Ext.refl _) | (with_reducible assumption) | with_reducible refine Ext.drew ?_ | with_reducible refine Ext.alloc ?_ _ | with_reducible refine Ext.setCell ?_ (by first | (simp; done) | (simp; omega) | omega) _ | with_reducible refine Ext.trans ?_ (by with_reducible assumption)))⟩
          case rest =>
          obtain ⟨rfl, rfl, hg1⟩ := hcut
          rename_i w1
          clear qbxA20 qbxA21 qbxA22 zbxA2
          clear qbxA00 qbxA01 qbxA02 qbxA03 zbxA0
          replace bxA2 := bxA2.ext hg1
          replace bxA0 := bxA0.ext hg1
          replace hy := hy.trans hg1
          clear hg1
          have qbxA00 := bxA0.2 0 _ rfl
          have qbxA01 := bxA0.2 1 _ rfl
          have qbxA02 := bxA0.2 2 _ rfl
          have qbxA03 := bxA0.2 3 _ rfl
          have zbxA0 := bxA0.1
          go_wp2_with fail
          refine (HTO0.out _ hy).mono ?_; rintro e w2 ⟨x0r, x0c, rfl, hx2, fx0r, fx0c⟩
          have hg2 := hx2
          replace bxA2 := bxA2.ext hg2
          replace bxA0 := bxA0.ext hg2
          replace hy := hy.trans hg2
          clear hg2 hx2
          have Ox0r := fx0r.row; clear fx0r
          have Ox0c := fx0c.row; clear fx0c
          clear qbxA00 qbxA01 qbxA02 qbxA03 zbxA0
          go_wp2_with fail
          refine (HTO1.out _ (hy.trans (by repeat (first | (with_reducible exact Ext.refl _) | (with_reducible assumption) | with_reducible refine Ext.drew ?_ | with_reducible refine Ext.alloc ?_ _ | with_reducible refine Ext.setCell ?_ (by first | (simp; done) | (simp; omega) | omega) _ | with_reducible refine Ext.trans ?_ (by with_reducible assumption))))).mono ?_; rintro e w3 ⟨x1, rfl, hx3, fx1⟩
          have hg3 : Ext w2 w3 := (by repeat (first | (with_reducible exact Ext.refl _) | (with_reducible assumption) | with_reducible refine Ext.drew ?_ | with_reducible refine Ext.alloc ?_ _ | with_reducible refine Ext.setCell ?_ (by first | (simp; done) | (simp; omega) | omega) _ | with_reducible refine Ext.trans ?_ (by with_reducible assumption)))
          have bxX0 := BoxL.of hx3
          replace bxA2 := bxA2.ext hg3
          replace bxA0 := bxA0.ext hg3
          replace Ox0r := Ox0r.ext hg3
          replace Ox0c := Ox0c.ext hg3
          replace hy := hy.trans hg3
          clear hg3 hx3
          have Ox1 := fx1.row; clear fx1
          have qbxA20 := bxA2.2 0 _ rfl
          have qbxA21 := bxA2.2 1 _ rfl
          have qbxA22 := bxA2.2 2 _ rfl
          have zbxA2 := bxA2.1
          go_wp2_with fail
          refine (HTO2.out _ hy).mono ?_; rintro e w4 ⟨x2, rfl, hx4, fx2⟩
          have hg4 := hx4
          replace bxA2 := bxA2.ext hg4
          replace bxA0 := bxA0.ext hg4
          replace bxX0 := bxX0.ext hg4
          replace Ox0r := Ox0r.ext hg4
          replace Ox0c := Ox0c.ext hg4
          replace Ox1 := Ox1.ext hg4
          replace hy := hy.trans hg4
          clear hg4 hx4
          have Ox2 := fx2.row; clear fx2
          clear qbxA20 qbxA21 qbxA22 zbxA2
          go_wp2_with fail
          refine (HTO4.out _ (hy.trans (by repeat (first | (with_reducible exact Ext.refl _) | (with_reducible assumption) | with_reducible refine Ext.drew ?_ | with_reducible refine Ext.alloc ?_ _ | with_reducible refine Ext.setCell ?_ (by first | (simp; done) | (simp; omega) | omega) _ | with_reducible refine Ext.trans ?_ (by with_reducible assumption))))).mono ?_; rintro e w5 ⟨x4, rfl, hx5, fx4⟩
          have hg5 : Ext w4 w5 := (by repeat (first | (with_reducible exact Ext.refl _) | (with_reducible assumption) | with_reducible refine Ext.drew ?_ | with_reducible refine Ext.alloc ?_ _ | with_reducible refine Ext.setCell ?_ (by first | (simp; done) | (simp; omega) | omega) _ | with_reducible refine Ext.trans ?_ (by with_reducible assumption)))
          have bxX2 := BoxL.of hx5
          replace bxA2 := bxA2.ext hg5
          replace bxA0 := bxA0.ext hg5
          replace bxX0 := bxX0.ext hg5
          replace Ox0r := Ox0r.ext hg5
          replace Ox0c := Ox0c.ext hg5
          replace Ox1 := Ox1.ext hg5
          replace Ox2 := Ox2.ext hg5
          replace hy := hy.trans hg5
          clear hg5 hx5
          have Ox4 := fx4.row; clear fx4
          have qbxX00 := bxX0.2 0 _ rfl
          have qbxX01 := bxX0.2 1 _ rfl
          have qbxX02 := bxX0.2 2 _ rfl
          have qbxX03 := bxX0.2 3 _ rfl
          have zbxX0 := bxX0.1
          have qbxX20 := bxX2.2 0 _ rfl
          have qbxX21 := bxX2.2 1 _ rfl
          have qbxX22 := bxX2.2 2 _ rfl
          have zbxX2 := bxX2.1
          go_wp2_with fail
          refine (HIM.out _ x0r x0c x1 x2 x4 Ox0r Ox0c Ox1 Ox2 Ox4).mono ?_; rintro e w6 ⟨rfl, hx6⟩
          have hg6 := hx6
          replace bxA2 := bxA2.ext hg6
          replace bxA0 := bxA0.ext hg6
          replace bxX0 := bxX0.ext hg6
          replace bxX2 := bxX2.ext hg6
          replace Ox0r := Ox0r.ext hg6
          replace Ox0c := Ox0c.ext hg6
          replace Ox1 := Ox1.ext hg6
          replace Ox2 := Ox2.ext hg6
          replace Ox4 := Ox4.ext hg6
          replace hy := hy.trans hg6
          clear hg6 hx6
          clear qbxX00 qbxX01 qbxX02 qbxX03 zbxX0
          clear qbxX20 qbxX21 qbxX22 zbxX2
          have qbxA00 := bxA0.2 0 _ rfl
          have qbxA01 := bxA0.2 1 _ rfl
          have qbxA02 := bxA0.2 2 _ rfl
          have qbxA03 := bxA0.2 3 _ rfl
          have zbxA0 := bxA0.1
          have qbxX00 := bxX0.2 0 _ rfl
          have qbxX01 := bxX0.2 1 _ rfl
          have qbxX02 := bxX0.2 2 _ rfl
          have qbxX03 := bxX0.2 3 _ rfl
          have zbxX0 := bxX0.1
          go_wp2_with fail
          go_cut [80] (fun v wc => v = .bool false ∧ Ext w6 wc)
          case first =>
            go_region_with (first
              | (go_at_call 12; refine (HTO0.out _ (hy.trans (by repeat (first | (with_reducible exact Ext.refl _) | (with_reducible assumption) | with_reducible refine Ext.drew ?_ | with_reducible refine Ext.alloc ?_ _ | with_reducible refine Ext.setCell ?_ (by first | (simp; done) | (simp; omega) | omega) _ | with_reducible refine Ext.trans ?_ (by with_reducible assumption))))).mono ?_; rintro e wa ⟨t0, t1, rfl, hxa, ft0, ft1⟩; have hca := Ext.cellr (Ext.trans (Ext.refl w6).drew hxa))
              | (go_at_call 16; refine (HEQ0.out _ _ _ _ _ (Ox0r.ext (Ext.trans (Ext.refl w6).drew hxa)) (Ox0c.ext (Ext.trans (Ext.refl w6).drew hxa)) ft0.row ft1.row).mono ?_; rintro e wb ⟨rfl, hxb⟩))
            all_goals
              go_wp2_with fail
              go_meet
              exact ⟨rfl, (by repeat (first | (with_reducible exact Ext.refl _) | (with_reducible assumption) | with_reducible refine Ext.drew ?_ | with_reducible refine Ext.alloc ?_ _ | with_reducible refine Ext.setCell ?_ (by first | (simp; done) | (simp; omega) | omega) _ | with_reducible refine Ext.trans ?_ (by with_reducible assumption)))⟩
          case rest =>
          obtain ⟨rfl, hg7⟩ := hcut
          rename_i w7
          clear qbxA00 qbxA01 qbxA02 qbxA03 zbxA0
          clear qbxX00 qbxX01 qbxX02 qbxX03 zbxX0
          replace bxA2 := bxA2.ext hg7
          replace bxA0 := bxA0.ext hg7
          replace bxX0 := bxX0.ext hg7
          replace bxX2 := bxX2.ext hg7
          replace Ox0r := Ox0r.ext hg7
          replace Ox0c := Ox0c.ext hg7
          replace Ox1 := Ox1.ext hg7
          replace Ox2 := Ox2.ext hg7
          replace Ox4 := Ox4.ext hg7
          replace hy := hy.trans hg7
          clear hg7
          go_wp2_with fail
          refine (HTO1.out _ hy).mono ?_; rintro e w8 ⟨t1, rfl, hx8, ft1⟩
          have hg8 := hx8
          replace bxA2 := bxA2.ext hg8
          replace bxA0 := bxA0.ext hg8
          replace bxX0 := bxX0.ext hg8
          replace bxX2 := bxX2.ext hg8
          replace Ox0r := Ox0r.ext hg8
          replace Ox0c := Ox0c.ext hg8
          replace Ox1 := Ox1.ext hg8
          replace Ox2 := Ox2.ext hg8
          replace Ox4 := Ox4.ext hg8
          replace hy := hy.trans hg8
          clear hg8 hx8
          have Ot1 := ft1.row; clear ft1
          go_wp2_with fail
          refine (laws_eqControlS Ox1 Ot1 n1 n1).mono ?_; rintro e w9 ⟨rfl, hx9⟩
          rw [HEQV1.out]
          have hg9 := hx9
          replace bxA2 := bxA2.ext hg9
          replace bxA0 := bxA0.ext hg9
          replace bxX0 := bxX0.ext hg9
          replace bxX2 := bxX2.ext hg9
          replace Ox0r := Ox0r.ext hg9
          replace Ox0c := Ox0c.ext hg9
          replace Ox1 := Ox1.ext hg9
          replace Ox2 := Ox2.ext hg9
          replace Ox4 := Ox4.ext hg9
          replace Ot1 := Ot1.ext hg9
          replace hy := hy.trans hg9
          clear hg9 hx9
          clear Ot1
          have qbxA20 := bxA2.2 0 _ rfl
          have qbxA21 := bxA2.2 1 _ rfl
          have qbxA22 := bxA2.2 2 _ rfl
          have zbxA2 := bxA2.1
          have qbxX20 := bxX2.2 0 _ rfl
          have qbxX21 := bxX2.2 1 _ rfl
          have qbxX22 := bxX2.2 2 _ rfl
          have zbxX2 := bxX2.1
          go_wp2_with fail
          go_cut [90] (fun v wc => v = .bool false ∧ Ext w9 wc)
          case first =>
            go_region_with (first
              | (go_at_call 21; refine (HTO2.out _ (hy.trans (by repeat (first | (with_reducible exact Ext.refl _) | (with_reducible assumption) | with_reducible refine Ext.drew ?_ | with_reducible refine Ext.alloc ?_ _ | with_reducible refine Ext.setCell ?_ (by first | (simp; done) | (simp; omega) | omega) _ | with_reducible refine Ext.trans ?_ (by with_reducible assumption))))).mono ?_; rintro e wa ⟨t0, rfl, hxa, ft0⟩; have hca := Ext.cellr (Ext.trans (Ext.refl w9).drew hxa))
              | (go_at_call 23; refine (HEQ2.out _ _ _ (Ox2.ext (Ext.trans (Ext.refl w9).drew hxa)) ft0.row).mono ?_; rintro e wb ⟨rfl, hxb⟩))
            all_goals
              go_wp2_with fail
              go_meet
              exact ⟨rfl, (by repeat (first | (with_reducible exact Ext.refl _) | (with_reducible assumption) | with_reducible refine Ext.drew ?_ | with_reducible refine Ext.alloc ?_ _ | with_reducible refine Ext.setCell ?_ (by first | (simp; done) | (simp; omega) | omega) _ | with_reducible refine Ext.trans ?_ (by with_reducible assumption)))⟩
          case rest =>
          obtain ⟨rfl, hg10⟩ := hcut
          rename_i w10
          clear qbxA20 qbxA21 qbxA22 zbxA2
          clear qbxX20 qbxX21 qbxX22 zbxX2
          replace bxA2 := bxA2.ext hg10
          replace bxA0 := bxA0.ext hg10
          replace bxX0 := bxX0.ext hg10
          replace bxX2 := bxX2.ext hg10
          replace Ox0r := Ox0r.ext hg10
          replace Ox0c := Ox0c.ext hg10
          replace Ox1 := Ox1.ext hg10
          replace Ox2 := Ox2.ext hg10
          replace Ox4 := Ox4.ext hg10
          replace hy := hy.trans hg10
          clear hg10
          go_wp2_with fail
          refine (HTO4.out _ hy).mono ?_; rintro e w11 ⟨t4, rfl, hx11, ft4⟩
          have hg11 := hx11
          replace bxA2 := bxA2.ext hg11
          replace bxA0 := bxA0.ext hg11
          replace bxX0 := bxX0.ext hg11
          replace bxX2 := bxX2.ext hg11
          replace Ox0r := Ox0r.ext hg11
          replace Ox0c := Ox0c.ext hg11
          replace Ox1 := Ox1.ext hg11
          replace Ox2 := Ox2.ext hg11
          replace Ox4 := Ox4.ext hg11
          replace hy := hy.trans hg11
          clear hg11 hx11
          have Ot4 := ft4.row; clear ft4
          go_wp2_with fail
          refine (laws_eqIntS Ox4 Ot4 n4 n4).mono ?_; rintro e w12 ⟨rfl, hx12⟩
          rw [HEQV4.out]
          have hg12 := hx12
          replace bxA2 := bxA2.ext hg12
          replace bxA0 := bxA0.ext hg12
          replace bxX0 := bxX0.ext hg12
          replace bxX2 := bxX2.ext hg12
          replace Ox0r := Ox0r.ext hg12
          replace Ox0c := Ox0c.ext hg12
          replace Ox1 := Ox1.ext hg12
          replace Ox2 := Ox2.ext hg12
          replace Ox4 := Ox4.ext hg12
          replace Ot4 := Ot4.ext hg12
          replace hy := hy.trans hg12
          clear hg12 hx12
          clear Ot4
          go_wp2
          go_ret
          exact ⟨rfl, hy⟩
        · skip
          go_enter Try.func4, Try.ntmps4
          go_wp2_with fail
          refine (HSZ0.out _).mono ?_; rintro e ws0 ⟨rfl, hxs0⟩
          rw [if_pos (by omega)]
          go_wp2_with fail
          refine (laws_szControlS n1 (by omega) (by omega)).mono ?_; rintro e ws1 ⟨rfl, rfl⟩
          rw [show szI xs1.length (1048576 - (x0.rise.length : Int) - (x0.cost.length : Int)) = (1048576 - (x0.rise.length : Int) - (x0.cost.length : Int)) - (xs1.length : Int) by simp [szI]; omega]
          have hsz2 := fun x h0 h1 => laws_szScoreRule (w := x) (r := x2) (ao := ao2) (ac := ac2) (x := ((1048576 - (x0.rise.length : Int) - (x0.cost.length : Int)) - (xs1.length : Int))) n2 h0 h1
          unfold RuleD.val at hsz2
          have qr0 : ws0.cell? ⟨w.heap.size + 1, 0, none⟩ = some (.slice ao2 x2.pts.length ac2) := hxs0.cells (by go_simp)
          have qr1 : ws0.cell? ⟨w.heap.size + 1, 1, none⟩ = some (.int .i64 x2.lim) := hxs0.cells (by go_simp)
          have qr2 : ws0.cell? ⟨w.heap.size + 1, 2, none⟩ = some (.int .i64 x2.pen) := hxs0.cells (by go_simp)
          have zr : w.heap.size + 1 < ws0.heap.size := World.block_lt_of_cell? _ _ qr0
          go_wp2_with fail
          refine (hsz2 _ (by omega) (by omega)).mono ?_; rintro e ws2 ⟨rfl, hxs2⟩
          clear hsz2 qr0 qr1 qr2 zr
          rw [show szI x2.pts.length ((1048576 - (x0.rise.length : Int) - (x0.cost.length : Int)) - (xs1.length : Int)) = -1 by simp [szI]; omega]
          go_wp2
          go_ret
          exact ⟨rfl, (by repeat (first | (with_reducible exact Ext.refl _) | (with_reducible assumption) | with_reducible refine Ext.drew ?_ | with_reducible refine Ext.alloc ?_ _ | with_reducible refine Ext.setCell ?_ (by first | (simp; done) | (simp; omega) | omega) _ | with_reducible refine Ext.trans ?_ (by with_reducible assumption)))⟩
      · skip
        go_enter Try.func4, Try.ntmps4
        go_wp2_with fail
        refine (HSZ0.out _).mono ?_; rintro e ws0 ⟨rfl, hxs0⟩
        rw [if_pos (by omega)]
        go_wp2_with fail
        refine (laws_szControlS n1 (by omega) (by omega)).mono ?_; rintro e ws1 ⟨rfl, rfl⟩
        rw [show szI xs1.length (1048576 - (x0.rise.length : Int) - (x0.cost.length : Int)) = -1 by simp [szI]; omega]
        go_wp2
        go_ret
        exact ⟨rfl, (by repeat (first | (with_reducible exact Ext.refl _) | (with_reducible assumption) | with_reducible refine Ext.drew ?_ | with_reducible refine Ext.alloc ?_ _ | with_reducible refine Ext.setCell ?_ (by first | (simp; done) | (simp; omega) | omega) _ | with_reducible refine Ext.trans ?_ (by with_reducible assumption)))⟩
    · skip
      go_enter Try.func4, Try.ntmps4
      go_wp2_with fail
      refine (HSZ0.out _).mono ?_; rintro e ws0 ⟨rfl, hxs0⟩
      rw [if_neg (by omega)]
      go_wp2
      go_ret
      exact ⟨rfl, (by repeat (first | (with_reducible exact Ext.refl _) | (with_reducible assumption) | with_reducible refine Ext.drew ?_ | with_reducible refine Ext.alloc ?_ _ | with_reducible refine Ext.setCell ?_ (by first | (simp; done) | (simp; omega) | omega) _ | with_reducible refine Ext.trans ?_ (by with_reducible assumption)))⟩
  · skip
    go_enter Try.func4, Try.ntmps4
    go_wp2
    go_ret
    exact ⟨rfl, (by repeat (first | (with_reducible exact Ext.refl _) | (with_reducible assumption) | with_reducible refine Ext.drew ?_ | with_reducible refine Ext.alloc ?_ _ | with_reducible refine Ext.setCell ?_ (by first | (simp; done) | (simp; omega) | omega) _ | with_reducible refine Ext.trans ?_ (by with_reducible assumption)))⟩

set_option maxRecDepth 100000 in
theorem lifted (os : Os) (started : os.Started) (H : Type) (enc : TypeId × Value → H) :
    ReturnsInHanded {} Try.checked os 4 .any (Rows.fnExactTourScoreSpec.pre6 enc Try.prog Try.f4 Rows.fnExactTourScoreRow.domain false) (Rows.fnExactTourScoreSpec.post enc Try.prog Try.f4 false true false false) := by
  refine returnsInHanded_of_change (C := Try.checked) (by kernel_rfl) started (by kernel_rfl) Try.func4
    (ChangeSpec.witness6 (enc := enc) (C := Try.checked) false ⟨#[], #[.agg #[.int .i64 0, .int .i64 0, .slice none 0 0, .slice none 0 0], .slice none 0 0, .agg #[.slice none 0 0, .int .i64 0, .int .i64 0], .int .i64 0, .slice none 0 0], []⟩ 8 (by kernel_rfl) (by kernel_rfl) (by kernel_rfl) (by kernel_rfl)) ?_
  intro W base args ds gs before hval0 hW _ _
  have hval : ∀ (j : Nat) t v, Try.f4.params[j]? = some t → args[j]? = some v → Value.okWide Try.prog W .any base t v := hval0
  have hW' := hW
  obtain ⟨p, q, hA0, hV, rfl, hfz, hnd⟩ := hW
  have hA : DataW.TrodAll enc Try.prog W 0 (fun _ => true) true Try.f4.params.toList args.toList ds p := hA0
  rw [Try.params4] at hA hval
  obtain ⟨v0, vs0, d0, ds0, p0, q0, hargs, rfl, rfl, h0, r0⟩ := trodAll_cons hA
  obtain ⟨v1, vs1, d1, ds1, p1, q1, rfl, rfl, rfl, h1, r1⟩ := trodAll_cons r0
  obtain ⟨v2, vs2, d2, ds2, p2, q2, rfl, rfl, rfl, h2, r2⟩ := trodAll_cons r1
  obtain ⟨v3, vs3, d3, ds3, p3, q3, rfl, rfl, rfl, h3, r3⟩ := trodAll_cons r2
  obtain ⟨v4, vs4, d4, ds4, p4, q4, rfl, rfl, rfl, h4, r4⟩ := trodAll_cons r3
  obtain ⟨rfl, rfl, rfl⟩ := trodAll_nil r4
  obtain rfl : args = #[v0, v1, v2, v3, v4] := by cases args; simp_all
  obtain ⟨rfl, rfl⟩ := trodVars_none hV
  obtain ⟨x0, ao0, ac0, bo0, bc0, rfl, hr0, ht0, hl0, hm0, hw0⟩ := open_Map (hval 0 24 v0 rfl rfl) h0
  obtain ⟨ao1, cap1, xs1, rfl, hl1, hr1, hw1⟩ := open_ControlS (hval 1 25 v1 rfl rfl) h1
  obtain ⟨x2, ao2, ac2, rfl, hr2, hl2, hw2⟩ := open_ScoreRule (hval 2 40 v2 rfl rfl) h2
  obtain ⟨a3, rfl, _, _, wa3⟩ := open_int Try.underlying3 (hval 3 3 v3 rfl rfl) h3
  obtain ⟨ao4, cap4, xs4, rfl, hl4, hr4, hw4⟩ := open_IntS (hval 4 22 v4 rfl rfl) h4
  refine (walk hr0 ht0 hl0 hm0 hr1 hl1 hw1 hr2 hl2 (I64.of_wf wa3) hr4 hl4 hw4).mono fun e W' ⟨he, hx⟩ => ?_
  subst he
  exact ⟨_, rfl, law_post (by kernel_rfl) (by kernel_rfl) Try.underlying4 rfl rfl hW' rfl hx⟩

theorem holds : Rows.FnExactTourScoreSaid :=
  OpenClaim.holds_of_wide 4 Try.f4 rfl rfl rfl rfl rfl rfl rfl ⟨rfl, rfl, rfl, rfl, rfl⟩ rfl rfl rfl rfl rfl (by kernel_rfl) Try.func4 (by kernel_rfl)
    (of_decide_eq_true (by kernel_rfl)) (by unfold Func.isWrapper; first | (rw [if_pos (by decide +kernel)]; kernel_rfl) | (rw [if_neg (by decide +kernel)]; exact ⟨rfl, rfl⟩))
    (fun os started H enc _ => lifted os started H enc)
end Go.Proofs.Ytidcfohlhamgmaa.TourScore
