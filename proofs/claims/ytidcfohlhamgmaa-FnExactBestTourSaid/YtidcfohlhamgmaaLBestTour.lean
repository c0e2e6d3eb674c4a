/-
  Proved here: the law FnExactBestTour answers true for every input and leaves its arguments as they were.
  Conditions: none.
-/
import Derived.Test.YtidcfohlhamgmaaBestW
import Derived.Test.YtidcfohlhamgmaaTouch
import Derived.Test.YtidcfohlhamgmaaMMap
import Derived.Test.YtidcfohlhamgmaaMControl
import Derived.Deep.RegionWith
import Derived.Deep.DeepCutAuto
import Derived.Deep.RegionHeld3
namespace Go.Proofs.Ytidcfohlhamgmaa.BestTour
open Go.ChangeShapes Go.WideShapes Go.ChangeAt Go.RowKit

theorem bsT_len (m : MapD) (xs : List Ctl) (r : RuleD) (center : Int) : (bsT m xs r center).1.length ≤ 5 := by
  unfold bsT
  split
  · rename_i hb
    simp only [bsB, Bool.and_eq_true] at hb
    obtain ⟨c0, ec, hc0⟩ := open_nat hb.1.2
    subst ec
    rw [Int.toNat_natCast]
    exact (best_inv (rule_ctls hb.1.1) hc0 (scT m xs r c0) 5 [] (.start hc0)).2.1
  · exact Nat.zero_le _

set_option maxRecDepth 100000 in
set_option maxHeartbeats 4000000 in
theorem walk {ao0 : Option Addr} {ac0 : Nat} {bo0 : Option Addr} {bc0 : Nat} {x0 : MapD} {ao1 : Option Addr} {ac1 : Nat} {xs1 : List Ctl} {ao2 : Option Addr} {ac2 : Nat} {x2 : RuleD} {a3 : Int} {w : World} (h0r : RowAt w ao0 1 x0.rise.length (ic x0.rise)) (h0c : RowAt w bo0 1 x0.cost.length (ic x0.cost)) (n0r : x0.rise.length ≤ 9223372036854775807) (n0c : x0.cost.length ≤ 9223372036854775807) (h1 : RowAt w ao1 2 xs1.length (fun k => (nth xs1 k).c)) (n1 : xs1.length ≤ 9223372036854775807) (_hw1 : ∀ k, k < xs1.length → I64 (nth xs1 k).code ∧ I64 (nth xs1 k).cell) (h2 : RowAt w ao2 1 x2.pts.length (ic x2.pts)) (n2 : x2.pts.length ≤ 9223372036854775807) (_hw3 : I64 a3) :
    Calls Try.prog 6 #[x0.val ao0 ac0 bo0 bc0, .slice ao1 xs1.length ac1, x2.val ao2 ac2, .int .i64 a3] w fun e w' => e = .returned (.bool true) ∧ Ext w w' := by
  have hw0 : Ext w ((w.alloc (Obj.cells #[.int .i64 x0.wid, .int .i64 x0.hei, .slice ao0 x0.rise.length ac0, .slice bo0 x0.cost.length bc0] 24)).alloc (Obj.cells #[.slice ao2 x2.pts.length ac2, .int .i64 x2.lim, .int .i64 x2.pen] 40)) := (by repeat (first | (with_reducible exact Ext.refl _) | (with_reducible assumption) | with_reducible refine Ext.drew ?_ | with_reducible refine Ext.alloc ?_ _ | with_reducible refine Ext.setCell ?_ (by first | (simp; done) | (simp; omega) | omega) _ | with_reducible refine Ext.trans ?_ (by with_reducible assumption)))
  have hsz0 := fun x => laws_szMap (w := x) (m := x0) (ao := ao0) (bo := bo0) (ac := ac0) (bc := bc0) (x := 1048576) n0r n0c (by decide) (by decide)
  unfold MapD.val at hsz0
  have HSZ0 := Lib.hid hsz0; clear hsz0
  unfold MapD.val RuleD.val
  by_cases c0 : x0.rise.length + x0.cost.length ≤ 1048576
  · skip
    by_cases c1 : x0.rise.length + x0.cost.length + xs1.length ≤ 1048576
    · skip
      by_cases c2 : x0.rise.length + x0.cost.length + xs1.length + x2.pts.length ≤ 1048576
      · skip
        have m0r : x0.rise.length ≤ 1048576 := by omega
        have m0c : x0.cost.length ≤ 1048576 := by omega
        have m1 : xs1.length ≤ 1048576 := by omega
        have m2 : x2.pts.length ≤ 1048576 := by omega
        have hto0 := fun x hx => laws_toMapLt (w := x) (ac := ac0) (bc := bc0) (h0r.ext hx) (h0c.ext hx) m0r m0c
        have hto1 := fun x hx => laws_toControlS (w := x) (cap := ac1) (h1.ext hx) m1
        have hto2 := fun x hx => laws_toScoreRule (w := x) (ac := ac2) (h2.ext hx) m2
        have hsp := fun x b0r b0c b1 b2 (h0r : RowAt x (some ⟨b0r, 0, none⟩) 1 x0.rise.length (ic x0.rise)) (h0c : RowAt x (some ⟨b0c, 0, none⟩) 1 x0.cost.length (ic x0.cost)) (h1 : RowAt x (some ⟨b1, 0, none⟩) 2 xs1.length (fun k => (nth xs1 k).c)) (h2 : RowAt x (some ⟨b2, 0, none⟩) 1 x2.pts.length (ic x2.pts)) => spec_BestTour (w := x) (ac := x0.rise.length) (bc := x0.cost.length) (cap := xs1.length) (pc := x2.pts.length) (center := a3) ⟨h0r, h0c, h1, n0r, n0c, n1, Nat.le_refl _⟩ h2 n2
        have him := fun x b0r b0c b1 b2 (h0r : RowAt x (some ⟨b0r, 0, none⟩) 1 x0.rise.length (ic x0.rise)) (h0c : RowAt x (some ⟨b0c, 0, none⟩) 1 x0.cost.length (ic x0.cost)) (h1 : RowAt x (some ⟨b1, 0, none⟩) 2 xs1.length (fun k => (nth xs1 k).c)) (h2 : RowAt x (some ⟨b2, 0, none⟩) 1 x2.pts.length (ic x2.pts)) => impl_BestTour (w := x) (ac := x0.rise.length) (bc := x0.cost.length) (cap := xs1.length) (pc := x2.pts.length) (center := a3) ⟨h0r, h0c, h1, n0r, n0c, n1, Nat.le_refl _⟩ h2 n2 (fun h => by cases h)
        have heq0 := fun x a b a' b' (r1 : RowAt x (some ⟨a, 0, none⟩) 1 x0.rise.length (ic x0.rise)) (r2 : RowAt x (some ⟨b, 0, none⟩) 1 x0.cost.length (ic x0.cost)) (r3 : RowAt x (some ⟨a', 0, none⟩) 1 x0.rise.length (ic x0.rise)) (r4 : RowAt x (some ⟨b', 0, none⟩) 1 x0.cost.length (ic x0.cost)) => laws_eqMap (w := x) (x := x0) (y := x0) (ao := some ⟨a, 0, none⟩) (bo := some ⟨b, 0, none⟩) (ao' := some ⟨a', 0, none⟩) (bo' := some ⟨b', 0, none⟩) (ac := x0.rise.length) (bc := x0.cost.length) (ac' := x0.rise.length) (bc' := x0.cost.length) r1 r2 r3 r4 n0r n0c n0r n0c
        rw [show x0.eqB x0 = true from (MapD.eqB_iff _ _).2 rfl] at heq0
        have heq2 := fun x a a' (r1 : RowAt x (some ⟨a, 0, none⟩) 1 x2.pts.length (ic x2.pts)) (r3 : RowAt x (some ⟨a', 0, none⟩) 1 x2.pts.length (ic x2.pts)) => laws_eqScoreRule (w := x) (x := x2) (y := x2) (ao := some ⟨a, 0, none⟩) (ao' := some ⟨a', 0, none⟩) (ac := x2.pts.length) (ac' := x2.pts.length) r1 r3 n2 n2
        rw [show x2.eqB x2 = true from (RuleD.eqB_iff _ _).2 rfl] at heq2
        have heqv1 : eqL Ctl.eqB xs1 xs1 = true := (eqL_iff Ctl.eqB_iff).2 rfl
        have hmk0 := fun x b0 A B c c' k0 h1 h2 hlt h0 h9 => laws_markMap (m := x0) (w := x) (B0 := b0) (A := A) (B := B) (ac := x0.rise.length) (bc := x0.cost.length) (c1 := c) (c2 := c') (k0 := k0) h1 h2 hlt (by omega) (by omega) h0 h9
        have hmk2 := fun x b0 A c k0 h1 h0 h9 => laws_markScoreRule (r := x2) (w := x) (B0 := b0) (A := A) (ac := x2.pts.length) (c1 := c) (k0 := k0) h1 (by omega) h0 h9
        have hLl : ((bsT x0 xs1 x2 a3).1).length ≤ 1048577 := by have := bsT_len x0 xs1 x2 a3; omega
        have hone : eqL eqI ((bsT x0 xs1 x2 a3).1) ((bsT x0 xs1 x2 a3).1) = true := (eqL_iff eqI_iff).2 rfl
        unfold ResT at hsp him
        generalize (bsT x0 xs1 x2 a3).1 = L at *
        generalize (bsT x0 xs1 x2 a3).2 = RI at *
        generalize bsB x0 xs1 x2 a3 = RB at *
        have hL2 : L.length ≤ 9223372036854775807 := by omega
        have hL3 : L.length ≤ 1099511627776 := by omega
        unfold MapD.val at hsp him heq0 hto0 hmk0
        unfold RuleD.val at hsp him heq2 hto2 hmk2
        have HTO0 := Lib.hid hto0; clear hto0
        have HTO1 := Lib.hid hto1; clear hto1
        have HTO2 := Lib.hid hto2; clear hto2
        have HSP := Lib.hid hsp; clear hsp
        have HIM := Lib.hid him; clear him
        have HEQ0 := Lib.hid heq0; clear heq0
        have HEQ2 := Lib.hid heq2; clear heq2
        have HEQV1 := Lib.hid heqv1; clear heqv1
        have HMK0 := Lib.hid hmk0; clear hmk0
        have HMK2 := Lib.hid hmk2; clear hmk2
        have HONE := Lib.hid hone; clear hone
        go_enter Try.func6, Try.ntmps6
        go_wp2_with fail
        refine (HSZ0.out _).mono ?_; rintro e ws0 ⟨rfl, hxs0⟩
        rw [if_pos (by omega)]
        go_wp2_with fail
        refine (laws_szControlS n1 (by omega) (by omega)).mono ?_; rintro e ws1 ⟨rfl, rfl⟩
        rw [show szI xs1.length (1048576 - (x0.rise.length : Int) - (x0.cost.length : Int)) = (1048576 - (x0.rise.length : Int) - (x0.cost.length : Int)) - (xs1.length : Int) by simp [szI]; omega]
        have hsz2 := fun x h0 h1 => laws_szScoreRule (w := x) (r := x2) (ao := ao2) (ac := ac2) (x := ((1048576 - (x0.rise.length : Int) - (x0.cost.length : Int)) - (xs1.length : Int))) n2 h0 h1
        unfold RuleD.val at hsz2
        have qr0 : ws0.cell? ⟨w.heap.size + 1, 0, none⟩ = some (.slice ao2 x2.pts.length ac2) := hxs0.cells (by go_simp)
        have qr1 : ws0.cell? ⟨w.heap.size + 1, 1, none⟩ = some (.int .i64 x2.lim) := hxs0.cells (by go_simp)
        have qr2 : ws0.cell? ⟨w.heap.size + 1, 2, none⟩ = some (.int .i64 x2.pen) := hxs0.cells (by go_simp)
        have zr : w.heap.size + 1 < ws0.heap.size := World.block_lt_of_cell? _ _ qr0
        go_wp2_with fail
        refine (hsz2 _ (by omega) (by omega)).mono ?_; rintro e ws2 ⟨rfl, hxs2⟩
        clear hsz2 qr0 qr1 qr2 zr
        rw [show szI x2.pts.length ((1048576 - (x0.rise.length : Int) - (x0.cost.length : Int)) - (xs1.length : Int)) = ((1048576 - (x0.rise.length : Int) - (x0.cost.length : Int)) - (xs1.length : Int)) - (x2.pts.length : Int) by simp [szI]; omega]
        have hy : Ext w ws0 := hw0.trans hxs0
        have bxA2 := BoxL.of (show Ext ((w.alloc (Obj.cells #[.int .i64 x0.wid, .int .i64 x0.hei, .slice ao0 x0.rise.length ac0, .slice bo0 x0.cost.length bc0] 24)).alloc (Obj.cells #[.slice ao2 x2.pts.length ac2, .int .i64 x2.lim, .int .i64 x2.pen] 40)) ws0 from hxs0)
        simp only [World.size_alloc] at bxA2
        have bxA0 := BoxL.of (show Ext (w.alloc (Obj.cells #[.int .i64 x0.wid, .int .i64 x0.hei, .slice ao0 x0.rise.length ac0, .slice bo0 x0.cost.length bc0] 24)) ws0 from Ext.trans ((Ext.refl _).alloc _) hxs0)
        replace bxA2 := bxA2.ext hxs2
        replace bxA0 := bxA0.ext hxs2
        replace hy := hy.trans hxs2
        clear hxs2 hw0 hxs0
        have qbxA20 := bxA2.2 0 _ rfl
        have qbxA21 := bxA2.2 1 _ rfl
        have qbxA22 := bxA2.2 2 _ rfl
        have zbxA2 := bxA2.1
        have qbxA00 := bxA0.2 0 _ rfl
        have qbxA01 := bxA0.2 1 _ rfl
        have qbxA02 := bxA0.2 2 _ rfl
        have qbxA03 := bxA0.2 3 _ rfl
        have zbxA0 := bxA0.1
        have gbxA20 := fun z (hz : Hid (Ext ws2 z)) => hz.out.cells qbxA20
        have gbxA21 := fun z (hz : Hid (Ext ws2 z)) => hz.out.cells qbxA21
        have gbxA22 := fun z (hz : Hid (Ext ws2 z)) => hz.out.cells qbxA22
        have gbxA00 := fun z (hz : Hid (Ext ws2 z)) => hz.out.cells qbxA00
        have gbxA01 := fun z (hz : Hid (Ext ws2 z)) => hz.out.cells qbxA01
        have gbxA02 := fun z (hz : Hid (Ext ws2 z)) => hz.out.cells qbxA02
        have gbxA03 := fun z (hz : Hid (Ext ws2 z)) => hz.out.cells qbxA03
        go_wp2_with fail
        go_cut [10, 11, 12] (fun v0 v1 v2 w1 => ∃ wo wcap, v0 = .slice wo L.length wcap ∧ v1 = .int .i64 RI ∧ v2 = .bool RB ∧ Ext ws2 w1 ∧ FreshAt ws2.heap.size w1 wo 1 L.length (ic L))
        case first =>
          go_region_held3 (fun z => Hid (Ext ws2 z)) (exact Lib.hid (by repeat (first | (with_reducible exact Ext.refl _) | (with_reducible assumption) | with_reducible refine Ext.drew ?_ | with_reducible refine Ext.alloc ?_ _ | with_reducible refine Ext.setCell ?_ (by first | (simp; done) | (simp; omega) | omega) _ | with_reducible refine Ext.trans ?_ (by with_reducible assumption)))) (first
            | (go_at_call 12; refine (HTO0.out _ (hy.trans (by repeat (first | (with_reducible exact Ext.refl _) | (with_reducible assumption) | with_reducible refine Ext.drew ?_ | with_reducible refine Ext.alloc ?_ _ | with_reducible refine Ext.setCell ?_ (by first | (simp; done) | (simp; omega) | omega) _ | with_reducible refine Ext.trans ?_ (by with_reducible assumption))))).mono ?_; rintro e wa0 ⟨s0r, s0c, rfl, hxa0, fs0r, fs0c, _⟩)
            | (go_at_call 13; refine (HTO1.out _ (hy.trans (by repeat (first | (with_reducible exact Ext.refl _) | (with_reducible assumption) | with_reducible refine Ext.drew ?_ | with_reducible refine Ext.alloc ?_ _ | with_reducible refine Ext.setCell ?_ (by first | (simp; done) | (simp; omega) | omega) _ | with_reducible refine Ext.trans ?_ (by with_reducible assumption))))).mono ?_; rintro e wa1 ⟨s1, rfl, hxa1, fs1⟩)
            | (go_at_call 21; refine (HTO2.out _ (hy.trans (by repeat (first | (with_reducible exact Ext.refl _) | (with_reducible assumption) | with_reducible refine Ext.drew ?_ | with_reducible refine Ext.alloc ?_ _ | with_reducible refine Ext.setCell ?_ (by first | (simp; done) | (simp; omega) | omega) _ | with_reducible refine Ext.trans ?_ (by with_reducible assumption))))).mono ?_; rintro e wa2 ⟨s2, rfl, hxa2, fs2⟩)
            | (go_at_call 31; refine (HSP.out _ s0r s0c s1 s2 (fs0r.row.ext (by repeat (first | (with_reducible exact Ext.refl _) | (with_reducible assumption) | with_reducible refine Ext.drew ?_ | with_reducible refine Ext.alloc ?_ _ | with_reducible refine Ext.setCell ?_ (by first | (simp; done) | (simp; omega) | omega) _ | with_reducible refine Ext.trans ?_ (by with_reducible assumption)))) (fs0c.row.ext (by repeat (first | (with_reducible exact Ext.refl _) | (with_reducible assumption) | with_reducible refine Ext.drew ?_ | with_reducible refine Ext.alloc ?_ _ | with_reducible refine Ext.setCell ?_ (by first | (simp; done) | (simp; omega) | omega) _ | with_reducible refine Ext.trans ?_ (by with_reducible assumption)))) (fs1.row.ext (by repeat (first | (with_reducible exact Ext.refl _) | (with_reducible assumption) | with_reducible refine Ext.drew ?_ | with_reducible refine Ext.alloc ?_ _ | with_reducible refine Ext.setCell ?_ (by first | (simp; done) | (simp; omega) | omega) _ | with_reducible refine Ext.trans ?_ (by with_reducible assumption)))) (fs2.row.ext (by repeat (first | (with_reducible exact Ext.refl _) | (with_reducible assumption) | with_reducible refine Ext.drew ?_ | with_reducible refine Ext.alloc ?_ _ | with_reducible refine Ext.setCell ?_ (by first | (simp; done) | (simp; omega) | omega) _ | with_reducible refine Ext.trans ?_ (by with_reducible assumption))))).mono ?_; rintro e we ⟨wo, wcap, rfl, hxe, fwe⟩; have hze := Ext.size (show Ext ws2 _ from (by repeat (first | (with_reducible exact Ext.refl _) | (with_reducible assumption) | with_reducible refine Ext.drew ?_ | with_reducible refine Ext.alloc ?_ _ | with_reducible refine Ext.setCell ?_ (by first | (simp; done) | (simp; omega) | omega) _ | with_reducible refine Ext.trans ?_ (by with_reducible assumption))))))
          all_goals
            have hxw : Ext ws2 we := (by repeat (first | (with_reducible exact Ext.refl _) | (with_reducible assumption) | with_reducible refine Ext.drew ?_ | with_reducible refine Ext.alloc ?_ _ | with_reducible refine Ext.setCell ?_ (by first | (simp; done) | (simp; omega) | omega) _ | with_reducible refine Ext.trans ?_ (by with_reducible assumption)))
            have hfw := fwe.low (B1 := ws2.heap.size) (by first | exact (Ext.size (show Ext ws2 wa0 from (by repeat (first | (with_reducible exact Ext.refl _) | (with_reducible assumption) | with_reducible refine Ext.drew ?_ | with_reducible refine Ext.alloc ?_ _ | with_reducible refine Ext.setCell ?_ (by first | (simp; done) | (simp; omega) | omega) _ | with_reducible refine Ext.trans ?_ (by with_reducible assumption))))) | exact (Ext.size (show Ext ws2 wa1 from (by repeat (first | (with_reducible exact Ext.refl _) | (with_reducible assumption) | with_reducible refine Ext.drew ?_ | with_reducible refine Ext.alloc ?_ _ | with_reducible refine Ext.setCell ?_ (by first | (simp; done) | (simp; omega) | omega) _ | with_reducible refine Ext.trans ?_ (by with_reducible assumption))))) | exact (Ext.size (show Ext ws2 wa2 from (by repeat (first | (with_reducible exact Ext.refl _) | (with_reducible assumption) | with_reducible refine Ext.drew ?_ | with_reducible refine Ext.alloc ?_ _ | with_reducible refine Ext.setCell ?_ (by first | (simp; done) | (simp; omega) | omega) _ | with_reducible refine Ext.trans ?_ (by with_reducible assumption))))))
            go_wp2_with fail
            go_meet
            exact ⟨wo, wcap, rfl, rfl, rfl, hxw, hfw⟩
        case rest =>
        obtain ⟨wo, wcap, rfl, rfl, rfl, hg1, fW⟩ := hcut
        rename World => w1
        clear gbxA20 gbxA21 gbxA22 gbxA00 gbxA01 gbxA02 gbxA03
        clear qbxA20 qbxA21 qbxA22 zbxA2
        clear qbxA00 qbxA01 qbxA02 qbxA03 zbxA0
        replace bxA2 := bxA2.ext hg1
        replace bxA0 := bxA0.ext hg1
        replace hy := hy.trans hg1
        clear hg1
        have hX : Ext w1 w1 := Ext.refl _
        have HBA2 := Lib.hid bxA2; have HBA0 := Lib.hid bxA0; have HY := Lib.hid hy; have HW := Lib.hid fW
        have zA0 := bxA0.1; have zA2 := bxA2.1
        have HWB : Hid (∀ a, wo = some a → a.block < w1.heap.size) := Lib.hid (fun a q => (fW.base a q).2)
        clear bxA2 bxA0 hy fW
        have bxA0 := HBA0.out.ext hX
        have qbxA00 := bxA0.2 0 _ rfl
        have qbxA01 := bxA0.2 1 _ rfl
        have qbxA02 := bxA0.2 2 _ rfl
        have qbxA03 := bxA0.2 3 _ rfl
        have zbxA0 := bxA0.1
        go_wp2_with fail
        refine (HTO0.out _ (HY.out.trans hX)).mono ?_; rintro e w2 ⟨x0r, x0c, rfl, hx2, f0r, f0c, hlt⟩
        have B0 : w1.heap.size ≤ x0r ∧ x0r < x0c ∧ x0c < w2.heap.size := ⟨(f0r.base _ rfl).1, hlt, (f0c.base _ rfl).2⟩
        clear qbxA00 qbxA01 qbxA02 qbxA03 zbxA0
        clear bxA0
        replace hX := hX.trans hx2
        clear hx2 hlt
        go_wp2_with fail
        refine (HTO1.out _ (HY.out.trans (hX.trans (by repeat (first | (with_reducible exact Ext.refl _) | (with_reducible assumption) | with_reducible refine Ext.drew ?_ | with_reducible refine Ext.alloc ?_ _ | with_reducible refine Ext.setCell ?_ (by first | (simp; done) | (simp; omega) | omega) _ | with_reducible refine Ext.trans ?_ (by with_reducible assumption)))))).mono ?_; rintro e w3 ⟨x1, rfl, hx3, f1⟩
        have hg3 : Ext w2 w3 := (by repeat (first | (with_reducible exact Ext.refl _) | (with_reducible assumption) | with_reducible refine Ext.drew ?_ | with_reducible refine Ext.alloc ?_ _ | with_reducible refine Ext.setCell ?_ (by first | (simp; done) | (simp; omega) | omega) _ | with_reducible refine Ext.trans ?_ (by with_reducible assumption)))
        have bxX0 := BoxL.of hx3
        have B1 : w2.heap.size < x1 ∧ x1 < w3.heap.size := ⟨by have := (f1.base _ rfl).1; simp only [World.size_alloc] at this; omega, (f1.base _ rfl).2⟩
        replace hX := hX.trans hg3
        replace f0r := f0r.ext hg3
        replace f0c := f0c.ext hg3
        clear hx3 hg3
        have bxA2 := HBA2.out.ext hX
        have qbxA20 := bxA2.2 0 _ rfl
        have qbxA21 := bxA2.2 1 _ rfl
        have qbxA22 := bxA2.2 2 _ rfl
        have zbxA2 := bxA2.1
        go_wp2_with fail
        refine (HTO2.out _ (HY.out.trans hX)).mono ?_; rintro e w4 ⟨x2b, rfl, hx4, f2⟩
        have B2 : w3.heap.size ≤ x2b ∧ x2b < w4.heap.size := ⟨(f2.base _ rfl).1, (f2.base _ rfl).2⟩
        clear qbxA20 qbxA21 qbxA22 zbxA2
        clear bxA2
        replace hX := hX.trans hx4
        replace f0r := f0r.ext hx4
        replace f0c := f0c.ext hx4
        replace bxX0 := bxX0.ext hx4
        replace f1 := f1.ext hx4
        clear hx4
        have qbxX00 := bxX0.2 0 _ rfl
        have qbxX01 := bxX0.2 1 _ rfl
        have qbxX02 := bxX0.2 2 _ rfl
        have qbxX03 := bxX0.2 3 _ rfl
        have zbxX0 := bxX0.1
        have hxb : Ext w4 (w4.alloc (Obj.cells #[.slice (some ⟨x2b, 0, none⟩) x2.pts.length x2.pts.length, .int .i64 x2.lim, .int .i64 x2.pen] 43)) := (Ext.refl _).alloc _
        go_wp2_with fail
        refine (HIM.out _ x0r x0c x1 x2b (f0r.row.ext hxb) (f0c.row.ext hxb) (f1.row.ext hxb) (f2.row.ext hxb)).mono ?_; rintro e w5 ⟨go, gc, rfl, hx5, fG⟩
        have hg5 : Ext w4 w5 := hxb.trans hx5
        have bxX2 := BoxL.of hx5
        have HG : Hid (∀ a, go = some a → w4.heap.size < a.block) := Lib.hid (fun a q => by have := (fG.base a q).1; simp only [World.size_alloc] at this; omega)
        clear qbxX00 qbxX01 qbxX02 qbxX03 zbxX0
        replace hX := hX.trans hg5
        replace f0r := f0r.ext hg5
        replace f0c := f0c.ext hg5
        replace bxX0 := bxX0.ext hg5
        replace f1 := f1.ext hg5
        replace f2 := f2.ext hg5
        clear hx5 hg5 hxb
        have fW := HW.out.ext hX
        go_wp2_with fail
        refine (laws_eqIntS fG.row fW.row hL2 hL2).mono ?_; rintro e w6 ⟨rfl, hx⟩
        rw [HONE.out]
        replace hX := hX.trans hx
        replace f0r := f0r.ext hx
        replace f0c := f0c.ext hx
        replace bxX0 := bxX0.ext hx
        replace f1 := f1.ext hx
        replace f2 := f2.ext hx
        replace bxX2 := bxX2.ext hx
        replace fG := fG.ext hx
        clear hx fW
        have bxA0 := HBA0.out.ext hX
        have qbxA00 := bxA0.2 0 _ rfl
        have qbxA01 := bxA0.2 1 _ rfl
        have qbxA02 := bxA0.2 2 _ rfl
        have qbxA03 := bxA0.2 3 _ rfl
        have zbxA0 := bxA0.1
        have qbxX00 := bxX0.2 0 _ rfl
        have qbxX01 := bxX0.2 1 _ rfl
        have qbxX02 := bxX0.2 2 _ rfl
        have qbxX03 := bxX0.2 3 _ rfl
        have zbxX0 := bxX0.1
        have hyw := HY.out.trans hX
        have gbxA00 := fun z (hz : Hid (Ext w6 z)) => hz.out.cells qbxA00
        have gbxA01 := fun z (hz : Hid (Ext w6 z)) => hz.out.cells qbxA01
        have gbxA02 := fun z (hz : Hid (Ext w6 z)) => hz.out.cells qbxA02
        have gbxA03 := fun z (hz : Hid (Ext w6 z)) => hz.out.cells qbxA03
        have gbxX00 := fun z (hz : Hid (Ext w6 z)) => hz.out.cells qbxX00
        have gbxX01 := fun z (hz : Hid (Ext w6 z)) => hz.out.cells qbxX01
        have gbxX02 := fun z (hz : Hid (Ext w6 z)) => hz.out.cells qbxX02
        have gbxX03 := fun z (hz : Hid (Ext w6 z)) => hz.out.cells qbxX03
        go_wp2_with fail
        go_cut [85] (fun v w7 => v = .bool false ∧ Ext w6 w7)
        case first =>
          go_region_held3 (fun z => Hid (Ext w6 z)) (exact Lib.hid (by repeat (first | (with_reducible exact Ext.refl _) | (with_reducible assumption) | with_reducible refine Ext.drew ?_ | with_reducible refine Ext.alloc ?_ _ | with_reducible refine Ext.setCell ?_ (by first | (simp; done) | (simp; omega) | omega) _ | with_reducible refine Ext.trans ?_ (by with_reducible assumption)))) (first
            | (go_at_call 12; refine (HTO0.out _ (hyw.trans (by repeat (first | (with_reducible exact Ext.refl _) | (with_reducible assumption) | with_reducible refine Ext.drew ?_ | with_reducible refine Ext.alloc ?_ _ | with_reducible refine Ext.setCell ?_ (by first | (simp; done) | (simp; omega) | omega) _ | with_reducible refine Ext.trans ?_ (by with_reducible assumption))))).mono ?_; rintro e wa ⟨t0, t1, rfl, hxa, ft0, ft1, _⟩; have hca := Ext.cellr (Ext.trans (Ext.refl w6).drew hxa))
            | (go_at_call 16; refine (HEQ0.out _ _ _ _ _ (f0r.row.ext (Ext.trans (Ext.refl w6).drew hxa)) (f0c.row.ext (Ext.trans (Ext.refl w6).drew hxa)) ft0.row ft1.row).mono ?_; rintro e wb ⟨rfl, hxb⟩))
          all_goals
            go_wp2_with fail
            go_meet
            exact ⟨rfl, (by repeat (first | (with_reducible exact Ext.refl _) | (with_reducible assumption) | with_reducible refine Ext.drew ?_ | with_reducible refine Ext.alloc ?_ _ | with_reducible refine Ext.setCell ?_ (by first | (simp; done) | (simp; omega) | omega) _ | with_reducible refine Ext.trans ?_ (by with_reducible assumption)))⟩
        case rest =>
        obtain ⟨rfl, hg⟩ := hcut
        rename World => w7
        clear gbxA00 gbxA01 gbxA02 gbxA03 gbxX00 gbxX01 gbxX02 gbxX03
        clear hyw
        clear qbxA00 qbxA01 qbxA02 qbxA03 zbxA0
        clear bxA0
        clear qbxX00 qbxX01 qbxX02 qbxX03 zbxX0
        replace hX := hX.trans hg
        replace f0r := f0r.ext hg
        replace f0c := f0c.ext hg
        replace bxX0 := bxX0.ext hg
        replace f1 := f1.ext hg
        replace f2 := f2.ext hg
        replace bxX2 := bxX2.ext hg
        replace fG := fG.ext hg
        clear hg
        go_wp2_with fail
        refine (HTO1.out _ (HY.out.trans hX)).mono ?_; rintro e w8 ⟨t1, rfl, hx8, ft1⟩
        replace hX := hX.trans hx8
        replace f0r := f0r.ext hx8
        replace f0c := f0c.ext hx8
        replace bxX0 := bxX0.ext hx8
        replace f1 := f1.ext hx8
        replace f2 := f2.ext hx8
        replace bxX2 := bxX2.ext hx8
        replace fG := fG.ext hx8
        clear hx8
        go_wp2_with fail
        refine (laws_eqControlS f1.row ft1.row n1 n1).mono ?_; rintro e w9 ⟨rfl, hx9⟩
        rw [HEQV1.out]
        replace hX := hX.trans hx9
        replace f0r := f0r.ext hx9
        replace f0c := f0c.ext hx9
        replace bxX0 := bxX0.ext hx9
        replace f1 := f1.ext hx9
        replace f2 := f2.ext hx9
        replace bxX2 := bxX2.ext hx9
        replace fG := fG.ext hx9
        clear hx9 ft1
        have bxA2 := HBA2.out.ext hX
        have qbxA20 := bxA2.2 0 _ rfl
        have qbxA21 := bxA2.2 1 _ rfl
        have qbxA22 := bxA2.2 2 _ rfl
        have zbxA2 := bxA2.1
        have qbxX20 := bxX2.2 0 _ rfl
        have qbxX21 := bxX2.2 1 _ rfl
        have qbxX22 := bxX2.2 2 _ rfl
        have zbxX2 := bxX2.1
        have hyw := HY.out.trans hX
        have gbxA20 := fun z (hz : Hid (Ext w9 z)) => hz.out.cells qbxA20
        have gbxA21 := fun z (hz : Hid (Ext w9 z)) => hz.out.cells qbxA21
        have gbxA22 := fun z (hz : Hid (Ext w9 z)) => hz.out.cells qbxA22
        have gbxX20 := fun z (hz : Hid (Ext w9 z)) => hz.out.cells qbxX20
        have gbxX21 := fun z (hz : Hid (Ext w9 z)) => hz.out.cells qbxX21
        have gbxX22 := fun z (hz : Hid (Ext w9 z)) => hz.out.cells qbxX22
        go_wp2_with fail
        go_cut [95] (fun v wA => v = .bool false ∧ Ext w9 wA)
        case first =>
          go_region_held3 (fun z => Hid (Ext w9 z)) (exact Lib.hid (by repeat (first | (with_reducible exact Ext.refl _) | (with_reducible assumption) | with_reducible refine Ext.drew ?_ | with_reducible refine Ext.alloc ?_ _ | with_reducible refine Ext.setCell ?_ (by first | (simp; done) | (simp; omega) | omega) _ | with_reducible refine Ext.trans ?_ (by with_reducible assumption)))) (first
            | (go_at_call 21; refine (HTO2.out _ (hyw.trans (by repeat (first | (with_reducible exact Ext.refl _) | (with_reducible assumption) | with_reducible refine Ext.drew ?_ | with_reducible refine Ext.alloc ?_ _ | with_reducible refine Ext.setCell ?_ (by first | (simp; done) | (simp; omega) | omega) _ | with_reducible refine Ext.trans ?_ (by with_reducible assumption))))).mono ?_; rintro e wa ⟨t0, rfl, hxa, ft0⟩; have hca := Ext.cellr (Ext.trans (Ext.refl w9).drew hxa))
            | (go_at_call 23; refine (HEQ2.out _ _ _ (f2.row.ext (Ext.trans (Ext.refl w9).drew hxa)) ft0.row).mono ?_; rintro e wb ⟨rfl, hxb⟩))
          all_goals
            go_wp2_with fail
            go_meet
            exact ⟨rfl, (by repeat (first | (with_reducible exact Ext.refl _) | (with_reducible assumption) | with_reducible refine Ext.drew ?_ | with_reducible refine Ext.alloc ?_ _ | with_reducible refine Ext.setCell ?_ (by first | (simp; done) | (simp; omega) | omega) _ | with_reducible refine Ext.trans ?_ (by with_reducible assumption)))⟩
        case rest =>
        obtain ⟨rfl, hg⟩ := hcut
        rename World => wA
        clear gbxA20 gbxA21 gbxA22 gbxX20 gbxX21 gbxX22
        clear hyw
        clear qbxA20 qbxA21 qbxA22 zbxA2
        clear bxA2
        clear qbxX20 qbxX21 qbxX22 zbxX2
        replace hX := hX.trans hg
        replace f0r := f0r.ext hg
        replace f0c := f0c.ext hg
        replace bxX0 := bxX0.ext hg
        replace f1 := f1.ext hg
        replace f2 := f2.ext hg
        replace bxX2 := bxX2.ext hg
        replace fG := fG.ext hg
        clear hg
        have qbxX00 := bxX0.2 0 _ rfl
        have qbxX01 := bxX0.2 1 _ rfl
        have qbxX02 := bxX0.2 2 _ rfl
        have qbxX03 := bxX0.2 3 _ rfl
        have zbxX0 := bxX0.1
        have zX := bxX2.1
        go_wp2_with fail
        refine (HMK0.out _ _ x0r x0c _ _ 1 f0r f0c B0.2.1 (by decide) (by decide)).mono ?_; rintro e wB ⟨rfl, wm, hgA, hgB⟩
        clear qbxX00 qbxX01 qbxX02 qbxX03 zbxX0
        clear bxX0 f0r f0c
        replace hX := grown_ext hX hgA (fun k q => by injection q with q; omega)
        replace f1 := f1.grown hgA (fun a q z => by injection q with q; subst q; injection z with z; simp only at z; omega)
        replace f2 := f2.grown hgA (fun a q z => by injection q with q; subst q; injection z with z; simp only at z; omega)
        replace bxX2 := BoxL.touch bxX2 (Touch.span (lo := x0r) (hi := x0r + 1) hgA (fun k q => by injection q with q; omega)) (by omega)
        replace fG := fG.grown hgA (fun a q z => by have := HG.out a q; injection z with z; omega)
        replace hX := grown_ext hX hgB (fun k q => by injection q with q; omega)
        replace f1 := f1.grown hgB (fun a q z => by injection q with q; subst q; injection z with z; simp only at z; omega)
        replace f2 := f2.grown hgB (fun a q z => by injection q with q; subst q; injection z with z; simp only at z; omega)
        replace bxX2 := BoxL.touch bxX2 (Touch.span (lo := x0c) (hi := x0c + 1) hgB (fun k q => by injection q with q; omega)) (by omega)
        replace fG := fG.grown hgB (fun a q z => by have := HG.out a q; injection z with z; omega)
        clear hgA hgB zX
        go_wp2_with fail
        refine (laws_markControlS f1 (by omega) (by omega) (by omega)).mono ?_; rintro e wC ⟨rfl, hgC, _⟩
        have hgC : World.grownBy _ wC (some x1) := hgC
        clear f1
        replace hX := grown_ext hX hgC (fun k q => by injection q with q; omega)
        replace f2 := f2.grown hgC (fun a q z => by injection q with q; subst q; injection z with z; simp only at z; omega)
        replace bxX2 := BoxL.touch bxX2 (Touch.span (lo := x1) (hi := x1 + 1) hgC (fun k q => by injection q with q; omega)) (by omega)
        replace fG := fG.grown hgC (fun a q z => by have := HG.out a q; injection z with z; omega)
        clear hgC
        have qbxX20 := bxX2.2 0 _ rfl
        have qbxX21 := bxX2.2 1 _ rfl
        have qbxX22 := bxX2.2 2 _ rfl
        have zbxX2 := bxX2.1
        go_wp2_with fail
        refine (HMK2.out _ _ x2b _ _ f2 (by omega) (by omega)).mono ?_; rintro e wD ⟨rfl, hgD⟩
        clear qbxX20 qbxX21 qbxX22 zbxX2
        clear bxX2 f2
        replace hX := grown_ext hX hgD (fun k q => by injection q with q; omega)
        replace fG := fG.grown hgD (fun a q z => by have := HG.out a q; injection z with z; omega)
        clear hgD
        have fW := HW.out.ext hX
        go_wp2_with fail
        refine (laws_eqIntS fG.row fW.row hL2 hL2).mono ?_; rintro e wE ⟨rfl, hx⟩
        rw [HONE.out]
        replace hX := hX.trans hx
        replace fG := fG.ext hx
        clear hx fW
        go_wp2_with fail
        refine (laws_markIntS (k0 := 1) fG hL3 (by decide) (by decide)).mono ?_; rintro e wF ⟨rfl, hgF, fH⟩
        replace hX := grown_ext hX hgF (fun k q => by
          cases hgo : go with
          | none => rw [hgo] at q; cases q
          | some a =>
            rw [hgo] at q; injection q with q; have q : a.block = k := q; have := HG.out a hgo; omega)
        clear fG hgF
        go_wp2_with fail
        refine (laws_heldIntS (k0 := 1) fH.row hL3 (by decide) (by decide)).mono ?_; rintro e wG ⟨rfl, hx⟩
        replace hX := hX.trans hx
        replace fH := fH.ext hx
        clear hx
        have hy := HY.out.trans hX
        have bxA2 := HBA2.out.ext hX
        have bxA0 := HBA0.out.ext hX
        have hnn : ¬ (1 + (L.length : Int)) < 0 := by omega
        have qbxA20 := bxA2.2 0 _ rfl
        have qbxA21 := bxA2.2 1 _ rfl
        have qbxA22 := bxA2.2 2 _ rfl
        have zbxA2 := bxA2.1
        have qbxA00 := bxA0.2 0 _ rfl
        have qbxA01 := bxA0.2 1 _ rfl
        have qbxA02 := bxA0.2 2 _ rfl
        have qbxA03 := bxA0.2 3 _ rfl
        have zbxA0 := bxA0.1
        have gbxA20 := fun z (hz : Hid (Ext wG z)) => hz.out.cells qbxA20
        have gbxA21 := fun z (hz : Hid (Ext wG z)) => hz.out.cells qbxA21
        have gbxA22 := fun z (hz : Hid (Ext wG z)) => hz.out.cells qbxA22
        have gbxA00 := fun z (hz : Hid (Ext wG z)) => hz.out.cells qbxA00
        have gbxA01 := fun z (hz : Hid (Ext wG z)) => hz.out.cells qbxA01
        have gbxA02 := fun z (hz : Hid (Ext wG z)) => hz.out.cells qbxA02
        have gbxA03 := fun z (hz : Hid (Ext wG z)) => hz.out.cells qbxA03
        go_wp2_with fail
        go_cut [22, 23, 24] (fun v0 v1 v2 wH => ∃ wo wcap, v0 = .slice wo L.length wcap ∧ v1 = .int .i64 RI ∧ v2 = .bool RB ∧ Ext wG wH ∧ FreshAt wG.heap.size wH wo 1 L.length (ic L))
        case first =>
          go_region_held3 (fun z => Hid (Ext wG z)) (exact Lib.hid (by repeat (first | (with_reducible exact Ext.refl _) | (with_reducible assumption) | with_reducible refine Ext.drew ?_ | with_reducible refine Ext.alloc ?_ _ | with_reducible refine Ext.setCell ?_ (by first | (simp; done) | (simp; omega) | omega) _ | with_reducible refine Ext.trans ?_ (by with_reducible assumption)))) (first
            | (go_at_call 12; refine (HTO0.out _ (hy.trans (by repeat (first | (with_reducible exact Ext.refl _) | (with_reducible assumption) | with_reducible refine Ext.drew ?_ | with_reducible refine Ext.alloc ?_ _ | with_reducible refine Ext.setCell ?_ (by first | (simp; done) | (simp; omega) | omega) _ | with_reducible refine Ext.trans ?_ (by with_reducible assumption))))).mono ?_; rintro e wa0 ⟨s0r, s0c, rfl, hxa0, fs0r, fs0c, _⟩)
            | (go_at_call 13; refine (HTO1.out _ (hy.trans (by repeat (first | (with_reducible exact Ext.refl _) | (with_reducible assumption) | with_reducible refine Ext.drew ?_ | with_reducible refine Ext.alloc ?_ _ | with_reducible refine Ext.setCell ?_ (by first | (simp; done) | (simp; omega) | omega) _ | with_reducible refine Ext.trans ?_ (by with_reducible assumption))))).mono ?_; rintro e wa1 ⟨s1, rfl, hxa1, fs1⟩)
            | (go_at_call 21; refine (HTO2.out _ (hy.trans (by repeat (first | (with_reducible exact Ext.refl _) | (with_reducible assumption) | with_reducible refine Ext.drew ?_ | with_reducible refine Ext.alloc ?_ _ | with_reducible refine Ext.setCell ?_ (by first | (simp; done) | (simp; omega) | omega) _ | with_reducible refine Ext.trans ?_ (by with_reducible assumption))))).mono ?_; rintro e wa2 ⟨s2, rfl, hxa2, fs2⟩)
            | (go_at_call 32; refine (HIM.out _ s0r s0c s1 s2 (fs0r.row.ext (by repeat (first | (with_reducible exact Ext.refl _) | (with_reducible assumption) | with_reducible refine Ext.drew ?_ | with_reducible refine Ext.alloc ?_ _ | with_reducible refine Ext.setCell ?_ (by first | (simp; done) | (simp; omega) | omega) _ | with_reducible refine Ext.trans ?_ (by with_reducible assumption)))) (fs0c.row.ext (by repeat (first | (with_reducible exact Ext.refl _) | (with_reducible assumption) | with_reducible refine Ext.drew ?_ | with_reducible refine Ext.alloc ?_ _ | with_reducible refine Ext.setCell ?_ (by first | (simp; done) | (simp; omega) | omega) _ | with_reducible refine Ext.trans ?_ (by with_reducible assumption)))) (fs1.row.ext (by repeat (first | (with_reducible exact Ext.refl _) | (with_reducible assumption) | with_reducible refine Ext.drew ?_ | with_reducible refine Ext.alloc ?_ _ | with_reducible refine Ext.setCell ?_ (by first | (simp; done) | (simp; omega) | omega) _ | with_reducible refine Ext.trans ?_ (by with_reducible assumption)))) (fs2.row.ext (by repeat (first | (with_reducible exact Ext.refl _) | (with_reducible assumption) | with_reducible refine Ext.drew ?_ | with_reducible refine Ext.alloc ?_ _ | with_reducible refine Ext.setCell ?_ (by first | (simp; done) | (simp; omega) | omega) _ | with_reducible refine Ext.trans ?_ (by with_reducible assumption))))).mono ?_; rintro e we ⟨wo, wcap, rfl, hxe, fwe⟩; have hze := Ext.size (show Ext wG _ from (by repeat (first | (with_reducible exact Ext.refl _) | (with_reducible assumption) | with_reducible refine Ext.drew ?_ | with_reducible refine Ext.alloc ?_ _ | with_reducible refine Ext.setCell ?_ (by first | (simp; done) | (simp; omega) | omega) _ | with_reducible refine Ext.trans ?_ (by with_reducible assumption))))))
          all_goals
            have hxw : Ext wG we := (by repeat (first | (with_reducible exact Ext.refl _) | (with_reducible assumption) | with_reducible refine Ext.drew ?_ | with_reducible refine Ext.alloc ?_ _ | with_reducible refine Ext.setCell ?_ (by first | (simp; done) | (simp; omega) | omega) _ | with_reducible refine Ext.trans ?_ (by with_reducible assumption)))
            have hfw := fwe.low (B1 := wG.heap.size) (by first | exact (Ext.size (show Ext wG wa0 from (by repeat (first | (with_reducible exact Ext.refl _) | (with_reducible assumption) | with_reducible refine Ext.drew ?_ | with_reducible refine Ext.alloc ?_ _ | with_reducible refine Ext.setCell ?_ (by first | (simp; done) | (simp; omega) | omega) _ | with_reducible refine Ext.trans ?_ (by with_reducible assumption))))) | exact (Ext.size (show Ext wG wa1 from (by repeat (first | (with_reducible exact Ext.refl _) | (with_reducible assumption) | with_reducible refine Ext.drew ?_ | with_reducible refine Ext.alloc ?_ _ | with_reducible refine Ext.setCell ?_ (by first | (simp; done) | (simp; omega) | omega) _ | with_reducible refine Ext.trans ?_ (by with_reducible assumption))))) | exact (Ext.size (show Ext wG wa2 from (by repeat (first | (with_reducible exact Ext.refl _) | (with_reducible assumption) | with_reducible refine Ext.drew ?_ | with_reducible refine Ext.alloc ?_ _ | with_reducible refine Ext.setCell ?_ (by first | (simp; done) | (simp; omega) | omega) _ | with_reducible refine Ext.trans ?_ (by with_reducible assumption))))))
            go_wp2_with fail
            go_meet
            exact ⟨wo, wcap, rfl, rfl, rfl, hxw, hfw⟩
        case rest =>
        obtain ⟨ho, hcap, rfl, rfl, rfl, hg, fK⟩ := hcut
        rename World => wH
        clear gbxA20 gbxA21 gbxA22 gbxA00 gbxA01 gbxA02 gbxA03
        clear qbxA20 qbxA21 qbxA22 zbxA2
        clear qbxA00 qbxA01 qbxA02 qbxA03 zbxA0
        clear bxA2 bxA0 hy
        replace hX := hX.trans hg
        replace fH := fH.ext hg
        clear hg
        have fW := HW.out.ext hX
        go_wp2_with fail
        refine (laws_eqIntS fK.row fW.row hL2 hL2).mono ?_; rintro e wI ⟨rfl, hx⟩
        rw [HONE.out]
        replace hX := hX.trans hx
        replace fH := fH.ext hx
        replace fK := fK.ext hx
        clear hx fW
        go_wp2_with fail
        refine (laws_heldIntS (k0 := 1) fH.row hL3 (by decide) (by decide)).mono ?_; rintro e wJ ⟨rfl, hx⟩
        replace hX := hX.trans hx
        replace fH := fH.ext hx
        replace fK := fK.ext hx
        clear hx
        have HE := Lib.hid (HY.out.trans hX)
        clear hX fH fK
        go_wp2
        go_ret
        exact ⟨rfl, HE.out⟩
      · go_enter Try.func6, Try.ntmps6
        go_wp2_with fail
        refine (HSZ0.out _).mono ?_; rintro e ws0 ⟨rfl, hxs0⟩
        rw [if_pos (by omega)]
        go_wp2_with fail
        refine (laws_szControlS n1 (by omega) (by omega)).mono ?_; rintro e ws1 ⟨rfl, rfl⟩
        rw [show szI xs1.length (1048576 - (x0.rise.length : Int) - (x0.cost.length : Int)) = (1048576 - (x0.rise.length : Int) - (x0.cost.length : Int)) - (xs1.length : Int) by simp [szI]; omega]
        have hsz2 := fun x h0 h1 => laws_szScoreRule (w := x) (r := x2) (ao := ao2) (ac := ac2) (x := ((1048576 - (x0.rise.length : Int) - (x0.cost.length : Int)) - (xs1.length : Int))) n2 h0 h1
        unfold RuleD.val at hsz2
        have qr0 : ws0.cell? ⟨w.heap.size + 1, 0, none⟩ = some (.slice ao2 x2.pts.length ac2) := hxs0.cells (by go_simp)
        have qr1 : ws0.cell? ⟨w.heap.size + 1, 1, none⟩ = some (.int .i64 x2.lim) := hxs0.cells (by go_simp)
        have qr2 : ws0.cell? ⟨w.heap.size + 1, 2, none⟩ = some (.int .i64 x2.pen) := hxs0.cells (by go_simp)
        have zr : w.heap.size + 1 < ws0.heap.size := World.block_lt_of_cell? _ _ qr0
        go_wp2_with fail
        refine (hsz2 _ (by omega) (by omega)).mono ?_; rintro e ws2 ⟨rfl, hxs2⟩
        clear hsz2 qr0 qr1 qr2 zr
        rw [show szI x2.pts.length ((1048576 - (x0.rise.length : Int) - (x0.cost.length : Int)) - (xs1.length : Int)) = -1 by simp [szI]; omega]
        go_wp2
        go_ret
        exact ⟨rfl, hw0.trans (hxs0.trans hxs2)⟩
    · go_enter Try.func6, Try.ntmps6
      go_wp2_with fail
      refine (HSZ0.out _).mono ?_; rintro e ws0 ⟨rfl, hxs0⟩
      rw [if_pos (by omega)]
      go_wp2_with fail
      refine (laws_szControlS n1 (by omega) (by omega)).mono ?_; rintro e ws1 ⟨rfl, rfl⟩
      rw [show szI xs1.length (1048576 - (x0.rise.length : Int) - (x0.cost.length : Int)) = -1 by simp [szI]; omega]
      go_wp2
      go_ret
      exact ⟨rfl, hw0.trans hxs0⟩
  · go_enter Try.func6, Try.ntmps6
    go_wp2_with fail
    refine (HSZ0.out _).mono ?_; rintro e ws0 ⟨rfl, hxs0⟩
    rw [if_neg (by omega)]
    go_wp2
    go_ret
    exact ⟨rfl, hw0.trans hxs0⟩

set_option maxRecDepth 100000 in
theorem lifted (os : Os) (started : os.Started) (H : Type) (enc : TypeId × Value → H) :
    ReturnsInHanded {} Try.checked os 6 .any (Rows.fnExactBestTourSpec.pre6 enc Try.prog Try.f6 Rows.fnExactBestTourRow.domain false) (Rows.fnExactBestTourSpec.post enc Try.prog Try.f6 false true false false) := by
  refine returnsInHanded_of_change (C := Try.checked) (by kernel_rfl) started (by kernel_rfl) Try.func6
    (ChangeSpec.witness6 (enc := enc) (C := Try.checked) false ⟨#[], #[.agg #[.int .i64 0, .int .i64 0, .slice none 0 0, .slice none 0 0], .slice none 0 0, .agg #[.slice none 0 0, .int .i64 0, .int .i64 0], .int .i64 0], []⟩ 8 (by kernel_rfl) (by kernel_rfl) (by kernel_rfl) (by kernel_rfl)) ?_
  intro W base args ds gs before hval0 hW _ _
  have hval : ∀ (j : Nat) t v, Try.f6.params[j]? = some t → args[j]? = some v → Value.okWide Try.prog W .any base t v := hval0
  have hW' := hW
  obtain ⟨p, q, hA0, hV, rfl, hfz, hnd⟩ := hW
  have hA : DataW.TrodAll enc Try.prog W 0 (fun _ => true) true Try.f6.params.toList args.toList ds p := hA0
  rw [Try.params6] at hA hval
  obtain ⟨v0, vs0, d0, ds0, p0, q0, hargs, rfl, rfl, h0, r0⟩ := trodAll_cons hA
  obtain ⟨v1, vs1, d1, ds1, p1, q1, rfl, rfl, rfl, h1, r1⟩ := trodAll_cons r0
  obtain ⟨v2, vs2, d2, ds2, p2, q2, rfl, rfl, rfl, h2, r2⟩ := trodAll_cons r1
  obtain ⟨v3, vs3, d3, ds3, p3, q3, rfl, rfl, rfl, h3, r3⟩ := trodAll_cons r2
  obtain ⟨rfl, rfl, rfl⟩ := trodAll_nil r3
  obtain rfl : args = #[v0, v1, v2, v3] := by cases args; simp_all
  obtain ⟨rfl, rfl⟩ := trodVars_none hV
  obtain ⟨x0, ao0, ac0, bo0, bc0, rfl, hr0, ht0, hl0, hm0, hw0⟩ := open_Map (hval 0 24 v0 rfl rfl) h0
  obtain ⟨ao1, cap1, xs1, rfl, hl1, hr1, hw1⟩ := open_ControlS (hval 1 25 v1 rfl rfl) h1
  obtain ⟨x2, ao2, ac2, rfl, hr2, hl2, hw2⟩ := open_ScoreRule (hval 2 40 v2 rfl rfl) h2
  obtain ⟨a3, rfl, _, _, wa3⟩ := open_int Try.underlying3 (hval 3 3 v3 rfl rfl) h3
  refine (walk hr0 ht0 hl0 hm0 hr1 hl1 hw1 hr2 hl2 (I64.of_wf wa3)).mono fun e W' ⟨he, hx⟩ => ?_
  subst he
  exact ⟨_, rfl, law_post (by kernel_rfl) (by kernel_rfl) Try.underlying4 rfl rfl hW' rfl hx⟩

theorem holds : Rows.FnExactBestTourSaid :=
  OpenClaim.holds_of_wide 6 Try.f6 rfl rfl rfl rfl rfl rfl rfl ⟨rfl, rfl, rfl, rfl, rfl⟩ rfl rfl rfl rfl rfl (by kernel_rfl) Try.func6 (by kernel_rfl)
    (of_decide_eq_true (by kernel_rfl)) (by unfold Func.isWrapper; first | (rw [if_pos (by decide +kernel)]; kernel_rfl) | (rw [if_neg (by decide +kernel)]; exact ⟨rfl, rfl⟩))
    (fun os started H enc _ => lifted os started H enc)


end Go.Proofs.Ytidcfohlhamgmaa.BestTour
