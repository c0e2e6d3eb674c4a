/-
  Proved here: the law FnExactMergeRepeats answers true for every input and leaves its arguments as they were.
  Conditions: none.
-/
import Derived.Test.YtbpcejdpgckkoaaCards9
import Derived.Test.YtbpcejdpgckkoaaMCard
import Derived.Test.YtbpcejdpgckkoaaTouch
import Derived.Deep.RegionWith
import Derived.Deep.DeepCutAuto
namespace Go.Proofs.Ytbpcejdpgckkoaa.MergeRepeats
open Go.ChangeShapes Go.WideShapes Go.ChangeAt Go.RowKit

theorem list_len {x0 : CardD} (_n0 : x0.ps.length ≤ 1048576) : (mrC x0).ps.length ≤ 1048577 := by have := mrC_len x0; omega

set_option maxRecDepth 100000 in
set_option maxHeartbeats 4000000 in
theorem walk {ao0 : Option Addr} {cap0 : Nat} {x0 : CardD} {w : World} (h0 : RowAt w ao0 2 x0.ps.length (fun k => (nth x0.ps k).c)) (hn0 : x0.ps.length ≤ 9223372036854775807) (_hw0 : I64 x0.number ∧ I64 x0.start ∧ I64 x0.finish ∧ ∀ k, k < x0.ps.length → I64 (nth x0.ps k).code ∧ I64 (nth x0.ps k).time) :
    Calls Try.prog 6 #[x0.val ao0 cap0] w fun e w' => e = .returned (.bool true) ∧ Ext w w' := by
  have hw0 : Ext w (w.alloc (Obj.cells #[.int .i64 x0.number, .int .i64 x0.start, .int .i64 x0.finish, .slice ao0 x0.ps.length cap0] 24)) := (Ext.refl _).alloc _
  have hsz0 := fun x => laws_szCard (w := x) (c := x0) (ao := ao0) (cap := cap0) (x := 1048576) hn0 (by decide) (by decide)
  unfold CardD.val at hsz0 ⊢
  have HSZ0 := Lib.hid hsz0; clear hsz0
  by_cases c0 : x0.ps.length ≤ 1048576
  · skip
    have m0 : x0.ps.length ≤ 1048576 := by omega
    have hto0 := fun x hx => laws_toCard (w := x) (cap := cap0) (h0.ext hx) m0
    have hsp := fun x b0 (h0 : RowAt x (some ⟨b0, 0, none⟩) 2 x0.ps.length (fun k => (nth x0.ps k).c)) => spec_MergeRepeats (w := x) (c := x0) (ao := some ⟨b0, 0, none⟩) (cap := x0.ps.length) h0 hn0
    have him := fun x b0 (h0 : RowAt x (some ⟨b0, 0, none⟩) 2 x0.ps.length (fun k => (nth x0.ps k).c)) => impl_MergeRepeats (w := x) (c := x0) (ao := some ⟨b0, 0, none⟩) (cap := x0.ps.length) h0 hn0
    have heq0 := fun x b b' (hx : RowAt x (some ⟨b, 0, none⟩) 2 x0.ps.length (fun k => (nth x0.ps k).c)) (hy : RowAt x (some ⟨b', 0, none⟩) 2 x0.ps.length (fun k => (nth x0.ps k).c)) => laws_eqCard (w := x) (x := x0) (y := x0) (ao := some ⟨b, 0, none⟩) (bo := some ⟨b', 0, none⟩) (cap := x0.ps.length) (cap' := x0.ps.length) hx hy hn0 hn0
    rw [show x0.eqB x0 = true from (CardD.eqB_iff _ _).2 rfl] at heq0
    have hmk0 := fun x k b0 b cc (hx : FreshAt b0 x (some ⟨b, 0, none⟩) 2 x0.ps.length cc) (hk0 : 0 ≤ k) hk1 => laws_markCard (w := x) (c := x0) (cap := x0.ps.length) (k0 := k) hx (by omega) hk0 hk1
    have hLl := list_len (x0 := x0) m0
    have hone : (mrC x0).eqB (mrC x0) = true := (CardD.eqB_iff _ _).2 rfl
    generalize mrC x0 = R at *
    generalize cardB x0 = B at *
    have hL2 : R.ps.length ≤ 9223372036854775807 := by omega
    have hL3 : R.ps.length ≤ 1099511627776 := by omega
    have heqR := fun x go gc bo bc (hx : RowAt x go 2 R.ps.length (fun k => (nth R.ps k).c)) (hy : RowAt x bo 2 R.ps.length (fun k => (nth R.ps k).c)) => laws_eqCard (w := x) (x := R) (y := R) (ao := go) (bo := bo) (cap := gc) (cap' := bc) hx hy hL2 hL2
    rw [hone] at heqR
    have hmkR := fun x b0 go gc cc (hx : FreshAt b0 x go 2 R.ps.length cc) => laws_markCard (w := x) (c := R) (cap := gc) (k0 := 1) hx hL3 (by decide) (by decide)
    have hhdR := fun x go gc (hx : RowAt x go 2 R.ps.length (mkPch 1)) => laws_heldCard (w := x) (c := R) (ao := go) (cap := gc) (k0 := 1) hx hL3 (by decide) (by decide)
    unfold CardD.val at hto0 hsp him heq0 hmk0 heqR hmkR hhdR
    have HTO0 := Lib.hid hto0; clear hto0
    have HSP := Lib.hid hsp; clear hsp
    have HIM := Lib.hid him; clear him
    have HEQ0 := Lib.hid heq0; clear heq0
    have HMK0 := Lib.hid hmk0; clear hmk0
    have HEQR := Lib.hid heqR; clear heqR
    have HMKR := Lib.hid hmkR; clear hmkR
    have HHDR := Lib.hid hhdR; clear hhdR
    have HONE := Lib.hid hone; clear hone
    go_enter Try.func6, Try.ntmps6
    go_wp2_with fail
    refine (HSZ0.out _).mono ?_; rintro e ws0 ⟨rfl, hxs0⟩
    rw [show szI x0.ps.length (1048576 : Int) = 1048576 - (x0.ps.length : Int) by simp [szI]; omega]
    have hy : Ext w ws0 := hw0.trans hxs0
    have bxA := BoxL.of hxs0
    clear hw0 hxs0
    have sz_ := hy.size
    have qbxA0 := bxA.2 0 _ rfl
    have qbxA1 := bxA.2 1 _ rfl
    have qbxA2 := bxA.2 2 _ rfl
    have qbxA3 := bxA.2 3 _ rfl
    have zbxA := bxA.1
    go_wp2_with fail
    refine (HTO0.out _ hy).mono ?_; rintro e w1 ⟨s0, rfl, hx1, fs0⟩
    have hg1 := hx1
    replace bxA := bxA.ext hg1
    replace hy := hy.trans hg1
    have sz1 := hg1.size
    clear hg1
    have Os0 := In.of fs0; clear fs0
    clear hx1
    clear qbxA0 qbxA1 qbxA2 qbxA3 zbxA
    go_wp2_with fail
    refine (HSP.out _ s0 Os0.row).mono ?_; rintro e w2 ⟨wo, wc, rfl, hx2, fW⟩
    have hg2 := hx2
    replace bxA := bxA.ext hg2
    replace Os0 := Os0.ext hg2
    replace hy := hy.trans hg2
    have sz2 := hg2.size
    clear hg2
    have OW := In.of fW; clear fW
    clear hx2
    clear Os0
    have qbxA0 := bxA.2 0 _ rfl
    have qbxA1 := bxA.2 1 _ rfl
    have qbxA2 := bxA.2 2 _ rfl
    have qbxA3 := bxA.2 3 _ rfl
    have zbxA := bxA.1
    go_wp2_with fail
    refine (HTO0.out _ (hy.trans (by repeat (first | (with_reducible exact Ext.refl _) | (with_reducible assumption) | with_reducible refine Ext.drew ?_ | with_reducible refine Ext.alloc ?_ _ | with_reducible refine Ext.setCell ?_ (by first | (simp; done) | (simp; omega) | omega) _ | with_reducible refine Ext.trans ?_ (by with_reducible assumption))))).mono ?_; rintro e w3 ⟨x0_, rfl, hx3, fx0⟩
    have hg3 : Ext w2 w3 := (by repeat (first | (with_reducible exact Ext.refl _) | (with_reducible assumption) | with_reducible refine Ext.drew ?_ | with_reducible refine Ext.alloc ?_ _ | with_reducible refine Ext.setCell ?_ (by first | (simp; done) | (simp; omega) | omega) _ | with_reducible refine Ext.trans ?_ (by with_reducible assumption)))
    have bxW := BoxL.of hx3
    replace bxA := bxA.ext hg3
    replace OW := OW.ext hg3
    replace hy := hy.trans hg3
    have sz3 := hg3.size
    clear hg3
    clear hx3
    rw [World.size_alloc] at fx0
    clear qbxA0 qbxA1 qbxA2 qbxA3 zbxA
    have Ox0 := In.of fx0; clear fx0
    go_wp2_with fail
    refine (HIM.out _ x0_ (Ox0.row.ext (by repeat (first | (with_reducible exact Ext.refl _) | (with_reducible assumption) | with_reducible refine Ext.drew ?_ | with_reducible refine Ext.alloc ?_ _ | with_reducible refine Ext.setCell ?_ (by first | (simp; done) | (simp; omega) | omega) _ | with_reducible refine Ext.trans ?_ (by with_reducible assumption))))).mono ?_; rintro e w4 ⟨go, gc, rfl, hx4, fG⟩
    have hg4 : Ext w3 w4 := (by repeat (first | (with_reducible exact Ext.refl _) | (with_reducible assumption) | with_reducible refine Ext.drew ?_ | with_reducible refine Ext.alloc ?_ _ | with_reducible refine Ext.setCell ?_ (by first | (simp; done) | (simp; omega) | omega) _ | with_reducible refine Ext.trans ?_ (by with_reducible assumption)))
    have bxX := BoxL.of hx4
    replace bxA := bxA.ext hg4
    replace bxW := bxW.ext hg4
    replace OW := OW.ext hg4
    replace Ox0 := Ox0.ext hg4
    replace hy := hy.trans hg4
    have sz4 := hg4.size
    clear hg4
    rw [World.size_alloc] at fG
    have OG := In.of fG; clear fG
    clear hx4
    have qbxW0 := bxW.2 0 _ rfl
    have qbxW1 := bxW.2 1 _ rfl
    have qbxW2 := bxW.2 2 _ rfl
    have qbxW3 := bxW.2 3 _ rfl
    have zbxW := bxW.1
    go_wp2_with fail
    refine (HEQR.out _ _ _ _ _ (OG.row.ext (by repeat (first | (with_reducible exact Ext.refl _) | (with_reducible assumption) | with_reducible refine Ext.drew ?_ | with_reducible refine Ext.alloc ?_ _ | with_reducible refine Ext.setCell ?_ (by first | (simp; done) | (simp; omega) | omega) _ | with_reducible refine Ext.trans ?_ (by with_reducible assumption)))) (OW.row.ext (by repeat (first | (with_reducible exact Ext.refl _) | (with_reducible assumption) | with_reducible refine Ext.drew ?_ | with_reducible refine Ext.alloc ?_ _ | with_reducible refine Ext.setCell ?_ (by first | (simp; done) | (simp; omega) | omega) _ | with_reducible refine Ext.trans ?_ (by with_reducible assumption))))).mono ?_; rintro e w5 ⟨rfl, hx5⟩
    have hg5 : Ext w4 w5 := (by repeat (first | (with_reducible exact Ext.refl _) | (with_reducible assumption) | with_reducible refine Ext.drew ?_ | with_reducible refine Ext.alloc ?_ _ | with_reducible refine Ext.setCell ?_ (by first | (simp; done) | (simp; omega) | omega) _ | with_reducible refine Ext.trans ?_ (by with_reducible assumption)))
    have bxG := BoxL.of hx5
    replace bxA := bxA.ext hg5
    replace bxW := bxW.ext hg5
    replace bxX := bxX.ext hg5
    replace OW := OW.ext hg5
    replace Ox0 := Ox0.ext hg5
    replace OG := OG.ext hg5
    replace hy := hy.trans hg5
    have sz5 := hg5.size
    clear hg5
    clear hx5
    clear qbxW0 qbxW1 qbxW2 qbxW3 zbxW
    have qbxA0 := bxA.2 0 _ rfl
    have qbxA1 := bxA.2 1 _ rfl
    have qbxA2 := bxA.2 2 _ rfl
    have qbxA3 := bxA.2 3 _ rfl
    have zbxA := bxA.1
    have qbxX0 := bxX.2 0 _ rfl
    have qbxX1 := bxX.2 1 _ rfl
    have qbxX2 := bxX.2 2 _ rfl
    have qbxX3 := bxX.2 3 _ rfl
    have zbxX := bxX.1
    go_wp2_with fail
    go_cut [45] (fun v wc => v = .bool false ∧ Ext w5 wc)
    case first =>
      go_region_with (first
        | (go_at_call 12; refine (HTO0.out _ (hy.trans (by repeat (first | (with_reducible exact Ext.refl _) | (with_reducible assumption) | with_reducible refine Ext.drew ?_ | with_reducible refine Ext.alloc ?_ _ | with_reducible refine Ext.setCell ?_ (by first | (simp; done) | (simp; omega) | omega) _ | with_reducible refine Ext.trans ?_ (by with_reducible assumption))))).mono ?_; rintro e wa ⟨Ba, rfl, hxa, hFa⟩; have hca := Ext.cellr (Ext.trans (Ext.refl w5).drew hxa))
        | (go_at_call 16; refine (HEQ0.out _ _ _ (Ox0.row.ext (Ext.trans (Ext.refl w5).drew hxa)) hFa.row).mono ?_; rintro e wb ⟨rfl, hxb⟩))
      all_goals
        go_wp2_with fail
        go_meet
        exact ⟨rfl, (by repeat (first | (with_reducible exact Ext.refl _) | (with_reducible assumption) | with_reducible refine Ext.drew ?_ | with_reducible refine Ext.alloc ?_ _ | with_reducible refine Ext.setCell ?_ (by first | (simp; done) | (simp; omega) | omega) _ | with_reducible refine Ext.trans ?_ (by with_reducible assumption)))⟩
    case rest =>
    obtain ⟨rfl, hg6⟩ := hcut
    rename_i w6
    clear qbxA0 qbxA1 qbxA2 qbxA3 zbxA
    clear qbxX0 qbxX1 qbxX2 qbxX3 zbxX
    replace bxA := bxA.ext hg6
    replace bxW := bxW.ext hg6
    replace bxX := bxX.ext hg6
    replace bxG := bxG.ext hg6
    replace OW := OW.ext hg6
    replace Ox0 := Ox0.ext hg6
    replace OG := OG.ext hg6
    replace hy := hy.trans hg6
    have sz6 := hg6.size; clear hg6
    have qbxX0 := bxX.2 0 _ rfl
    have qbxX1 := bxX.2 1 _ rfl
    have qbxX2 := bxX.2 2 _ rfl
    have qbxX3 := bxX.2 3 _ rfl
    have zbxX := bxX.1
    go_wp2_with fail
    refine (HMK0.out _ _ _ _ _ Ox0.fresh (by omega) (by omega)).mono ?_; rintro e w7 ⟨rfl, hgr7, _⟩
    have ht7 := Touch.span hgr7 Ox0.blk; clear hgr7
    replace bxA := bxA.touch ht7 (by omega)
    replace bxW := bxW.touch ht7 (by omega)
    replace bxX := bxX.touch ht7 (by omega)
    replace bxG := bxG.touch ht7 (by omega)
    replace OW := OW.touch ht7 (by omega)
    replace OG := OG.touch ht7 (by omega)
    replace hy := Touch.spanExt hy ht7 (by omega)
    have sz7 := ht7.size; clear ht7
    clear Ox0
    clear qbxX0 qbxX1 qbxX2 qbxX3 zbxX
    clear bxX
    have qbxW0 := bxW.2 0 _ rfl
    have qbxW1 := bxW.2 1 _ rfl
    have qbxW2 := bxW.2 2 _ rfl
    have qbxW3 := bxW.2 3 _ rfl
    have zbxW := bxW.1
    have qbxG0 := bxG.2 0 _ rfl
    have qbxG1 := bxG.2 1 _ rfl
    have qbxG2 := bxG.2 2 _ rfl
    have qbxG3 := bxG.2 3 _ rfl
    have zbxG := bxG.1
    go_wp2_with fail
    refine (HEQR.out _ _ _ _ _ OG.row OW.row).mono ?_; rintro e w8 ⟨rfl, hx8⟩
    have hg8 := hx8
    replace bxA := bxA.ext hg8
    replace bxW := bxW.ext hg8
    replace bxG := bxG.ext hg8
    replace OW := OW.ext hg8
    replace OG := OG.ext hg8
    replace hy := hy.trans hg8
    have sz8 := hg8.size
    clear hg8
    clear hx8
    clear qbxW0 qbxW1 qbxW2 qbxW3 zbxW
    clear qbxG0 qbxG1 qbxG2 qbxG3 zbxG
    have qbxG0 := bxG.2 0 _ rfl
    have qbxG1 := bxG.2 1 _ rfl
    have qbxG2 := bxG.2 2 _ rfl
    have qbxG3 := bxG.2 3 _ rfl
    have zbxG := bxG.1
    go_wp2_with fail
    refine (HMKR.out _ _ _ _ _ OG.fresh).mono ?_; rintro e w9 ⟨rfl, hgr9, fM⟩
    have ht9 := Touch.span hgr9 OG.blk; clear hgr9
    replace bxA := bxA.touch ht9 (by omega)
    replace bxW := bxW.touch ht9 (by omega)
    replace bxG := bxG.touch ht9 (by omega)
    replace OW := OW.touch ht9 (by omega)
    replace hy := Touch.spanExt hy ht9 (by omega)
    have sz9 := ht9.size; clear ht9
    clear OG
    have OM := fM.row; clear fM
    clear qbxG0 qbxG1 qbxG2 qbxG3 zbxG
    have qbxG0 := bxG.2 0 _ rfl
    have qbxG1 := bxG.2 1 _ rfl
    have qbxG2 := bxG.2 2 _ rfl
    have qbxG3 := bxG.2 3 _ rfl
    have zbxG := bxG.1
    go_wp2_with fail
    refine (HHDR.out _ _ _ OM).mono ?_; rintro e w10 ⟨rfl, hx10⟩
    have hg10 := hx10
    replace bxA := bxA.ext hg10
    replace bxW := bxW.ext hg10
    replace bxG := bxG.ext hg10
    replace OW := OW.ext hg10
    replace OM := OM.ext hg10
    replace hy := hy.trans hg10
    have sz10 := hg10.size
    clear hg10
    clear hx10
    clear qbxG0 qbxG1 qbxG2 qbxG3 zbxG
    have qbxA0 := bxA.2 0 _ rfl
    have qbxA1 := bxA.2 1 _ rfl
    have qbxA2 := bxA.2 2 _ rfl
    have qbxA3 := bxA.2 3 _ rfl
    have zbxA := bxA.1
    go_wp2_with fail
    refine (HTO0.out _ hy).mono ?_; rintro e w11 ⟨u0, rfl, hx11, fu0⟩
    have hg11 := hx11
    replace bxA := bxA.ext hg11
    replace bxW := bxW.ext hg11
    replace bxG := bxG.ext hg11
    replace OW := OW.ext hg11
    replace OM := OM.ext hg11
    replace hy := hy.trans hg11
    have sz11 := hg11.size
    clear hg11
    have Ou0 := In.of fu0; clear fu0
    clear hx11
    clear qbxA0 qbxA1 qbxA2 qbxA3 zbxA
    go_wp2_with fail
    refine (HIM.out _ u0 Ou0.row).mono ?_; rintro e w12 ⟨ho, hc, rfl, hx12, fH⟩
    have hg12 := hx12
    replace bxA := bxA.ext hg12
    replace bxW := bxW.ext hg12
    replace bxG := bxG.ext hg12
    replace OW := OW.ext hg12
    replace OM := OM.ext hg12
    replace Ou0 := Ou0.ext hg12
    replace hy := hy.trans hg12
    have sz12 := hg12.size
    clear hg12
    have OH := In.of fH; clear fH
    clear hx12
    have qbxW0 := bxW.2 0 _ rfl
    have qbxW1 := bxW.2 1 _ rfl
    have qbxW2 := bxW.2 2 _ rfl
    have qbxW3 := bxW.2 3 _ rfl
    have zbxW := bxW.1
    go_wp2_with fail
    refine (HEQR.out _ _ _ _ _ (OH.row.ext (by repeat (first | (with_reducible exact Ext.refl _) | (with_reducible assumption) | with_reducible refine Ext.drew ?_ | with_reducible refine Ext.alloc ?_ _ | with_reducible refine Ext.setCell ?_ (by first | (simp; done) | (simp; omega) | omega) _ | with_reducible refine Ext.trans ?_ (by with_reducible assumption)))) (OW.row.ext (by repeat (first | (with_reducible exact Ext.refl _) | (with_reducible assumption) | with_reducible refine Ext.drew ?_ | with_reducible refine Ext.alloc ?_ _ | with_reducible refine Ext.setCell ?_ (by first | (simp; done) | (simp; omega) | omega) _ | with_reducible refine Ext.trans ?_ (by with_reducible assumption))))).mono ?_; rintro e w13 ⟨rfl, hx13⟩
    have hg13 : Ext w12 w13 := (by repeat (first | (with_reducible exact Ext.refl _) | (with_reducible assumption) | with_reducible refine Ext.drew ?_ | with_reducible refine Ext.alloc ?_ _ | with_reducible refine Ext.setCell ?_ (by first | (simp; done) | (simp; omega) | omega) _ | with_reducible refine Ext.trans ?_ (by with_reducible assumption)))
    have bxH := BoxL.of hx13
    replace bxA := bxA.ext hg13
    replace bxW := bxW.ext hg13
    replace bxG := bxG.ext hg13
    replace OW := OW.ext hg13
    replace OM := OM.ext hg13
    replace Ou0 := Ou0.ext hg13
    replace OH := OH.ext hg13
    replace hy := hy.trans hg13
    have sz13 := hg13.size
    clear hg13
    clear hx13
    clear qbxW0 qbxW1 qbxW2 qbxW3 zbxW
    have qbxG0 := bxG.2 0 _ rfl
    have qbxG1 := bxG.2 1 _ rfl
    have qbxG2 := bxG.2 2 _ rfl
    have qbxG3 := bxG.2 3 _ rfl
    have zbxG := bxG.1
    go_wp2_with fail
    refine (HHDR.out _ _ _ OM).mono ?_; rintro e w14 ⟨rfl, hx14⟩
    have hg14 := hx14
    replace bxA := bxA.ext hg14
    replace bxW := bxW.ext hg14
    replace bxG := bxG.ext hg14
    replace bxH := bxH.ext hg14
    replace OW := OW.ext hg14
    replace OM := OM.ext hg14
    replace Ou0 := Ou0.ext hg14
    replace OH := OH.ext hg14
    replace hy := hy.trans hg14
    have sz14 := hg14.size
    clear hg14
    clear hx14
    clear qbxG0 qbxG1 qbxG2 qbxG3 zbxG
    go_wp2
    go_ret
    exact ⟨rfl, hy⟩
  · skip
    go_enter Try.func6, Try.ntmps6
    go_wp2_with fail
    refine (HSZ0.out _).mono ?_; rintro e ws0 ⟨rfl, hxs0⟩
    rw [show szI x0.ps.length (1048576 : Int) = -1 by simp [szI]; omega]
    go_wp2
    go_ret
    exact ⟨rfl, (by repeat (first | (with_reducible exact Ext.refl _) | (with_reducible assumption) | with_reducible refine Ext.drew ?_ | with_reducible refine Ext.alloc ?_ _ | with_reducible refine Ext.setCell ?_ (by first | (simp; done) | (simp; omega) | omega) _ | with_reducible refine Ext.trans ?_ (by with_reducible assumption)))⟩

set_option maxRecDepth 100000 in
theorem lifted (os : Os) (started : os.Started) (H : Type) (enc : TypeId × Value → H) :
    ReturnsInHanded {} Try.checked os 6 .any (Rows.fnExactMergeRepeatsSpec.pre6 enc Try.prog Try.f6 Rows.fnExactMergeRepeatsRow.domain false) (Rows.fnExactMergeRepeatsSpec.post enc Try.prog Try.f6 false true false false) := by
  refine returnsInHanded_of_change (C := Try.checked) (by kernel_rfl) started (by kernel_rfl) Try.func6
    (ChangeSpec.witness6 (enc := enc) (C := Try.checked) false ⟨#[], #[.agg #[.int .i64 0, .int .i64 0, .int .i64 0, .slice none 0 0]], []⟩ 8 (by kernel_rfl) (by kernel_rfl) (by kernel_rfl) (by kernel_rfl)) ?_
  intro W base args ds gs before hval0 hW _ _
  have hval : ∀ (j : Nat) t v, Try.f6.params[j]? = some t → args[j]? = some v → Value.okWide Try.prog W .any base t v := hval0
  have hW' := hW
  obtain ⟨p, q, hA0, hV, rfl, hfz, hnd⟩ := hW
  have hA : DataW.TrodAll enc Try.prog W 0 (fun _ => true) true Try.f6.params.toList args.toList ds p := hA0
  rw [Try.params6] at hA hval
  obtain ⟨v0, vs0, d0, ds0, p0, q0, hargs, rfl, rfl, h0, r0⟩ := trodAll_cons hA
  obtain ⟨rfl, rfl, rfl⟩ := trodAll_nil r0
  obtain rfl : args = #[v0] := by cases args; simp_all
  obtain ⟨rfl, rfl⟩ := trodVars_none hV
  obtain ⟨x0, ao0, cap0, rfl, hr0, hl0, hw0⟩ := open_Card (hval 0 24 v0 rfl rfl) h0
  refine (walk hr0 hl0 hw0).mono fun e W' ⟨he, hx⟩ => ?_
  subst he
  exact ⟨_, rfl, law_post (by kernel_rfl) (by kernel_rfl) Try.underlying4 rfl rfl hW' rfl hx⟩

theorem holds : Rows.FnExactMergeRepeatsSaid :=
  OpenClaim.holds_of_wide 6 Try.f6 rfl rfl rfl rfl rfl rfl rfl ⟨rfl, rfl, rfl, rfl, rfl⟩ rfl rfl rfl rfl rfl (by kernel_rfl) Try.func6 (by kernel_rfl)
    (of_decide_eq_true (by kernel_rfl)) (by unfold Func.isWrapper; first | (rw [if_pos (by decide +kernel)]; kernel_rfl) | (rw [if_neg (by decide +kernel)]; exact ⟨rfl, rfl⟩))
    (fun os started H enc _ => lifted os started H enc)
end Go.Proofs.Ytbpcejdpgckkoaa.MergeRepeats
