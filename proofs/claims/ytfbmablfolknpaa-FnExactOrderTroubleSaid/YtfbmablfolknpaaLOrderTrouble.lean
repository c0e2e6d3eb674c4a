/-
  Proved here: the law FnExactOrderTrouble answers true for every input and leaves its arguments as they were.
  Conditions: none.
-/
import Derived.Test.YtfbmablfolknpaaCorr4
import Derived.Test.YtfbmablfolknpaaMCard
import Derived.Test.YtfbmablfolknpaaMClockMark
import Derived.Test.YtfbmablfolknpaaMarkInts
import Derived.Test.YtfbmablfolknpaaTouch
import Derived.Deep.RegionWith
import Derived.Deep.DeepCutAuto
namespace Go.Proofs.Ytfbmablfolknpaa.OrderTrouble
open Go.ChangeShapes Go.WideShapes Go.ChangeAt Go.RowKit

theorem list_len {x0 : CardD} {a1 : Int} {xs2 : List Mark} (_n0 : x0.ps.length ≤ 1048576)  (_n2 : xs2.length ≤ 1048576) : (otL x0 a1 xs2).length ≤ 1048577 := by have := otL_len x0 a1 xs2; omega

set_option maxRecDepth 100000 in
set_option maxHeartbeats 4000000 in
theorem walk {ao0 : Option Addr} {cap0 : Nat} {x0 : CardD} {a1 : Int} {ao2 : Option Addr} {cap2 : Nat} {xs2 : List Mark} {w : World} (h0 : RowAt w ao0 2 x0.ps.length (fun k => (nth x0.ps k).c)) (hn0 : x0.ps.length ≤ 9223372036854775807) (_hw0 : I64 x0.number ∧ I64 x0.start ∧ I64 x0.finish ∧ ∀ k, k < x0.ps.length → I64 (nth x0.ps k).code ∧ I64 (nth x0.ps k).time) (_hw1 : I64 a1) (h2 : RowAt w ao2 2 xs2.length (fun k => (nth xs2 k).c)) (hn2 : xs2.length ≤ 9223372036854775807) (_hw2 : ∀ k, k < xs2.length → I64 (nth xs2 k).shown ∧ I64 (nth xs2 k).real) :
    Calls Try.prog 5 #[x0.val ao0 cap0, .int .i64 a1, .slice ao2 xs2.length cap2] w fun e w' => e = .returned (.bool true) ∧ Ext w w' := by
  have hw0 : Ext w (w.alloc (Obj.cells #[.int .i64 x0.number, .int .i64 x0.start, .int .i64 x0.finish, .slice ao0 x0.ps.length cap0] 37)) := (Ext.refl _).alloc _
  have hsz0 := fun x => laws_szCard (w := x) (c := x0) (ao := ao0) (cap := cap0) (x := 1048576) hn0 (by decide) (by decide)
  unfold CardD.val at hsz0 ⊢
  have HSZ0 := Lib.hid hsz0; clear hsz0
  by_cases c0 : x0.ps.length ≤ 1048576
  · skip
    by_cases c2 : x0.ps.length + xs2.length ≤ 1048576
    · skip
      have m0 : x0.ps.length ≤ 1048576 := by omega
      have m2 : xs2.length ≤ 1048576 := by omega
      have hto0 := fun x hx => laws_toCard (w := x) (cap := cap0) (h0.ext hx) m0
      have hto2 := fun x hx => laws_toClockMarkS (w := x) (cap := cap2) (h2.ext hx) m2
      have hsp := fun x b0 b2 (h0 : RowAt x (some ⟨b0, 0, none⟩) 2 x0.ps.length (fun k => (nth x0.ps k).c)) (h2 : RowAt x (some ⟨b2, 0, none⟩) 2 xs2.length (fun k => (nth xs2 k).c)) => spec_OrderTrouble (w := x) (c := x0) (ad := ⟨b0, 0, none⟩) (cap := x0.ps.length) (code := a1) (ms := xs2) (mo := some ⟨b2, 0, none⟩) (mcap := xs2.length) h0 ⟨Nat.le_refl _, m0⟩ h2 m2
      have him := fun x b0 b2 (h0 : RowAt x (some ⟨b0, 0, none⟩) 2 x0.ps.length (fun k => (nth x0.ps k).c)) (h2 : RowAt x (some ⟨b2, 0, none⟩) 2 xs2.length (fun k => (nth xs2 k).c)) => impl_OrderTrouble (w := x) (c := x0) (ad := ⟨b0, 0, none⟩) (cap := x0.ps.length) (code := a1) (ms := xs2) (mo := some ⟨b2, 0, none⟩) (mcap := xs2.length) h0 ⟨Nat.le_refl _, m0⟩ h2 m2
      have heq0 := fun x b b' (hx : RowAt x (some ⟨b, 0, none⟩) 2 x0.ps.length (fun k => (nth x0.ps k).c)) (hy : RowAt x (some ⟨b', 0, none⟩) 2 x0.ps.length (fun k => (nth x0.ps k).c)) => laws_eqCard (w := x) (x := x0) (y := x0) (ao := some ⟨b, 0, none⟩) (bo := some ⟨b', 0, none⟩) (cap := x0.ps.length) (cap' := x0.ps.length) hx hy hn0 hn0
      rw [show x0.eqB x0 = true from (CardD.eqB_iff _ _).2 rfl] at heq0
      have hmk0 := fun x k b0 b cc (hx : FreshAt b0 x (some ⟨b, 0, none⟩) 2 x0.ps.length cc) (hk0 : 0 ≤ k) hk1 => laws_markCard (w := x) (c := x0) (cap := x0.ps.length) (k0 := k) hx (by omega) hk0 hk1
      have heqv2 : eqL Mark.eqB xs2 xs2 = true := (eqL_iff Mark.eqB_iff).2 rfl
      have hLl := list_len (x0 := x0) (a1 := a1) (xs2 := xs2) m0 m2
      have hone : eqL eqI (otL x0 a1 xs2) (otL x0 a1 xs2) = true := (eqL_iff eqI_iff).2 rfl
      generalize otL x0 a1 xs2 = R at *
      generalize corA x0 a1 xs2 = B at *
      have hL2 : R.length ≤ 9223372036854775807 := by omega
      have hL3 : R.length ≤ 1099511627776 := by omega
      unfold CardD.val at hto0 hsp him heq0 hmk0
      have HTO0 := Lib.hid hto0; clear hto0
      have HTO2 := Lib.hid hto2; clear hto2
      have HSP := Lib.hid hsp; clear hsp
      have HIM := Lib.hid him; clear him
      have HEQ0 := Lib.hid heq0; clear heq0
      have HMK0 := Lib.hid hmk0; clear hmk0
      have HEQV2 := Lib.hid heqv2; clear heqv2
      have HONE := Lib.hid hone; clear hone
      go_enter Try.func5, Try.ntmps5
      go_wp2_with fail
      refine (HSZ0.out _).mono ?_; rintro e ws0 ⟨rfl, hxs0⟩
      rw [show szI x0.ps.length (1048576 : Int) = 1048576 - (x0.ps.length : Int) by simp [szI]; omega]
      go_wp2_with fail
      refine (laws_szClockMarkS hn2 (by omega) (by omega)).mono ?_; rintro e ws2 ⟨rfl, rfl⟩
      rw [show szI xs2.length (1048576 - (x0.ps.length : Int) : Int) = (1048576 - (x0.ps.length : Int) : Int) - (xs2.length : Int) by simp [szI]; omega]
      have hy : Ext w ws0 := hw0.trans hxs0
      have bxA := BoxL.of hxs0
      clear hw0 hxs0
      have sbxA := bxA.1
      have sz_ := hy.size
      have qbxA0 := bxA.2 0 _ rfl
      have qbxA1 := bxA.2 1 _ rfl
      have qbxA2 := bxA.2 2 _ rfl
      have qbxA3 := bxA.2 3 _ rfl
      have zbxA := bxA.1
      go_wp2_with fail
      refine (HTO0.out _ hy).mono ?_; rintro e w1 ⟨s0, rfl, hx1, fs0⟩
      have hg1 := hx1
      replace bxA := bxA.ext hg1
      replace hy := hy.trans hg1
      have sz1 := hg1.size
      clear hg1
      have Os0 := In.of fs0; clear fs0
      clear hx1
      clear qbxA0 qbxA1 qbxA2 qbxA3 zbxA
      go_wp2_with fail
      refine (HTO2.out _ hy).mono ?_; rintro e w2 ⟨s2, rfl, hx2, fs2⟩
      have hg2 := hx2
      replace bxA := bxA.ext hg2
      replace Os0 := Os0.ext hg2
      replace hy := hy.trans hg2
      have sz2 := hg2.size
      clear hg2
      have Os2 := In.of fs2; clear fs2
      clear hx2
      go_wp2_with fail
      refine (HSP.out _ s0 s2 Os0.row Os2.row).mono ?_; rintro e w3 ⟨wo, wc, rfl, hx3, fW⟩
      have hg3 := hx3
      replace bxA := bxA.ext hg3
      replace Os0 := Os0.ext hg3
      replace Os2 := Os2.ext hg3
      replace hy := hy.trans hg3
      have sz3 := hg3.size
      clear hg3
      have OW := In.of fW; clear fW
      clear hx3
      clear Os0
      clear Os2
      have qbxA0 := bxA.2 0 _ rfl
      have qbxA1 := bxA.2 1 _ rfl
      have qbxA2 := bxA.2 2 _ rfl
      have qbxA3 := bxA.2 3 _ rfl
      have zbxA := bxA.1
      go_wp2_with fail
      refine (HTO0.out _ hy).mono ?_; rintro e w4 ⟨x0_, rfl, hx4, fx0⟩
      have hg4 := hx4
      replace bxA := bxA.ext hg4
      replace OW := OW.ext hg4
      replace hy := hy.trans hg4
      have sz4 := hg4.size
      clear hg4
      clear hx4
      clear qbxA0 qbxA1 qbxA2 qbxA3 zbxA
      have Ox0 := In.of fx0; clear fx0
      go_wp2_with fail
      refine (HTO2.out _ (hy.trans (by repeat (first | (with_reducible exact Ext.refl _) | (with_reducible assumption) | with_reducible refine Ext.drew ?_ | with_reducible refine Ext.alloc ?_ _ | with_reducible refine Ext.setCell ?_ (by first | (simp; done) | (simp; omega) | omega) _ | with_reducible refine Ext.trans ?_ (by with_reducible assumption))))).mono ?_; rintro e w5 ⟨x2_, rfl, hx5, fx2⟩
      have hg5 : Ext w4 w5 := (by repeat (first | (with_reducible exact Ext.refl _) | (with_reducible assumption) | with_reducible refine Ext.drew ?_ | with_reducible refine Ext.alloc ?_ _ | with_reducible refine Ext.setCell ?_ (by first | (simp; done) | (simp; omega) | omega) _ | with_reducible refine Ext.trans ?_ (by with_reducible assumption)))
      have bxX := BoxL.of hx5
      have sbxX := bxX.1
      replace bxA := bxA.ext hg5
      replace OW := OW.ext hg5
      replace Ox0 := Ox0.ext hg5
      replace hy := hy.trans hg5
      have sz5 := hg5.size
      clear hg5
      clear hx5
      rw [World.size_alloc] at fx2
      have Ox2 := In.of fx2; clear fx2
      have qbxX0 := bxX.2 0 _ rfl
      have qbxX1 := bxX.2 1 _ rfl
      have qbxX2 := bxX.2 2 _ rfl
      have qbxX3 := bxX.2 3 _ rfl
      have zbxX := bxX.1
      go_wp2_with fail
      refine (HIM.out _ x0_ x2_ Ox0.row Ox2.row).mono ?_; rintro e w6 ⟨go, gc, rfl, hx6, fG⟩
      have hg6 := hx6
      replace bxA := bxA.ext hg6
      replace bxX := bxX.ext hg6
      replace OW := OW.ext hg6
      replace Ox0 := Ox0.ext hg6
      replace Ox2 := Ox2.ext hg6
      replace hy := hy.trans hg6
      have sz6 := hg6.size
      clear hg6
      have OG := In.of fG; clear fG
      clear hx6
      clear qbxX0 qbxX1 qbxX2 qbxX3 zbxX
      go_wp2_with fail
      refine (laws_eqIntS OG.row OW.row hL2 hL2).mono ?_; rintro e w7 ⟨rfl, hx7⟩
      rw [HONE.out]
      have hg7 := hx7
      replace bxA := bxA.ext hg7
      replace bxX := bxX.ext hg7
      replace OW := OW.ext hg7
      replace Ox0 := Ox0.ext hg7
      replace Ox2 := Ox2.ext hg7
      replace OG := OG.ext hg7
      replace hy := hy.trans hg7
      have sz7 := hg7.size
      clear hg7
      clear hx7
      have qbxA0 := bxA.2 0 _ rfl
      have qbxA1 := bxA.2 1 _ rfl
      have qbxA2 := bxA.2 2 _ rfl
      have qbxA3 := bxA.2 3 _ rfl
      have zbxA := bxA.1
      have qbxX0 := bxX.2 0 _ rfl
      have qbxX1 := bxX.2 1 _ rfl
      have qbxX2 := bxX.2 2 _ rfl
      have qbxX3 := bxX.2 3 _ rfl
      have zbxX := bxX.1
      go_wp2_with fail
      go_cut [62] (fun v wc => v = .bool false ∧ Ext w7 wc)
      case first =>
        go_region_with (first
          | (go_at_call 18; refine (HTO0.out _ (hy.trans (by repeat (first | (with_reducible exact Ext.refl _) | (with_reducible assumption) | with_reducible refine Ext.drew ?_ | with_reducible refine Ext.alloc ?_ _ | with_reducible refine Ext.setCell ?_ (by first | (simp; done) | (simp; omega) | omega) _ | with_reducible refine Ext.trans ?_ (by with_reducible assumption))))).mono ?_; rintro e wa ⟨Ba, rfl, hxa, hFa⟩; have hca := Ext.cellr (Ext.trans (Ext.refl w7).drew hxa))
          | (go_at_call 20; refine (HEQ0.out _ _ _ (Ox0.row.ext (Ext.trans (Ext.refl w7).drew hxa)) hFa.row).mono ?_; rintro e wb ⟨rfl, hxb⟩))
        all_goals
          go_wp2_with fail
          go_meet
          exact ⟨rfl, (by repeat (first | (with_reducible exact Ext.refl _) | (with_reducible assumption) | with_reducible refine Ext.drew ?_ | with_reducible refine Ext.alloc ?_ _ | with_reducible refine Ext.setCell ?_ (by first | (simp; done) | (simp; omega) | omega) _ | with_reducible refine Ext.trans ?_ (by with_reducible assumption)))⟩
      case rest =>
      obtain ⟨rfl, hg8⟩ := hcut
      rename_i w8
      clear qbxA0 qbxA1 qbxA2 qbxA3 zbxA
      clear qbxX0 qbxX1 qbxX2 qbxX3 zbxX
      replace bxA := bxA.ext hg8
      replace bxX := bxX.ext hg8
      replace OW := OW.ext hg8
      replace Ox0 := Ox0.ext hg8
      replace Ox2 := Ox2.ext hg8
      replace OG := OG.ext hg8
      replace hy := hy.trans hg8
      have sz8 := hg8.size; clear hg8
      go_wp2_with fail
      refine (HTO2.out _ hy).mono ?_; rintro e w9 ⟨t2, rfl, hx9, ft2⟩
      have hg9 := hx9
      replace bxA := bxA.ext hg9
      replace bxX := bxX.ext hg9
      replace OW := OW.ext hg9
      replace Ox0 := Ox0.ext hg9
      replace Ox2 := Ox2.ext hg9
      replace OG := OG.ext hg9
      replace hy := hy.trans hg9
      have sz9 := hg9.size
      clear hg9
      have Ot2 := In.of ft2; clear ft2
      clear hx9
      go_wp2_with fail
      refine (laws_eqClockMarkS Ox2.row Ot2.row hn2 hn2).mono ?_; rintro e w10 ⟨rfl, hx10⟩
      rw [HEQV2.out]
      have hg10 := hx10
      replace bxA := bxA.ext hg10
      replace bxX := bxX.ext hg10
      replace OW := OW.ext hg10
      replace Ox0 := Ox0.ext hg10
      replace Ox2 := Ox2.ext hg10
      replace OG := OG.ext hg10
      replace Ot2 := Ot2.ext hg10
      replace hy := hy.trans hg10
      have sz10 := hg10.size
      clear hg10
      clear hx10
      clear Ot2
      have qbxX0 := bxX.2 0 _ rfl
      have qbxX1 := bxX.2 1 _ rfl
      have qbxX2 := bxX.2 2 _ rfl
      have qbxX3 := bxX.2 3 _ rfl
      have zbxX := bxX.1
      go_wp2_with fail
      refine (HMK0.out _ _ _ _ _ Ox0.fresh (by omega) (by omega)).mono ?_; rintro e w11 ⟨rfl, hgr11, _⟩
      have ht11 := Touch.span hgr11 Ox0.blk; clear hgr11
      replace bxA := bxA.touch ht11 (by omega)
      replace bxX := bxX.touch ht11 (by omega)
      replace OW := OW.touch ht11 (by omega)
      replace Ox2 := Ox2.touch ht11 (by omega)
      replace OG := OG.touch ht11 (by omega)
      replace hy := Touch.spanExt hy ht11 (by omega)
      have sz11 := ht11.size; clear ht11
      clear Ox0
      clear qbxX0 qbxX1 qbxX2 qbxX3 zbxX
      clear bxX
      go_wp2_with fail
      refine (laws_markClockMarkS Ox2.fresh (by omega) (by omega) (by omega)).mono ?_; rintro e w12 ⟨rfl, hgr12, _⟩
      have ht12 := Touch.span hgr12 Ox2.blk; clear hgr12
      replace bxA := bxA.touch ht12 (by omega)
      replace OW := OW.touch ht12 (by omega)
      replace OG := OG.touch ht12 (by omega)
      replace hy := Touch.spanExt hy ht12 (by omega)
      have sz12 := ht12.size; clear ht12
      clear Ox2
      go_wp2_with fail
      refine (laws_eqIntS OG.row OW.row hL2 hL2).mono ?_; rintro e w13 ⟨rfl, hx13⟩
      rw [HONE.out]
      have hg13 := hx13
      replace bxA := bxA.ext hg13
      replace OW := OW.ext hg13
      replace OG := OG.ext hg13
      replace hy := hy.trans hg13
      have sz13 := hg13.size
      clear hg13
      clear hx13
      go_wp2_with fail
      refine (laws_markIntS OG.fresh hL3 (by decide) (by decide)).mono ?_; rintro e w14 ⟨rfl, hgr14, fM⟩
      have ht14 := Touch.span hgr14 OG.blk; clear hgr14
      replace bxA := bxA.touch ht14 (by omega)
      replace OW := OW.touch ht14 (by omega)
      replace hy := Touch.spanExt hy ht14 (by omega)
      have sz14 := ht14.size; clear ht14
      clear OG
      have OM := fM.row; clear fM
      go_wp2_with fail
      refine (laws_heldIntS OM hL3 (by decide) (by decide)).mono ?_; rintro e w15 ⟨rfl, hx15⟩
      have hg15 := hx15
      replace bxA := bxA.ext hg15
      replace OW := OW.ext hg15
      replace OM := OM.ext hg15
      replace hy := hy.trans hg15
      have sz15 := hg15.size
      clear hg15
      clear hx15
      have qbxA0 := bxA.2 0 _ rfl
      have qbxA1 := bxA.2 1 _ rfl
      have qbxA2 := bxA.2 2 _ rfl
      have qbxA3 := bxA.2 3 _ rfl
      have zbxA := bxA.1
      go_wp2_with fail
      refine (HTO0.out _ hy).mono ?_; rintro e w16 ⟨u0, rfl, hx16, fu0⟩
      have hg16 := hx16
      replace bxA := bxA.ext hg16
      replace OW := OW.ext hg16
      replace OM := OM.ext hg16
      replace hy := hy.trans hg16
      have sz16 := hg16.size
      clear hg16
      have Ou0 := In.of fu0; clear fu0
      clear hx16
      clear qbxA0 qbxA1 qbxA2 qbxA3 zbxA
      go_wp2_with fail
      refine (HTO2.out _ hy).mono ?_; rintro e w17 ⟨u2, rfl, hx17, fu2⟩
      have hg17 := hx17
      replace bxA := bxA.ext hg17
      replace OW := OW.ext hg17
      replace OM := OM.ext hg17
      replace Ou0 := Ou0.ext hg17
      replace hy := hy.trans hg17
      have sz17 := hg17.size
      clear hg17
      have Ou2 := In.of fu2; clear fu2
      clear hx17
      go_wp2_with fail
      refine (HIM.out _ u0 u2 Ou0.row Ou2.row).mono ?_; rintro e w18 ⟨ho, hc, rfl, hx18, fH⟩
      have hg18 := hx18
      replace bxA := bxA.ext hg18
      replace OW := OW.ext hg18
      replace OM := OM.ext hg18
      replace Ou0 := Ou0.ext hg18
      replace Ou2 := Ou2.ext hg18
      replace hy := hy.trans hg18
      have sz18 := hg18.size
      clear hg18
      have OH := In.of fH; clear fH
      clear hx18
      go_wp2_with fail
      refine (laws_eqIntS OH.row OW.row hL2 hL2).mono ?_; rintro e w19 ⟨rfl, hx19⟩
      rw [HONE.out]
      have hg19 := hx19
      replace bxA := bxA.ext hg19
      replace OW := OW.ext hg19
      replace OM := OM.ext hg19
      replace Ou0 := Ou0.ext hg19
      replace Ou2 := Ou2.ext hg19
      replace OH := OH.ext hg19
      replace hy := hy.trans hg19
      have sz19 := hg19.size
      clear hg19
      clear hx19
      go_wp2_with fail
      refine (laws_heldIntS OM hL3 (by decide) (by decide)).mono ?_; rintro e w20 ⟨rfl, hx20⟩
      have hg20 := hx20
      replace bxA := bxA.ext hg20
      replace OW := OW.ext hg20
      replace OM := OM.ext hg20
      replace Ou0 := Ou0.ext hg20
      replace Ou2 := Ou2.ext hg20
      replace OH := OH.ext hg20
      replace hy := hy.trans hg20
      have sz20 := hg20.size
      clear hg20
      clear hx20
      go_wp2
      go_ret
      exact ⟨rfl, hy⟩
    · skip
      go_enter Try.func5, Try.ntmps5
      go_wp2_with fail
      refine (HSZ0.out _).mono ?_; rintro e ws0 ⟨rfl, hxs0⟩
      rw [show szI x0.ps.length (1048576 : Int) = 1048576 - (x0.ps.length : Int) by simp [szI]; omega]
      go_wp2_with fail
      refine (laws_szClockMarkS hn2 (by omega) (by omega)).mono ?_; rintro e ws2 ⟨rfl, rfl⟩
      rw [show szI xs2.length (1048576 - (x0.ps.length : Int) : Int) = -1 by simp [szI]; omega]
      go_wp2
      go_ret
      exact ⟨rfl, (by repeat (first | (with_reducible exact Ext.refl _) | (with_reducible assumption) | with_reducible refine Ext.drew ?_ | with_reducible refine Ext.alloc ?_ _ | with_reducible refine Ext.setCell ?_ (by first | (simp; done) | (simp; omega) | omega) _ | with_reducible refine Ext.trans ?_ (by with_reducible assumption)))⟩
  · skip
    go_enter Try.func5, Try.ntmps5
    go_wp2_with fail
    refine (HSZ0.out _).mono ?_; rintro e ws0 ⟨rfl, hxs0⟩
    rw [show szI x0.ps.length (1048576 : Int) = -1 by simp [szI]; omega]
    go_wp2
    go_ret
    exact ⟨rfl, (by repeat (first | (with_reducible exact Ext.refl _) | (with_reducible assumption) | with_reducible refine Ext.drew ?_ | with_reducible refine Ext.alloc ?_ _ | with_reducible refine Ext.setCell ?_ (by first | (simp; done) | (simp; omega) | omega) _ | with_reducible refine Ext.trans ?_ (by with_reducible assumption)))⟩

set_option maxRecDepth 100000 in
theorem lifted (os : Os) (started : os.Started) (H : Type) (enc : TypeId × Value → H) :
    ReturnsInHanded {} Try.checked os 5 .any (Rows.fnExactOrderTroubleSpec.pre6 enc Try.prog Try.f5 Rows.fnExactOrderTroubleRow.domain false) (Rows.fnExactOrderTroubleSpec.post enc Try.prog Try.f5 false true false false) := by
  refine returnsInHanded_of_change (C := Try.checked) (by kernel_rfl) started (by kernel_rfl) Try.func5
    (ChangeSpec.witness6 (enc := enc) (C := Try.checked) false ⟨#[], #[.agg #[.int .i64 0, .int .i64 0, .int .i64 0, .slice none 0 0], .int .i64 0, .slice none 0 0], []⟩ 8 (by kernel_rfl) (by kernel_rfl) (by kernel_rfl) (by kernel_rfl)) ?_
  intro W base args ds gs before hval0 hW _ _
  have hval : ∀ (j : Nat) t v, Try.f5.params[j]? = some t → args[j]? = some v → Value.okWide Try.prog W .any base t v := hval0
  have hW' := hW
  obtain ⟨p, q, hA0, hV, rfl, hfz, hnd⟩ := hW
  have hA : DataW.TrodAll enc Try.prog W 0 (fun _ => true) true Try.f5.params.toList args.toList ds p := hA0
  rw [Try.params5] at hA hval
  obtain ⟨v0, vs0, d0, ds0, p0, q0, hargs, rfl, rfl, h0, r0⟩ := trodAll_cons hA
  obtain ⟨v1, vs1, d1, ds1, p1, q1, rfl, rfl, rfl, h1, r1⟩ := trodAll_cons r0
  obtain ⟨v2, vs2, d2, ds2, p2, q2, rfl, rfl, rfl, h2, r2⟩ := trodAll_cons r1
  obtain ⟨rfl, rfl, rfl⟩ := trodAll_nil r2
  obtain rfl : args = #[v0, v1, v2] := by cases args; simp_all
  obtain ⟨rfl, rfl⟩ := trodVars_none hV
  obtain ⟨x0, ao0, cap0, rfl, hr0, hl0, hw0⟩ := open_Card (hval 0 37 v0 rfl rfl) h0
  obtain ⟨a1, rfl, _, _, wa1⟩ := open_int Try.underlying3 (hval 1 3 v1 rfl rfl) h1
  obtain ⟨ao2, cap2, xs2, rfl, hl2, hr2, hw2⟩ := open_ClockMarkS (hval 2 22 v2 rfl rfl) h2
  refine (walk hr0 hl0 hw0 (I64.of_wf wa1) hr2 hl2 hw2).mono fun e W' ⟨he, hx⟩ => ?_
  subst he
  exact ⟨_, rfl, law_post (by kernel_rfl) (by kernel_rfl) Try.underlying4 rfl rfl hW' rfl hx⟩

theorem holds : Rows.FnExactOrderTroubleSaid :=
  OpenClaim.holds_of_wide 5 Try.f5 rfl rfl rfl rfl rfl rfl rfl ⟨rfl, rfl, rfl, rfl, rfl⟩ rfl rfl rfl rfl rfl (by kernel_rfl) Try.func5 (by kernel_rfl)
    (of_decide_eq_true (by kernel_rfl)) (by unfold Func.isWrapper; first | (rw [if_pos (by decide +kernel)]; kernel_rfl) | (rw [if_neg (by decide +kernel)]; exact ⟨rfl, rfl⟩))
    (fun os started H enc _ => lifted os started H enc)
end Go.Proofs.Ytfbmablfolknpaa.OrderTrouble
