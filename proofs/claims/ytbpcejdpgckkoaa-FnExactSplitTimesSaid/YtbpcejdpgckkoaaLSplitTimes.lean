/-
  Proved here: the law FnExactSplitTimes answers true for every input and leaves its arguments as they were.
  Conditions: none.
-/
import Derived.Test.YtbpcejdpgckkoaaCards7
import Derived.Test.YtbpcejdpgckkoaaMCard
import Derived.Test.YtbpcejdpgckkoaaMarkInts
import Derived.Test.YtbpcejdpgckkoaaOwn3
import Derived.Test.YtbpcejdpgckkoaaTIntS
import Derived.Deep.RegionWith
import Derived.Deep.DeepCutAuto
namespace Go.Proofs.Ytbpcejdpgckkoaa.SplitTimes
open Go.ChangeShapes Go.WideShapes Go.ChangeAt Go.RowKit

theorem list_len {c : CardD} {cs : List Int} : (spL c cs).length ≤ 1048577 := by have := spL_len c cs; omega

set_option maxRecDepth 100000 in
set_option maxHeartbeats 4000000 in
theorem walk {c : CardD} {ao : Option Addr} {cap : Nat} {bo : Option Addr} {cap' : Nat} {cs : List Int} {w : World} (h : RowAt w ao 2 c.ps.length (fun k => (nth c.ps k).c)) (hn : c.ps.length ≤ 9223372036854775807)
    (_hw : I64 c.number ∧ I64 c.start ∧ I64 c.finish ∧ ∀ k, k < c.ps.length → I64 (nth c.ps k).code ∧ I64 (nth c.ps k).time)
    (h' : RowAt w bo 1 cs.length (ic cs)) (hn' : cs.length ≤ 9223372036854775807) (_hw' : (∀ k, k < cs.length → I64 (nth cs k)) ∧ cs.length ≤ cap') :
    Calls Try.prog 7 #[c.val ao cap, .slice bo cs.length cap'] w fun e w' => e = .returned (.bool true) ∧ Ext w w' := by
  obtain ⟨box, hbox⟩ : ∃ o, o = Obj.cells #[.int .i64 c.number, .int .i64 c.start, .int .i64 c.finish, .slice ao c.ps.length cap] 24 := ⟨_, rfl⟩
  have hw0 : Ext w (w.alloc box) := (Ext.refl _).alloc _
  by_cases hle' : cs.length ≤ 1048576
  · have hsz := fun x => laws_szCard (w := x) (c := c) (ao := ao) (cap := cap) (x := 1048576) hn (by decide) (by decide)
    by_cases hle : c.ps.length ≤ 1048576
    · have hto := fun x hx => laws_toCard (w := x) (cap := cap) (h.ext hx) hle
      have hti := fun x hx => laws_toIntS (w := x) (cap := cap') (h'.ext hx) hle'
      have hsp := fun x b b' (hx : RowAt x (some ⟨b, 0, none⟩) 2 c.ps.length (fun k => (nth c.ps k).c)) hy => spec_SplitTimes (w := x) (c := c) (b0 := b) (off0 := 0) (cap := c.ps.length) (bo := some ⟨b', 0, none⟩) (bcap := cs.length) (cs := cs) hx ⟨Nat.le_refl _, hle⟩ hy hle'
      have him := fun x b b' (hx : RowAt x (some ⟨b, 0, none⟩) 2 c.ps.length (fun k => (nth c.ps k).c)) hy => impl_SplitTimes (w := x) (c := c) (b0 := b) (off0 := 0) (cap := c.ps.length) (bo := some ⟨b', 0, none⟩) (bcap := cs.length) (cs := cs) hx ⟨Nat.le_refl _, hle⟩ hy hle'
      have hmk := fun x b0 b cc (hx : FreshAt b0 x (some ⟨b, 0, none⟩) 2 c.ps.length cc) => laws_markCard (w := x) (c := c) (cap := c.ps.length) (k0 := 1) hx (by omega) (by decide) (by decide)
      have heq := fun x b b' (hx : RowAt x (some ⟨b, 0, none⟩) 2 c.ps.length (fun k => (nth c.ps k).c)) hy => laws_eqCard (w := x) (x := c) (y := c) (ao := some ⟨b, 0, none⟩) (bo := some ⟨b', 0, none⟩) (cap := c.ps.length) (cap' := c.ps.length) hx hy hn hn
      have hce : c.eqB c = true := (CardD.eqB_iff c c).2 rfl
      have hLl := list_len (c := c) (cs := cs)
      have hone : eqL eqI (spL c cs) (spL c cs) = true := (eqL_iff eqI_iff).2 rfl
      have hcs : eqL eqI cs cs = true := (eqL_iff eqI_iff).2 rfl
      generalize spL c cs = L at *
      generalize spB c cs = B at *
      have hL2 : L.length ≤ 9223372036854775807 := by omega
      have hL3 : L.length ≤ 1099511627776 := by omega
      rw [hce] at heq
      clear hce
      unfold CardD.val at hsz hto hsp him hmk heq ⊢
      have HTO := Lib.hid hto; clear hto
      have HTI := Lib.hid hti; clear hti
      have HSP := Lib.hid hsp; clear hsp
      have HIM := Lib.hid him; clear him
      have HMK := Lib.hid hmk; clear hmk
      have HEQ := Lib.hid heq; clear heq
      have HONE := Lib.hid hone; clear hone
      have HCS := Lib.hid hcs; clear hcs
      subst hbox
      go_enter Try.func7, Try.ntmps7
      go_wp2_with fail
      refine (hsz _).mono ?_; rintro e w1 ⟨rfl, hx1⟩
      rw [show szI c.ps.length 1048576 = 1048576 - (c.ps.length : Int) by simp [szI]; omega]
      clear hsz
      have hy1 := hw0.trans hx1
      obtain ⟨q0, q1, q2, q3⟩ := Box4.of hx1
      have z0 := World.block_lt_of_cell? _ _ q0
      go_wp2_with fail
      refine (HTO.out _ hy1).mono ?_; rintro e w2 ⟨B2, rfl, hx2, hF2⟩
      go_wp2_with fail
      refine (HTI.out _ (hy1.trans hx2)).mono ?_; rintro e w3 ⟨B3, rfl, hx3, hF3⟩
      go_wp2_with fail
      refine (HSP.out _ _ _ (hF2.row.ext hx3) hF3.row).mono ?_; rintro e w4 ⟨wo, wc, rfl, hx4, hW⟩
      have hx14 := hx2.trans (hx3.trans hx4)
      have hy4 := hy1.trans hx14
      obtain ⟨q0, q1, q2, q3⟩ := Box4.ext ⟨q0, q1, q2, q3⟩ hx14
      have z0 := World.block_lt_of_cell? _ _ q0
      clear hx1 hx2 hx3 hF2 hF3
      go_wp2_with fail
      refine (HTO.out _ hy4).mono ?_; rintro e w5 ⟨B5, rfl, hx5, hF5⟩
      have hy5 := hy4.trans hx5
      obtain ⟨q0, q1, q2, q3⟩ := Box4.ext ⟨q0, q1, q2, q3⟩ hx5
      have z0 := World.block_lt_of_cell? _ _ q0
      go_wp2_with fail
      refine (HTI.out _ (hy5.alloc _)).mono ?_; rintro e w6 ⟨B6, rfl, hx6, hF6⟩
      obtain ⟨p0, p1, p2, p3⟩ := Box4.of hx6
      have z1 := World.block_lt_of_cell? _ _ p0
      have hx56 : Ext w5 w6 := (by repeat (first | (with_reducible exact Ext.refl _) | (with_reducible assumption) | with_reducible refine Ext.drew ?_ | with_reducible refine Ext.alloc ?_ _ | with_reducible refine Ext.setCell ?_ (by first | (simp; done) | (simp; omega) | omega) _ | with_reducible refine Ext.trans ?_ (by with_reducible assumption)))
      have hy6 := hy5.trans hx56
      obtain ⟨q0, q1, q2, q3⟩ := Box4.ext ⟨q0, q1, q2, q3⟩ hx56
      have z0 := World.block_lt_of_cell? _ _ q0
      have hb56 : w5.heap.size < w6.heap.size := Nat.lt_of_lt_of_le (by simp) hx6.size
      have hF6b : ∀ a, some (⟨B6, 0, none⟩ : Addr) = some a → w5.heap.size < a.block := fun a e => by have := (hF6.base a e).1; simp at this; omega
      have hF6m := hF6.mono (B1 := w5.heap.size) (by simp)
      clear hF6
      go_wp2_with fail
      refine (HIM.out _ _ _ (hF5.row.ext hx56) hF6m.row).mono ?_; rintro e w7 ⟨go, gc, rfl, hx7, hG⟩
      obtain ⟨p0, p1, p2, p3⟩ := Box4.ext ⟨p0, p1, p2, p3⟩ hx7
      have z1 := World.block_lt_of_cell? _ _ p0
      obtain ⟨q0, q1, q2, q3⟩ := Box4.ext ⟨q0, q1, q2, q3⟩ hx7
      have z0 := World.block_lt_of_cell? _ _ q0
      have hy7 := hy6.trans hx7
      go_wp2_with fail
      refine (laws_eqIntS hG.row (hW.ext (hx5.trans (hx56.trans hx7))).row hL2 hL2).mono ?_; rintro e w8 ⟨rfl, hx8⟩
      rw [HONE.out]
      have hy8 := hy7.trans hx8
      obtain ⟨p0, p1, p2, p3⟩ := Box4.ext ⟨p0, p1, p2, p3⟩ hx8
      have z1 := World.block_lt_of_cell? _ _ p0
      obtain ⟨q0, q1, q2, q3⟩ := Box4.ext ⟨q0, q1, q2, q3⟩ hx8
      have z0 := World.block_lt_of_cell? _ _ q0
      have hX8 := (hF5.ext (hx56.trans (hx7.trans hx8)))
      go_wp2_with fail
      go_cut [56] (fun v wc => v = .bool false ∧ Ext w8 wc)
      case first =>
        go_region_with (first
          | (go_at_call 12; refine (HTO.out _ (hy8.trans (by repeat (first | (with_reducible exact Ext.refl _) | (with_reducible assumption) | with_reducible refine Ext.drew ?_ | with_reducible refine Ext.alloc ?_ _ | with_reducible refine Ext.setCell ?_ (by first | (simp; done) | (simp; omega) | omega) _ | with_reducible refine Ext.trans ?_ (by with_reducible assumption))))).mono ?_; rintro e w9 ⟨B9, rfl, hx9, hF9⟩; have hc9 := Ext.cellr (Ext.trans (Ext.refl w8).drew hx9))
          | (go_at_call 16; refine (HEQ.out _ _ _ (hX8.row.ext (Ext.trans (Ext.refl w8).drew hx9)) hF9.row).mono ?_; rintro e w10 ⟨rfl, hx10⟩))
        all_goals
          go_wp2_with fail
          go_meet
          exact ⟨rfl, (by repeat (first | (with_reducible exact Ext.refl _) | (with_reducible assumption) | with_reducible refine Ext.drew ?_ | with_reducible refine Ext.alloc ?_ _ | with_reducible refine Ext.setCell ?_ (by first | (simp; done) | (simp; omega) | omega) _ | with_reducible refine Ext.trans ?_ (by with_reducible assumption)))⟩
      case rest =>
      obtain ⟨rfl, hx9⟩ := hcut
      rename_i w9
      have hy9 := hy8.trans hx9
      obtain ⟨p0, p1, p2, p3⟩ := Box4.ext ⟨p0, p1, p2, p3⟩ hx9
      have z1 := World.block_lt_of_cell? _ _ p0
      obtain ⟨q0, q1, q2, q3⟩ := Box4.ext ⟨q0, q1, q2, q3⟩ hx9
      have z0 := World.block_lt_of_cell? _ _ q0
      go_wp2_with fail
      refine (HTI.out _ hy9).mono ?_; rintro e w10 ⟨B10, rfl, hx10, hF10⟩
      go_wp2_with fail
      refine (laws_eqIntS ((hF6m.row.ext (hx7.trans hx8)).ext (hx9.trans hx10)) hF10.row (by omega) (by omega)).mono ?_; rintro e w11 ⟨rfl, hx11⟩
      rw [HCS.out]
      have hx911 := hx9.trans (hx10.trans hx11)
      have hx1011 := hx10.trans hx11
      have hy11 := hy8.trans hx911
      obtain ⟨p0, p1, p2, p3⟩ := Box4.ext ⟨p0, p1, p2, p3⟩ hx1011
      have z1 := World.block_lt_of_cell? _ _ p0
      obtain ⟨q0, q1, q2, q3⟩ := Box4.ext ⟨q0, q1, q2, q3⟩ hx1011
      have z0 := World.block_lt_of_cell? _ _ q0
      have hXb := hF5.base _ rfl
      have hYb := hF6m.base _ rfl
      have hYc := hF6b _ rfl
      have hWb := hW.base
      have hGb := hG.base
      have hl45 := hx5.size
      have hl67 := hx7.size
      have hl78 := hx8.size
      have hX11 := hX8.ext hx911
      have hY11 := hF6m.ext (hx7.trans (hx8.trans hx911))
      have hG11 := hG.ext (hx8.trans hx911)
      have hW11 := hW.ext (hx5.trans (hx56.trans (hx7.trans (hx8.trans hx911))))
      have hy4s := hy4.size
      simp only at hXb hYb hYc
      have hBX : ∀ k, blk (some (⟨B5, 0, none⟩ : Addr)) = some k → w.heap.size ≤ k := fun k e => by injection e with e; simp only at e; omega
      have hBY : ∀ k, blk (some (⟨B6, 0, none⟩ : Addr)) = some k → w.heap.size ≤ k := fun k e => by injection e with e; simp only at e; omega
      have hBG : ∀ k, blk go = some k → w.heap.size ≤ k := fun k e => by
        cases hgo : go with
        | none => rw [hgo] at e; cases e
        | some g => rw [hgo] at e; injection e with e; have h1 := (hGb g hgo).1; simp only at e; omega
      have hXq : blk (some (⟨B5, 0, none⟩ : Addr)) ≠ some w.heap.size := fun e => by injection e with e; simp only at e; omega
      have hYq : blk (some (⟨B6, 0, none⟩ : Addr)) ≠ some w.heap.size := fun e => by injection e with e; simp only at e; omega
      have hGq : blk go ≠ some w.heap.size := fun e => by
        cases hgo : go with
        | none => rw [hgo] at e; cases e
        | some g => rw [hgo] at e; injection e with e; have h1 := (hGb g hgo).1; simp only at e; omega
      have hXY : ∀ a, some (⟨B6, 0, none⟩ : Addr) = some a → blk (some (⟨B5, 0, none⟩ : Addr)) ≠ some a.block := fun a e e' => by injection e with e; subst e; injection e' with e'; simp only at e'; omega
      have hXG : ∀ a, go = some a → blk (some (⟨B5, 0, none⟩ : Addr)) ≠ some a.block := fun a e e' => by have h1 := (hGb a e).1; injection e' with e'; simp only at e'; omega
      have hYG : ∀ a, go = some a → blk (some (⟨B6, 0, none⟩ : Addr)) ≠ some a.block := fun a e e' => by have h1 := (hGb a e).1; injection e' with e'; simp only at e'; omega
      have hXW : ∀ a, wo = some a → blk (some (⟨B5, 0, none⟩ : Addr)) ≠ some a.block := fun a e e' => by have h1 := (hWb a e).2; injection e' with e'; simp only at e'; omega
      have hYW : ∀ a, wo = some a → blk (some (⟨B6, 0, none⟩ : Addr)) ≠ some a.block := fun a e e' => by have h1 := (hWb a e).2; injection e' with e'; simp only at e'; omega
      have hGW : ∀ a, wo = some a → blk go ≠ some a.block := fun a e e' => by
        have h1 := (hWb a e).2
        cases hgo : go with
        | none => rw [hgo] at e'; cases e'
        | some g => rw [hgo] at e'; injection e' with e'; have h2 := (hGb g hgo).1; simp only at e'; omega
      clear hXb hYb hYc hWb hGb hl45 hl67 hl78 hX8 hG hW hF5 hF6m hF6b hb56 hx5 hx6 hx56 hx7 hx8 hx9 hx10 hx11 hx911 hx1011 hx14 hx4 hy1 hy4 hy5 hy6 hy7 hy8 hy9 hF10 hy4s
      go_wp2_with fail
      refine (HMK.out _ _ _ _ hX11).mono ?_; rintro e w12 ⟨rfl, hg12, _⟩
      have hy12 := grown_ext hy11 hg12 hBX
      have hY12 := hY11.grown hg12 hXY
      have hG12 := hG11.grown hg12 hXG
      have hW12 := hW11.grown hg12 hXW
      obtain ⟨q0, q1, q2, q3⟩ := Box4.grown ⟨q0, q1, q2, q3⟩ hg12 hXq
      have z0 := World.block_lt_of_cell? _ _ q0
      clear hX11 hY11 hG11 hW11 hg12 hy11 p0 p1 p2 p3 z1
      go_wp2_with fail
      refine (laws_markIntS hY12 (by omega) (by omega) (by omega)).mono ?_; rintro e w13 ⟨rfl, hg13, _⟩
      have hy13 := grown_ext hy12 hg13 hBY
      have hG13 := hG12.grown hg13 hYG
      have hW13 := hW12.grown hg13 hYW
      obtain ⟨q0, q1, q2, q3⟩ := Box4.grown ⟨q0, q1, q2, q3⟩ hg13 hYq
      have z0 := World.block_lt_of_cell? _ _ q0
      clear hY12 hG12 hW12 hg13 hy12
      go_wp2_with fail
      refine (laws_eqIntS hG13.row hW13.row hL2 hL2).mono ?_; rintro e w14 ⟨rfl, hx14⟩
      rw [HONE.out]
      have hy14 := hy13.trans hx14
      have hG14 := hG13.ext hx14
      have hW14 := hW13.ext hx14
      obtain ⟨q0, q1, q2, q3⟩ := Box4.ext ⟨q0, q1, q2, q3⟩ hx14
      have z0 := World.block_lt_of_cell? _ _ q0
      clear hG13 hW13 hx14 hy13
      go_wp2_with fail
      refine (laws_markIntS hG14 hL3 (by decide) (by decide)).mono ?_; rintro e w15 ⟨rfl, hg15, hG15⟩
      have hy15 := grown_ext hy14 hg15 hBG
      have hW15 := hW14.grown hg15 hGW
      obtain ⟨q0, q1, q2, q3⟩ := Box4.grown ⟨q0, q1, q2, q3⟩ hg15 hGq
      have z0 := World.block_lt_of_cell? _ _ q0
      clear hG14 hW14 hg15 hy14
      go_wp2_with fail
      refine (laws_heldIntS hG15.row hL3 (by decide) (by decide)).mono ?_; rintro e w16 ⟨rfl, hx16⟩
      have hy16 := hy15.trans hx16
      obtain ⟨q0, q1, q2, q3⟩ := Box4.ext ⟨q0, q1, q2, q3⟩ hx16
      have z0 := World.block_lt_of_cell? _ _ q0
      go_wp2_with fail
      refine (HTO.out _ hy16).mono ?_; rintro e w17 ⟨B17, rfl, hx17, hF17⟩
      have hy17 := hy16.trans hx17
      go_wp2_with fail
      refine (HTI.out _ hy17).mono ?_; rintro e w18 ⟨B18, rfl, hx18, hF18⟩
      go_wp2_with fail
      refine (HIM.out _ _ _ (hF17.row.ext hx18) hF18.row).mono ?_; rintro e w19 ⟨ho, hc, rfl, hx19, hH⟩
      have hx1619 := hx16.trans (hx17.trans (hx18.trans hx19))
      go_wp2_with fail
      refine (laws_eqIntS hH.row (hW15.ext hx1619).row hL2 hL2).mono ?_; rintro e w20 ⟨rfl, hx20⟩
      rw [HONE.out]
      go_wp2_with fail
      refine (laws_heldIntS (hG15.ext (hx1619.trans hx20)).row hL3 (by decide) (by decide)).mono ?_; rintro e w21 ⟨rfl, hx21⟩
      go_wp2
      go_ret
      exact ⟨rfl, hy15.trans (hx1619.trans (hx20.trans hx21))⟩
    · unfold CardD.val at hsz ⊢
      subst hbox
      go_enter Try.func7, Try.ntmps7
      go_wp2_with fail
      refine (hsz _).mono ?_; rintro e w1 ⟨rfl, hx1⟩
      rw [show szI c.ps.length 1048576 = -1 by simp [szI]; omega]
      go_wp2
      go_ret
      exact ⟨rfl, (by repeat (first | (with_reducible exact Ext.refl _) | (with_reducible assumption) | with_reducible refine Ext.drew ?_ | with_reducible refine Ext.alloc ?_ _ | with_reducible refine Ext.setCell ?_ (by first | (simp; done) | (simp; omega) | omega) _ | with_reducible refine Ext.trans ?_ (by with_reducible assumption)))⟩
  · unfold CardD.val
    subst hbox
    go_enter Try.func7, Try.ntmps7
    go_wp2
    go_ret
    exact ⟨rfl, (by repeat (first | (with_reducible exact Ext.refl _) | (with_reducible assumption) | with_reducible refine Ext.drew ?_ | with_reducible refine Ext.alloc ?_ _ | with_reducible refine Ext.setCell ?_ (by first | (simp; done) | (simp; omega) | omega) _ | with_reducible refine Ext.trans ?_ (by with_reducible assumption)))⟩

set_option maxRecDepth 100000 in
theorem lifted (os : Os) (started : os.Started) (H : Type) (enc : TypeId × Value → H) :
    ReturnsInHanded {} Try.checked os 7 .any (Rows.fnExactSplitTimesSpec.pre6 enc Try.prog Try.f7 Rows.fnExactSplitTimesRow.domain false) (Rows.fnExactSplitTimesSpec.post enc Try.prog Try.f7 false true false false) := by
  refine returnsInHanded_of_change (C := Try.checked) (by kernel_rfl) started (by kernel_rfl) Try.func7
    (ChangeSpec.witness6 (enc := enc) (C := Try.checked) false ⟨#[], #[.agg #[.int .i64 0, .int .i64 0, .int .i64 0, .slice none 0 0], .slice none 0 0], []⟩ 8 (by kernel_rfl) (by kernel_rfl) (by kernel_rfl) (by kernel_rfl)) ?_
  intro W base args ds gs before hval0 hW _ _
  have hval : ∀ (j : Nat) t v, Try.f7.params[j]? = some t → args[j]? = some v → Value.okWide Try.prog W .any base t v := hval0
  have hW' := hW
  obtain ⟨p, q, hA0, hV, rfl, hfz, hnd⟩ := hW
  have hA : DataW.TrodAll enc Try.prog W 0 (fun _ => true) true Try.f7.params.toList args.toList ds p := hA0
  rw [Try.params7] at hA hval
  obtain ⟨v0, vs0, d0, ds0, p0, q0, hargs, rfl, rfl, h0, r0⟩ := trodAll_cons hA
  obtain ⟨v1, vs1, d1, ds1, p1, q1, rfl, rfl, rfl, h1, r1⟩ := trodAll_cons r0
  obtain ⟨rfl, rfl, rfl⟩ := trodAll_nil r1
  obtain rfl : args = #[v0, v1] := by cases args; simp_all
  obtain ⟨rfl, rfl⟩ := trodVars_none hV
  obtain ⟨x0, ao0, cap0, rfl, hr0, hl0, hw0⟩ := open_Card (hval 0 24 v0 rfl rfl) h0
  obtain ⟨ao1, cap1, xs1, rfl, hl1, hr1, hw1⟩ := open_IntS (hval 1 25 v1 rfl rfl) h1
  refine (walk hr0 hl0 hw0 hr1 hl1 hw1).mono fun e W' ⟨he, hx⟩ => ?_
  subst he
  exact ⟨_, rfl, law_post (by kernel_rfl) (by kernel_rfl) Try.underlying4 rfl rfl hW' rfl hx⟩

theorem holds : Rows.FnExactSplitTimesSaid :=
  OpenClaim.holds_of_wide 7 Try.f7 rfl rfl rfl rfl rfl rfl rfl ⟨rfl, rfl, rfl, rfl, rfl⟩ rfl rfl rfl rfl rfl (by kernel_rfl) Try.func7 (by kernel_rfl)
    (of_decide_eq_true (by kernel_rfl)) (by unfold Func.isWrapper; first | (rw [if_pos (by decide +kernel)]; kernel_rfl) | (rw [if_neg (by decide +kernel)]; exact ⟨rfl, rfl⟩))
    (fun os started H enc _ => lifted os started H enc)
end Go.Proofs.Ytbpcejdpgckkoaa.SplitTimes
