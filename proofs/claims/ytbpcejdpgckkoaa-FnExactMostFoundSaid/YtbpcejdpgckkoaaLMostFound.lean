/-
  Proved here: the law FnExactMostFound answers true for every input and leaves its arguments as they were.
  Conditions: none.
-/
import Derived.Test.YtbpcejdpgckkoaaCards11
import Derived.Test.YtbpcejdpgckkoaaMCard
import Derived.Test.YtbpcejdpgckkoaaMarkInts
import Derived.Test.YtbpcejdpgckkoaaTIntS
import Derived.Test.YtbpcejdpgckkoaaTouch
import Derived.Deep.RegionWith
import Derived.Deep.DeepCutAuto
namespace Go.Proofs.Ytbpcejdpgckkoaa.MostFound
open Go.ChangeShapes Go.WideShapes Go.ChangeAt Go.RowKit

set_option maxRecDepth 100000 in
set_option maxHeartbeats 4000000 in
theorem walk {ao0 : Option Addr} {cap0 : Nat} {x0 : CardD} {ao1 : Option Addr} {cap1 : Nat} {xs1 : List Int} {w : World} (h0 : RowAt w ao0 2 x0.ps.length (fun k => (nth x0.ps k).c)) (hn0 : x0.ps.length ≤ 9223372036854775807) (_hw0 : I64 x0.number ∧ I64 x0.start ∧ I64 x0.finish ∧ ∀ k, k < x0.ps.length → I64 (nth x0.ps k).code ∧ I64 (nth x0.ps k).time) (h1 : RowAt w ao1 1 xs1.length (ic xs1)) (hn1 : xs1.length ≤ 9223372036854775807) (_hw1 : (∀ k, k < xs1.length → I64 (nth xs1 k)) ∧ xs1.length ≤ cap1) :
    Calls Try.prog 5 #[x0.val ao0 cap0, .slice ao1 xs1.length cap1] w fun e w' => e = .returned (.bool true) ∧ Ext w w' := by
  have hw0 : Ext w (w.alloc (Obj.cells #[.int .i64 x0.number, .int .i64 x0.start, .int .i64 x0.finish, .slice ao0 x0.ps.length cap0] 24)) := (Ext.refl _).alloc _
  have hsz0 := fun x => laws_szCard (w := x) (c := x0) (ao := ao0) (cap := cap0) (x := 1048576) hn0 (by decide) (by decide)
  unfold CardD.val at hsz0 ⊢
  have HSZ0 := Lib.hid hsz0; clear hsz0
  by_cases c1 : xs1.length ≤ 1048576
  · skip
    by_cases c0 : x0.ps.length ≤ 1048576
    · skip
      have m0 : x0.ps.length ≤ 1048576 := by omega
      have m1 : xs1.length ≤ 1048576 := by omega
      have hto0 := fun x hx => laws_toCard (w := x) (cap := cap0) (h0.ext hx) m0
      have hto1 := fun x hx => laws_toIntS (w := x) (cap := cap1) (h1.ext hx) m1
      have hsp := fun x b0 b1 (h0 : RowAt x (some ⟨b0, 0, none⟩) 2 x0.ps.length (fun k => (nth x0.ps k).c)) (h1 : RowAt x (some ⟨b1, 0, none⟩) 1 xs1.length (ic xs1)) => spec_MostFound (w := x) (c := x0) (b0 := b0) (off0 := 0) (cap := x0.ps.length) (bo := some ⟨b1, 0, none⟩) (bcap := xs1.length) (cs := xs1) h0 ⟨Nat.le_refl _, m0⟩ h1 m1
      have him := fun x b0 b1 (h0 : RowAt x (some ⟨b0, 0, none⟩) 2 x0.ps.length (fun k => (nth x0.ps k).c)) (h1 : RowAt x (some ⟨b1, 0, none⟩) 1 xs1.length (ic xs1)) => impl_MostFound (w := x) (c := x0) (b0 := b0) (off0 := 0) (cap := x0.ps.length) (bo := some ⟨b1, 0, none⟩) (bcap := xs1.length) (cs := xs1) h0 ⟨Nat.le_refl _, m0⟩ h1 m1
      have heq0 := fun x b b' (hx : RowAt x (some ⟨b, 0, none⟩) 2 x0.ps.length (fun k => (nth x0.ps k).c)) (hy : RowAt x (some ⟨b', 0, none⟩) 2 x0.ps.length (fun k => (nth x0.ps k).c)) => laws_eqCard (w := x) (x := x0) (y := x0) (ao := some ⟨b, 0, none⟩) (bo := some ⟨b', 0, none⟩) (cap := x0.ps.length) (cap' := x0.ps.length) hx hy hn0 hn0
      rw [show x0.eqB x0 = true from (CardD.eqB_iff _ _).2 rfl] at heq0
      have hmk0 := fun x k b0 b cc (hx : FreshAt b0 x (some ⟨b, 0, none⟩) 2 x0.ps.length cc) (hk0 : 0 ≤ k) hk1 => laws_markCard (w := x) (c := x0) (cap := x0.ps.length) (k0 := k) hx (by omega) hk0 hk1
      have heqv1 : eqL eqI xs1 xs1 = true := (eqL_iff eqI_iff).2 rfl
      obtain ⟨r0, r1, hres⟩ : ∃ (r0 : Int) (r1 : Bool), gMost x0 xs1 = .tuple #[.int .i64 r0, .bool r1] := by
        unfold gMost; (repeat' split) <;> exact ⟨_, _, rfl⟩
      rw [hres] at hsp him
      clear hres
      unfold CardD.val at hto0 hsp him heq0 hmk0
      have HTO0 := Lib.hid hto0; clear hto0
      have HTO1 := Lib.hid hto1; clear hto1
      have HSP := Lib.hid hsp; clear hsp
      have HIM := Lib.hid him; clear him
      have HEQ0 := Lib.hid heq0; clear heq0
      have HMK0 := Lib.hid hmk0; clear hmk0
      have HEQV1 := Lib.hid heqv1; clear heqv1
      go_enter Try.func5, Try.ntmps5
      go_wp2_with fail
      refine (HSZ0.out _).mono ?_; rintro e ws0 ⟨rfl, hxs0⟩
      rw [show szI x0.ps.length (1048576 : Int) = 1048576 - (x0.ps.length : Int) by simp [szI]; omega]
      have hy : Ext w ws0 := hw0.trans hxs0
      have bxA := BoxL.of hxs0
      clear hw0 hxs0
      have sbxA := bxA.1
      have sz_ := hy.size
      have qbxA0 := bxA.2 0 _ rfl
      have qbxA1 := bxA.2 1 _ rfl
      have qbxA2 := bxA.2 2 _ rfl
      have qbxA3 := bxA.2 3 _ rfl
      have zbxA := bxA.1
      go_wp2_with fail
      refine (HTO0.out _ hy).mono ?_; rintro e w1 ⟨s0, rfl, hx1, fs0⟩
      have hg1 := hx1
      replace bxA := bxA.ext hg1
      replace hy := hy.trans hg1
      have sz1 := hg1.size
      clear hg1
      have Os0 := In.of fs0; clear fs0
      clear hx1
      clear qbxA0 qbxA1 qbxA2 qbxA3 zbxA
      go_wp2_with fail
      refine (HTO1.out _ hy).mono ?_; rintro e w2 ⟨s1, rfl, hx2, fs1⟩
      have hg2 := hx2
      replace bxA := bxA.ext hg2
      replace Os0 := Os0.ext hg2
      replace hy := hy.trans hg2
      have sz2 := hg2.size
      clear hg2
      have Os1 := In.of fs1; clear fs1
      clear hx2
      go_wp2_with fail
      refine (HSP.out _ s0 s1 Os0.row Os1.row).mono ?_; rintro e w3 ⟨rfl, hx3⟩
      have hg3 := hx3
      replace bxA := bxA.ext hg3
      replace Os0 := Os0.ext hg3
      replace Os1 := Os1.ext hg3
      replace hy := hy.trans hg3
      have sz3 := hg3.size
      clear hg3
      clear hx3
      clear Os0
      clear Os1
      have qbxA0 := bxA.2 0 _ rfl
      have qbxA1 := bxA.2 1 _ rfl
      have qbxA2 := bxA.2 2 _ rfl
      have qbxA3 := bxA.2 3 _ rfl
      have zbxA := bxA.1
      go_wp2_with fail
      refine (HTO0.out _ hy).mono ?_; rintro e w4 ⟨x0_, rfl, hx4, fx0⟩
      have hg4 := hx4
      replace bxA := bxA.ext hg4
      replace hy := hy.trans hg4
      have sz4 := hg4.size
      clear hg4
      clear hx4
      clear qbxA0 qbxA1 qbxA2 qbxA3 zbxA
      have Ox0 := In.of fx0; clear fx0
      go_wp2_with fail
      refine (HTO1.out _ (hy.trans (by repeat (first | (with_reducible exact Ext.refl _) | (with_reducible assumption) | with_reducible refine Ext.drew ?_ | with_reducible refine Ext.alloc ?_ _ | with_reducible refine Ext.setCell ?_ (by first | (simp; done) | (simp; omega) | omega) _ | with_reducible refine Ext.trans ?_ (by with_reducible assumption))))).mono ?_; rintro e w5 ⟨x1_, rfl, hx5, fx1⟩
      have hg5 : Ext w4 w5 := (by repeat (first | (with_reducible exact Ext.refl _) | (with_reducible assumption) | with_reducible refine Ext.drew ?_ | with_reducible refine Ext.alloc ?_ _ | with_reducible refine Ext.setCell ?_ (by first | (simp; done) | (simp; omega) | omega) _ | with_reducible refine Ext.trans ?_ (by with_reducible assumption)))
      have bxX := BoxL.of hx5
      have sbxX := bxX.1
      replace bxA := bxA.ext hg5
      replace Ox0 := Ox0.ext hg5
      replace hy := hy.trans hg5
      have sz5 := hg5.size
      clear hg5
      clear hx5
      rw [World.size_alloc] at fx1
      have Ox1 := In.of fx1; clear fx1
      have qbxX0 := bxX.2 0 _ rfl
      have qbxX1 := bxX.2 1 _ rfl
      have qbxX2 := bxX.2 2 _ rfl
      have qbxX3 := bxX.2 3 _ rfl
      have zbxX := bxX.1
      go_wp2_with fail
      refine (HIM.out _ x0_ x1_ Ox0.row Ox1.row).mono ?_; rintro e w6 ⟨rfl, hx6⟩
      have hg6 := hx6
      replace bxA := bxA.ext hg6
      replace bxX := bxX.ext hg6
      replace Ox0 := Ox0.ext hg6
      replace Ox1 := Ox1.ext hg6
      replace hy := hy.trans hg6
      have sz6 := hg6.size
      clear hg6
      clear hx6
      clear qbxX0 qbxX1 qbxX2 qbxX3 zbxX
      have qbxA0 := bxA.2 0 _ rfl
      have qbxA1 := bxA.2 1 _ rfl
      have qbxA2 := bxA.2 2 _ rfl
      have qbxA3 := bxA.2 3 _ rfl
      have zbxA := bxA.1
      have qbxX0 := bxX.2 0 _ rfl
      have qbxX1 := bxX.2 1 _ rfl
      have qbxX2 := bxX.2 2 _ rfl
      have qbxX3 := bxX.2 3 _ rfl
      have zbxX := bxX.1
      go_wp2_with fail
      go_cut [50] (fun v wc => v = .bool false ∧ Ext w6 wc)
      case first =>
        go_region_with (first
          | (go_at_call 12; refine (HTO0.out _ (hy.trans (by repeat (first | (with_reducible exact Ext.refl _) | (with_reducible assumption) | with_reducible refine Ext.drew ?_ | with_reducible refine Ext.alloc ?_ _ | with_reducible refine Ext.setCell ?_ (by first | (simp; done) | (simp; omega) | omega) _ | with_reducible refine Ext.trans ?_ (by with_reducible assumption))))).mono ?_; rintro e wa ⟨Ba, rfl, hxa, hFa⟩; have hca := Ext.cellr (Ext.trans (Ext.refl w6).drew hxa))
          | (go_at_call 16; refine (HEQ0.out _ _ _ (Ox0.row.ext (Ext.trans (Ext.refl w6).drew hxa)) hFa.row).mono ?_; rintro e wb ⟨rfl, hxb⟩))
        all_goals
          go_wp2_with fail
          go_meet
          exact ⟨rfl, (by repeat (first | (with_reducible exact Ext.refl _) | (with_reducible assumption) | with_reducible refine Ext.drew ?_ | with_reducible refine Ext.alloc ?_ _ | with_reducible refine Ext.setCell ?_ (by first | (simp; done) | (simp; omega) | omega) _ | with_reducible refine Ext.trans ?_ (by with_reducible assumption)))⟩
      case rest =>
      obtain ⟨rfl, hg7⟩ := hcut
      rename_i w7
      clear qbxA0 qbxA1 qbxA2 qbxA3 zbxA
      clear qbxX0 qbxX1 qbxX2 qbxX3 zbxX
      replace bxA := bxA.ext hg7
      replace bxX := bxX.ext hg7
      replace Ox0 := Ox0.ext hg7
      replace Ox1 := Ox1.ext hg7
      replace hy := hy.trans hg7
      have sz7 := hg7.size; clear hg7
      go_wp2_with fail
      refine (HTO1.out _ hy).mono ?_; rintro e w8 ⟨t1, rfl, hx8, ft1⟩
      have hg8 := hx8
      replace bxA := bxA.ext hg8
      replace bxX := bxX.ext hg8
      replace Ox0 := Ox0.ext hg8
      replace Ox1 := Ox1.ext hg8
      replace hy := hy.trans hg8
      have sz8 := hg8.size
      clear hg8
      have Ot1 := In.of ft1; clear ft1
      clear hx8
      go_wp2_with fail
      refine (laws_eqIntS Ox1.row Ot1.row hn1 hn1).mono ?_; rintro e w9 ⟨rfl, hx9⟩
      rw [HEQV1.out]
      have hg9 := hx9
      replace bxA := bxA.ext hg9
      replace bxX := bxX.ext hg9
      replace Ox0 := Ox0.ext hg9
      replace Ox1 := Ox1.ext hg9
      replace Ot1 := Ot1.ext hg9
      replace hy := hy.trans hg9
      have sz9 := hg9.size
      clear hg9
      clear hx9
      clear Ot1
      go_wp2
      go_ret
      exact ⟨rfl, hy⟩
    · skip
      go_enter Try.func5, Try.ntmps5
      go_wp2_with fail
      refine (HSZ0.out _).mono ?_; rintro e ws0 ⟨rfl, hxs0⟩
      rw [show szI x0.ps.length (1048576 : Int) = -1 by simp [szI]; omega]
      go_wp2
      go_ret
      exact ⟨rfl, (by repeat (first | (with_reducible exact Ext.refl _) | (with_reducible assumption) | with_reducible refine Ext.drew ?_ | with_reducible refine Ext.alloc ?_ _ | with_reducible refine Ext.setCell ?_ (by first | (simp; done) | (simp; omega) | omega) _ | with_reducible refine Ext.trans ?_ (by with_reducible assumption)))⟩
  · skip
    go_enter Try.func5, Try.ntmps5
    go_wp2
    go_ret
    exact ⟨rfl, (by repeat (first | (with_reducible exact Ext.refl _) | (with_reducible assumption) | with_reducible refine Ext.drew ?_ | with_reducible refine Ext.alloc ?_ _ | with_reducible refine Ext.setCell ?_ (by first | (simp; done) | (simp; omega) | omega) _ | with_reducible refine Ext.trans ?_ (by with_reducible assumption)))⟩

set_option maxRecDepth 100000 in
theorem lifted (os : Os) (started : os.Started) (H : Type) (enc : TypeId × Value → H) :
    ReturnsInHanded {} Try.checked os 5 .any (Rows.fnExactMostFoundSpec.pre6 enc Try.prog Try.f5 Rows.fnExactMostFoundRow.domain false) (Rows.fnExactMostFoundSpec.post enc Try.prog Try.f5 false true false false) := by
  refine returnsInHanded_of_change (C := Try.checked) (by kernel_rfl) started (by kernel_rfl) Try.func5
    (ChangeSpec.witness6 (enc := enc) (C := Try.checked) false ⟨#[], #[.agg #[.int .i64 0, .int .i64 0, .int .i64 0, .slice none 0 0], .slice none 0 0], []⟩ 8 (by kernel_rfl) (by kernel_rfl) (by kernel_rfl) (by kernel_rfl)) ?_
  intro W base args ds gs before hval0 hW _ _
  have hval : ∀ (j : Nat) t v, Try.f5.params[j]? = some t → args[j]? = some v → Value.okWide Try.prog W .any base t v := hval0
  have hW' := hW
  obtain ⟨p, q, hA0, hV, rfl, hfz, hnd⟩ := hW
  have hA : DataW.TrodAll enc Try.prog W 0 (fun _ => true) true Try.f5.params.toList args.toList ds p := hA0
  rw [Try.params5] at hA hval
  obtain ⟨v0, vs0, d0, ds0, p0, q0, hargs, rfl, rfl, h0, r0⟩ := trodAll_cons hA
  obtain ⟨v1, vs1, d1, ds1, p1, q1, rfl, rfl, rfl, h1, r1⟩ := trodAll_cons r0
  obtain ⟨rfl, rfl, rfl⟩ := trodAll_nil r1
  obtain rfl : args = #[v0, v1] := by cases args; simp_all
  obtain ⟨rfl, rfl⟩ := trodVars_none hV
  obtain ⟨x0, ao0, cap0, rfl, hr0, hl0, hw0⟩ := open_Card (hval 0 24 v0 rfl rfl) h0
  obtain ⟨ao1, cap1, xs1, rfl, hl1, hr1, hw1⟩ := open_IntS (hval 1 25 v1 rfl rfl) h1
  refine (walk hr0 hl0 hw0 hr1 hl1 hw1).mono fun e W' ⟨he, hx⟩ => ?_
  subst he
  exact ⟨_, rfl, law_post (by kernel_rfl) (by kernel_rfl) Try.underlying4 rfl rfl hW' rfl hx⟩

theorem holds : Rows.FnExactMostFoundSaid :=
  OpenClaim.holds_of_wide 5 Try.f5 rfl rfl rfl rfl rfl rfl rfl ⟨rfl, rfl, rfl, rfl, rfl⟩ rfl rfl rfl rfl rfl (by kernel_rfl) Try.func5 (by kernel_rfl)
    (of_decide_eq_true (by kernel_rfl)) (by unfold Func.isWrapper; first | (rw [if_pos (by decide +kernel)]; kernel_rfl) | (rw [if_neg (by decide +kernel)]; exact ⟨rfl, rfl⟩))
    (fun os started H enc _ => lifted os started H enc)
end Go.Proofs.Ytbpcejdpgckkoaa.MostFound
