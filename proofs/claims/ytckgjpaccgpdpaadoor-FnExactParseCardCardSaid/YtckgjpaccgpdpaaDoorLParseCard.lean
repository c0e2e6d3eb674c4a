/-
  Proved here: the law FnExactParseCard answers true for every input and leaves its arguments as they were.
  Conditions: none.
-/
import Derived.Test.YtckgjpaccgpdpaaDoorPar2
import Derived.Test.YtckgjpaccgpdpaaDoorMCard
import Derived.Test.YtckgjpaccgpdpaaDoorLaidE
import Derived.Test.YtckgjpaccgpdpaaDoorCards
import Derived.Test.YtckgjpaccgpdpaaDoorTie
import Derived.Test.YtckgjpaccgpdpaaDoorTouch
import Derived.SevenTiedAt
import Derived.Deep.RegionWith
import Derived.Deep.DeepCutAuto
namespace Go.Proofs.YtckgjpaccgpdpaaDoor.ParseCard
open Go.ChangeShapes Go.WideShapes Go.ChangeAt Go.RowKit

theorem list_len (s : ByteArray) : (prC s).ps.length ≤ 1048577 := by have := prC_len s; omega

set_option maxRecDepth 100000 in
set_option maxHeartbeats 4000000 in
theorem walk {s : ByteArray} {w : World} (_hs : s.size ≤ 9223372036854775807) (hp : Pow w) (hv : ErrS w) (hm : MaxL w) :
    Calls Tryd.prog 4 #[.string s] w fun e w' => e = .returned (.bool true) ∧ Ext w w' := by
  skip
  by_cases cs : s.size ≤ 1048576
  · skip
    have c1 : ¬ (1048576 : Int) < (s.size : Int) := by omega
    have hsp := fun x => spec_ParseCard (w := x) cs
    have him := fun x => (fun hx : Ext w x => impl_ParseCard (w := x) cs (hp.ext hx) (hv.ext hx) (hm.ext hx))
    have hLl := list_len s
    have hone : (prC s).eqB (prC s) = true := (CardD.eqB_iff _ _).2 rfl
    unfold ResP at hsp him
    generalize prC s = R at *
    generalize prB s = B at *
    have hL2 : R.ps.length ≤ 9223372036854775807 := by omega
    have hL3 : R.ps.length ≤ 1099511627776 := by omega
    have heqR := fun x go gc bo bc (hx : RowAt x go 2 R.ps.length (fun k => (nth R.ps k).c)) (hy : RowAt x bo 2 R.ps.length (fun k => (nth R.ps k).c)) => laws_eqCard (w := x) (x := R) (y := R) (ao := go) (bo := bo) (cap := gc) (cap' := bc) hx hy hL2 hL2
    rw [hone] at heqR
    have hmkR := fun x b0 go gc cc (hx : FreshAt b0 x go 2 R.ps.length cc) => laws_markCard (w := x) (c := R) (cap := gc) (k0 := 1) hx hL3 (by decide) (by decide)
    have hhdR := fun x go gc (hx : RowAt x go 2 R.ps.length (mkPch 1)) => laws_heldCard (w := x) (c := R) (ao := go) (cap := gc) (k0 := 1) hx hL3 (by decide) (by decide)
    unfold CardD.val at hsp him heqR hmkR hhdR
    have HSP := Lib.hid hsp; clear hsp
    have HIM := Lib.hid him; clear him
    have HEQR := Lib.hid heqR; clear heqR
    have HMKR := Lib.hid hmkR; clear hmkR
    have HHDR := Lib.hid hhdR; clear hhdR
    have HONE := Lib.hid hone; clear hone
    go_enter Tryd.func4, Tryd.ntmps4
    have hy : Ext w w := Ext.refl _
    have sz_ := hy.size
    go_wp2_with fail
    refine (HSP.out _).mono ?_; rintro e w1 ⟨wo, wc, rfl, hx1, fW⟩
    have hg1 := hx1
    replace hy := hy.trans hg1
    have sz1 := hg1.size
    clear hg1
    have OW := In.of fW; clear fW
    clear hx1
    go_wp2_with fail
    refine (HIM.out _ (hy.trans (by repeat (first | (with_reducible exact Ext.refl _) | (with_reducible assumption) | with_reducible refine Ext.drew ?_ | with_reducible refine Ext.alloc ?_ _ | with_reducible refine Ext.setCell ?_ (by first | (simp; done) | (simp; omega) | omega) _ | with_reducible refine Ext.trans ?_ (by with_reducible assumption))))).mono ?_; rintro e w2 ⟨go, gc, rfl, hx2, fG⟩
    have hg2 : Ext w1 w2 := (by repeat (first | (with_reducible exact Ext.refl _) | (with_reducible assumption) | with_reducible refine Ext.drew ?_ | with_reducible refine Ext.alloc ?_ _ | with_reducible refine Ext.setCell ?_ (by first | (simp; done) | (simp; omega) | omega) _ | with_reducible refine Ext.trans ?_ (by with_reducible assumption)))
    have bxW := BoxL.of hx2
    have sbxW := bxW.1
    replace OW := OW.ext hg2
    replace hy := hy.trans hg2
    have sz2 := hg2.size
    clear hg2
    rw [World.size_alloc] at fG
    have OG := In.of fG; clear fG
    clear hx2
    have qbxW0 := bxW.2 0 _ rfl
    have qbxW1 := bxW.2 1 _ rfl
    have qbxW2 := bxW.2 2 _ rfl
    have qbxW3 := bxW.2 3 _ rfl
    have zbxW := bxW.1
    go_wp2_with fail
    refine (HEQR.out _ _ _ _ _ (OG.row.ext (by repeat (first | (with_reducible exact Ext.refl _) | (with_reducible assumption) | with_reducible refine Ext.drew ?_ | with_reducible refine Ext.alloc ?_ _ | with_reducible refine Ext.setCell ?_ (by first | (simp; done) | (simp; omega) | omega) _ | with_reducible refine Ext.trans ?_ (by with_reducible assumption)))) (OW.row.ext (by repeat (first | (with_reducible exact Ext.refl _) | (with_reducible assumption) | with_reducible refine Ext.drew ?_ | with_reducible refine Ext.alloc ?_ _ | with_reducible refine Ext.setCell ?_ (by first | (simp; done) | (simp; omega) | omega) _ | with_reducible refine Ext.trans ?_ (by with_reducible assumption))))).mono ?_; rintro e w3 ⟨rfl, hx3⟩
    have hg3 : Ext w2 w3 := (by repeat (first | (with_reducible exact Ext.refl _) | (with_reducible assumption) | with_reducible refine Ext.drew ?_ | with_reducible refine Ext.alloc ?_ _ | with_reducible refine Ext.setCell ?_ (by first | (simp; done) | (simp; omega) | omega) _ | with_reducible refine Ext.trans ?_ (by with_reducible assumption)))
    have bxG := BoxL.of hx3
    have sbxG := bxG.1
    replace bxW := bxW.ext hg3
    replace OW := OW.ext hg3
    replace OG := OG.ext hg3
    replace hy := hy.trans hg3
    have sz3 := hg3.size
    clear hg3
    clear hx3
    clear qbxW0 qbxW1 qbxW2 qbxW3 zbxW
    have qbxG0 := bxG.2 0 _ rfl
    have qbxG1 := bxG.2 1 _ rfl
    have qbxG2 := bxG.2 2 _ rfl
    have qbxG3 := bxG.2 3 _ rfl
    have zbxG := bxG.1
    go_wp2_with fail
    refine (HMKR.out _ _ _ _ _ OG.fresh).mono ?_; rintro e w4 ⟨rfl, hgr4, fM⟩
    have ht4 := Touch.span hgr4 OG.blk; clear hgr4
    replace bxW := bxW.touch ht4 (by omega)
    replace bxG := bxG.touch ht4 (by omega)
    replace OW := OW.touch ht4 (by omega)
    replace hy := Touch.spanExt hy ht4 (by omega)
    have sz4 := ht4.size; clear ht4
    clear OG
    have OM := fM.row; clear fM
    clear qbxG0 qbxG1 qbxG2 qbxG3 zbxG
    have qbxG0 := bxG.2 0 _ rfl
    have qbxG1 := bxG.2 1 _ rfl
    have qbxG2 := bxG.2 2 _ rfl
    have qbxG3 := bxG.2 3 _ rfl
    have zbxG := bxG.1
    go_wp2_with fail
    refine (HHDR.out _ _ _ OM).mono ?_; rintro e w5 ⟨rfl, hx5⟩
    have hg5 := hx5
    replace bxW := bxW.ext hg5
    replace bxG := bxG.ext hg5
    replace OW := OW.ext hg5
    replace OM := OM.ext hg5
    replace hy := hy.trans hg5
    have sz5 := hg5.size
    clear hg5
    clear hx5
    clear qbxG0 qbxG1 qbxG2 qbxG3 zbxG
    go_wp2_with fail
    refine (HIM.out _ hy).mono ?_; rintro e w6 ⟨ho, hc, rfl, hx6, fH⟩
    have hg6 := hx6
    replace bxW := bxW.ext hg6
    replace bxG := bxG.ext hg6
    replace OW := OW.ext hg6
    replace OM := OM.ext hg6
    replace hy := hy.trans hg6
    have sz6 := hg6.size
    clear hg6
    have OH := In.of fH; clear fH
    clear hx6
    have qbxW0 := bxW.2 0 _ rfl
    have qbxW1 := bxW.2 1 _ rfl
    have qbxW2 := bxW.2 2 _ rfl
    have qbxW3 := bxW.2 3 _ rfl
    have zbxW := bxW.1
    go_wp2_with fail
    refine (HEQR.out _ _ _ _ _ (OH.row.ext (by repeat (first | (with_reducible exact Ext.refl _) | (with_reducible assumption) | with_reducible refine Ext.drew ?_ | with_reducible refine Ext.alloc ?_ _ | with_reducible refine Ext.setCell ?_ (by first | (simp; done) | (simp; omega) | omega) _ | with_reducible refine Ext.trans ?_ (by with_reducible assumption)))) (OW.row.ext (by repeat (first | (with_reducible exact Ext.refl _) | (with_reducible assumption) | with_reducible refine Ext.drew ?_ | with_reducible refine Ext.alloc ?_ _ | with_reducible refine Ext.setCell ?_ (by first | (simp; done) | (simp; omega) | omega) _ | with_reducible refine Ext.trans ?_ (by with_reducible assumption))))).mono ?_; rintro e w7 ⟨rfl, hx7⟩
    have hg7 : Ext w6 w7 := (by repeat (first | (with_reducible exact Ext.refl _) | (with_reducible assumption) | with_reducible refine Ext.drew ?_ | with_reducible refine Ext.alloc ?_ _ | with_reducible refine Ext.setCell ?_ (by first | (simp; done) | (simp; omega) | omega) _ | with_reducible refine Ext.trans ?_ (by with_reducible assumption)))
    have bxH := BoxL.of hx7
    have sbxH := bxH.1
    replace bxW := bxW.ext hg7
    replace bxG := bxG.ext hg7
    replace OW := OW.ext hg7
    replace OM := OM.ext hg7
    replace OH := OH.ext hg7
    replace hy := hy.trans hg7
    have sz7 := hg7.size
    clear hg7
    clear hx7
    clear qbxW0 qbxW1 qbxW2 qbxW3 zbxW
    have qbxG0 := bxG.2 0 _ rfl
    have qbxG1 := bxG.2 1 _ rfl
    have qbxG2 := bxG.2 2 _ rfl
    have qbxG3 := bxG.2 3 _ rfl
    have zbxG := bxG.1
    go_wp2_with fail
    refine (HHDR.out _ _ _ OM).mono ?_; rintro e w8 ⟨rfl, hx8⟩
    have hg8 := hx8
    replace bxW := bxW.ext hg8
    replace bxG := bxG.ext hg8
    replace bxH := bxH.ext hg8
    replace OW := OW.ext hg8
    replace OM := OM.ext hg8
    replace OH := OH.ext hg8
    replace hy := hy.trans hg8
    have sz8 := hg8.size
    clear hg8
    clear hx8
    clear qbxG0 qbxG1 qbxG2 qbxG3 zbxG
    go_wp2
    go_ret
    exact ⟨rfl, hy⟩
  · skip
    go_enter Tryd.func4, Tryd.ntmps4
    go_wp2
    go_ret
    exact ⟨rfl, (by repeat (first | (with_reducible exact Ext.refl _) | (with_reducible assumption) | with_reducible refine Ext.drew ?_ | with_reducible refine Ext.alloc ?_ _ | with_reducible refine Ext.setCell ?_ (by first | (simp; done) | (simp; omega) | omega) _ | with_reducible refine Ext.trans ?_ (by with_reducible assumption)))⟩

set_option maxRecDepth 100000 in
theorem lifted (os : Os) (started : os.Started) (H : Type) (enc : TypeId × Value → H) :
    ReturnsInHanded {} Tryd.checked os 4 .any (fun w args => (Rows.fnExactParseCardSpec.pre enc Tryd.prog Tryd.f4 Rows.fnExactParseCardRow.domain false w args ∧ laidMetH Tryd.prog Rows.fnExactParseCardRow.laid w) ∧ sizedMet enc Tryd.prog Tryd.f4 (OpenSpec.ofChange Rows.fnExactParseCardSpec) false w args)
      (Rows.fnExactParseCardSpec.post enc Tryd.prog Tryd.f4 false true false false) := by
  refine lift_laid (C := Tryd.checked) (X := fun w => laidMetH Tryd.prog Rows.fnExactParseCardRow.laid w) (fun _ _ hh h => h.of_heap hh) (by kernel_rfl) started (by kernel_rfl) Tryd.func4
    (ChangeSpec.witness_shaped (enc := enc) (C := Tryd.checked) (os := os) (X := fun w _ => laidMetH Tryd.prog Rows.fnExactParseCardRow.laid w) false (World.laidAll Tryd.prog os Rows.fnExactParseCardRow.laid) #[.string ⟨#[]⟩] 8 (World.laidAll_os _ _ _)
      (World.shaped_of_ZipB (by kernel_rfl) (by kernel_rfl)) (by kernel_rfl) (by kernel_rfl) (by kernel_rfl)
      (by rw [MakeChecks.laidMetH_plain _ _ _ (by kernel_rfl)]; exact laidMet_laidAll _ (by kernel_rfl) (by kernel_rfl))) ?_
  intro W base args ds gs before hval0 hW hL0 hsh
  have hL : laidMet Tryd.prog Rows.fnExactParseCardRow.laid W := by rw [← MakeChecks.laidMetH_plain _ _ _ (by kernel_rfl)]; exact hL0
  have hval : ∀ (j : Nat) t v, Tryd.f4.params[j]? = some t → args[j]? = some v → Value.okWide Tryd.prog W .any base t v := hval0
  have hW' := hW
  obtain ⟨p, q, hA0, hV, rfl, hfz, hnd⟩ := hW
  have hA : DataW.TrodAll enc Tryd.prog W 0 (fun _ => true) true Tryd.f4.params.toList args.toList ds p := hA0
  rw [Tryd.params4] at hA hval
  obtain ⟨v0, vs0, d0, ds0, p0, q0, hargs, rfl, rfl, h0, r0⟩ := trodAll_cons hA
  obtain ⟨rfl, rfl, rfl⟩ := trodAll_nil r0
  obtain rfl : args = #[v0] := by cases args; simp_all
  obtain ⟨rfl, rfl⟩ := trodVars_none hV
  obtain ⟨s0, rfl, _, _, ws0⟩ := Go.ChangeMaps.open_string Tryd.underlying9 (hval 0 9 v0 rfl rfl) h0
  have hpow : Pow W := pow_of hL.tail.tail
  have herr : ErrS W := err_of hL.tail.tail.tail.tail.tail
  have hmax : MaxL W := max_of hsh
  refine (walk (by unfold maxLen at ws0; omega) hpow herr hmax).mono fun e W' ⟨he, hx⟩ => ?_
  subst he
  exact ⟨_, rfl, law_post (by kernel_rfl) (by kernel_rfl) Tryd.underlying4 rfl rfl hW' rfl hx⟩

theorem holds : Rows.FnExactParseCardSaid :=
  OpenClaim.holds_of_wide 4 Tryd.f4 rfl rfl rfl rfl rfl rfl rfl ⟨rfl, rfl, rfl, rfl, rfl⟩ rfl rfl rfl rfl rfl (by kernel_rfl) Tryd.func4 (by kernel_rfl)
    (of_decide_eq_true (by kernel_rfl)) (by unfold Func.isWrapper; first | (rw [if_pos (by decide +kernel)]; kernel_rfl) | (rw [if_neg (by decide +kernel)]; exact ⟨rfl, rfl⟩))
    (fun os started H enc _ => lifted os started H enc)

theorem card_holds : Rows.FnExactParseCardCardSaid :=
  Claim7.holds_tied_plain_at .later [] Rows.fnExactParseCardCard.laidKinds true Rows.fnExactParseCardCard.stood.harness true holds (fun _ h => by cases h) (by kernel_rfl) (fun _ h => by cases h) fnExactParseCard_row_tie rfl ⟨rfl, rfl⟩ (by kernel_rfl) rfl
    (fun f fn hf hfn => by
      obtain rfl : f = 4 := (Option.some.inj ((show Tryd.prog.funcNamed Rows.fnExactParseCardRow.func = some 4 by kernel_rfl).symm.trans hf)).symm
      obtain rfl : fn = Tryd.f4 := (Option.some.inj (Tryd.func4.symm.trans hfn)).symm
      exact ⟨by kernel_rfl, fun j t ht => by
        rw [Tryd.params4] at ht
        have hm := Array.mem_of_getElem? ht
        have hall : (Tryd.f4.params.all fun u => !Tryd.prog.wantsStandIn u) = true := by kernel_rfl
        rw [Tryd.params4] at hall
        exact (show Tryd.prog.wantsStandIn t = false by simpa using Array.all_eq_true_iff_forall_mem.1 hall t hm)⟩)
    (by kernel_rfl)

end Go.Proofs.YtckgjpaccgpdpaaDoor.ParseCard
