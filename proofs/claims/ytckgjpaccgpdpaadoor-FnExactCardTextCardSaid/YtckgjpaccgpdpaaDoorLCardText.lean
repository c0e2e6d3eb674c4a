/-
  Proved here: the law FnExactCardText answers true for every input and leaves its argument as it was (the tied card: the listed tables hold what the program's text lays).
  Conditions: none.
-/
import Derived.Test.YtckgjpaccgpdpaaDoorTxt
import Derived.Test.YtckgjpaccgpdpaaDoorLaid
import Derived.Test.YtckgjpaccgpdpaaDoorCards
import Derived.Test.YtckgjpaccgpdpaaDoorTie
import Derived.SevenTiedAt
import Derived.Deep.RegionWith
namespace Go.Proofs.YtckgjpaccgpdpaaDoor.CardText
open Go.ChangeShapes Go.WideShapes Go.ChangeAt Go.RowKit

set_option maxHeartbeats 1000000 in
theorem walk {c : CardD} {ao : Option Addr} {cap : Nat} {w : World} (h : RowAt w ao 2 c.ps.length (fun k => (nth c.ps k).c)) (hn : c.ps.length ≤ 9223372036854775807)
    (_hw : I64 c.number ∧ I64 c.start ∧ I64 c.finish ∧ ∀ k, k < c.ps.length → I64 (nth c.ps k).code ∧ I64 (nth c.ps k).time) (hp : Pow w) :
    Calls Tryd.prog 3 #[c.val ao cap] w fun e w' => e = .returned (.bool true) ∧ Ext w w' := by
  obtain ⟨box, hbox⟩ : ∃ o, o = Obj.cells #[.int .i64 c.number, .int .i64 c.start, .int .i64 c.finish, .slice ao c.ps.length cap] 24 := ⟨_, rfl⟩
  have hw0 : Ext w (w.alloc box) := (Ext.refl _).alloc _
  have hsz := fun x => laws_szCard (w := x) (c := c) (ao := ao) (cap := cap) (x := 1048576) hn (by decide) (by decide)
  by_cases hle : c.ps.length ≤ 1048576
  · have hto := fun x hx => laws_toCard (w := x) (cap := cap) (h.ext hx) hle
    have HPW := Lib.hid (fun x (hx : Ext w x) => hp.ext hx)
    have hSC := fun x B (hF : RowAt x (some ⟨B, 0, none⟩) 2 c.ps.length (fun k => (nth c.ps k).c)) => spec_CardText (w := x) (c := c) (cap := c.ps.length) hF hn
    have hIC := fun x B (hF : RowAt x (some ⟨B, 0, none⟩) 2 c.ps.length (fun k => (nth c.ps k).c)) (hp : Pow x) => impl_CardText (w := x) (c := c) (cap := c.ps.length) hF hn hp
    obtain ⟨T, hT⟩ : ∃ T, T = (if cardB c then bsOf (cardT c) else ByteArray.empty) := ⟨_, rfl⟩
    obtain ⟨N, hN⟩ : ∃ N, N = cardB c := ⟨_, rfl⟩
    rw [← hT, ← hN] at hSC hIC
    have hTT : (T.toList == T.toList) = true := by simp
    have hNN : (N == N) = true := by simp
    clear hT hN hp
    unfold CardD.val at hsz hto hSC hIC ⊢
    subst hbox
    have HSC := Lib.hid hSC; have HIC := Lib.hid hIC
    clear hSC hIC
    go_enter Tryd.func3, Tryd.ntmps3
    go_wp2_with fail
    refine (hsz _).mono ?_; rintro e w1 ⟨rfl, hx1⟩
    rw [show szI c.ps.length 1048576 = 1048576 - (c.ps.length : Int) by simp [szI]; omega]
    have hc := hx1.cellr
    go_wp2_with fail
    refine (hto _ (hw0.trans hx1)).mono ?_; rintro e w2 ⟨B2, rfl, hx2, hF2⟩
    have hy2 := hx1.trans hx2
    clear hc; have hc := hy2.cellr
    go_wp2_with fail
    refine (HSC.out _ _ hF2.row).mono ?_; rintro e w3 ⟨rfl, hx3⟩
    have hy3 := hy2.trans hx3
    clear hc; have hc := hy3.cellr
    go_wp2_with fail
    refine (hto _ (hw0.trans hy3)).mono ?_; rintro e w4 ⟨B4, rfl, hx4, hF4⟩
    have hy4 := hy3.trans hx4
    clear hc
    go_wp2_with fail
    refine (HIC.out _ _ (hF4.row.ext ((Ext.refl _).alloc _)) (HPW.out _ (hw0.trans (hy4.alloc _)))).mono ?_; rintro e w5 ⟨rfl, hx5⟩
    have hy5 : Ext (w.alloc (Obj.cells #[.int .i64 c.number, .int .i64 c.start, .int .i64 c.finish, .slice ao c.ps.length cap] 24)) w5 := (hy4.alloc _).trans hx5
    have hF5 := hF4.ext (((Ext.refl _).alloc _).trans hx5)
    have heq := fun x B (hx : Ext w5 x) (hF : FreshAt w5.heap.size x (some ⟨B, 0, none⟩) 2 c.ps.length (fun k => (nth c.ps k).c)) => laws_eqCard (w := x) (x := c) (y := c) (cap := c.ps.length) (cap' := c.ps.length) (hF5.row.ext hx) hF.row hn hn
    unfold CardD.val at heq
    have hone : c.eqB c = true := (CardD.eqB_iff c c).2 rfl
    go_wp2
    have p0 : w5.cell? ⟨w4.heap.size, 0, none⟩ = some (.int .i64 c.number) := hx5.cells (by go_simp)
    have p1 : w5.cell? ⟨w4.heap.size, 1, none⟩ = some (.int .i64 c.start) := hx5.cells (by go_simp)
    have p2 : w5.cell? ⟨w4.heap.size, 2, none⟩ = some (.int .i64 c.finish) := hx5.cells (by go_simp)
    have p3 : w5.cell? ⟨w4.heap.size, 3, none⟩ = some (.slice (some ⟨B4, 0, none⟩) c.ps.length c.ps.length) := hx5.cells (by go_simp)
    have q0 : w5.cell? ⟨w.heap.size, 0, none⟩ = some (.int .i64 c.number) := hy5.cells (by go_simp)
    have q1 : w5.cell? ⟨w.heap.size, 1, none⟩ = some (.int .i64 c.start) := hy5.cells (by go_simp)
    have q2 : w5.cell? ⟨w.heap.size, 2, none⟩ = some (.int .i64 c.finish) := hy5.cells (by go_simp)
    have q3 : w5.cell? ⟨w.heap.size, 3, none⟩ = some (.slice ao c.ps.length cap) := hy5.cells (by go_simp)
    have z0 : w4.heap.size < w5.heap.size := Nat.lt_of_lt_of_le (by simp) hx5.size
    have z1 : w.heap.size < w5.heap.size := Nat.lt_of_lt_of_le (by simp) hy5.size
    have hw5 := hw0.trans hy5
    clear hF4 hF5 hF2 hx1 hx2 hx3 hx4 hx5 hy2 hy3 hy4 hy5 hw0 h hsz
    have HTO := Lib.hid hto; clear hto
    have HEQ := Lib.hid heq; clear heq
    go_region_with (first
      | (go_at_call 7; refine (HTO.out _ (by repeat (first | (with_reducible exact Ext.refl _) | (with_reducible assumption) | with_reducible refine Ext.drew ?_ | with_reducible refine Ext.alloc ?_ _ | with_reducible refine Ext.setCell ?_ (by first | (simp; done) | (simp; omega) | omega) _ | with_reducible refine Ext.trans ?_ (by with_reducible assumption)))).mono ?_; rintro e w6 ⟨B6, rfl, hx6, hF6⟩; have hc6 := Ext.cellr (Ext.trans (Ext.refl w5).drew hx6))
      | (go_at_call 9; refine (HEQ.out _ _ (Ext.trans (Ext.refl _).drew hx6) hF6).mono ?_; rintro e w7 ⟨rfl, hx7⟩))
    all_goals
      go_wp2
      go_ret
      exact ⟨rfl, (by repeat (first | (with_reducible exact Ext.refl _) | (with_reducible assumption) | with_reducible refine Ext.drew ?_ | with_reducible refine Ext.alloc ?_ _ | with_reducible refine Ext.setCell ?_ (by first | (simp; done) | (simp; omega) | omega) _ | with_reducible refine Ext.trans ?_ (by with_reducible assumption)))⟩
  · unfold CardD.val at hsz ⊢
    subst hbox
    go_enter Tryd.func3, Tryd.ntmps3
    go_wp2_with fail
    refine (hsz _).mono ?_; rintro e w1 ⟨rfl, hx1⟩
    rw [show szI c.ps.length 1048576 = -1 by simp [szI]; omega]
    go_wp2
    go_ret
    exact ⟨rfl, (by repeat (first | (with_reducible exact Ext.refl _) | (with_reducible assumption) | with_reducible refine Ext.drew ?_ | with_reducible refine Ext.alloc ?_ _ | with_reducible refine Ext.setCell ?_ (by first | (simp; done) | (simp; omega) | omega) _ | with_reducible refine Ext.trans ?_ (by with_reducible assumption)))⟩

set_option maxRecDepth 100000 in
theorem lifted (os : Os) (started : os.Started) (H : Type) (enc : TypeId × Value → H) :
    ReturnsInHanded {} Tryd.checked os 3 .any (fun w args => (Rows.fnExactCardTextSpec.pre enc Tryd.prog Tryd.f3 Rows.fnExactCardTextRow.domain false w args ∧ laidMetH Tryd.prog Rows.fnExactCardTextRow.laid w) ∧ sizedMet enc Tryd.prog Tryd.f3 (OpenSpec.ofChange Rows.fnExactCardTextSpec) false w args)
      (Rows.fnExactCardTextSpec.post enc Tryd.prog Tryd.f3 false true false false) := by
  refine lift_laid (C := Tryd.checked) (X := fun w => laidMetH Tryd.prog Rows.fnExactCardTextRow.laid w) (fun _ _ hh h => h.of_heap hh) (by kernel_rfl) started (by kernel_rfl) Tryd.func3
    (ChangeSpec.witness_shaped (enc := enc) (C := Tryd.checked) (os := os) (X := fun w _ => laidMetH Tryd.prog Rows.fnExactCardTextRow.laid w) false (World.laidAll Tryd.prog os Rows.fnExactCardTextRow.laid) #[.agg #[.int .i64 0, .int .i64 0, .int .i64 0, .slice none 0 0]] 8 (World.laidAll_os _ _ _)
      (World.shaped_of_ZipB (by kernel_rfl) (by kernel_rfl)) (by kernel_rfl) (by kernel_rfl) (by kernel_rfl)
      (by rw [MakeChecks.laidMetH_plain _ _ _ (by kernel_rfl)]; exact laidMet_laidAll _ (by kernel_rfl) (by kernel_rfl))) ?_
  intro W base args ds gs before hval0 hW hL0 hsh
  have hL : laidMet Tryd.prog Rows.fnExactCardTextRow.laid W := by rw [← MakeChecks.laidMetH_plain _ _ _ (by kernel_rfl)]; exact hL0
  have hval : ∀ (j : Nat) t v, Tryd.f3.params[j]? = some t → args[j]? = some v → Value.okWide Tryd.prog W .any base t v := hval0
  have hW' := hW
  obtain ⟨p, q, hA0, hV, rfl, hfz, hnd⟩ := hW
  have hA : DataW.TrodAll enc Tryd.prog W 0 (fun _ => true) true Tryd.f3.params.toList args.toList ds p := hA0
  rw [Tryd.params3] at hA hval
  obtain ⟨v0, vs0, d0, ds0, p0, q0, hargs, rfl, rfl, h0, r0⟩ := trodAll_cons hA
  obtain ⟨rfl, rfl, rfl⟩ := trodAll_nil r0
  obtain rfl : args = #[v0] := by cases args; simp_all
  obtain ⟨rfl, rfl⟩ := trodVars_none hV
  obtain ⟨x0, ao0, cap0, rfl, hr0, hl0, hw0⟩ := open_Card (hval 0 24 v0 rfl rfl) h0
  have hpow : Pow W := pow_of hL.tail.tail
  refine (walk hr0 hl0 hw0 hpow).mono fun e W' ⟨he, hx⟩ => ?_
  subst he
  exact ⟨_, rfl, law_post (by kernel_rfl) (by kernel_rfl) Tryd.underlying4 rfl rfl hW' rfl hx⟩

theorem holds : Rows.FnExactCardTextSaid :=
  OpenClaim.holds_of_wide 3 Tryd.f3 rfl rfl rfl rfl rfl rfl rfl ⟨rfl, rfl, rfl, rfl, rfl⟩ rfl rfl rfl rfl rfl (by kernel_rfl) Tryd.func3 (by kernel_rfl)
    (of_decide_eq_true (by kernel_rfl)) (by unfold Func.isWrapper; first | (rw [if_pos (by decide +kernel)]; kernel_rfl) | (rw [if_neg (by decide +kernel)]; exact ⟨rfl, rfl⟩))
    (fun os started H enc _ => lifted os started H enc)

theorem card_holds : Rows.FnExactCardTextCardSaid :=
  Claim7.holds_tied_plain_at .later [] Rows.fnExactCardTextCard.laidKinds true Rows.fnExactCardTextCard.stood.harness true holds (fun _ h => by cases h) (by kernel_rfl) (fun _ h => by cases h) fnExactCardText_row_tie rfl ⟨rfl, rfl⟩ (by kernel_rfl) rfl
    (fun f fn hf hfn => by
      obtain rfl : f = 3 := (Option.some.inj ((show Tryd.prog.funcNamed Rows.fnExactCardTextRow.func = some 3 by kernel_rfl).symm.trans hf)).symm
      obtain rfl : fn = Tryd.f3 := (Option.some.inj (Tryd.func3.symm.trans hfn)).symm
      exact ⟨by kernel_rfl, fun j t ht => by
        rw [Tryd.params3] at ht
        have hm := Array.mem_of_getElem? ht
        have hall : (Tryd.f3.params.all fun u => !Tryd.prog.wantsStandIn u) = true := by kernel_rfl
        rw [Tryd.params3] at hall
        exact (show Tryd.prog.wantsStandIn t = false by simpa using Array.all_eq_true_iff_forall_mem.1 hall t hm)⟩)
    (by kernel_rfl)

end Go.Proofs.YtckgjpaccgpdpaaDoor.CardText
