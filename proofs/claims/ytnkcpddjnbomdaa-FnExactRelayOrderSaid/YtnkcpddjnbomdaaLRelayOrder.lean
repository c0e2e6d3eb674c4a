/-
  Proved here: the law FnExactRelayOrder answers true for every input and leaves its arguments as they were.
  Conditions: none.
-/
import Derived.Test.YtnkcpddjnbomdaaRelO1
import Derived.Test.YtnkcpddjnbomdaaRelO2
import Derived.Test.YtnkcpddjnbomdaaTeamF
import Derived.Test.YtnkcpddjnbomdaaMarkInts
namespace Go.Proofs.Ytnkcpddjnbomdaa.RelayOrder
open Go.ChangeShapes Go.WideShapes Go.ChangeAt Go.RowKit

theorem list_len {hs : List TeamD} {legs : Int} (_h : hs.length ≤ 1048576) : (relL hs legs).length ≤ 1048577 := by
  unfold relL
  split
  · rw [List.length_map, insF_len]
    exact Nat.le_trans (List.length_filter_le _ _) (by omega)
  · simp
theorem leg_len {hs : List TeamD} (h : ∀ k, k < hs.length → (nth hs k).legs.length ≤ 1048576) (k : Nat) : tlen hs k ≤ 1048577 := by
  by_cases hk : k < hs.length
  · have := h k hk; unfold tlen; omega
  · have : nth hs k = default := by simp [nth, List.getD, List.getElem?_eq_none (show hs.length ≤ k by omega)]
    unfold tlen
    rw [this]
    exact Nat.zero_le _

set_option maxRecDepth 100000 in
set_option maxHeartbeats 4000000 in
theorem walk {ao : Option Addr} {cap : Nat} {hs : List TeamD} {legs : Int} {w : World} (hn : hs.length ≤ 9223372036854775807) (h : GRow w ao 2 hs.length (tsC hs)) (_ : True) (hlegs : I64 legs) :
    Calls Try.prog 4 #[.slice ao hs.length cap, .int .i64 legs] w fun e w' => e = .returned (.bool true) ∧ Ext w w' := by
  have hsp := fun x ao' cap' hx hnil => spec_RelayOrder (w := x) (ao := ao') (capt := cap') (ts := hs) hx hn hlegs hnil
  have him := fun x ao' cap' hx hnil => impl_RelayOrder (w := x) (ao := ao') (cap := cap') (ts := hs) hx hn hlegs hnil
  have hLl := fun hl => list_len (hs := hs) (legs := legs) hl
  have hone : eqL eqI (relL hs legs) (relL hs legs) = true := (eqL_iff eqI_iff).2 rfl
  generalize relL hs legs = L at *
  generalize teamsB hs legs = B at *
  go_enter Try.func4, Try.ntmps4
  go_wp2_with fail
  refine (laws_szTeamS h hn).mono ?_; rintro e w1 ⟨r, rfl, hx1, hr⟩
  rcases hr with hr | ⟨hr, hl, hb⟩
  · go_wp2
    go_ret
    exact ⟨rfl, (by repeat (first | (with_reducible exact Ext.refl _) | (with_reducible assumption) | with_reducible refine Ext.drew ?_ | with_reducible refine Ext.alloc ?_ _ | with_reducible refine Ext.setCell ?_ (by first | (simp; done) | (simp; omega) | omega) _ | with_reducible refine Ext.trans ?_ (by with_reducible assumption)))⟩
  · have hLl := hLl hl
    have hL2 : L.length ≤ 9223372036854775807 := by omega
    have hL3 : L.length ≤ 1099511627776 := by omega
    have hlb := leg_len hb
    have hkb := tkU_bd (k0 := 1) hlb hs.length
    have HB := Lib.hid hb; clear hb
    have HLB := Lib.hid hlb; clear hlb
    go_wp2_with fail
    refine (laws_toTeamS (h.ext hx1) hl HB.out).mono ?_; rintro e w2 ⟨B2, rfl, hx2, hG2⟩
    have hy2 := hx1.trans hx2
    go_wp2_with fail
    refine (hsp _ _ _ hG2 (fun h => by cases h)).mono ?_; rintro e w3 ⟨bo, bc, rfl, hx3, hW⟩
    have hy3 := hy2.trans hx3
    go_wp2_with fail
    refine (laws_toTeamF (h.ext hy3) hl HB.out).mono ?_; rintro e w4 ⟨B4, A4, rfl, hx4, hT4⟩
    have hy4 := hy3.trans hx4
    have hrow4 := fun x (hx : Ext w4 x) => (hT4.ext hx).row (fun k hk => Nat.le_refl _) (fun k hk => by have := HB.out k hk; unfold tlen; omega)
    go_wp2_with fail
    refine (him _ _ _ (hrow4 _ (Ext.refl _)) (fun h => by cases h)).mono ?_; rintro e w5 ⟨go, gc, rfl, hx5, hG⟩
    have hy5 := hy4.trans hx5
    have hbase4 := hT4.base
    have hin4 := fun k hk => (hT4.inner k hk).base _ rfl
    have hsetW : ∀ a, bo = some a → ¬ TeamsF.set B4 hs.length A4 a.block := fun a e hset => by
      have h1 := (hW.base a e).2
      rcases hset with h2 | ⟨i, hi, h2⟩
      · omega
      · have h3 := hin4 i hi
        simp only at h3
        omega
    have hsetG : ∀ a, go = some a → ¬ TeamsF.set B4 hs.length A4 a.block := fun a e hset => by
      have h1 := (hG.base a e).1
      rcases hset with h2 | ⟨i, hi, h2⟩
      · omega
      · have h3 := hin4 i hi
        simp only at h3
        omega
    have hsetB : ∀ k, TeamsF.set B4 hs.length A4 k → w.heap.size ≤ k := fun k hset => by
      have h1 := hy3.size
      rcases hset with h2 | ⟨i, hi, h2⟩
      · omega
      · have h3 := hin4 i hi
        simp only at h3
        omega
    have hbG : ∀ k, blk go = some k → w.heap.size ≤ k := fun k e => by
      cases hgo : go with
      | none => rw [hgo] at e; cases e
      | some g =>
        rw [hgo] at e
        injection e with e
        have h1 := (hG.base g hgo).1
        have h2 := hy4.size
        simp only at e
        omega
    have hdWG : ∀ a, bo = some a → blk go ≠ some a.block := fun a e e' => by
      have h1 := (hW.base a e).2
      cases hgo : go with
      | none => rw [hgo] at e'; cases e'
      | some g =>
        rw [hgo] at e'
        injection e' with e'
        have h2 := (hG.base g hgo).1
        have h3 := hx4.size
        simp only at e'
        omega
    go_wp2_with fail
    refine (laws_eqIntS hG.row (hW.ext (hx4.trans hx5)).row hL2 hL2).mono ?_; rintro e w6 ⟨rfl, hx6⟩
    rw [hone]
    have hy6 := hy5.trans hx6
    go_wp2_with fail
    refine (laws_toTeamS (h.ext hy6) hl HB.out).mono ?_; rintro e w7 ⟨B7, rfl, hx7, hG7⟩
    have hy7 := hy6.trans hx7
    go_wp2_with fail
    refine (laws_eqTeamS (hrow4 _ (hx5.trans (hx6.trans hx7))) hG7 hn hn).mono ?_; rintro e w8 ⟨rfl, hx8⟩
    rw [(eqL_iff TeamD.eqB_iff).2 rfl]
    have hy8 := hy7.trans hx8
    have hT8 := hT4.ext (hx5.trans (hx6.trans (hx7.trans hx8)))
    have hGs := hG.ext (hx6.trans (hx7.trans hx8))
    have hWs := hW.ext (hx4.trans (hx5.trans (hx6.trans (hx7.trans hx8))))
    have HSW := Lib.hid hsetW
    have HSG := Lib.hid hsetG
    have HSB := Lib.hid hsetB
    have HBG := Lib.hid hbG
    have HDW := Lib.hid hdWG
    clear hsetW hsetG hsetB hbG hdWG hbase4 hin4 hrow4 hT4 hG hW hG2 hG7 hx1 hx2 hx3 hx4 hx5 hx6 hx7 hx8 hy2 hy3 hy4 hy5 hy6 hy7
    go_wp2_with fail
    refine (laws_markTeamF hT8 (by omega) HLB.out (by decide) (by decide)).mono ?_; rintro e w9 ⟨rfl, ht9, _⟩
    have hy9 := ht9.ext hy8 HSB.out
    have hG9 := hGs.touch ht9 HSG.out
    have hW9 := hWs.touch ht9 HSW.out
    clear hT8 hGs hWs ht9 hy8
    go_wp2_with fail
    refine (laws_eqIntS hG9.row hW9.row hL2 hL2).mono ?_; rintro e w10 ⟨rfl, hx10⟩
    rw [hone]
    have hy10 := hy9.trans hx10
    have hG10 := hG9.ext hx10
    have hW10 := hW9.ext hx10
    clear hG9 hW9 hx10 hy9
    go_wp2_with fail
    refine (laws_markIntS hG10 hL3 (by decide) (by decide)).mono ?_; rintro e w11 ⟨rfl, hg11, hG11⟩
    have hy11 := grown_ext hy10 hg11 HBG.out
    have hW11 := hW10.grown hg11 HDW.out
    clear hG10 hW10 hg11 hy10
    go_wp2_with fail
    refine (laws_heldIntS hG11.row hL3 (by decide) (by decide)).mono ?_; rintro e w12 ⟨rfl, hx12⟩
    have hy12 := hy11.trans hx12
    go_wp2_with fail
    refine (laws_toTeamS (h.ext hy12) hl HB.out).mono ?_; rintro e w13 ⟨B13, rfl, hx13, hG13⟩
    go_wp2_with fail
    refine (him _ _ _ hG13 (fun h => by cases h)).mono ?_; rintro e w14 ⟨ho, hc, rfl, hx14, hH⟩
    go_wp2_with fail
    refine (laws_eqIntS hH.row (hW11.ext (hx12.trans (hx13.trans hx14))).row hL2 hL2).mono ?_; rintro e w15 ⟨rfl, hx15⟩
    rw [hone]
    go_wp2_with fail
    refine (laws_heldIntS (hG11.ext (hx12.trans (hx13.trans (hx14.trans hx15)))).row hL3 (by decide) (by decide)).mono ?_; rintro e w16 ⟨rfl, hx16⟩
    go_wp2
    go_ret
    exact ⟨rfl, hy11.trans (hx12.trans (hx13.trans (hx14.trans (hx15.trans hx16))))⟩

set_option maxRecDepth 100000 in
theorem lifted (os : Os) (started : os.Started) (H : Type) (enc : TypeId × Value → H) :
    ReturnsInHanded {} Try.checked os 4 .any (Rows.fnExactRelayOrderSpec.pre6 enc Try.prog Try.f4 Rows.fnExactRelayOrderRow.domain false) (Rows.fnExactRelayOrderSpec.post enc Try.prog Try.f4 false true false false) := by
  refine returnsInHanded_of_change (C := Try.checked) (by kernel_rfl) started (by kernel_rfl) Try.func4
    (ChangeSpec.witness6 (enc := enc) (C := Try.checked) false ⟨#[], #[.slice none 0 0, .int .i64 0], []⟩ 8 (by kernel_rfl) (by kernel_rfl) (by kernel_rfl) (by kernel_rfl)) ?_
  intro W base args ds gs before hval0 hW _ _
  have hval : ∀ (j : Nat) t v, Try.f4.params[j]? = some t → args[j]? = some v → Value.okWide Try.prog W .any base t v := hval0
  have hW' := hW
  obtain ⟨p, q, hA0, hV, rfl, hfz, hnd⟩ := hW
  have hA : DataW.TrodAll enc Try.prog W 0 (fun _ => true) true Try.f4.params.toList args.toList ds p := hA0
  rw [Try.params4] at hA hval
  obtain ⟨v0, vs0, d0, ds0, p0, q0, hargs, rfl, rfl, h0, r0⟩ := trodAll_cons hA
  obtain ⟨v1, vs1, d1, ds1, p1, q1, rfl, rfl, rfl, h1, r1⟩ := trodAll_cons r0
  obtain ⟨rfl, rfl, rfl⟩ := trodAll_nil r1
  obtain rfl : args = #[v0, v1] := by cases args; simp_all
  obtain ⟨rfl, rfl⟩ := trodVars_none hV
  obtain ⟨ao0, cap0, xs0, rfl, hl0, hr0, hw0⟩ := open_TeamS (hval 0 22 v0 rfl rfl) h0
  obtain ⟨a1, rfl, _, _, wa1⟩ := open_int Try.underlying3 (hval 1 3 v1 rfl rfl) h1
  refine (walk hl0 hr0 hw0 (I64.of_wf wa1)).mono fun e W' ⟨he, hx⟩ => ?_
  subst he
  exact ⟨_, rfl, law_post (by kernel_rfl) (by kernel_rfl) Try.underlying4 rfl rfl hW' rfl hx⟩

theorem holds : Rows.FnExactRelayOrderSaid :=
  OpenClaim.holds_of_wide 4 Try.f4 rfl rfl rfl rfl rfl rfl rfl ⟨rfl, rfl, rfl, rfl, rfl⟩ rfl rfl rfl rfl rfl (by kernel_rfl) Try.func4 (by kernel_rfl)
    (of_decide_eq_true (by kernel_rfl)) (by unfold Func.isWrapper; first | (rw [if_pos (by decide +kernel)]; kernel_rfl) | (rw [if_neg (by decide +kernel)]; exact ⟨rfl, rfl⟩))
    (fun os started H enc _ => lifted os started H enc)
end Go.Proofs.Ytnkcpddjnbomdaa.RelayOrder
