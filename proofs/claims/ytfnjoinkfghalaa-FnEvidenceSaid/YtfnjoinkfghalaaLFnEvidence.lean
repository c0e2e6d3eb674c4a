/-
  Proved here: the law FnEvidence answers true for every input and leaves its arguments as they were.
  Conditions: none.
-/
import Derived.Test.YtfnjoinkfghalaaEvPl
import Derived.Test.YtfnjoinkfghalaaDrawP
import Derived.Test.YtfnjoinkfghalaaReq
import Derived.Test.YtfnjoinkfghalaaTByteS
import Derived.Deep.DrawnRows
import Derived.Deep.DeepCutAuto
namespace Go.Proofs.Ytfnjoinkfghalaa.FnEvidence
open Go.ChangeShapes Go.WideShapes Go.ChangeAt Go.RowKit

theorem bel_form (ms : List Prf) (r c l : Int) : ∃ b f, gBel ms r c l = .tuple #[.bool b, .bool f] := by unfold gBel; split <;> exact ⟨_, _, rfl⟩
theorem bal_form (ms : List Prf) (r c : Int) : ∃ (b : Int) (f : Bool), gBal ms r c = .tuple #[.int .i64 b, .bool f] := by unfold gBal; split <;> exact ⟨_, _, rfl⟩

set_option maxRecDepth 100000 in
set_option maxHeartbeats 8000000 in
theorem walk {co : Option Addr} {cc m : Nat} {bs : Nat → Nat} {w : World} (hr : RowAt w co 1 m (by8 bs)) (hm : m ≤ 9223372036854775807) (hb : ∀ k, bs k < 256) :
    Calls Try.prog 4 #[.slice co m cc] w fun e w' => e = .returned (.bool true) ∧ Ext w w' := by
  by_cases hbig : 65536 < m
  · go_enter Try.func4, Try.ntmps4
    go_wp2_with fail
    refine (laws_rBig hm).mono ?_; rintro e w1 ⟨rfl, rfl⟩
    rw [show decide (65536 < m) = true by simpa using hbig]
    go_wp2
    go_ret
    exact ⟨rfl, (by repeat (first | (with_reducible exact Ext.refl _) | (with_reducible assumption) | with_reducible refine Ext.drew ?_ | with_reducible refine Ext.alloc ?_ _ | with_reducible refine Ext.setCell ?_ (by first | (simp; done) | (simp; omega) | omega) _ | with_reducible refine Ext.trans ?_ (by with_reducible assumption)))⟩
  · have HD1 := Lib.hid (draw_lacks (cc := cc) hr hb hm)
    have HD2 := Lib.hid (fun x (hx : Ext w x) => draw_codes (cc := cc) (hr.ext hx) hb hm)
    have HD3 := Lib.hid (fun x (hx : Ext w x) => draw_balance (cc := cc) (hr.ext hx) hb hm)
    have HV := Lib.hid (laws_rBig (ao := co) (cap := cc) (w := w) hm)
    have HBIG : Hid (decide (65536 < m) = false) := Lib.hid (by simpa using hbig)
    have HX0 := Lib.hid (Ext.refl w)
    clear hr hb hbig hm
    go_enter Try.func4, Try.ntmps4
    go_wp2_with fail
    refine HV.out.mono ?_; rintro e w1 ⟨rfl, rfl⟩
    rw [HBIG.out]
    clear HV HBIG
    go_wp2_with fail
    refine (HD1.out).mono ?_; rintro e w1 ⟨ao, cap, xs, r, c, l, rfl, hD, hr6, hc6, hl6, hx⟩
    have hxl : xs.length ≤ 13 := hD.1
    have hnil := hD.2.2.1
    have HLI := Lib.hid (fun x h => impl_LacksFor (w := x) (ao := ao) (cap := cap) (ms := xs) (r := r) (c := c) (l := l) h (by omega) hr6 hc6 hl6 (by omega) hnil)
    have HLS := Lib.hid (fun x h => spec_LacksFor (w := x) (ao := ao) (cap := cap) (ms := xs) (r := r) (c := c) (l := l) h (by omega) hr6 hc6 hl6 (by omega) hnil)
    have HBI := Lib.hid (fun x h => impl_IsBelieved (w := x) (ao := ao) (cap := cap) (ms := xs) (r := r) (c := c) (lim := l) h (by omega) hr6 hc6 hl6)
    have HBS := Lib.hid (fun x h => spec_IsBelieved (w := x) (ao := ao) (cap := cap) (ms := xs) (r := r) (c := c) (lim := l) h (by omega) hr6 hc6 hl6)
    have HB2 := Lib.hid (fun x ao2 cap2 (ys : List Prf) h (hy : ys.length ≤ 14) => impl_IsBelieved (w := x) (ao := ao2) (cap := cap2) (ms := ys) (r := r) (c := c) (lim := l) h (by omega) hr6 hc6 hl6)
    have HAP := Lib.hid (fun x k h => impl_AddProof (w := x) (ao := ao) (cap := cap) (ms := xs) (p := dev r c k) h (by omega) (by omega) hnil)
    have HL_1 := Lib.hid (hD.2.2.2.row)
    have HX1 := Lib.hid (HX0.out.trans hx)
    clear hx HX0
    clear hD HD1 hr6 hc6 hl6 hnil
    have HFORM := Lib.hid (lacks_form xs r c l)
    rcases HFORM.out with ⟨e1, bb, bf, e2⟩ | ⟨e1, e2⟩ | ⟨k, hk, e1, e2, e3⟩
    case' inl =>
      rw [e1] at HLI HLS; rw [e2] at HBI HBS
      clear e1 e2 HFORM
      go_wp2_with fail
      refine (HLI.out _ HL_1.out).mono ?_; rintro e w2 ⟨rfl, hx⟩
      have HX2 := Lib.hid (HX1.out.trans hx)
      have HL_2 := Lib.hid (HL_1.out.ext hx)
      clear hx HX1 HL_1
      go_wp2_with fail
      refine (HLS.out _ HL_2.out).mono ?_; rintro e w3 ⟨rfl, hx⟩
      have HX3 := Lib.hid (HX2.out.trans hx)
      have HL_3 := Lib.hid (HL_2.out.ext hx)
      clear hx HX2 HL_2
      go_wp2_with fail
      refine (HBI.out _ HL_3.out).mono ?_; rintro e w4 ⟨rfl, hx⟩
      have HX4 := Lib.hid (HX3.out.trans hx)
      have HL_4 := Lib.hid (HL_3.out.ext hx)
      clear hx HX3 HL_3
      go_wp2_with fail
      refine (HBS.out _ HL_4.out).mono ?_; rintro e w5 ⟨rfl, hx⟩
      have HX5 := Lib.hid (HX4.out.trans hx)
      have HL_5 := Lib.hid (HL_4.out.ext hx)
      clear hx HX4 HL_4
      go_upto_if 108 with fail
      go_cut [] (fun wc => Ext w wc)
      case first =>
        go_wp2_with fail
        go_meet
        exact HX5.out
    case' inr.inl =>
      rw [e1] at HLI HLS; rw [e2] at HBI HBS
      clear e1 e2 HFORM
      go_wp2_with fail
      refine (HLI.out _ HL_1.out).mono ?_; rintro e w2 ⟨rfl, hx⟩
      have HX2 := Lib.hid (HX1.out.trans hx)
      have HL_2 := Lib.hid (HL_1.out.ext hx)
      clear hx HX1 HL_1
      go_wp2_with fail
      refine (HLS.out _ HL_2.out).mono ?_; rintro e w3 ⟨rfl, hx⟩
      have HX3 := Lib.hid (HX2.out.trans hx)
      have HL_3 := Lib.hid (HL_2.out.ext hx)
      clear hx HX2 HL_2
      go_wp2_with fail
      refine (HBI.out _ HL_3.out).mono ?_; rintro e w4 ⟨rfl, hx⟩
      have HX4 := Lib.hid (HX3.out.trans hx)
      have HL_4 := Lib.hid (HL_3.out.ext hx)
      clear hx HX3 HL_3
      go_wp2_with fail
      refine (HBS.out _ HL_4.out).mono ?_; rintro e w5 ⟨rfl, hx⟩
      have HX5 := Lib.hid (HX4.out.trans hx)
      have HL_5 := Lib.hid (HL_4.out.ext hx)
      clear hx HX4 HL_4
      go_upto_if 108 with fail
      go_cut [] (fun wc => Ext w wc)
      case first =>
        go_wp2_with fail
        go_meet
        exact HX5.out
    case' inr.inr =>
      rw [e1] at HLI HLS; rw [e2] at HBI HBS
      clear e1 e2 HFORM
      have HE3 := Lib.hid e3; clear e3
      have hk1 : (0 : Int) < (k : Int) + 1 := by omega
      have hk2 : (((k : Int) + 1) == 0) = false := by simp; omega
      go_wp2_with fail
      refine (HLI.out _ HL_1.out).mono ?_; rintro e w2 ⟨rfl, hx⟩
      have HX2 := Lib.hid (HX1.out.trans hx)
      have HL_2 := Lib.hid (HL_1.out.ext hx)
      clear hx HX1 HL_1
      go_wp2_with fail
      refine (HLS.out _ HL_2.out).mono ?_; rintro e w3 ⟨rfl, hx⟩
      have HX3 := Lib.hid (HX2.out.trans hx)
      have HL_3 := Lib.hid (HL_2.out.ext hx)
      clear hx HX2 HL_2
      go_wp2_with fail
      refine (HBI.out _ HL_3.out).mono ?_; rintro e w4 ⟨rfl, hx⟩
      have HX4 := Lib.hid (HX3.out.trans hx)
      have HL_4 := Lib.hid (HL_3.out.ext hx)
      clear hx HX3 HL_3
      go_wp2_with fail
      refine (HBS.out _ HL_4.out).mono ?_; rintro e w5 ⟨rfl, hx⟩
      have HX5 := Lib.hid (HX4.out.trans hx)
      have HL_5 := Lib.hid (HL_4.out.ext hx)
      clear hx HX4 HL_4
      go_upto_if 108 with fail
      go_cut [] (fun wc => Ext w wc)
      case first =>
        have hlen : (addL xs (dev r c k)).length ≤ 14 := by unfold addL; split <;> simp <;> omega
        cases hB : addB xs (dev r c k)
        · have HBB := Lib.hid hB; clear hB
          obtain ⟨nb, nf, he⟩ := bel_form (addL xs (dev r c k)) r c l
          have HHE := Lib.hid he; clear he
          have HLEN := Lib.hid hlen; clear hlen
          have HAQ := Lib.hid (show Calls Try.prog 21 #[.slice ao xs.length cap, .agg #[.int .i64 r, .int .i64 c, .int .i64 3, .int .i64 ((k : Int) + 1), .bool false]] w5 (ResP w5 (addL xs (dev r c k)) (addB xs (dev r c k))) from HAP.out _ k HL_5.out)
          have hll : (addL xs (dev r c k)).length ≤ 14 := HLEN.out
          rw [HBB.out] at HAQ
          generalize addL xs (dev r c k) = M at HAQ HHE HLEN hll
          go_wp2_with fail
          refine HAQ.out.mono ?_; rintro e w6 ⟨mo, mc, rfl, hx, hF⟩
          have HM_6 := Lib.hid hF.row
          clear hF
          have HX6 := Lib.hid (HX5.out.trans hx)
          have HL_6 := Lib.hid (HL_5.out.ext hx)
          clear hx HX5 HL_5
          have HQ := Lib.hid (HB2.out _ mo mc M HM_6.out HLEN.out)
          rw [HHE.out] at HQ
          go_wp2_with fail
          refine (HQ.out).mono ?_; rintro e w7 ⟨rfl, hx⟩
          have HX7 := Lib.hid (HX6.out.trans hx)
          have HL_7 := Lib.hid (HL_6.out.ext hx)
          have HM_7 := Lib.hid (HM_6.out.ext hx)
          clear hx HX6 HL_6 HM_6
          go_wp2_with fail
          go_meet
          exact HX7.out
        · have HBB := Lib.hid hB; clear hB
          have he := HE3.out HBB.out
          have HHE := Lib.hid he; clear he
          have HLEN := Lib.hid hlen; clear hlen
          have HAQ := Lib.hid (show Calls Try.prog 21 #[.slice ao xs.length cap, .agg #[.int .i64 r, .int .i64 c, .int .i64 3, .int .i64 ((k : Int) + 1), .bool false]] w5 (ResP w5 (addL xs (dev r c k)) (addB xs (dev r c k))) from HAP.out _ k HL_5.out)
          have hll : (addL xs (dev r c k)).length ≤ 14 := HLEN.out
          rw [HBB.out] at HAQ
          generalize addL xs (dev r c k) = M at HAQ HHE HLEN hll
          go_wp2_with fail
          refine HAQ.out.mono ?_; rintro e w6 ⟨mo, mc, rfl, hx, hF⟩
          have HM_6 := Lib.hid hF.row
          clear hF
          have HX6 := Lib.hid (HX5.out.trans hx)
          have HL_6 := Lib.hid (HL_5.out.ext hx)
          clear hx HX5 HL_5
          have HQ := Lib.hid (HB2.out _ mo mc M HM_6.out HLEN.out)
          rw [HHE.out] at HQ
          go_wp2_with fail
          refine (HQ.out).mono ?_; rintro e w7 ⟨rfl, hx⟩
          have HX7 := Lib.hid (HX6.out.trans hx)
          have HL_7 := Lib.hid (HL_6.out.ext hx)
          have HM_7 := Lib.hid (HM_6.out.ext hx)
          clear hx HX6 HL_6 HM_6
          go_wp2_with fail
          go_meet
          exact HX7.out
    all_goals
      have HX6 := Lib.hid hcut
      clear hcut HLI HLS HBI HBS HB2 HAP
      try clear HE3 hk1 hk2 hk
      generalize hwc : wc = w6 at HX6 ⊢
      clear hwc
      clear HX5 HL_5
      go_wp2_with fail
      refine (HD2.out _ HX6.out).mono ?_; rintro e w7 ⟨ao2, cap2, ys, r2, l2, rfl, hD, hr6, hl6, hx⟩
      have hyl : ys.length ≤ 13 := hD.1
      have hnil := hD.2.2.1
      have HCI := Lib.hid (fun x h => impl_BelievedCodes (w := x) (ao := ao2) (cap := cap2) (ms := ys) (r := r2) (l := l2) h (by omega) hr6 hl6)
      have HCS := Lib.hid (fun x h => spec_BelievedCodes (w := x) (ao := ao2) (cap := cap2) (ms := ys) (r := r2) (l := l2) h (by omega) hr6 hl6)
      have HBA := Lib.hid (fun x c h hc => impl_BalanceOf (w := x) (ao := ao2) (cap := cap2) (ms := ys) (r := r2) (c := c) h (by omega) hr6 hc)
      have HSF := Lib.hid (fun x c h => impl_StrongestFor (w := x) (ao := ao2) (cap := cap2) (ms := ys) (r := r2) (c := c) h (by omega) (by omega) hnil)
      have hNl := codL_len ys r2 l2
      have HAT := Lib.hid (fun i => @cod_at ys r2 l2 i)
      generalize codL ys r2 l2 = N at HCI HCS HAT hNl
      generalize codB ys r2 l2 = NB at HCI HCS
      have HNL : Hid (N.length ≤ 9223372036854775807) := Lib.hid (by omega)
      have HY_7 := Lib.hid (hD.2.2.2.row)
      have HX7 := Lib.hid (HX6.out.trans hx)
      clear hx HX6
      clear hD HD2 hr6 hl6 hnil
      go_wp2_with fail
      refine (HCI.out _ HY_7.out).mono ?_; rintro e w8 ⟨no, nc, rfl, hx, hF⟩
      have HN_8 := Lib.hid hF.row
      clear hF HCI
      have HX8 := Lib.hid (HX7.out.trans hx)
      have HY_8 := Lib.hid (HY_7.out.ext hx)
      clear hx HX7 HY_7
      go_wp2_with fail
      refine (HCS.out _ HY_8.out).mono ?_; rintro e w9 ⟨no2, nc2, rfl, hx, hF⟩
      have HK_9 := Lib.hid hF.row
      clear hF HCS
      have HX9 := Lib.hid (HX8.out.trans hx)
      have HY_9 := Lib.hid (HY_8.out.ext hx)
      have HN_9 := Lib.hid (HN_8.out.ext hx)
      clear hx HX8 HY_8 HN_8
      go_wp2_with fail
      refine (laws_rInts (ac := nc) (bc := nc2) HN_9.out HK_9.out HNL.out).mono ?_; rintro e w10 ⟨rfl, hx⟩
      have HX10 := Lib.hid (HX9.out.trans hx)
      have HY_10 := Lib.hid (HY_9.out.ext hx)
      have HN_10 := Lib.hid (HN_9.out.ext hx)
      clear hx HX9 HY_9 HN_9 HK_9
      go_wp2
      go_loopw [26] (fun i wr => ∃ k : Nat, k ≤ N.length ∧ i = .int .i64 k ∧ Ext w10 wr) (fun i _ => N.length - (intOf i).toNat)
      case atStart => exact ⟨0, by omega, rfl, Ext.refl _⟩
      case round =>
        obtain ⟨k, hk, rfl, hx⟩ := hrel
        have HXW := Lib.hid hx
        by_cases hlt : k < N.length
        · obtain ⟨nb, noff, rfl, hcell⟩ := ints_at' (HN_10.out.ext hx) (by omega)
          have d0 := hcell k hlt
          obtain ⟨hcd, ⟨bal, hbal, hle⟩, hsb, hag, hru⟩ := HAT.out k hlt
          have HBQ := Lib.hid (HBA.out _ (nth N k) (HY_10.out.ext hx) ⟨by omega, by omega⟩)
          have HSQ := Lib.hid (fun x hx => HSF.out x (nth N k) (HY_10.out.ext hx))
          rw [hbal] at HBQ
          rw [hsb] at HSQ
          have hbl : decide (bal < l2) = false := by simpa using hle
          generalize strP ys r2 (nth N k) = P at HSQ hag hru
          obtain ⟨pr, pc, pk, pt, pg⟩ := P
          have hag : pg = false := hag
          have hru : pr = r2 := hru
          subst hag hru
          unfold Prf.val at HSQ
          generalize nth N k = cd at d0 HBQ HSQ
          have hk0 : (0 : Int) ≤ (k : Int) := by omega
          have hk1 : (k : Int) < (N.length : Int) := by omega
          clear hcell hbal hsb hx hle hcd
          go_wp2_with fail
          refine HBQ.out.mono ?_; rintro e wa ⟨rfl, hxa⟩
          have d0 := hxa.cells d0
          have HXA := Lib.hid (HXW.out.trans hxa)
          clear hxa HBQ
          go_wp2_with fail
          refine (HSQ.out _ HXA.out).mono ?_; rintro e wb ⟨rfl, hxb⟩
          have HXB := Lib.hid (HXA.out.trans hxb)
          clear hxb HSQ d0
          go_wp2
          go_roundw
          case rel => exact ⟨k + 1, by omega, by go_num, HXB.out.alloc _⟩
          case measure => simp [intOf] <;> omega
        · have hnk : ¬ (k : Int) < (N.length : Int) := by omega
          clear HAT HBA HSF
          have HXE := Lib.hid (HX10.out.trans HXW.out)
          clear HXW hx
          go_wp2_with fail
          refine (HD3.out _ HXE.out).mono ?_; rintro e wa ⟨ao3, cap3, zs, r3, c3, rfl, hD, hr6, hc6, hx⟩
          have hzl : zs.length ≤ 13 := hD.1
          have HZ := Lib.hid hD.2.2.2.row
          obtain ⟨b3, f3, e3⟩ := bal_form zs r3 c3
          have HBI := Lib.hid (fun x h => impl_BalanceOf (w := x) (ao := ao3) (cap := cap3) (ms := zs) (r := r3) (c := c3) h (by omega) hr6 hc6)
          have HBS := Lib.hid (fun x h => spec_BalanceOf (w := x) (ao := ao3) (cap := cap3) (ms := zs) (r := r3) (c := c3) h (by omega) hr6 hc6)
          rw [e3] at HBI HBS
          have HXA := Lib.hid (HXE.out.trans hx)
          clear hD hr6 hc6 hx e3
          go_wp2_with fail
          refine (HBI.out _ HZ.out).mono ?_; rintro e wb ⟨rfl, hx⟩
          have HZB := Lib.hid (HZ.out.ext hx)
          have HXB := Lib.hid (HXA.out.trans hx)
          clear hx HBI
          go_wp2_with fail
          refine (HBS.out _ HZB.out).mono ?_; rintro e wc2 ⟨rfl, hx⟩
          have HXC := Lib.hid (HXB.out.trans hx)
          clear hx HBS
          go_wp2
          go_ret
          exact ⟨ret_b (by simp), HXC.out⟩

set_option maxRecDepth 100000 in
theorem lifted (os : Os) (started : os.Started) (H : Type) (enc : TypeId × Value → H) :
    ReturnsInHanded {} Try.checked os 4 .any (Rows.fnEvidenceSpec.pre6 enc Try.prog Try.f4 Rows.fnEvidenceRow.domain false) (Rows.fnEvidenceSpec.post enc Try.prog Try.f4 false true false false) := by
  refine returnsInHanded_of_change (C := Try.checked) (by kernel_rfl) started (by kernel_rfl) Try.func4
    (ChangeSpec.witness6 (enc := enc) (C := Try.checked) false ⟨#[], #[.slice none 0 0], []⟩ 8 (by kernel_rfl) (by kernel_rfl) (by kernel_rfl) (by kernel_rfl)) ?_
  intro W base args ds gs before hval0 hW _ _
  have hval : ∀ (j : Nat) t v, Try.f4.params[j]? = some t → args[j]? = some v → Value.okWide Try.prog W .any base t v := hval0
  have hW' := hW
  obtain ⟨p, q, hA0, hV, rfl, hfz, hnd⟩ := hW
  have hA : DataW.TrodAll enc Try.prog W 0 (fun _ => true) true Try.f4.params.toList args.toList ds p := hA0
  rw [Try.params4] at hA hval
  obtain ⟨v0, vs0, d0, ds0, p0, q0, hargs, rfl, rfl, h0, r0⟩ := trodAll_cons hA
  obtain ⟨rfl, rfl, rfl⟩ := trodAll_nil r0
  obtain rfl : args = #[v0] := by cases args; simp_all
  obtain ⟨rfl, rfl⟩ := trodVars_none hV
  obtain ⟨ao0, cap0, m0, bs0, rfl, hl0, hr0, hw0⟩ := open_ByteS (hval 0 34 v0 rfl rfl) h0
  refine (walk hr0 hl0 hw0).mono fun e W' ⟨he, hx⟩ => ?_
  subst he
  exact ⟨_, rfl, law_post (by kernel_rfl) (by kernel_rfl) Try.underlying4 rfl rfl hW' rfl hx⟩

theorem holds : Rows.FnEvidenceSaid :=
  OpenClaim.holds_of_wide 4 Try.f4 rfl rfl rfl rfl rfl rfl rfl ⟨rfl, rfl, rfl, rfl, rfl⟩ rfl rfl rfl rfl rfl (by kernel_rfl) Try.func4 (by kernel_rfl)
    (of_decide_eq_true (by kernel_rfl)) (by unfold Func.isWrapper; first | (rw [if_pos (by decide +kernel)]; kernel_rfl) | (rw [if_neg (by decide +kernel)]; exact ⟨rfl, rfl⟩))
    (fun os started H enc _ => lifted os started H enc)

end Go.Proofs.Ytfnjoinkfghalaa.FnEvidence
