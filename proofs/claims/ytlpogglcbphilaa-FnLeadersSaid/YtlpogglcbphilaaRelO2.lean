/-
  Proved here: what RelayOrder's reference returns.
  Conditions: the number of teams fits an int.
-/
import Derived.Test.YtlpogglcbphilaaRelO1
import Derived.Test.YtlpogglcbphilaaCopy
import Derived.Test.YtlpogglcbphilaaApart
import Derived.Test.YtlpogglcbphilaaSearch
import Derived.Deep.DeepCutAuto
import Derived.Deep.CutBlock
import Derived.Deep.RegionLaw
import Derived.BigQuiet
namespace Go.Proofs.Ytlpogglcbphilaa
open Go.RowKit

theorem step_lt {ts : List TeamD} {legs : Int} (h : teamsB ts legs = true) {p q : Nat} (hpq : p < q) (hq : q < ts.length) : (nth ts p).num < (nth ts q).num := by
  have hst : ∀ k, k + 1 < ts.length → (nth ts k).num < (nth ts (k + 1)).num := fun k hk => by
    simp only [teamsB, Bool.and_eq_true, upto_true] at h
    have := h.1.1 (k + 1) hk
    simp only [okTeam, stepB, Bool.and_eq_true] at this
    have h2 := this.2
    simp at h2
    exact h2
  induction q with
  | zero => omega
  | succ q ih =>
    by_cases e : p = q
    · subst e; exact hst p hq
    · exact Int.lt_trans (ih (by omega) (by omega)) (hst q hq)
theorem fdT_num {ts : List TeamD} {legs : Int} (h : teamsB ts legs = true) {q : Nat} (hq : q < ts.length) : fdT ts (nth ts q).num = (q : Int) := by
  unfold fdT
  refine idxU_at hq (by simp) (fun j hj => ?_)
  have := step_lt h hj hq
  simp
  omega
/-- the order of the teams ahead of number i -/
def ordA (ts : List TeamD) (legs : Int) (i : Nat) : List TeamD := insF tkey ((ts.take i).filter (doneT legs))
theorem ordA_yes {ts : List TeamD} {legs : Int} {i : Nat} (hi : i < ts.length) (h : doneT legs (nth ts i) = true) : ordA ts legs (i + 1) = insP tkey (ordA ts legs i) (nth ts i) := by
  unfold ordA
  rw [take_succ_nth hi, List.filter_append, show [nth ts i].filter (doneT legs) = [nth ts i] by simp [h], insF_snoc]
theorem ordA_no {ts : List TeamD} {legs : Int} {i : Nat} (hi : i < ts.length) (h : doneT legs (nth ts i) = false) : ordA ts legs (i + 1) = ordA ts legs i := by
  unfold ordA
  rw [take_succ_nth hi, List.filter_append, show [nth ts i].filter (doneT legs) = [] by simp [h], List.append_nil]
theorem ordA_at {ts : List TeamD} {legs : Int} {i k : Nat} (hk : k < (ordA ts legs i).length) : ∃ q, q < ts.length ∧ nth (ordA ts legs i) k = nth ts q := by
  have h1 : nth (ordA ts legs i) k ∈ ordA ts legs i := by simp [nth, hk]
  generalize nth (ordA ts legs i) k = y at h1
  have h2 := List.mem_of_mem_take (List.mem_filter.1 (insF_mem tkey h1)).1
  obtain ⟨q, hq, e⟩ := List.mem_iff_getElem.1 h2
  exact ⟨q, hq, by simp [nth, hq, e]⟩
theorem ordA_len (ts : List TeamD) (legs : Int) (i : Nat) : (ordA ts legs i).length ≤ ts.length := by
  unfold ordA
  rw [insF_len]
  exact Nat.le_trans (List.length_filter_le _ _) (by simp; omega)
theorem nth_mapT {A : List TeamD} {k : Nat} (hk : k < A.length) : nth (A.map TeamD.num) k = (nth A k).num := by simp [nth, hk]

set_option maxRecDepth 100000 in
set_option maxHeartbeats 8000000 in
theorem spec_RelayOrder {ao : Option Addr} {capt : Nat} {ts : List TeamD} {legs : Int} {w : World} (h : GRow w ao 2 ts.length (tsC ts)) (hn : ts.length ≤ 9223372036854775807) (_h64 : I64 legs) (_hnil : ao = none → capt = 0) :
    Calls Try.prog 13 #[.slice ao ts.length capt, .int .i64 legs] w (ResI w (relL ts legs) (teamsB ts legs)) := by
  obtain ⟨i0, hi, hz0, hz1, hz2⟩ := info_parts infoInt
  have hx0 := (Ext.refl w).alloc (.cells #[] 3)
  have HA := Lib.hid (spec_l16Good (cap := capt) (legs := legs) (h.ext hx0) hn)
  have HFN := Lib.hid (show FreshAt w.heap.size (w.alloc (.cells #[] 3)) (some ⟨w.heap.size, 0, none⟩) 1 0 (ic []) from (Owns.start (Ext.refl w) : Owns (w.alloc (.cells #[] 3)) w.heap.size 3 1 icc _ []).fresh0)
  have HX0 := Lib.hid hx0
  clear hx0
  cases hv : teamsB ts legs
  · have HL := Lib.hid (show relL ts legs = [] by unfold relL; rw [hv]; rfl)
    rw [hv] at HA
    clear hv h hi hz0 hz1 hz2
    go_enter Try.func13, Try.ntmps13
    go_wp2_with fail
    refine HA.out.mono ?_; rintro e w1 ⟨rfl, hx1⟩
    have HX1 := Lib.hid (HX0.out.trans hx1)
    have HF1 := Lib.hid (HFN.out.ext hx1)
    clear hx1 HA
    go_wp2
    go_ret2
    rw [HL.out]
    exact ⟨some ⟨w.heap.size, 0, none⟩, 0, rfl, HX1.out, HF1.out⟩
  · have hok := teamsB_at hv
    have htok := fun k hk => teamOk (k := k) hv hk
    have hlegs := hok.1
    have hlen := hok.2.1
    obtain ⟨m, rfl⟩ : ∃ m : Nat, legs = (m : Int) + 1 := ⟨(legs - 1).toNat, by omega⟩
    have HDT := Lib.hid (show ∀ t, doneT ((m : Int) + 1) t = decide (0 < legT t m) from fun t => by unfold doneT; rw [show ((m : Int) + 1 - 1).toNat = m by omega])
    have HL := Lib.hid (show relL ts ((m : Int) + 1) = (ordA ts ((m : Int) + 1) ts.length).map TeamD.num by unfold relL ordA; rw [hv, List.take_length]; rfl)
    have HFD := Lib.hid (fun q hq => fdT_num hv (q := q) hq)
    have HTOK := Lib.hid htok
    have HH := Lib.hid h
    rw [hv] at HA
    clear hv hok htok h hlegs _h64
    go_enter Try.func13, Try.ntmps13
    go_wp2_with fail
    refine HA.out.mono ?_; rintro e w1 ⟨rfl, hx1⟩
    have HX1 := Lib.hid (HX0.out.trans hx1)
    have HF1 := Lib.hid (HFN.out.ext hx1)
    clear hx1 HA HFN HX0
    go_wp2
    go_loopw [6, 7] (fun o i wr => ∃ (k b off c : Nat) (ms : List Int), k ≤ ts.length ∧ i = .int .i64 k ∧ o = .slice (some ⟨b, off, none⟩) ms.length c ∧ ms = (ordA ts ((m : Int) + 1) k).map TeamD.num ∧ Ext w wr ∧ FreshAt w.heap.size wr (some ⟨b, off, none⟩) 1 ms.length (ic ms) ∧ (ms.length ≤ c ∧ c ≤ 9223372036854775807)) (fun _ i _ => ts.length - (intOf i).toNat)
    case atStart => exact ⟨0, _, 0, 0, [], Nat.zero_le _, rfl, rfl, rfl, HX1.out, HF1.out, ⟨Nat.le_refl _, by decide⟩⟩
    case round =>
      clear HX1 HF1
      obtain ⟨t, b, off, cap, ms, hk, rfl, rfl, hms, hx, hF, hnc⟩ := hrel
      have HMS := Lib.hid hms; have HX := Lib.hid hx; have HF := Lib.hid hF
      clear hms hF
      by_cases hlt : t < ts.length
      · obtain ⟨tb, toff, rfl, hcell⟩ := (HH.out.ext hx) (by omega)
        obtain ⟨ta, tc, d0, d1, rr, hr64, hrc⟩ := teams_at (fun j hj => hcell t hlt j hj)
        have hc := spec_l16Complete (t := nth ts t) (ac := tc) rr (HTOK.out t hlt)
        unfold TeamD.val at hc
        have bl := World.block_lt_of_cell? _ _ d0
        have hk0 : (0 : Int) ≤ (t : Int) := by omega
        have hk1 : (t : Int) < (ts.length : Int) := by omega
        have HCELL := Lib.hid hcell
        have HRR := Lib.hid rr
        clear hcell rr
        go_upto_block 1 with fail
        go_cut [6] (fun o wd => ∃ (b off c : Nat) (ms : List Int), o = .slice (some ⟨b, off, none⟩) ms.length c ∧ ms = (ordA ts ((m : Int) + 1) (t + 1)).map TeamD.num ∧ Ext w wd ∧ FreshAt w.heap.size wd (some ⟨b, off, none⟩) 1 ms.length (ic ms) ∧ (ms.length ≤ c ∧ c ≤ 9223372036854775807))
        case rest =>
          obtain ⟨b', off', c', ms', rfl, hms', hx', hF', hnc'⟩ := hcut
          have HM' := Lib.hid hms'; have HX' := Lib.hid hx'; have HF' := Lib.hid hF'; have HN' := Lib.hid hnc'
          clear hms' hx' hF' hnc' d0 d1 hc hx
          go_wp2
          go_roundw
          case rel => exact ⟨t + 1, b', off', c', ms', by omega, by go_num, rfl, HM'.out, HX'.out, HF'.out, HN'.out⟩
          case measure => simp [intOf] <;> omega
        case first =>
        cases hdn : decide (0 < legT (nth ts t) m)
        · rw [hdn] at hc
          have HC := Lib.hid hc
          have HNO := Lib.hid (ordA_no hlt (legs := (m : Int) + 1) (by rw [HDT.out]; exact hdn))
          clear hc hdn hx
          go_wp2_with fail
          refine HC.out.mono ?_; rintro e w2 ⟨rfl, hx2⟩
          have HX2 := Lib.hid (HX.out.trans hx2)
          have HF2 := Lib.hid (HF.out.ext hx2)
          clear hx2 d0 d1
          go_wp2
          go_meet
          exact ⟨b, off, cap, ms, rfl, by rw [HNO.out]; exact HMS.out, HX2.out, HF2.out, hnc⟩
        · rw [hdn] at hc
          have HC := Lib.hid hc
          have HYES := Lib.hid (ordA_yes hlt (legs := (m : Int) + 1) (by rw [HDT.out]; exact hdn))
          have HAT := Lib.hid (fun k hk => ordA_at (ts := ts) (legs := (m : Int) + 1) (i := t) (k := k) hk)
          have hal := ordA_len ts ((m : Int) + 1) t
          clear hc hdn hx
          obtain ⟨A, hA⟩ : ∃ A, A = ordA ts ((m : Int) + 1) t := ⟨_, rfl⟩
          rw [← hA] at HMS HYES HAT hal
          have HML0 := Lib.hid (show ms.length = A.length by rw [HMS.out, List.length_map])
          clear hA
          go_wp2_with fail
          refine HC.out.mono ?_; rintro e w2 ⟨rfl, hx2⟩
          have d0 := hx2.cells d0
          have d1 := hx2.cells d1
          have bl := World.block_lt_of_cell? _ _ d0
          have HX2 := Lib.hid (HX.out.trans hx2)
          have HF2 := Lib.hid (HF.out.ext hx2)
          have HR2x := Lib.hid (HRR.out.ext hx2)
          have HC2 := Lib.hid (fun q hq j hj => (HCELL.out q hq j hj).ext hx2)
          clear hx2 HC HX HF HRR HCELL
          go_upto_block 2 with fail
          go_cut [8] (fun sl wc => ∃ k : Nat, k ≤ A.length ∧ sl = .int .i64 k ∧ posR tkey A (nth ts t) A.length = k ∧ Ext w2 wc)
          case first =>
            go_wp2_with fail
            go_loopw [8] (fun sl wc => ∃ k : Nat, k ≤ A.length ∧ sl = .int .i64 k ∧ posR tkey A (nth ts t) A.length = posR tkey A (nth ts t) k ∧ Ext w2 wc) (fun i _ => (intOf i).toNat)
            case atStart => exact ⟨A.length, Nat.le_refl _, by rw [HML0.out], rfl, Ext.refl _⟩
            case round =>
              obtain ⟨k, hkl, rfl, hpos, hxc⟩ := hrel
              have HPOS := Lib.hid hpos; have HXC := Lib.hid hxc
              clear hpos
              by_cases hkz : 0 < k
              · obtain ⟨i, rfl⟩ : ∃ i, k = i + 1 := ⟨k - 1, by omega⟩
                have hdec : decide ((0 : Int) < ((i + 1 : Nat) : Int)) = true := by simp
                obtain ⟨q, hq, hAq⟩ := HAT.out i (by omega)
                have hml0 := HML0.out
                obtain ⟨mb, moff, e, hmc⟩ := ints_at' (HF2.out.row.ext hxc) (by omega)
                injection e with e; injection e with e1 e2; subst e1 e2
                have m0 := hmc i (by omega)
                have hnum : nth ms i = (nth ts q).num := by rw [HMS.out, nth_mapT (by omega), hAq]
                rw [hnum] at m0
                have HFI := Lib.hid (fun z : Grow wr => spec_l16Find (w := z.w) (cap := capt) (ts := ts) (number := (nth ts q).num) ((HH.out.ext (HX2.out.trans hxc)).ext z.h) hn)
                rw [HFD.out q hq] at HFI
                obtain ⟨qa, qc, q0, q1, qr, hq64, _⟩ := teams_at (fun j hj => (HC2.out q hq j hj).ext hxc)
                have c1 := hxc.cells d1
                have HS1 := Lib.hid (fun z : Grow wr => spec_sumN (w := z.w) (cap := qc) (qr.ext z.h) hq64 (sum_ok (HTOK.out q hq) (Nat.le_refl _)))
                have HS2 := Lib.hid (fun z : Grow wr => spec_sumN (w := z.w) (cap := tc) ((HR2x.out.ext hxc).ext z.h) hr64 (sum_ok (HTOK.out t hlt) (Nat.le_refl _)))
                have HPS := Lib.hid (show posR tkey A (nth ts t) (i + 1) = if tkey (nth ts t) < tkey (nth ts q) then posR tkey A (nth ts t) i else i + 1 by rw [posR, hAq])
                have g0 := Grow.cells m0
                have g1 := Grow.cells q1
                have g2 := Grow.cells c1
                have hi0 : (0 : Int) ≤ (i : Int) := by omega
                have hi1 : (i : Int) < (ms.length : Int) := by omega
                have hq0 : (0 : Int) ≤ (q : Int) := by omega
                have hq1 : (q : Int) < (ts.length : Int) := by omega
                unfold tkey at HPS
                clear hmc m0 q0 q1 qr hxc hAq hnum c1 d0 d1 hml0
                by_cases hc : sumU (nth ts t).legs (nth ts t).legs.length < sumU (nth ts q).legs (nth ts q).legs.length
                · have HLT := Lib.hid HPS.out
                  rw [if_pos hc] at HLT
                  go_wp2
                  refine wp_region_ext (by kernel_rfl) (by kernel_rfl) ?_
                  repeat (go_big_quiet_step ((first | (go_at_call 42; with_reducible exact Calls.ext_of (HFI.out _)) | (go_at_call 58; with_reducible exact Calls.ext_of (HS1.out _)) | (go_at_call 58; with_reducible exact Calls.ext_of (HS2.out _)))))
                  refine wpQuiet_nil ?_
                  rintro _ ⟨⟨w1, hx1⟩, rfl⟩
                  clear g0 g1 g2
                  have HX3 := Lib.hid (HXC.out.trans hx1)
                  clear hx1
                  go_wp2
                  go_roundw
                  case rel => exact ⟨i, by omega, by go_num, by rw [HPOS.out]; exact HLT.out, HX3.out⟩
                  case measure => simp [intOf] <;> omega
                · have hc2 : sumU (nth ts q).legs (nth ts q).legs.length ≤ sumU (nth ts t).legs (nth ts t).legs.length := by omega
                  have hcd : decide (sumU (nth ts t).legs (nth ts t).legs.length < sumU (nth ts q).legs (nth ts q).legs.length) = false := by simpa using hc2
                  have HLT := Lib.hid HPS.out
                  rw [if_neg hc] at HLT
                  go_wp2
                  refine wp_region_ext (by kernel_rfl) (by kernel_rfl) ?_
                  repeat (go_big_quiet_step ((first | (go_at_call 42; with_reducible exact Calls.ext_of (HFI.out _)) | (go_at_call 58; with_reducible exact Calls.ext_of (HS1.out _)) | (go_at_call 58; with_reducible exact Calls.ext_of (HS2.out _)))))
                  refine wpQuiet_nil ?_
                  rintro _ ⟨⟨w1, hx1⟩, rfl⟩
                  clear g0 g1 g2
                  have HX3 := Lib.hid (HXC.out.trans hx1)
                  clear hx1
                  go_wp2
                  go_meet
                  exact ⟨i + 1, by omega, rfl, by rw [HPOS.out]; exact HLT.out, HX3.out⟩
              · obtain rfl : k = 0 := by omega
                have hdec : decide ((0 : Int) < ((0 : Nat) : Int)) = false := by decide
                clear hxc d0 d1
                go_wp2
                refine wp_region_ext (by kernel_rfl) (by kernel_rfl) ?_
                repeat (go_big_quiet_step (fail))
                refine wpQuiet_nil ?_
                rintro _ ⟨⟨w1, hx1⟩, rfl⟩
                clear hdec
                have HX3 := Lib.hid (HXC.out.trans hx1)
                clear hx1
                go_wp2
                go_meet
                exact ⟨0, by omega, rfl, by rw [HPOS.out]; rfl, HX3.out⟩
          case rest =>
          obtain ⟨k, hk2, rfl, hpos, hxc⟩ := hcut
          have HRES := Lib.hid (show (insP tkey A (nth ts t)).map TeamD.num = insL ms k (nth ts t).num by unfold insP insL; rw [hpos, HMS.out]; simp [List.map_take, List.map_drop])
          have hml0 := HML0.out
          have hkl : k ≤ ms.length := by omega
          have hml : ms.length ≤ 1048576 := by omega
          clear hml0
          have d0 := hxc.cells d0
          have hwx := HX2.out.trans hxc
          have hFx := HF2.out.ext hxc
          clear hpos d1 HC2 HR2x HAT hal hk2 HMS HX2 HF2 hxc
          have bl := World.block_lt_of_cell? _ _ d0
          generalize (nth ts t).num = y at d0 HRES
          have hxy : Ext wc wc := Ext.refl _
          have hrW := hFx.row
          obtain ⟨T1, hT1⟩ : ∃ T, T = ms.take k := ⟨_, rfl⟩
          obtain ⟨T2, hT2⟩ : ∃ T, T = ms.drop k := ⟨_, rfl⟩
          obtain ⟨T3, hT3⟩ : ∃ T, T = T1 ++ [y] := ⟨_, rfl⟩
          obtain ⟨L, hL⟩ : ∃ L, L = insL ms k y := ⟨_, rfl⟩
          have hl1 : k = T1.length := by rw [hT1]; simp; omega
          have hl2 : ms.length - k = T2.length := by rw [hT2]; simp
          have hl3 : T3.length = T1.length + 1 := by rw [hT3]; simp
          have HTK := Lib.hid hl1
          have HDK := Lib.hid hl2
          have hkc : k ≤ cap := by omega
          have hkz : (0 : Int) ≤ (k : Int) := by omega
          have HP := Lib.hid (show ∀ x, Ext wc x → RowAt x (some ⟨b, off, none⟩) 1 T1.length (ic T1) from fun x hx h0 => by
            obtain ⟨b', off', e, hc⟩ := hrW.ext hx (by omega)
            refine ⟨b', off', e, fun q hq0 j hj => ?_⟩
            have hq : q < k := by omega
            have : nth T1 q = nth ms q := by rw [hT1]; simp only [nth, List.getD]; rw [List.getElem?_take_of_lt hq]
            have h1 := hc q (by omega) j hj
            rw [h1]
            simp only [ic]
            rw [this])
          have HB1 := Lib.hid (show ([] : List Int).length + T1.length ≤ 140737488355328 from by simp; omega)
          have HB2 := Lib.hid (show (([] : List Int).length + T1.length) * 8 ≤ 140737488355328 from by simp; omega)
          have HB3 := Lib.hid (show T1.length + [y].length ≤ 140737488355328 from by simp; omega)
          have HB4 := Lib.hid (show (T1.length + [y].length) * 8 ≤ 140737488355328 from by simp; omega)
          have HB5 := Lib.hid (show T3.length + T2.length ≤ 140737488355328 from by omega)
          have HB6 := Lib.hid (show (T3.length + T2.length) * 8 ≤ 140737488355328 from by omega)
          have HLQ3 := Lib.hid (show L = T3 ++ T2 from by rw [hL, hT3, hT1, hT2]; simp [insL])
          have HLQ := Lib.hid hL
          have HNT := Lib.hid (show T1 = [] ++ T1 from rfl)
          have HNX := Lib.hid hT3
          have HT2 := Lib.hid hT2
          clear hL hT1 hT2 hT3 hl1 hl2 hl3
          have hrow2 := fun x => row_lit (w := x) (cs := #[.int .i64 y]) (T := 3) (s := 1) (cc := icc) (x := y) (by intro j hj; first | (have e0 : j = 0 := (by omega); subst e0; rfl) | (match j, hj with | 0, _ => rfl | 1, _ => rfl))
          have HR2 := Lib.hid hrow2; clear hrow2
          have RB := Lib.hid ((HR2.out wc).ext ((Ext.refl _).alloc (Obj.cells #[] 3)))
          have RC := Lib.hid (show RowAt ((wc.alloc (Obj.cells #[] 3)).alloc (Obj.cells #[.int .i64 y] 3)) (some ⟨wc.heap.size + 1, 0, none⟩) 1 [y].length (fun q => icc (nth [y] q)) from by
            have := HR2.out (wc.alloc (Obj.cells #[] 3))
            simpa using this)
          have OB := Lib.hid (show Owns ((wc.alloc (Obj.cells #[.int .i64 y] 3)).alloc (Obj.cells #[] 3)) wc.heap.size 3 1 icc (.slice (some ⟨wc.heap.size + 1, 0, none⟩) 0 0) ([] : List Int) from by
            have := Owns.start (α := Int) (e := 3) (s := 1) (cc := icc) (hxy.alloc (Obj.cells #[.int .i64 y] 3))
            simpa using this)
          by_cases hck : cap = k
          case' pos =>
            obtain rfl : k = cap := hck.symm
            have HDI := Lib.hid (show ∀ x, Ext wc x → RowAt x (some ⟨b, off, none⟩) 1 T2.length (ic T2) from fun x hx h0 => by have := HDK.out; omega)
            have HDM := Lib.hid (show 0 = T2.length from by have := HDK.out; omega)
            clear hck
            skip
          case' neg =>
            have HDI := Lib.hid (show ∀ x, Ext wc x → RowAt x (some ⟨b, off + k, none⟩) 1 T2.length (ic T2) from fun x hx h0 => by
              obtain ⟨b', off', e, hc⟩ := hrW.ext hx (by have := HDK.out; omega)
              injection e with e
              injection e with e1 e2
              subst e1 e2
              refine ⟨b, off + k, rfl, fun q hq0 j hj => ?_⟩
              have : nth T2 q = nth ms (k + q) := by rw [HT2.out]; simp only [nth, List.getD]; rw [List.getElem?_drop]
              have h1 := hc (k + q) (by have := HDK.out; omega) j hj
              rw [show off + k + q * 1 + j = off + (k + q) * 1 + j by omega, h1]
              simp only [ic]
              rw [this])
            have HDM := HDK
            skip
          all_goals
            go_upto_region 11 with fail
            go_region_law (first
              | (refine step_append_form (o := ⟨some 59, _, _, _, _, _⟩) rfl _ _ 31 rfl wc 3 i0 _ 1 8 Try.underlying31 hi hz0 hz1 hz2 rfl (by decide) icc icc_one _ [] T1 T1 HNT rfl (by first | exact OB.out.kept (by repeat (first | (with_reducible exact Ext.refl _) | (with_reducible assumption) | with_reducible refine Ext.drew ?_ | with_reducible refine Ext.alloc ?_ _ | with_reducible refine Ext.setCell ?_ (by first | (simp; done) | (simp; omega) | omega) _ | with_reducible refine Ext.trans ?_ (by with_reducible assumption))) | exact (Owns.start (by repeat (first | (with_reducible exact Ext.refl _) | (with_reducible assumption) | with_reducible refine Ext.drew ?_ | with_reducible refine Ext.alloc ?_ _ | with_reducible refine Ext.setCell ?_ (by first | (simp; done) | (simp; omega) | omega) _ | with_reducible refine Ext.trans ?_ (by with_reducible assumption)))).kept (by repeat (first | (with_reducible exact Ext.refl _) | (with_reducible assumption) | with_reducible refine Ext.drew ?_ | with_reducible refine Ext.alloc ?_ _ | with_reducible refine Ext.setCell ?_ (by first | (simp; done) | (simp; omega) | omega) _ | with_reducible refine Ext.trans ?_ (by with_reducible assumption)))) ⟨b, off, none⟩ _ _ rfl HTK.out (HP.out _ (by repeat (first | (with_reducible exact Ext.refl _) | (with_reducible assumption) | with_reducible refine Ext.drew ?_ | with_reducible refine Ext.alloc ?_ _ | with_reducible refine Ext.setCell ?_ (by first | (simp; done) | (simp; omega) | omega) _ | with_reducible refine Ext.trans ?_ (by with_reducible assumption)))) HB1.out HB2.out (by repeat (first | (with_reducible exact Ext.refl _) | (with_reducible assumption) | with_reducible refine Ext.drew ?_ | with_reducible refine Ext.alloc ?_ _ | with_reducible refine Ext.setCell ?_ (by first | (simp; done) | (simp; omega) | omega) _ | with_reducible refine Ext.trans ?_ (by with_reducible assumption))) ?_; intro go1 gc1 w3 ho1 hx3 hg3 hv3; have q3 := hx3.cells d0; have q3l := World.block_lt_of_cell? _ _ q3; (first | (have hlit := RowAt.grown (row := some (wc.heap.size + 1)) (RowAt.ext RB.out (Ext.drew (Ext.refl _))) (by decide) hg3 (by intro a e; injection e with e; subst e; simp)) | (have hlit := RowAt.grown (row := some wc.heap.size) (RowAt.ext RC.out (Ext.drew (Ext.refl _))) (by decide) hg3 (by intro a e; injection e with e; subst e; simp)) | skip); clear hg3 hv3)
              | (refine step_append_form (o := ⟨some 66, _, _, _, _, _⟩) rfl _ _ 31 rfl wc 3 i0 _ 1 8 Try.underlying31 hi hz0 hz1 hz2 rfl (by decide) icc icc_one (.slice go1 T1.length gc1) T1 [y] T3 HNX rfl ?_ ⟨_, 0, none⟩ 1 1 rfl rfl ?_ HB3.out HB4.out (by repeat (first | (with_reducible exact Ext.refl _) | (with_reducible assumption) | with_reducible refine Ext.drew ?_ | with_reducible refine Ext.alloc ?_ _ | with_reducible refine Ext.setCell ?_ (by first | (simp; done) | (simp; omega) | omega) _ | with_reducible refine Ext.trans ?_ (by with_reducible assumption))) ?_; (first | (with_reducible exact ho1) | (with_reducible exact ho1.kept (by repeat (first | (with_reducible exact Ext.refl _) | (with_reducible assumption) | with_reducible refine Ext.drew ?_ | with_reducible refine Ext.alloc ?_ _ | with_reducible refine Ext.setCell ?_ (by first | (simp; done) | (simp; omega) | omega) _ | with_reducible refine Ext.trans ?_ (by with_reducible assumption))))); (first | (with_reducible exact hlit) | (with_reducible exact HR2.out _)); intro go2 gc2 w4 ho2 hx4 hg4 hv4; clear hg4 hv4 ho1)
              | (refine step_append_rows (o := ⟨some 70, _, _, _, _, _⟩) rfl _ _ 31 rfl wc 3 i0 _ 1 8 Try.underlying31 hi hz0 hz1 hz2 rfl (by decide) icc icc_one (.slice go2 T3.length gc2) T3 T2 rfl ho2 _ _ _ rfl HDM.out (fun h => by cases h) (HDI.out _ (by repeat (first | (with_reducible exact Ext.refl _) | (with_reducible assumption) | with_reducible refine Ext.drew ?_ | with_reducible refine Ext.alloc ?_ _ | with_reducible refine Ext.setCell ?_ (by first | (simp; done) | (simp; omega) | omega) _ | with_reducible refine Ext.trans ?_ (by with_reducible assumption)))) HB5.out HB6.out (by repeat (first | (with_reducible exact Ext.refl _) | (with_reducible assumption) | with_reducible refine Ext.drew ?_ | with_reducible refine Ext.alloc ?_ _ | with_reducible refine Ext.setCell ?_ (by first | (simp; done) | (simp; omega) | omega) _ | with_reducible refine Ext.trans ?_ (by with_reducible assumption))) ?_; intro v3 w5 ho3 hx5 hg5; rw [← HLQ3.out] at ho3; obtain ⟨go3, gc3, rfl⟩ := ho3.shape; clear hg5))
            all_goals
              have ho := ho3
              have hxc := hx5
              clear HP HDI HDM HB1 HB2 HB3 HB4 HB5 HB6 HLQ3 HNT HNX HR2 RB RC OB HTK HDK HT2 hkc hkz ho3 hx5
              have HRL := Lib.hid (show (ordA ts ((m : Int) + 1) (t + 1)).map TeamD.num = L from by rw [HYES.out, HRES.out, HLQ.out])
              obtain ⟨go9, gc9, e2, hF2, _, hl1, hl2⟩ := ho.fresh
              injection e2 with e2 e3 e4
              subst e2 e4
              have hpos : 0 < L.length := by rw [HLQ.out, insL_len hkl]; omega
              obtain ⟨lb, loff, rfl, _⟩ := hF2.row hpos
              have HFR := Lib.hid (hF2.mono hwx.size)
              have HXC := Lib.hid (hwx.trans hxc)
              have HLB := Lib.hid (show L.length ≤ gc3 ∧ gc3 ≤ 9223372036854775807 from ⟨hl1, by unfold maxLen at hl2; omega⟩)
              clear hF2 ho hxc e3 hl1 hl2 hpos hrW hFx hwx hxy
              go_wp2_with fail
              go_meet
              exact ⟨lb, loff, gc3, L, rfl, HRL.out.symm, HXC.out, HFR.out, HLB.out⟩
      · obtain rfl : t = ts.length := by omega
        have hnk : ¬ (ts.length : Int) < (ts.length : Int) := by omega
        have HEQ := Lib.hid (show ms = relL ts ((m : Int) + 1) by rw [HL.out, HMS.out])
        clear hx
        rw [HEQ.out] at HF ⊢
        go_wp2
        go_ret2
        exact ⟨some ⟨b, off, none⟩, cap, rfl, HX.out, HF.out⟩

end Go.Proofs.Ytlpogglcbphilaa
