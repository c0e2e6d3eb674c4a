/-
  Proved here: what RefundFor and its reference return.
  Conditions: no more than 1048576 entries, in a block.
-/
import Derived.Test.YtkejhhflpnfepaaEnt3
import Derived.Test.YtkejhhflpnfepaaDelEnt
import Derived.Deep.DeepCutAuto
import Derived.Deep.CutBlock
namespace Go.Proofs.Ytkejhhflpnfepaa
open Go.RowKit

/-- what is handed back: a list of entries in new memory, a sum, a bool -/
def ResR (w : World) (L : List Ent) (P : Int) (B : Bool) (e : Ending) (w' : World) : Prop := ∃ bo bc, e = .returned (.tuple #[.slice bo L.length bc, .int .i64 P, .bool B]) ∧ Ext w w' ∧ FreshAt w.heap.size w' bo 5 L.length (fun k => (nth L k).c)
theorem ResR.mk {w w' : World} {L : List Ent} {P : Int} {B : Bool} {e : Ending} (bo : Option Addr) (bc : Nat) (h : e = .returned (.tuple #[.slice bo L.length bc, .int .i64 P, .bool B])) (h1 : Ext w w') (h2 : FreshAt w.heap.size w' bo 5 L.length (fun k => (nth L k).c)) : ResR w L P B e w' := ⟨bo, bc, h, h1, h2⟩

theorem Ext.grownTo {a w w' : World} {g : Nat} (h : Ext a w) (hg : w.grownBy w' (some g)) (hb : a.heap.size ≤ g) : Ext a w' :=
  Below.grown h hg h.size (fun k hk => by injection hk with hk; omega)

theorem delete_EntL {B0 g cap i : Nat} {xs : List Ent} {w : World} (h : FreshAt B0 w (some ⟨g, 0, none⟩) 5 xs.length (fun k => (nth xs k).c)) (hi : i < xs.length) (hn : xs.length ≤ 1048577) (hcap : xs.length ≤ cap) (hcm : cap ≤ 9223372036854775807) :
    Calls Try.prog 46 #[.slice (some ⟨g, 0, none⟩) xs.length cap, .int .i64 i, .int .i64 ((i : Int) + 1)] w fun e w' => e = .returned (.slice (some ⟨g, 0, none⟩) (delL xs i).length cap) ∧ w.grownBy w' (some g) ∧ FreshAt B0 w' (some ⟨g, 0, none⟩) 5 (delL xs i).length (fun k => (nth (delL xs i) k).c) := by
  obtain ⟨n, hxl⟩ : ∃ n, xs.length = n + 1 := ⟨xs.length - 1, by omega⟩
  have H := delete_Ent (cap := cap) hxl h hi hn hcap hcm
  have hdl : (delL xs i).length = n := by rw [delL_len hi]; omega
  rw [hxl, hdl]
  rw [hdl] at H
  exact H

set_option maxRecDepth 100000 in
set_option maxHeartbeats 2000000 in
theorem impl_RefundFor {b off cap : Nat} {xs : List Ent} {x d : Int} {w : World} (h : RowAt w (some ⟨b, off, none⟩) 5 xs.length (fun k => (nth xs k).c)) (hs : xs.length ≤ 1048576) :
    Calls Try.prog 10 #[.slice (some ⟨b, off, none⟩) xs.length cap, .int .i64 x, .int .i64 d] w (ResR w (refL xs x d) (refP xs x d) (refB xs x d)) := by
  obtain ⟨i0, hi, hz0, hz1, hz2⟩ := info_parts infoEnt
  have no : refB xs x d = false → refL xs x d = [] ∧ refP xs x d = 0 ∧ refB xs x d = false := fun e => by unfold refL refP; rw [e]; exact ⟨rfl, rfl, rfl⟩
  have yes : refB xs x d = true → refL xs x d = delL xs (entIx xs x).toNat ∧ refP xs x d = (if 300 ≤ d then (nth xs (entIx xs x).toNat).paid / 2 else (nth xs (entIx xs x).toNat).paid) ∧ refB xs x d = true := fun e => by unfold refL refP; rw [e]; exact ⟨rfl, rfl, rfl⟩
  have HIX := Lib.hid (impl_entryIndex (cap := cap) (x := x) h (by omega))
  have HG := Lib.hid (fun y (hy : Ext w y) => impl_AreEntries (cap := cap) (h.ext hy) (by omega))
  have HB0 := Lib.hid (show refB xs x d = (entsB xs && (decide (0 ≤ entIx xs x) && (inB d 0 365 && decide ((nth xs (entIx xs x).toNat).day ≤ d)))) from rfl)
  have HNO := Lib.hid no; have HYES := Lib.hid yes; clear no yes
  go_enter Try.func10, Try.ntmps10
  go_wp2_with fail
  refine HIX.out.mono ?_; rintro e w1 ⟨rfl, hx1⟩
  have HX1 := Lib.hid hx1
  cases hv : entsB xs
  · have HV := Lib.hid hv; clear hv
    obtain ⟨n1, n2, n3⟩ := HNO.out (by rw [HB0.out, HV.out]; rfl)
    have HN1 := Lib.hid n1; have HN2 := Lib.hid n2; have HN3 := Lib.hid n3; clear n1 n2 n3
    go_wp2_with fail
    refine (HG.out _ HX1.out).mono ?_; rw [HV.out]; rintro e w2 ⟨rfl, hx2⟩
    have HX2 := Lib.hid (HX1.out.trans hx2)
    clear hx1 hx2
    go_wp2
    go_ret3
    rw [HN1.out, HN2.out, HN3.out]
    exact .mk none 0 rfl HX2.out freshE_nil
  · have HV := Lib.hid hv; clear hv
    rcases entIx_cases xs x with hix | ⟨i, hil, hix⟩
    · obtain ⟨n1, n2, n3⟩ := HNO.out (by rw [HB0.out, HV.out, hix]; rfl)
      have HN1 := Lib.hid n1; have HN2 := Lib.hid n2; have HN3 := Lib.hid n3; clear n1 n2 n3
      rw [hix]
      clear hix
      go_wp2_with fail
      refine (HG.out _ HX1.out).mono ?_; rw [HV.out]; rintro e w2 ⟨rfl, hx2⟩
      have HX2 := Lib.hid (HX1.out.trans hx2)
      clear hx1 hx2
      go_wp2
      go_ret3
      rw [HN1.out, HN2.out, HN3.out]
      exact .mk none 0 rfl HX2.out freshE_nil
    · have hn : (entIx xs x).toNat = i := by rw [hix]; simp
      have HN := Lib.hid hn; clear hn
      have HIXE := Lib.hid hix
      rw [hix]
      clear hix
      have hin0 : (0 : Int) ≤ (i : Int) := by omega
      have hin1 : (i : Int) < (xs.length : Int) := by omega
      have HOK := Lib.hid (entB_ok (entsB_at HV.out hil))
      obtain ⟨b', off', e, hcell⟩ := h (by omega)
      injection e with e; injection e with e1 e2; subst e1 e2
      have HC := Lib.hid (hcell i hil)
      have HTS := Lib.hid (show refB xs x d = (inB d 0 365 && decide ((nth xs i).day ≤ d)) from by rw [HB0.out, HV.out, HIXE.out]; simp)
      clear hcell
      go_wp2_with fail
      refine (HG.out _ HX1.out).mono ?_; rw [HV.out]; rintro e w2 ⟨rfl, hx2⟩
      have HX2 := Lib.hid (HX1.out.trans hx2)
      have d2 := HX2.out.cells (HC.out 2 (by decide))
      have d4 := HX2.out.cells (HC.out 4 (by decide))
      simp only [Ent.c2, Ent.c4] at d2 d4
      clear hx1 hx2
      cases hA : inB d 0 365
      · obtain ⟨n1, n2, n3⟩ := HNO.out (by rw [HTS.out, hA]; rfl)
        have HN1 := Lib.hid n1; have HN2 := Lib.hid n2; have HN3 := Lib.hid n3; clear n1 n2 n3
        have HA := Lib.hid hA; clear hA
        go_wp2_with fail
        refine (impl_isDay).mono ?_; rw [HA.out]; rintro e w4 ⟨rfl, rfl⟩
        go_wp2
        go_ret3
        rw [HN1.out, HN2.out, HN3.out]
        exact .mk none 0 rfl HX2.out freshE_nil
      · cases hD : decide ((nth xs i).day ≤ d)
        · obtain ⟨n1, n2, n3⟩ := HNO.out (by rw [HTS.out, hA, hD]; rfl)
          have HN1 := Lib.hid n1; have HN2 := Lib.hid n2; have HN3 := Lib.hid n3; clear n1 n2 n3
          have HA := Lib.hid hA; clear hA
          have hdd : ¬ (nth xs i).day ≤ d := by simpa using hD
          clear hD
          go_wp2_with fail
          refine (impl_isDay).mono ?_; rw [HA.out]; rintro e w4 ⟨rfl, rfl⟩
          go_wp2
          go_ret3
          rw [HN1.out, HN2.out, HN3.out]
          exact .mk none 0 rfl HX2.out freshE_nil
        · obtain ⟨n1, n2, n3⟩ := HYES.out (by rw [HTS.out, hA, hD]; rfl)
          rw [HN.out] at n1 n2
          have HN1 := Lib.hid n1; have HN2 := Lib.hid n2; have HN3 := Lib.hid n3; clear n1 n2 n3
          have HA := Lib.hid hA; clear hA
          have hdd : (nth xs i).day ≤ d := by simpa using hD
          have hq0 := HOK.out.p.1
          have hq1 := HOK.out.p.2
          clear hD
          have HW2 := Lib.hid (h.ext (HX2.out.alloc (.cells #[] 26)))
          have HST := Lib.hid (Owns.start (α := Ent) (e := 26) (s := 5) (cc := Ent.c) HX2.out)
          have HXA := Lib.hid (HX2.out.alloc (.cells #[] 26))
          by_cases h300 : 300 ≤ d
          case' pos =>
            have HP := Lib.hid (show refP xs x d = (nth xs i).paid / 2 from by rw [HN2.out, if_pos h300])
          case' neg =>
            have HP := Lib.hid (show refP xs x d = (nth xs i).paid from by rw [HN2.out, if_neg h300])
          all_goals
            go_wp2_with fail
            refine (impl_isDay).mono ?_; rw [HA.out]; rintro e w4 ⟨rfl, rfl⟩
            have HNIL := Lib.hid (show xs = [] ++ xs from rfl)
            go_wp2_with (at_builtin; refine wpList_append_form rfl _ _ 24 rfl w 26 i0 _ 5 40 Try.underlying24 hi hz0 hz1 hz2 rfl (by decide) Ent.c ent_cells (.slice (some ⟨w2.heap.size, 0, none⟩) 0 0) [] xs xs HNIL rfl HST.out ⟨b, off, none⟩ xs.length cap rfl rfl HW2.out (by simp; omega) (by simp; omega) HXA.out ?_; intro go1 gc1 w3 ho3 hx3 hg3 hv3; obtain ⟨g, rfl, _⟩ := own_at ho3 hv3; obtain ⟨a2, cp2, e2, hf2, _, hcc1, hcc2⟩ := ho3.fresh; injection e2 with e2 _ e3; subst e2 e3; have HX := Lib.hid hx3; have HDEL := Lib.hid (delete_EntL (cap := gc1) hf2 hil (by omega) hcc1 (by unfold maxLen at hcc2; omega)); have HGB := Lib.hid (show w.heap.size ≤ g from (hf2.base _ rfl).1); clear ho3 hx3 hg3 hv3 hf2 hcc1 hcc2)
            refine HDEL.out.mono ?_; rintro e w5 ⟨rfl, hg5, hF5⟩
            have HF5 := Lib.hid hF5
            have HX5 := Lib.hid (Ext.grownTo HX.out hg5 HGB.out)
            clear hg5 hF5 HDEL
            go_wp2
            go_ret3
            rw [HN1.out, HP.out, HN3.out]
            exact .mk _ _ rfl HX5.out HF5.out

set_option maxRecDepth 100000 in
set_option maxHeartbeats 2000000 in
theorem spec_RefundFor {b off cap : Nat} {xs : List Ent} {x d : Int} {w : World} (h : RowAt w (some ⟨b, off, none⟩) 5 xs.length (fun k => (nth xs k).c)) (hs : xs.length ≤ 1048576) (hnc : xs.length ≤ cap ∧ cap ≤ 9223372036854775807) :
    Calls Try.prog 26 #[.slice (some ⟨b, off, none⟩) xs.length cap, .int .i64 x, .int .i64 d] w (ResR w (refL xs x d) (refP xs x d) (refB xs x d)) := by
  obtain ⟨i0, hi, hz0, hz1, hz2⟩ := info_parts infoEnt
  have no : refB xs x d = false → refL xs x d = [] ∧ refP xs x d = 0 ∧ refB xs x d = false := fun e => by unfold refL refP; rw [e]; exact ⟨rfl, rfl, rfl⟩
  have yes : refB xs x d = true → refL xs x d = delL xs (entIx xs x).toNat ∧ refP xs x d = (if 300 ≤ d then (nth xs (entIx xs x).toNat).paid / 2 else (nth xs (entIx xs x).toNat).paid) ∧ refB xs x d = true := fun e => by unfold refL refP; rw [e]; exact ⟨rfl, rfl, rfl⟩
  have HIX := Lib.hid (spec_l11Find (cap := cap) (x := x) h (by omega))
  have HG := Lib.hid (fun y (hy : Ext w y) => spec_l11Good (cap := cap) (h.ext hy) (by omega))
  have HB0 := Lib.hid (show refB xs x d = (entsB xs && (decide (0 ≤ entIx xs x) && (inB d 0 365 && decide ((nth xs (entIx xs x).toNat).day ≤ d)))) from rfl)
  have HNO := Lib.hid no; have HYES := Lib.hid yes; clear no yes
  go_enter Try.func26, Try.ntmps26
  go_wp2_with fail
  refine HIX.out.mono ?_; rintro e w1 ⟨rfl, hx1⟩
  have HX1 := Lib.hid hx1
  cases hv : entsB xs
  · have HV := Lib.hid hv; clear hv
    obtain ⟨n1, n2, n3⟩ := HNO.out (by rw [HB0.out, HV.out]; rfl)
    have HN1 := Lib.hid n1; have HN2 := Lib.hid n2; have HN3 := Lib.hid n3; clear n1 n2 n3
    go_wp2_with fail
    refine (HG.out _ HX1.out).mono ?_; rw [HV.out]; rintro e w2 ⟨rfl, hx2⟩
    have HX2 := Lib.hid (HX1.out.trans hx2)
    clear hx1 hx2
    go_wp2
    go_ret3
    rw [HN1.out, HN2.out, HN3.out]
    exact .mk _ 0 rfl (HX2.out.alloc _) (fresh_lit0 HX2.out.size)
  · have HV := Lib.hid hv; clear hv
    rcases entIx_cases xs x with hix | ⟨i, hil, hix⟩
    · obtain ⟨n1, n2, n3⟩ := HNO.out (by rw [HB0.out, HV.out, hix]; rfl)
      have HN1 := Lib.hid n1; have HN2 := Lib.hid n2; have HN3 := Lib.hid n3; clear n1 n2 n3
      rw [hix]
      clear hix
      go_wp2_with fail
      refine (HG.out _ HX1.out).mono ?_; rw [HV.out]; rintro e w2 ⟨rfl, hx2⟩
      have HX2 := Lib.hid (HX1.out.trans hx2)
      clear hx1 hx2
      go_wp2
      go_ret3
      rw [HN1.out, HN2.out, HN3.out]
      exact .mk _ 0 rfl (HX2.out.alloc _) (fresh_lit0 HX2.out.size)
    · have hn : (entIx xs x).toNat = i := by rw [hix]; simp
      have HN := Lib.hid hn; clear hn
      have HIXE := Lib.hid hix
      rw [hix]
      clear hix
      have hin0 : (0 : Int) ≤ (i : Int) := by omega
      have hin1 : (i : Int) < (xs.length : Int) := by omega
      have HOK := Lib.hid (entB_ok (entsB_at HV.out hil))
      obtain ⟨b', off', e, hcell⟩ := h (by omega)
      injection e with e; injection e with e1 e2; subst e1 e2
      have HC := Lib.hid (hcell i hil)
      have HTS := Lib.hid (show refB xs x d = (inB d 0 365 && decide ((nth xs i).day ≤ d)) from by rw [HB0.out, HV.out, HIXE.out]; simp)
      clear hcell
      go_wp2_with fail
      refine (HG.out _ HX1.out).mono ?_; rw [HV.out]; rintro e w2 ⟨rfl, hx2⟩
      have HX2 := Lib.hid (HX1.out.trans hx2)
      have d2 := HX2.out.cells (HC.out 2 (by decide))
      have d4 := HX2.out.cells (HC.out 4 (by decide))
      simp only [Ent.c2, Ent.c4] at d2 d4
      clear hx1 hx2
      cases hA : inB d 0 365
      · obtain ⟨n1, n2, n3⟩ := HNO.out (by rw [HTS.out, hA]; rfl)
        have HN1 := Lib.hid n1; have HN2 := Lib.hid n2; have HN3 := Lib.hid n3; clear n1 n2 n3
        have HA := Lib.hid hA; clear hA
        go_wp2_with fail
        refine (spec_l11Day).mono ?_; rw [HA.out]; rintro e w4 ⟨rfl, rfl⟩
        go_wp2
        go_ret3
        rw [HN1.out, HN2.out, HN3.out]
        exact .mk _ 0 rfl (HX2.out.alloc _) (fresh_lit0 HX2.out.size)
      · cases hD : decide ((nth xs i).day ≤ d)
        · obtain ⟨n1, n2, n3⟩ := HNO.out (by rw [HTS.out, hA, hD]; rfl)
          have HN1 := Lib.hid n1; have HN2 := Lib.hid n2; have HN3 := Lib.hid n3; clear n1 n2 n3
          have HA := Lib.hid hA; clear hA
          have hdd : ¬ (nth xs i).day ≤ d := by simpa using hD
          clear hD
          go_wp2_with fail
          refine (spec_l11Day).mono ?_; rw [HA.out]; rintro e w4 ⟨rfl, rfl⟩
          go_wp2
          go_ret3
          rw [HN1.out, HN2.out, HN3.out]
          exact .mk _ 0 rfl (HX2.out.alloc _) (fresh_lit0 HX2.out.size)
        · obtain ⟨n1, n2, n3⟩ := HYES.out (by rw [HTS.out, hA, hD]; rfl)
          rw [HN.out] at n1 n2
          have HN1 := Lib.hid n1; have HN2 := Lib.hid n2; have HN3 := Lib.hid n3; clear n1 n2 n3
          have HA := Lib.hid hA; clear hA
          have hdd : (nth xs i).day ≤ d := by simpa using hD
          have hq0 := HOK.out.p.1
          have hq1 := HOK.out.p.2
          clear hD
          have HW2 := Lib.hid (h.ext (HX2.out.alloc (.cells #[] 26)))
          have HST := Lib.hid (Owns.start (α := Ent) (e := 26) (s := 5) (cc := Ent.c) HX2.out)
          have HXA := Lib.hid (HX2.out.alloc (.cells #[] 26))
          by_cases h300 : 300 ≤ d
          case' pos =>
            have HP := Lib.hid (show refP xs x d = (nth xs i).paid / 2 from by rw [HN2.out, if_pos h300])
          case' neg =>
            have HP := Lib.hid (show refP xs x d = (nth xs i).paid from by rw [HN2.out, if_neg h300])
          all_goals
            go_wp2_with fail
            refine (spec_l11Day).mono ?_; rw [HA.out]; rintro e w4 ⟨rfl, rfl⟩
            skip
            obtain ⟨T1, hT1⟩ : ∃ T, T = xs.take i := ⟨_, rfl⟩
            obtain ⟨T2, hT2⟩ : ∃ T, T = xs.drop (i + 1) := ⟨_, rfl⟩
            obtain ⟨L, hL⟩ : ∃ L, L = delL xs i := ⟨_, rfl⟩
            have HLQ := Lib.hid (show L = T1 ++ T2 from by rw [hL, hT1, hT2]; rfl)
            rw [← hL] at HN1
            clear hL
            have hl1 : i = T1.length := by rw [hT1]; simp; omega
            have hl2 : xs.length - (i + 1) = T2.length := by rw [hT2]; simp
            have HTK := Lib.hid hl1
            have HDK := Lib.hid hl2
            have HP1 := Lib.hid (show ∀ y, Ext w y → RowAt y (some ⟨b, off, none⟩) 5 T1.length (fun q => (nth T1 q).c) from fun y hy h0 => by
              obtain ⟨b', off', e, hc⟩ := h.ext hy (by omega)
              refine ⟨b', off', e, fun q hq0 j hj => ?_⟩
              have hq : q < i := by omega
              have : nth T1 q = nth xs q := by rw [hT1]; simp only [nth, List.getD]; rw [List.getElem?_take_of_lt hq]
              show y.cell? _ = some ((nth T1 q).c j)
              rw [this]; exact hc q (by omega) j hj)
            have HB1 := Lib.hid (show ([] : List Ent).length + T1.length ≤ 140737488355328 from by simp; omega)
            have HB2 := Lib.hid (show (([] : List Ent).length + T1.length) * 40 ≤ 140737488355328 from by simp; omega)
            have HB3 := Lib.hid (show T1.length + T2.length ≤ 140737488355328 from by omega)
            have HB4 := Lib.hid (show (T1.length + T2.length) * 40 ≤ 140737488355328 from by omega)
            have HNT := Lib.hid (show T1 = [] ++ T1 from rfl)
            have HT2 := Lib.hid hT2
            have hx2 := HX2.out
            have hkc : i ≤ cap := by omega
            have hkc1 : (i : Int) ≤ (cap : Int) := by omega
            have hin2 : (0 : Int) ≤ (i : Int) + 1 := by omega
            have hin3 : (i : Int) ≤ (i : Int) + 1 := by omega
            have hkc2 : (i : Int) + 1 ≤ (cap : Int) := by omega
            have hkc3 : (i : Int) + 1 ≤ (xs.length : Int) := by omega
            have hw1 : IntKind.i64.wrap ((i : Int) + 1) = (i : Int) + 1 := IntWalk.i64_in _ (by omega)
            have htn : ((i : Int) + 1).toNat = i + 1 := by omega
            clear hT1 hT2 hl1 hl2
            by_cases hck : cap = i + 1
            case' pos =>
              have HDI := Lib.hid (show ∀ y, Ext w y → RowAt y (some ⟨b, off, none⟩) 5 T2.length (fun q => (nth T2 q).c) from fun y hy h0 => by have := HDK.out; omega)
              have HD0 := Lib.hid (show 0 = T2.length from by have := HDK.out; omega)
              subst hck
              clear hkc2
              skip
            case' neg =>
              have HDI := Lib.hid (show ∀ y, Ext w y → RowAt y (some ⟨b, off + (i + 1) * 5, none⟩) 5 T2.length (fun q => (nth T2 q).c) from fun y hy h0 => by
                obtain ⟨b', off', e, hc⟩ := h.ext hy (by have := HDK.out; omega)
                injection e with e
                injection e with e1 e2
                subst e1 e2
                refine ⟨b, off + (i + 1) * 5, rfl, fun q hq0 j hj => ?_⟩
                have : nth T2 q = nth xs (i + 1 + q) := by rw [HT2.out]; simp only [nth, List.getD]; rw [List.getElem?_drop]
                show y.cell? _ = some ((nth T2 q).c j)
                rw [this, show off + (i + 1) * 5 + q * 5 + j = off + (i + 1 + q) * 5 + j by omega]; exact hc (i + 1 + q) (by have := HDK.out; omega) j hj)
              have HD0 := HDK
              skip
            all_goals
              go_wp2_with fail
              go_region_law (first
                | (refine step_append_form (o := ⟨some 49, _, _, _, _, _⟩) rfl _ _ 24 rfl w 26 i0 _ 5 40 Try.underlying24 hi hz0 hz1 hz2 rfl (by decide) Ent.c ent_cells _ [] T1 T1 HNT rfl (HST.out.kept (by repeat (first | (with_reducible exact Ext.refl _) | (with_reducible assumption) | with_reducible refine Ext.drew ?_ | with_reducible refine Ext.alloc ?_ _ | with_reducible refine Ext.setCell ?_ (by first | (simp; done) | (simp; omega) | omega) _ | with_reducible refine Ext.trans ?_ (by with_reducible assumption)))) ⟨b, off, none⟩ _ _ rfl HTK.out (HP1.out _ (by repeat (first | (with_reducible exact Ext.refl _) | (with_reducible assumption) | with_reducible refine Ext.drew ?_ | with_reducible refine Ext.alloc ?_ _ | with_reducible refine Ext.setCell ?_ (by first | (simp; done) | (simp; omega) | omega) _ | with_reducible refine Ext.trans ?_ (by with_reducible assumption)))) HB1.out HB2.out (by repeat (first | (with_reducible exact Ext.refl _) | (with_reducible assumption) | with_reducible refine Ext.drew ?_ | with_reducible refine Ext.alloc ?_ _ | with_reducible refine Ext.setCell ?_ (by first | (simp; done) | (simp; omega) | omega) _ | with_reducible refine Ext.trans ?_ (by with_reducible assumption))) ?_; intro go1 gc1 w3 ho1 hx3 hg3 hv3; clear hg3 hv3)
                | (refine step_append_rows (o := ⟨some 54, _, _, _, _, _⟩) rfl _ _ 24 rfl w 26 i0 _ 5 40 Try.underlying24 hi hz0 hz1 hz2 rfl (by decide) Ent.c ent_cells (.slice go1 T1.length gc1) T1 T2 rfl ho1 _ _ _ rfl (by first | exact HDK.out | exact HD0.out) (fun h => by cases h) (HDI.out _ (by repeat (first | (with_reducible exact Ext.refl _) | (with_reducible assumption) | with_reducible refine Ext.drew ?_ | with_reducible refine Ext.alloc ?_ _ | with_reducible refine Ext.setCell ?_ (by first | (simp; done) | (simp; omega) | omega) _ | with_reducible refine Ext.trans ?_ (by with_reducible assumption)))) HB3.out HB4.out (by repeat (first | (with_reducible exact Ext.refl _) | (with_reducible assumption) | with_reducible refine Ext.drew ?_ | with_reducible refine Ext.alloc ?_ _ | with_reducible refine Ext.setCell ?_ (by first | (simp; done) | (simp; omega) | omega) _ | with_reducible refine Ext.trans ?_ (by with_reducible assumption))) ?_; intro v3 w5 ho3 hx5 hg5; rw [← HLQ.out] at ho3; obtain ⟨go3, gc3, rfl⟩ := ho3.shape; clear hg5))
              all_goals
                obtain ⟨a2, cp2, e2, hf2, _, _, _⟩ := ho3.fresh
                injection e2 with e2 _ e3
                subst e2 e3
                have HF5 := Lib.hid hf2
                have HX5 := Lib.hid hx5
                clear ho3 hf2 ho1 hx3 hx2
                go_wp2
                go_ret3
                rw [HN1.out, HP.out, HN3.out]
                exact .mk _ _ rfl HX5.out HF5.out

end Go.Proofs.Ytkejhhflpnfepaa
