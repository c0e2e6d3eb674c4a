/-
  Proved here: what LacksFor and its reference return.
  Conditions: the number of proofs is small enough for a memory; a nil slice has no capacity.
-/
import Derived.Test.YtfnjoinkfghalaaProof6
import Derived.Test.YtfnjoinkfghalaaOwn
namespace Go.Proofs.Ytfnjoinkfghalaa
open Go.RowKit

/-- a device's proof of a weight -/
def dev (r c : Int) (k : Nat) : Prf := ⟨r, c, 3, (k : Int) + 1, false⟩
/-- believed with one more proof of weight k + 1 -/
def lackB (xs : List Prf) (r c lim : Int) (k : Nat) : Bool := belB (xs ++ [dev r c k]) r c lim
/-- the first weight below 10 that serves -/
def lackU (xs : List Prf) (r c lim : Int) : Option Nat := (List.range 10).find? (lackB xs r c lim)
def gLacks (xs : List Prf) (r c lim : Int) : Value :=
  if askB xs r c lim then (if belB xs r c lim then .tuple #[.int .i64 0, .bool true] else match lackU xs r c lim with | some k => .tuple #[.int .i64 (k + 1), .bool true] | none => .tuple #[.int .i64 0, .bool false])
  else .tuple #[.int .i64 0, .bool false]
theorem lackU_at {xs : List Prf} {r c lim : Int} {k : Nat} (hk : k < 10) (h : lackB xs r c lim k = true) (hb : ∀ j, j < k → lackB xs r c lim j = false) : lackU xs r c lim = some k := by
  rw [lackU, List.find?_range_eq_some]
  exact ⟨h, by simpa using hk, fun j hj => by simp [hb j hj]⟩
theorem lackU_none {xs : List Prf} {r c lim : Int} (hb : ∀ j, j < 10 → lackB xs r c lim j = false) : lackU xs r c lim = none := by
  rw [lackU, List.find?_eq_none]
  intro j hj
  simp [hb j (by simpa using hj)]
theorem okPrfs_dev {xs : List Prf} {r c : Int} {k : Nat} (h : okPrfs xs) (hk : k < 10) : okPrfs (xs ++ [dev r c k]) := by
  intro j hj
  rw [List.length_append] at hj
  by_cases e : j < xs.length
  · have : nth (xs ++ [dev r c k]) j = nth xs j := by simp only [nth, List.getD]; rw [List.getElem?_append_left e]
    rw [this]; exact h j e
  · have : nth (xs ++ [dev r c k]) j = dev r c k := by
      obtain rfl : j = xs.length := by simp at hj; omega
      simp [nth, List.getD]
    rw [this]; simp [dev]; omega
theorem prf_one : ∀ (x : Prf) (j : Nat), j < 5 → (x.c j).oneCell' = true := by
  intro x j hj
  match j, hj with
  | 0, _ => rfl
  | 1, _ => rfl
  | 2, _ => rfl
  | 3, _ => rfl
  | 4, _ => rfl

set_option maxRecDepth 100000 in
set_option maxHeartbeats 2000000 in
theorem impl_LacksFor {ao : Option Addr} {cap : Nat} {ms : List Prf} {r c l : Int} {w : World} (h : RowAt w ao 5 ms.length (fun k => (nth ms k).c)) (hn : ms.length ≤ 9223372036854775807) (_hr : I64 r) (_hc : I64 c) (_hl : I64 l) (hs : ms.length ≤ 1048576) (hnil : ao = none → cap = 0) :
    Calls Try.prog 17 #[.slice ao ms.length cap, .int .i64 r, .int .i64 c, .int .i64 l] w fun e w' => e = .returned (gLacks ms r c l) ∧ Ext w w' := by
  obtain ⟨i0, hi, hz0, hz1, hz2⟩ := info_parts infoPrf
  cases hv : visB ms r c
  · have hfin : gLacks ms r c l = .tuple #[.int .i64 0, .bool false] := by simp [gLacks, askB, hv]
    rw [hfin]; clear hfin
    go_enter Try.func17, Try.ntmps17
    go_wp2_with fail
    refine (impl_isVisit h hn).mono ?_; rintro e w1 ⟨rfl, hx1⟩
    rw [hv]
    go_wp2
    go_ret2
    exact ⟨rfl, (by repeat (first | (with_reducible exact Ext.refl _) | (with_reducible assumption) | with_reducible refine Ext.drew ?_ | with_reducible refine Ext.alloc ?_ _ | with_reducible refine Ext.setCell ?_ (by first | (simp; done) | (simp; omega) | omega) _ | with_reducible refine Ext.trans ?_ (by with_reducible assumption)))⟩
  · have hok := visB_ok hv
    cases hl : inB l 1 20
    · have hfin : gLacks ms r c l = .tuple #[.int .i64 0, .bool false] := by simp [gLacks, askB, hl]
      rw [hfin]; clear hfin
      go_enter Try.func17, Try.ntmps17
      go_wp2_with fail
      refine (impl_isVisit h hn).mono ?_; rintro e w1 ⟨rfl, hx1⟩
      rw [hv]
      go_wp2_with fail
      refine impl_isLimit.mono ?_; rintro e w2 ⟨rfl, rfl⟩
      rw [hl]
      go_wp2
      go_ret2
      exact ⟨rfl, (by repeat (first | (with_reducible exact Ext.refl _) | (with_reducible assumption) | with_reducible refine Ext.drew ?_ | with_reducible refine Ext.alloc ?_ _ | with_reducible refine Ext.setCell ?_ (by first | (simp; done) | (simp; omega) | omega) _ | with_reducible refine Ext.trans ?_ (by with_reducible assumption)))⟩
    · cases hb : belB ms r c l
      · have hfin : gLacks ms r c l = match lackU ms r c l with | some k => .tuple #[.int .i64 (k + 1), .bool true] | none => .tuple #[.int .i64 0, .bool false] := by simp [gLacks, askB, hv, hl, hb]
        have HF := Lib.hid hfin; clear hfin
        go_enter Try.func17, Try.ntmps17
        go_wp2_with fail
        refine (impl_isVisit h hn).mono ?_; rintro e w1 ⟨rfl, hx1⟩
        rw [hv]
        go_wp2_with fail
        refine impl_isLimit.mono ?_; rintro e w2 ⟨rfl, rfl⟩
        rw [hl]
        go_wp2_with fail
        refine (impl_isBelieved (h.ext hx1) hn hok).mono ?_; rintro e w2 ⟨rfl, hx2⟩
        rw [hb]
        go_wp2
        go_loopw [10] (fun i wr => ∃ k : Nat, k ≤ 10 ∧ i = .int .i64 ((k : Int) + 1) ∧ Ext w wr ∧ ∀ j, j < k → lackB ms r c l j = false) (fun i _ => 11 - (intOf i).toNat)
        case atStart => exact ⟨0, by omega, by go_num, (by repeat (first | (with_reducible exact Ext.refl _) | (with_reducible assumption) | with_reducible refine Ext.drew ?_ | with_reducible refine Ext.alloc ?_ _ | with_reducible refine Ext.setCell ?_ (by first | (simp; done) | (simp; omega) | omega) _ | with_reducible refine Ext.trans ?_ (by with_reducible assumption))), fun j hj => by omega⟩
        case round =>
          clear hx1 hx2 hv hl hb
          obtain ⟨k, hk, rfl, hx, hall⟩ := hrel
          have HA := Lib.hid hall; clear hall
          by_cases hlt : k < 10
          · have hin : inB ((k : Int) + 1) 1 10 = true := inB_iff.2 ⟨by omega, by omega⟩
            have hokd := okPrfs_dev (r := r) (c := c) hok hlt
            obtain ⟨L, hL⟩ : ∃ L, L = ms ++ [dev r c k] := ⟨_, rfl⟩
            have hLl : L.length ≤ 9223372036854775807 := by rw [hL]; simp; omega
            rw [← hL] at hokd
            have hbel := fun x ao' cap' hx => impl_isBelieved (w := x) (ao := ao') (cap := cap') (xs := L) (r := r) (c := c) (lim := l) hx hLl hokd
            have hlb : lackB ms r c l k = belB L r c l := by rw [hL]; rfl
            have HL := Lib.hid hL; clear hL
            have HB := Lib.hid hlb; clear hlb
            go_wp2_with fail
            refine impl_isWeight.mono ?_; rintro e w2 ⟨rfl, rfl⟩
            rw [hin]
            have hst := Owns.start (e := 45) (s := 5) (cc := Prf.c) hx
            have hrow2 := fun x => row_lit (w := x) (cs := #[.int .i64 r, .int .i64 c, .int .i64 3, .int .i64 ((k : Int) + 1), .bool false]) (T := 45) (s := 5) (cc := Prf.c) (x := dev r c k) (by intro j hj; match j, hj with | 0, _ => rfl | 1, _ => rfl | 2, _ => rfl | 3, _ => rfl | 4, _ => rfl)
            go_wp2_with (first
              | (at_builtin; refine wpList_append_rows (o := ⟨some 33, _, _, _, _, _⟩) rfl _ _ 27 rfl w 45 i0 _ 5 40 Try.underlying27 hi hz0 hz1 hz2 rfl (by decide) Prf.c prf_one _ [] ms rfl hst ao ms.length cap rfl rfl hnil (h.ext (hx.alloc _)) (by simp; omega) (by simp; omega) (hx.alloc _) ?_; intro v1 w3 ho1 hx3)
              | (at_builtin; refine wpList_append_rows (o := ⟨some 39, _, _, _, _, _⟩) rfl _ _ 27 rfl w 45 i0 _ 5 40 Try.underlying27 hi hz0 hz1 hz2 rfl (by decide) Prf.c prf_one _ ([] ++ ms) [dev r c k] rfl (ho1.kept ((Ext.refl _).alloc _)) (some ⟨w3.heap.size, 0, none⟩) 1 1 rfl rfl (fun h => by cases h) (hrow2 _) (by simp; omega) (by simp; omega) (hx3.alloc _) ?_; intro v2 w4 ho2 hx4; rw [List.nil_append, ← HL.out] at ho2; obtain ⟨a2, cp2, rfl, hf2, _, _, _⟩ := ho2.fresh))
            have hb2 := hbel _ _ cp2 hf2.row
            clear hbel hrow2 hst ho1 ho2
            cases ht : belB L r c l
            all_goals
              rw [ht] at hb2
              refine hb2.mono ?_; rintro e w5 ⟨rfl, hx5⟩
              go_wp2
            · go_roundw
              case rel => exact ⟨k + 1, by omega, by go_num, (by repeat (first | (with_reducible exact Ext.refl _) | (with_reducible assumption) | with_reducible refine Ext.drew ?_ | with_reducible refine Ext.alloc ?_ _ | with_reducible refine Ext.setCell ?_ (by first | (simp; done) | (simp; omega) | omega) _ | with_reducible refine Ext.trans ?_ (by with_reducible assumption))), fun j hj => by by_cases e : j = k; (subst e; rw [HB.out, ht]); exact HA.out j (by omega)⟩
              case measure => simp [intOf]; omega
            · have HV := HF.out
              rw [lackU_at hlt (HB.out.trans ht) HA.out] at HV
              go_ret2
              exact ⟨by first | rfl | (rw [HV]; rfl), (by repeat (first | (with_reducible exact Ext.refl _) | (with_reducible assumption) | with_reducible refine Ext.drew ?_ | with_reducible refine Ext.alloc ?_ _ | with_reducible refine Ext.setCell ?_ (by first | (simp; done) | (simp; omega) | omega) _ | with_reducible refine Ext.trans ?_ (by with_reducible assumption)))⟩
          · obtain rfl : k = 10 := by omega
            have hin : inB 11 1 10 = false := by decide
            have HV := HF.out
            rw [lackU_none HA.out] at HV
            go_wp2_with fail
            refine impl_isWeight.mono ?_; rintro e w2 ⟨rfl, rfl⟩
            rw [hin]
            go_wp2
            go_ret2
            exact ⟨by first | rfl | (rw [HV]; rfl), (by repeat (first | (with_reducible exact Ext.refl _) | (with_reducible assumption) | with_reducible refine Ext.drew ?_ | with_reducible refine Ext.alloc ?_ _ | with_reducible refine Ext.setCell ?_ (by first | (simp; done) | (simp; omega) | omega) _ | with_reducible refine Ext.trans ?_ (by with_reducible assumption)))⟩
      · have hfin : gLacks ms r c l = .tuple #[.int .i64 0, .bool true] := by simp [gLacks, askB, hv, hl, hb]
        rw [hfin]; clear hfin
        go_enter Try.func17, Try.ntmps17
        go_wp2_with fail
        refine (impl_isVisit h hn).mono ?_; rintro e w1 ⟨rfl, hx1⟩
        rw [hv]
        go_wp2_with fail
        refine impl_isLimit.mono ?_; rintro e w2 ⟨rfl, rfl⟩
        rw [hl]
        go_wp2_with fail
        refine (impl_isBelieved (h.ext hx1) hn hok).mono ?_; rintro e w2 ⟨rfl, hx2⟩
        rw [hb]
        go_wp2
        go_ret2
        exact ⟨rfl, (by repeat (first | (with_reducible exact Ext.refl _) | (with_reducible assumption) | with_reducible refine Ext.drew ?_ | with_reducible refine Ext.alloc ?_ _ | with_reducible refine Ext.setCell ?_ (by first | (simp; done) | (simp; omega) | omega) _ | with_reducible refine Ext.trans ?_ (by with_reducible assumption)))⟩

set_option maxRecDepth 100000 in
set_option maxHeartbeats 2000000 in
theorem spec_LacksFor {ao : Option Addr} {cap : Nat} {ms : List Prf} {r c l : Int} {w : World} (h : RowAt w ao 5 ms.length (fun k => (nth ms k).c)) (hn : ms.length ≤ 9223372036854775807) (_hr : I64 r) (_hc : I64 c) (_hl : I64 l) (hs : ms.length ≤ 1048576) (hnil : ao = none → cap = 0) :
    Calls Try.prog 18 #[.slice ao ms.length cap, .int .i64 r, .int .i64 c, .int .i64 l] w fun e w' => e = .returned (gLacks ms r c l) ∧ Ext w w' := by
  obtain ⟨i0, hi, hz0, hz1, hz2⟩ := info_parts infoPrf
  cases hv : visB ms r c
  · have hfin : gLacks ms r c l = .tuple #[.int .i64 0, .bool false] := by simp [gLacks, askB, hv]
    rw [hfin]; clear hfin
    go_enter Try.func18, Try.ntmps18
    go_wp2_with fail
    refine (spec_l14Asked h hn).mono ?_; rintro e w1 ⟨rfl, hx1⟩
    rw [hv]
    go_wp2
    go_ret2
    exact ⟨rfl, (by repeat (first | (with_reducible exact Ext.refl _) | (with_reducible assumption) | with_reducible refine Ext.drew ?_ | with_reducible refine Ext.alloc ?_ _ | with_reducible refine Ext.setCell ?_ (by first | (simp; done) | (simp; omega) | omega) _ | with_reducible refine Ext.trans ?_ (by with_reducible assumption)))⟩
  · have hok := visB_ok hv
    cases hl : inB l 1 20
    · have hfin : gLacks ms r c l = .tuple #[.int .i64 0, .bool false] := by simp [gLacks, askB, hl]
      rw [hfin]; clear hfin
      go_enter Try.func18, Try.ntmps18
      go_wp2_with fail
      refine (spec_l14Asked h hn).mono ?_; rintro e w1 ⟨rfl, hx1⟩
      rw [hv]
      go_wp2_with fail
      refine spec_l14Limit.mono ?_; rintro e w2 ⟨rfl, rfl⟩
      rw [hl]
      go_wp2
      go_ret2
      exact ⟨rfl, (by repeat (first | (with_reducible exact Ext.refl _) | (with_reducible assumption) | with_reducible refine Ext.drew ?_ | with_reducible refine Ext.alloc ?_ _ | with_reducible refine Ext.setCell ?_ (by first | (simp; done) | (simp; omega) | omega) _ | with_reducible refine Ext.trans ?_ (by with_reducible assumption)))⟩
    · cases hb : belB ms r c l
      · have hfin : gLacks ms r c l = match lackU ms r c l with | some k => .tuple #[.int .i64 (k + 1), .bool true] | none => .tuple #[.int .i64 0, .bool false] := by simp [gLacks, askB, hv, hl, hb]
        have HF := Lib.hid hfin; clear hfin
        go_enter Try.func18, Try.ntmps18
        go_wp2_with fail
        refine (spec_l14Asked h hn).mono ?_; rintro e w1 ⟨rfl, hx1⟩
        rw [hv]
        go_wp2_with fail
        refine spec_l14Limit.mono ?_; rintro e w2 ⟨rfl, rfl⟩
        rw [hl]
        go_wp2_with fail
        refine (spec_l14Believed (h.ext hx1) hn hok).mono ?_; rintro e w2 ⟨rfl, hx2⟩
        rw [hb]
        go_wp2
        go_loopw [10] (fun i wr => ∃ k : Nat, k ≤ 10 ∧ i = .int .i64 ((k : Int) + 1) ∧ Ext w wr ∧ ∀ j, j < k → lackB ms r c l j = false) (fun i _ => 11 - (intOf i).toNat)
        case atStart => exact ⟨0, by omega, by go_num, (by repeat (first | (with_reducible exact Ext.refl _) | (with_reducible assumption) | with_reducible refine Ext.drew ?_ | with_reducible refine Ext.alloc ?_ _ | with_reducible refine Ext.setCell ?_ (by first | (simp; done) | (simp; omega) | omega) _ | with_reducible refine Ext.trans ?_ (by with_reducible assumption))), fun j hj => by omega⟩
        case round =>
          clear hx1 hx2 hv hl hb
          obtain ⟨k, hk, rfl, hx, hall⟩ := hrel
          have HA := Lib.hid hall; clear hall
          by_cases hlt : k < 10
          · have hokd := okPrfs_dev (r := r) (c := c) hok hlt
            obtain ⟨L, hL⟩ : ∃ L, L = ms ++ [dev r c k] := ⟨_, rfl⟩
            have hLl : L.length ≤ 9223372036854775807 := by rw [hL]; simp; omega
            rw [← hL] at hokd
            have hbel := fun x ao' cap' hx => spec_l14Believed (w := x) (ao := ao') (cap := cap') (xs := L) (r := r) (c := c) (lim := l) hx hLl hokd
            have hlb : lackB ms r c l k = belB L r c l := by rw [hL]; rfl
            have HL := Lib.hid hL; clear hL
            have HB := Lib.hid hlb; clear hlb
            have hst := Owns.start (e := 45) (s := 5) (cc := Prf.c) hx
            have hrow2 := fun x => row_lit (w := x) (cs := #[.int .i64 r, .int .i64 c, .int .i64 3, .int .i64 ((k : Int) + 1), .bool false]) (T := 45) (s := 5) (cc := Prf.c) (x := dev r c k) (by intro j hj; match j, hj with | 0, _ => rfl | 1, _ => rfl | 2, _ => rfl | 3, _ => rfl | 4, _ => rfl)
            go_wp2_with (first
              | (at_builtin; refine wpList_append_rows (o := ⟨some 33, _, _, _, _, _⟩) rfl _ _ 27 rfl w 45 i0 _ 5 40 Try.underlying27 hi hz0 hz1 hz2 rfl (by decide) Prf.c prf_one _ [] ms rfl hst ao ms.length cap rfl rfl hnil (h.ext (hx.alloc _)) (by simp; omega) (by simp; omega) (hx.alloc _) ?_; intro v1 w3 ho1 hx3)
              | (at_builtin; refine wpList_append_rows (o := ⟨some 39, _, _, _, _, _⟩) rfl _ _ 27 rfl w 45 i0 _ 5 40 Try.underlying27 hi hz0 hz1 hz2 rfl (by decide) Prf.c prf_one _ ([] ++ ms) [dev r c k] rfl (ho1.kept ((Ext.refl _).alloc _)) (some ⟨w3.heap.size, 0, none⟩) 1 1 rfl rfl (fun h => by cases h) (hrow2 _) (by simp; omega) (by simp; omega) (hx3.alloc _) ?_; intro v2 w4 ho2 hx4; rw [List.nil_append, ← HL.out] at ho2; obtain ⟨a2, cp2, rfl, hf2, _, _, _⟩ := ho2.fresh))
            have hb2 := hbel _ _ cp2 hf2.row
            clear hbel hrow2 hst ho1 ho2
            cases ht : belB L r c l
            all_goals
              rw [ht] at hb2
              refine hb2.mono ?_; rintro e w5 ⟨rfl, hx5⟩
              go_wp2
            · go_roundw
              case rel => exact ⟨k + 1, by omega, by go_num, (by repeat (first | (with_reducible exact Ext.refl _) | (with_reducible assumption) | with_reducible refine Ext.drew ?_ | with_reducible refine Ext.alloc ?_ _ | with_reducible refine Ext.setCell ?_ (by first | (simp; done) | (simp; omega) | omega) _ | with_reducible refine Ext.trans ?_ (by with_reducible assumption))), fun j hj => by by_cases e : j = k; (subst e; rw [HB.out, ht]); exact HA.out j (by omega)⟩
              case measure => simp [intOf]; omega
            · have HV := HF.out
              rw [lackU_at hlt (HB.out.trans ht) HA.out] at HV
              go_ret2
              exact ⟨by first | rfl | (rw [HV]; rfl), (by repeat (first | (with_reducible exact Ext.refl _) | (with_reducible assumption) | with_reducible refine Ext.drew ?_ | with_reducible refine Ext.alloc ?_ _ | with_reducible refine Ext.setCell ?_ (by first | (simp; done) | (simp; omega) | omega) _ | with_reducible refine Ext.trans ?_ (by with_reducible assumption)))⟩
          · obtain rfl : k = 10 := by omega
            have HV := HF.out
            rw [lackU_none HA.out] at HV
            go_wp2
            go_ret2
            exact ⟨by first | rfl | (rw [HV]; rfl), (by repeat (first | (with_reducible exact Ext.refl _) | (with_reducible assumption) | with_reducible refine Ext.drew ?_ | with_reducible refine Ext.alloc ?_ _ | with_reducible refine Ext.setCell ?_ (by first | (simp; done) | (simp; omega) | omega) _ | with_reducible refine Ext.trans ?_ (by with_reducible assumption)))⟩
      · have hfin : gLacks ms r c l = .tuple #[.int .i64 0, .bool true] := by simp [gLacks, askB, hv, hl, hb]
        rw [hfin]; clear hfin
        go_enter Try.func18, Try.ntmps18
        go_wp2_with fail
        refine (spec_l14Asked h hn).mono ?_; rintro e w1 ⟨rfl, hx1⟩
        rw [hv]
        go_wp2_with fail
        refine spec_l14Limit.mono ?_; rintro e w2 ⟨rfl, rfl⟩
        rw [hl]
        go_wp2_with fail
        refine (spec_l14Believed (h.ext hx1) hn hok).mono ?_; rintro e w2 ⟨rfl, hx2⟩
        rw [hb]
        go_wp2
        go_ret2
        exact ⟨rfl, (by repeat (first | (with_reducible exact Ext.refl _) | (with_reducible assumption) | with_reducible refine Ext.drew ?_ | with_reducible refine Ext.alloc ?_ _ | with_reducible refine Ext.setCell ?_ (by first | (simp; done) | (simp; omega) | omega) _ | with_reducible refine Ext.trans ?_ (by with_reducible assumption)))⟩

end Go.Proofs.Ytfnjoinkfghalaa
