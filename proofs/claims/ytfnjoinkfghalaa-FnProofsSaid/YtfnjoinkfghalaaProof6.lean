/-
  Proved here: what IsBelieved and its reference return.
  Conditions: the number of proofs fits an int.
-/
import Derived.Test.YtfnjoinkfghalaaProof5
namespace Go.Proofs.Ytfnjoinkfghalaa
open Go.RowKit

/-- how many of the first k kinds speak for the visit -/
def kindsU (xs : List Prf) (r c : Int) : Nat → Int
  | 0 => 0
  | k + 1 => if 0 < bestW xs r c k false xs.length then kindsU xs r c k + 1 else kindsU xs r c k
theorem kindsU_bd (xs : List Prf) (r c : Int) (k : Nat) : 0 ≤ kindsU xs r c k ∧ kindsU xs r c k ≤ k := by
  induction k with
  | zero => simp [kindsU]
  | succ k ih => rw [kindsU]; split <;> omega
theorem kindsU_yes {xs : List Prf} {r c : Int} {k : Nat} (h : 0 < bestW xs r c k false xs.length) : kindsU xs r c (k + 1) = kindsU xs r c k + 1 := by rw [kindsU, if_pos h]
theorem kindsU_no {xs : List Prf} {r c : Int} {k : Nat} (h : ¬ 0 < bestW xs r c k false xs.length) : kindsU xs r c (k + 1) = kindsU xs r c k := by rw [kindsU, if_neg h]
def belB (xs : List Prf) (r c lim : Int) : Bool := decide (lim ≤ balI xs r c) && (decide (2 ≤ kindsU xs r c 4) || decide (0 < bestW xs r c 3 false xs.length))

set_option maxHeartbeats 2000000 in
theorem spec_l14Believed {ao : Option Addr} {cap : Nat} {xs : List Prf} {r c lim : Int} {w : World} (h : RowAt w ao 5 xs.length (fun k => (nth xs k).c)) (hn : xs.length ≤ 9223372036854775807) (hok : okPrfs xs) :
    Calls Try.prog 62 #[.slice ao xs.length cap, .int .i64 r, .int .i64 c, .int .i64 lim] w fun e w' => e = .returned (.bool (belB xs r c lim)) ∧ Ext w w' := by
  have hB := fun x hx => spec_l14Best (w := x) (cap := cap) (r := r) (c := c) (kd := 3) (ag := false) (h.ext hx) hn
  go_enter Try.func62, Try.ntmps62
  go_wp2
  go_loopw [9, 10] (fun s i wr => ∃ k : Nat, k ≤ 4 ∧ i = .int .i64 k ∧ s = .int .i64 (kindsU xs r c k) ∧ Ext w wr) (fun _ i _ => 4 - (intOf i).toNat)
  case atStart => exact ⟨0, by omega, rfl, rfl, Ext.refl _⟩
  case round =>
    obtain ⟨k, hk, rfl, rfl, hx⟩ := hrel
    have hbd := kindsU_bd xs r c k
    by_cases hlt : k < 4
    · clear hB
      by_cases hp : 0 < bestW xs r c k false xs.length
      · go_wp2_with fail
        refine (spec_l14Best (h.ext hx) hn).mono ?_; rintro e w1 ⟨rfl, hx1⟩
        go_wp2
        go_roundw
        case rel => exact ⟨k + 1, by omega, by go_num, by rw [kindsU_yes hp], (by repeat (first | (with_reducible exact Ext.refl _) | (with_reducible assumption) | with_reducible refine Ext.drew ?_ | with_reducible refine Ext.alloc ?_ _ | with_reducible refine Ext.setCell ?_ (by first | (simp; done) | (simp; omega) | omega) _ | with_reducible refine Ext.trans ?_ (by with_reducible assumption)))⟩
        case measure => simp [intOf]; omega
      · go_wp2_with fail
        refine (spec_l14Best (h.ext hx) hn).mono ?_; rintro e w1 ⟨rfl, hx1⟩
        go_wp2
        go_roundw
        case rel => exact ⟨k + 1, by omega, by go_num, by rw [kindsU_no (by omega)], (by repeat (first | (with_reducible exact Ext.refl _) | (with_reducible assumption) | with_reducible refine Ext.drew ?_ | with_reducible refine Ext.alloc ?_ _ | with_reducible refine Ext.setCell ?_ (by first | (simp; done) | (simp; omega) | omega) _ | with_reducible refine Ext.trans ?_ (by with_reducible assumption)))⟩
        case measure => simp [intOf]; omega
    · have hkn : k = 4 := by omega
      subst hkn
      by_cases hA : lim ≤ balI xs r c
      · by_cases hC : 2 ≤ kindsU xs r c 4
        · go_wp2_with fail
          refine (spec_l14Balance (h.ext hx) hn hok).mono ?_; rintro e w1 ⟨rfl, hx1⟩
          go_wp2
          go_ret
          exact ⟨ret_b (by simp [belB, hA, hC]), (by repeat (first | (with_reducible exact Ext.refl _) | (with_reducible assumption) | with_reducible refine Ext.drew ?_ | with_reducible refine Ext.alloc ?_ _ | with_reducible refine Ext.setCell ?_ (by first | (simp; done) | (simp; omega) | omega) _ | with_reducible refine Ext.trans ?_ (by with_reducible assumption)))⟩
        · by_cases hD : 0 < bestW xs r c 3 false xs.length
          all_goals
            go_wp2_with fail
            refine (spec_l14Balance (h.ext hx) hn hok).mono ?_; rintro e w1 ⟨rfl, hx1⟩
            go_wp2_with fail
            refine (hB _ (by repeat (first | (with_reducible exact Ext.refl _) | (with_reducible assumption) | with_reducible refine Ext.drew ?_ | with_reducible refine Ext.alloc ?_ _ | with_reducible refine Ext.setCell ?_ (by first | (simp; done) | (simp; omega) | omega) _ | with_reducible refine Ext.trans ?_ (by with_reducible assumption)))).mono ?_; rintro e w2 ⟨rfl, hx2⟩
            go_wp2
            go_ret
            exact ⟨ret_b (by simp [belB, hA, hD]), (by repeat (first | (with_reducible exact Ext.refl _) | (with_reducible assumption) | with_reducible refine Ext.drew ?_ | with_reducible refine Ext.alloc ?_ _ | with_reducible refine Ext.setCell ?_ (by first | (simp; done) | (simp; omega) | omega) _ | with_reducible refine Ext.trans ?_ (by with_reducible assumption)))⟩
      · have HB := Lib.hid (show belB xs r c lim = false by simp [belB, hA])
        go_wp2_with fail
        refine (spec_l14Balance (h.ext hx) hn hok).mono ?_; rintro e w1 ⟨rfl, hx1⟩
        go_wp2
        go_ret
        exact ⟨ret_b HB.out.symm, (by repeat (first | (with_reducible exact Ext.refl _) | (with_reducible assumption) | with_reducible refine Ext.drew ?_ | with_reducible refine Ext.alloc ?_ _ | with_reducible refine Ext.setCell ?_ (by first | (simp; done) | (simp; omega) | omega) _ | with_reducible refine Ext.trans ?_ (by with_reducible assumption)))⟩

set_option maxHeartbeats 2000000 in
theorem impl_isBelieved {ao : Option Addr} {cap : Nat} {xs : List Prf} {r c lim : Int} {w : World} (h : RowAt w ao 5 xs.length (fun k => (nth xs k).c)) (hn : xs.length ≤ 9223372036854775807) (hok : okPrfs xs) :
    Calls Try.prog 58 #[.slice ao xs.length cap, .int .i64 r, .int .i64 c, .int .i64 lim] w fun e w' => e = .returned (.bool (belB xs r c lim)) ∧ Ext w w' := by
  have i0 : ∀ w, (Instr.index 67 (.agg #[.int .i64 (bestW xs r c 0 false xs.length), .int .i64 (bestW xs r c 1 false xs.length), .int .i64 (bestW xs r c 2 false xs.length), .int .i64 (bestW xs r c 3 false xs.length)]) (.int .i64 0)).run Try.prog w = .ok (.int .i64 (bestW xs r c 0 false xs.length)) w := fun _ => by kernel_rfl
  have i1 : ∀ w, (Instr.index 67 (.agg #[.int .i64 (bestW xs r c 0 false xs.length), .int .i64 (bestW xs r c 1 false xs.length), .int .i64 (bestW xs r c 2 false xs.length), .int .i64 (bestW xs r c 3 false xs.length)]) (.int .i64 1)).run Try.prog w = .ok (.int .i64 (bestW xs r c 1 false xs.length)) w := fun _ => by kernel_rfl
  have i2 : ∀ w, (Instr.index 67 (.agg #[.int .i64 (bestW xs r c 0 false xs.length), .int .i64 (bestW xs r c 1 false xs.length), .int .i64 (bestW xs r c 2 false xs.length), .int .i64 (bestW xs r c 3 false xs.length)]) (.int .i64 2)).run Try.prog w = .ok (.int .i64 (bestW xs r c 2 false xs.length)) w := fun _ => by kernel_rfl
  have i3 : ∀ w, (Instr.index 67 (.agg #[.int .i64 (bestW xs r c 0 false xs.length), .int .i64 (bestW xs r c 1 false xs.length), .int .i64 (bestW xs r c 2 false xs.length), .int .i64 (bestW xs r c 3 false xs.length)]) (.int .i64 3)).run Try.prog w = .ok (.int .i64 (bestW xs r c 3 false xs.length)) w := fun _ => by kernel_rfl
  have k0 : kindsU xs r c 0 = 0 := rfl
  have k1 : kindsU xs r c 1 = if 0 < bestW xs r c 0 false xs.length then kindsU xs r c 0 + 1 else kindsU xs r c 0 := rfl
  have k2 : kindsU xs r c 2 = if 0 < bestW xs r c 1 false xs.length then kindsU xs r c 1 + 1 else kindsU xs r c 1 := rfl
  have k3 : kindsU xs r c 3 = if 0 < bestW xs r c 2 false xs.length then kindsU xs r c 2 + 1 else kindsU xs r c 2 := rfl
  have k4 : kindsU xs r c 4 = if 0 < bestW xs r c 3 false xs.length then kindsU xs r c 3 + 1 else kindsU xs r c 3 := rfl
  have K1 := Lib.hid k1; clear k1
  have K2 := Lib.hid k2; clear k2
  have K3 := Lib.hid k3; clear k3
  have K4 := Lib.hid k4; clear k4
  clear k0
  go_enter Try.func58, Try.ntmps58
  go_wp2_with fail
  refine (impl_weightsOf h hn hok).mono ?_; rintro e w1 ⟨rfl, hx1⟩
  unfold wArr
  go_wp2
  go_loopw [10, 18] (fun s i wr => ∃ k : Nat, k ≤ 4 ∧ i = .int .i64 k ∧ s = .int .i64 (kindsU xs r c k) ∧ Ext (w1.alloc (Obj.cells #[.int .i64 (bestW xs r c 0 false xs.length), .int .i64 (bestW xs r c 1 false xs.length), .int .i64 (bestW xs r c 2 false xs.length), .int .i64 (bestW xs r c 3 false xs.length)] 67)) wr) (fun _ i _ => 4 - (intOf i).toNat)
  case atStart => exact ⟨0, by omega, rfl, rfl, Ext.refl _⟩
  case round =>
    obtain ⟨k, hk, rfl, rfl, hx⟩ := hrel
    have hbd := kindsU_bd xs r c k
    by_cases hlt : k < 4
    · have hk4 : k = 0 ∨ k = 1 ∨ k = 2 ∨ k = 3 := by omega
      clear hk hlt
      rcases hk4 with rfl | rfl | rfl | rfl
      · clear i1 i2 i3 K2 K3 K4
        by_cases hp : 0 < bestW xs r c 0 false xs.length
        all_goals
          go_wp2
          go_roundw
          case rel => exact ⟨1, by omega, by go_num, by rw [K1.out]; first | rw [if_pos hp] | rw [if_neg hp], (by repeat (first | (with_reducible exact Ext.refl _) | (with_reducible assumption) | with_reducible refine Ext.drew ?_ | with_reducible refine Ext.alloc ?_ _ | with_reducible refine Ext.setCell ?_ (by first | (simp; done) | (simp; omega) | omega) _ | with_reducible refine Ext.trans ?_ (by with_reducible assumption)))⟩
          case measure => simp [intOf]
      · clear i0 i2 i3 K1 K3 K4
        by_cases hp : 0 < bestW xs r c 1 false xs.length
        all_goals
          go_wp2
          go_roundw
          case rel => exact ⟨2, by omega, by go_num, by rw [K2.out]; first | rw [if_pos hp] | rw [if_neg hp], (by repeat (first | (with_reducible exact Ext.refl _) | (with_reducible assumption) | with_reducible refine Ext.drew ?_ | with_reducible refine Ext.alloc ?_ _ | with_reducible refine Ext.setCell ?_ (by first | (simp; done) | (simp; omega) | omega) _ | with_reducible refine Ext.trans ?_ (by with_reducible assumption)))⟩
          case measure => simp [intOf]
      · clear i0 i1 i3 K1 K2 K4
        by_cases hp : 0 < bestW xs r c 2 false xs.length
        all_goals
          go_wp2
          go_roundw
          case rel => exact ⟨3, by omega, by go_num, by rw [K3.out]; first | rw [if_pos hp] | rw [if_neg hp], (by repeat (first | (with_reducible exact Ext.refl _) | (with_reducible assumption) | with_reducible refine Ext.drew ?_ | with_reducible refine Ext.alloc ?_ _ | with_reducible refine Ext.setCell ?_ (by first | (simp; done) | (simp; omega) | omega) _ | with_reducible refine Ext.trans ?_ (by with_reducible assumption)))⟩
          case measure => simp [intOf]
      · clear i0 i1 i2 K1 K2 K3
        by_cases hp : 0 < bestW xs r c 3 false xs.length
        all_goals
          go_wp2
          go_roundw
          case rel => exact ⟨4, by omega, by go_num, by rw [K4.out]; first | rw [if_pos hp] | rw [if_neg hp], (by repeat (first | (with_reducible exact Ext.refl _) | (with_reducible assumption) | with_reducible refine Ext.drew ?_ | with_reducible refine Ext.alloc ?_ _ | with_reducible refine Ext.setCell ?_ (by first | (simp; done) | (simp; omega) | omega) _ | with_reducible refine Ext.trans ?_ (by with_reducible assumption)))⟩
          case measure => simp [intOf]
    · have hkn : k = 4 := by omega
      subst hkn
      clear i0 i1 i2 i3 K1 K2 K3 K4
      have hxw : Ext w wr := (hx1.alloc _).trans hx
      have f3 : wr.cell? ⟨w1.heap.size, 3, none⟩ = some (.int .i64 (bestW xs r c 3 false xs.length)) := hx.cells (by go_simp)
      by_cases hA : lim ≤ balI xs r c
      · by_cases hC : 2 ≤ kindsU xs r c 4
        · go_wp2_with fail
          refine (impl_balanceOf (h.ext hxw) hn hok).mono ?_; rintro e w2 ⟨rfl, hx2⟩
          go_wp2
          go_ret
          exact ⟨ret_b (by simp [belB, hA, hC]), (by repeat (first | (with_reducible exact Ext.refl _) | (with_reducible assumption) | with_reducible refine Ext.drew ?_ | with_reducible refine Ext.alloc ?_ _ | with_reducible refine Ext.setCell ?_ (by first | (simp; done) | (simp; omega) | omega) _ | with_reducible refine Ext.trans ?_ (by with_reducible assumption)))⟩
        · by_cases hD : 0 < bestW xs r c 3 false xs.length
          all_goals
            go_wp2_with fail
            refine (impl_balanceOf (h.ext hxw) hn hok).mono ?_; rintro e w2 ⟨rfl, hx2⟩
            have g3 := hx2.cells f3
            go_wp2
            go_ret
            exact ⟨ret_b (by simp [belB, hA, hD]), (by repeat (first | (with_reducible exact Ext.refl _) | (with_reducible assumption) | with_reducible refine Ext.drew ?_ | with_reducible refine Ext.alloc ?_ _ | with_reducible refine Ext.setCell ?_ (by first | (simp; done) | (simp; omega) | omega) _ | with_reducible refine Ext.trans ?_ (by with_reducible assumption)))⟩
      · have HB := Lib.hid (show belB xs r c lim = false by simp [belB, hA])
        go_wp2_with fail
        refine (impl_balanceOf (h.ext hxw) hn hok).mono ?_; rintro e w2 ⟨rfl, hx2⟩
        go_wp2
        go_ret
        exact ⟨ret_b HB.out.symm, (by repeat (first | (with_reducible exact Ext.refl _) | (with_reducible assumption) | with_reducible refine Ext.drew ?_ | with_reducible refine Ext.alloc ?_ _ | with_reducible refine Ext.setCell ?_ (by first | (simp; done) | (simp; omega) | omega) _ | with_reducible refine Ext.trans ?_ (by with_reducible assumption)))⟩

theorem impl_isLimit {x : Int} {w : World} :
    Calls Try.prog 57 #[.int .i64 x] w fun e w' => e = .returned (.bool (inB x 1 20)) ∧ w = w' := by
  go_enter Try.func57, Try.ntmps57
  go_wp2_with (go_at_call 87; refine (impl_inside).mono ?_; rintro e w1 ⟨rfl, rfl⟩)
  go_ret
  exact ⟨rfl, rfl⟩
theorem spec_l14Limit {x : Int} {w : World} :
    Calls Try.prog 61 #[.int .i64 x] w fun e w' => e = .returned (.bool (inB x 1 20)) ∧ w = w' := by
  go_enter Try.func61, Try.ntmps61
  go_wp2_with (go_at_call 84; refine (spec_l1In).mono ?_; rintro e w1 ⟨rfl, rfl⟩)
  go_ret
  exact ⟨rfl, rfl⟩

def askB (xs : List Prf) (r c lim : Int) : Bool := visB xs r c && inB lim 1 20
def gBel (xs : List Prf) (r c lim : Int) : Value := if askB xs r c lim then .tuple #[.bool (belB xs r c lim), .bool true] else .tuple #[.bool false, .bool false]

theorem impl_IsBelieved {ao : Option Addr} {cap : Nat} {ms : List Prf} {r c lim : Int} {w : World} (h : RowAt w ao 5 ms.length (fun k => (nth ms k).c)) (hn : ms.length ≤ 9223372036854775807) (_hr : I64 r) (_hc : I64 c) (_hl : I64 lim) :
    Calls Try.prog 19 #[.slice ao ms.length cap, .int .i64 r, .int .i64 c, .int .i64 lim] w fun e w' => e = .returned (gBel ms r c lim) ∧ Ext w w' := by
  cases hv : visB ms r c
  · have hfin : gBel ms r c lim = .tuple #[.bool false, .bool false] := by simp [gBel, askB, hv]
    rw [hfin]; clear hfin
    go_enter Try.func19, Try.ntmps19
    go_wp2_with fail
    refine (impl_isVisit h hn).mono ?_; rintro e w1 ⟨rfl, hx1⟩
    rw [hv]
    go_wp2
    go_ret2
    exact ⟨rfl, (by repeat (first | (with_reducible exact Ext.refl _) | (with_reducible assumption) | with_reducible refine Ext.drew ?_ | with_reducible refine Ext.alloc ?_ _ | with_reducible refine Ext.setCell ?_ (by first | (simp; done) | (simp; omega) | omega) _ | with_reducible refine Ext.trans ?_ (by with_reducible assumption)))⟩
  · have hok := visB_ok hv
    cases hl : inB lim 1 20
    · have hfin : gBel ms r c lim = .tuple #[.bool false, .bool false] := by simp [gBel, askB, hl]
      rw [hfin]; clear hfin
      go_enter Try.func19, Try.ntmps19
      go_wp2_with fail
      refine (impl_isVisit h hn).mono ?_; rintro e w1 ⟨rfl, hx1⟩
      rw [hv]
      go_wp2_with fail
      refine impl_isLimit.mono ?_; rintro e w2 ⟨rfl, rfl⟩
      rw [hl]
      go_wp2
      go_ret2
      exact ⟨rfl, (by repeat (first | (with_reducible exact Ext.refl _) | (with_reducible assumption) | with_reducible refine Ext.drew ?_ | with_reducible refine Ext.alloc ?_ _ | with_reducible refine Ext.setCell ?_ (by first | (simp; done) | (simp; omega) | omega) _ | with_reducible refine Ext.trans ?_ (by with_reducible assumption)))⟩
    · have hfin : gBel ms r c lim = .tuple #[.bool (belB ms r c lim), .bool true] := by simp [gBel, askB, hv, hl]
      rw [hfin]; clear hfin
      go_enter Try.func19, Try.ntmps19
      go_wp2_with fail
      refine (impl_isVisit h hn).mono ?_; rintro e w1 ⟨rfl, hx1⟩
      rw [hv]
      go_wp2_with fail
      refine impl_isLimit.mono ?_; rintro e w2 ⟨rfl, rfl⟩
      rw [hl]
      go_wp2_with fail
      refine (impl_isBelieved (h.ext hx1) hn hok).mono ?_; rintro e w2 ⟨rfl, hx2⟩
      go_wp2
      go_ret2
      exact ⟨rfl, (by repeat (first | (with_reducible exact Ext.refl _) | (with_reducible assumption) | with_reducible refine Ext.drew ?_ | with_reducible refine Ext.alloc ?_ _ | with_reducible refine Ext.setCell ?_ (by first | (simp; done) | (simp; omega) | omega) _ | with_reducible refine Ext.trans ?_ (by with_reducible assumption)))⟩

theorem spec_IsBelieved {ao : Option Addr} {cap : Nat} {ms : List Prf} {r c lim : Int} {w : World} (h : RowAt w ao 5 ms.length (fun k => (nth ms k).c)) (hn : ms.length ≤ 9223372036854775807) (_hr : I64 r) (_hc : I64 c) (_hl : I64 lim) :
    Calls Try.prog 20 #[.slice ao ms.length cap, .int .i64 r, .int .i64 c, .int .i64 lim] w fun e w' => e = .returned (gBel ms r c lim) ∧ Ext w w' := by
  cases hv : visB ms r c
  · have hfin : gBel ms r c lim = .tuple #[.bool false, .bool false] := by simp [gBel, askB, hv]
    rw [hfin]; clear hfin
    go_enter Try.func20, Try.ntmps20
    go_wp2_with fail
    refine (spec_l14Asked h hn).mono ?_; rintro e w1 ⟨rfl, hx1⟩
    rw [hv]
    go_wp2
    go_ret2
    exact ⟨rfl, (by repeat (first | (with_reducible exact Ext.refl _) | (with_reducible assumption) | with_reducible refine Ext.drew ?_ | with_reducible refine Ext.alloc ?_ _ | with_reducible refine Ext.setCell ?_ (by first | (simp; done) | (simp; omega) | omega) _ | with_reducible refine Ext.trans ?_ (by with_reducible assumption)))⟩
  · have hok := visB_ok hv
    cases hl : inB lim 1 20
    · have hfin : gBel ms r c lim = .tuple #[.bool false, .bool false] := by simp [gBel, askB, hl]
      rw [hfin]; clear hfin
      go_enter Try.func20, Try.ntmps20
      go_wp2_with fail
      refine (spec_l14Asked h hn).mono ?_; rintro e w1 ⟨rfl, hx1⟩
      rw [hv]
      go_wp2_with fail
      refine spec_l14Limit.mono ?_; rintro e w2 ⟨rfl, rfl⟩
      rw [hl]
      go_wp2
      go_ret2
      exact ⟨rfl, (by repeat (first | (with_reducible exact Ext.refl _) | (with_reducible assumption) | with_reducible refine Ext.drew ?_ | with_reducible refine Ext.alloc ?_ _ | with_reducible refine Ext.setCell ?_ (by first | (simp; done) | (simp; omega) | omega) _ | with_reducible refine Ext.trans ?_ (by with_reducible assumption)))⟩
    · have hfin : gBel ms r c lim = .tuple #[.bool (belB ms r c lim), .bool true] := by simp [gBel, askB, hv, hl]
      rw [hfin]; clear hfin
      go_enter Try.func20, Try.ntmps20
      go_wp2_with fail
      refine (spec_l14Asked h hn).mono ?_; rintro e w1 ⟨rfl, hx1⟩
      rw [hv]
      go_wp2_with fail
      refine spec_l14Limit.mono ?_; rintro e w2 ⟨rfl, rfl⟩
      rw [hl]
      go_wp2_with fail
      refine (spec_l14Believed (h.ext hx1) hn hok).mono ?_; rintro e w2 ⟨rfl, hx2⟩
      go_wp2
      go_ret2
      exact ⟨rfl, (by repeat (first | (with_reducible exact Ext.refl _) | (with_reducible assumption) | with_reducible refine Ext.drew ?_ | with_reducible refine Ext.alloc ?_ _ | with_reducible refine Ext.setCell ?_ (by first | (simp; done) | (simp; omega) | omega) _ | with_reducible refine Ext.trans ?_ (by with_reducible assumption)))⟩

end Go.Proofs.Ytfnjoinkfghalaa
