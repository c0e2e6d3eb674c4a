/-
  Proved here: what BelievedCodes and its reference return.
  Conditions: no more than 1048576 proofs.
-/
import Derived.Test.YtfnjoinkfghalaaProof6
import Derived.Test.YtfnjoinkfghalaaOwn
namespace Go.Proofs.Ytfnjoinkfghalaa
open Go.RowKit

/-- the believed codes among the first k from 31 on -/
def belU (xs : List Prf) (r lim : Int) : Nat → List Int
  | 0 => []
  | k + 1 => if belB xs r (31 + (k : Int)) lim then belU xs r lim k ++ [31 + (k : Int)] else belU xs r lim k
theorem belU_len (xs : List Prf) (r lim : Int) (k : Nat) : (belU xs r lim k).length ≤ k := by
  induction k with
  | zero => simp [belU]
  | succ k ih =>
    rw [belU]
    split
    · simp; omega
    · omega
def codB (xs : List Prf) (r lim : Int) : Bool := prfsB xs && inB r 1 999 && inB lim 1 20
def codL (xs : List Prf) (r lim : Int) : List Int := if codB xs r lim then belU xs r lim 69 else []
theorem codL_len (xs : List Prf) (r lim : Int) : (codL xs r lim).length ≤ 69 := by
  unfold codL
  split
  · exact belU_len _ _ _ _
  · simp

set_option maxRecDepth 100000 in
set_option maxHeartbeats 2000000 in
theorem impl_BelievedCodes {ao : Option Addr} {cap : Nat} {ms : List Prf} {r l : Int} {w : World} (h : RowAt w ao 5 ms.length (fun k => (nth ms k).c)) (hn : ms.length ≤ 9223372036854775807) (_hr : I64 r) (_hl : I64 l) :
    Calls Try.prog 23 #[.slice ao ms.length cap, .int .i64 r, .int .i64 l] w fun e w' => ∃ bo bc, e = .returned (.tuple #[.slice bo (codL ms r l).length bc, .bool (codB ms r l)]) ∧ Ext w w' ∧ FreshAt w.heap.size w' bo 1 (codL ms r l).length (ic (codL ms r l)) := by
  obtain ⟨i0, hi, hz0, hz1, hz2⟩ := info_parts infoInt
  cases hv : visB ms r 31
  · have hB : codB ms r l = false := by
      cases e : codB ms r l
      · rfl
      · simp only [codB, Bool.and_eq_true] at e
        have h2 : visB ms r 31 = true := by simp only [visB, e.1.1, e.1.2, Bool.true_and]; decide
        rw [hv] at h2; cases h2
    have hL : codL ms r l = [] := by simp [codL, hB]
    rw [hB, hL]; clear hB hL
    go_enter Try.func23, Try.ntmps23
    go_wp2_with fail
    refine (impl_isVisit h hn).mono ?_; rintro e w1 ⟨rfl, hx1⟩
    rw [hv]
    go_wp2
    go_ret2
    exact ⟨none, 0, rfl, (by repeat (first | (with_reducible exact Ext.refl _) | (with_reducible assumption) | with_reducible refine Ext.drew ?_ | with_reducible refine Ext.alloc ?_ _ | with_reducible refine Ext.setCell ?_ (by first | (simp; done) | (simp; omega) | omega) _ | with_reducible refine Ext.trans ?_ (by with_reducible assumption))), ⟨fun h => by simp at h, fun a e => (by cases e), fun b off e => (by cases e)⟩⟩
  · have hok := visB_ok hv
    cases hl : inB l 1 20
    · have hB : codB ms r l = false := by simp [codB, hl]
      have hL : codL ms r l = [] := by simp [codL, hB]
      rw [hB, hL]; clear hB hL
      go_enter Try.func23, Try.ntmps23
      go_wp2_with fail
      refine (impl_isVisit h hn).mono ?_; rintro e w1 ⟨rfl, hx1⟩
      rw [hv]
      go_wp2_with fail
      refine impl_isLimit.mono ?_; rintro e w2 ⟨rfl, rfl⟩
      rw [hl]
      go_wp2
      go_ret2
      exact ⟨none, 0, rfl, (by repeat (first | (with_reducible exact Ext.refl _) | (with_reducible assumption) | with_reducible refine Ext.drew ?_ | with_reducible refine Ext.alloc ?_ _ | with_reducible refine Ext.setCell ?_ (by first | (simp; done) | (simp; omega) | omega) _ | with_reducible refine Ext.trans ?_ (by with_reducible assumption))), ⟨fun h => by simp at h, fun a e => (by cases e), fun b off e => (by cases e)⟩⟩
    · have hB : codB ms r l = true := by
        simp only [visB, Bool.and_eq_true] at hv
        simp [codB, hv, hl]
      have hL : codL ms r l = belU ms r l 69 := by simp [codL, hB]
      rw [hB, hL]; clear hB hL
      go_enter Try.func23, Try.ntmps23
      go_wp2_with fail
      refine (impl_isVisit h hn).mono ?_; rintro e w1 ⟨rfl, hx1⟩
      rw [hv]
      go_wp2_with fail
      refine impl_isLimit.mono ?_; rintro e w2 ⟨rfl, rfl⟩
      rw [hl]
      go_wp2
      go_loopw [8, 9] (fun v i wr => ∃ k : Nat, k ≤ 69 ∧ i = .int .i64 (31 + (k : Int)) ∧ Ext w wr ∧ Owns wr w.heap.size 3 1 icc v (belU ms r l k)) (fun _ i _ => 100 - (intOf i).toNat)
      case atStart => exact ⟨0, by omega, by go_num, (by repeat (first | (with_reducible exact Ext.refl _) | (with_reducible assumption) | with_reducible refine Ext.drew ?_ | with_reducible refine Ext.alloc ?_ _ | with_reducible refine Ext.setCell ?_ (by first | (simp; done) | (simp; omega) | omega) _ | with_reducible refine Ext.trans ?_ (by with_reducible assumption))), Owns.start hx1⟩
      case round =>
        clear hx1 hv hl
        obtain ⟨k, hk, rfl, hx, hown⟩ := hrel
        have hlen := belU_len ms r l k
        by_cases hlt : k < 69
        · have hin : inB (31 + (k : Int)) 31 99 = true := inB_iff.2 ⟨by omega, by omega⟩
          cases hb : belB ms r (31 + (k : Int)) l
          · have hnx : belU ms r l (k + 1) = belU ms r l k := by rw [belU, hb]; rfl
            have HN := Lib.hid hnx; clear hnx
            go_wp2_with fail
            refine impl_isCode.mono ?_; rintro e w2 ⟨rfl, rfl⟩
            rw [hin]
            go_wp2_with fail
            refine (impl_isBelieved (h.ext hx) hn hok).mono ?_; rw [hb]; rintro e w2 ⟨rfl, hx2⟩
            go_wp2
            go_roundw
            case rel => exact ⟨k + 1, by omega, by go_num, (by repeat (first | (with_reducible exact Ext.refl _) | (with_reducible assumption) | with_reducible refine Ext.drew ?_ | with_reducible refine Ext.alloc ?_ _ | with_reducible refine Ext.setCell ?_ (by first | (simp; done) | (simp; omega) | omega) _ | with_reducible refine Ext.trans ?_ (by with_reducible assumption))), by rw [HN.out]; exact hown.kept hx2⟩
            case measure => simp [intOf]; omega
          · have hnx : belU ms r l (k + 1) = belU ms r l k ++ [31 + (k : Int)] := by rw [belU, hb]; rfl
            have HN := Lib.hid hnx; clear hnx
            have hrow2 := fun x => row_lit (w := x) (cs := #[.int .i64 (31 + (k : Int))]) (T := 3) (s := 1) (cc := icc) (x := 31 + (k : Int)) (by intro j hj; obtain rfl : j = 0 := (by omega); rfl)
            go_wp2_with fail
            refine impl_isCode.mono ?_; rintro e w2 ⟨rfl, rfl⟩
            rw [hin]
            go_wp2_with fail
            refine (impl_isBelieved (h.ext hx) hn hok).mono ?_; rw [hb]; rintro e w2 ⟨rfl, hx2⟩
            have hown2 := hown.kept hx2
            have hxw := hx.trans hx2
            clear hown hx hx2
            go_wp2_with (at_builtin; refine wpList_append_rows rfl _ _ 48 rfl w 3 i0 _ 1 8 Try.underlying48 hi hz0 hz1 hz2 rfl (by decide) icc icc_one _ (belU ms r l k) [31 + (k : Int)] rfl (hown2.kept ((Ext.refl _).alloc _)) (some ⟨w2.heap.size, 0, none⟩) 1 1 rfl rfl (fun h => by cases h) (hrow2 _) (by simp; omega) (by simp; omega) (hxw.alloc _) ?_; intro v1 w3 ho1 hx3)
            rw [← HN.out] at ho1
            go_wp2
            go_roundw
            case rel => exact ⟨k + 1, by omega, by go_num, (by repeat (first | (with_reducible exact Ext.refl _) | (with_reducible assumption) | with_reducible refine Ext.drew ?_ | with_reducible refine Ext.alloc ?_ _ | with_reducible refine Ext.setCell ?_ (by first | (simp; done) | (simp; omega) | omega) _ | with_reducible refine Ext.trans ?_ (by with_reducible assumption))), ho1⟩
            case measure => simp [intOf]; omega
        · obtain rfl : k = 69 := by omega
          have hin : inB 100 31 99 = false := by decide
          obtain ⟨bo, bc, rfl, hF, _, _, _⟩ := hown.fresh
          go_wp2_with fail
          refine impl_isCode.mono ?_; rintro e w2 ⟨rfl, rfl⟩
          rw [hin]
          go_wp2
          go_ret2
          exact ⟨bo, bc, rfl, (by repeat (first | (with_reducible exact Ext.refl _) | (with_reducible assumption) | with_reducible refine Ext.drew ?_ | with_reducible refine Ext.alloc ?_ _ | with_reducible refine Ext.setCell ?_ (by first | (simp; done) | (simp; omega) | omega) _ | with_reducible refine Ext.trans ?_ (by with_reducible assumption))), hF⟩

set_option maxRecDepth 100000 in
set_option maxHeartbeats 2000000 in
theorem spec_BelievedCodes {ao : Option Addr} {cap : Nat} {ms : List Prf} {r l : Int} {w : World} (h : RowAt w ao 5 ms.length (fun k => (nth ms k).c)) (hn : ms.length ≤ 9223372036854775807) (_hr : I64 r) (_hl : I64 l) :
    Calls Try.prog 24 #[.slice ao ms.length cap, .int .i64 r, .int .i64 l] w fun e w' => ∃ bo bc, e = .returned (.tuple #[.slice bo (codL ms r l).length bc, .bool (codB ms r l)]) ∧ Ext w w' ∧ FreshAt w.heap.size w' bo 1 (codL ms r l).length (ic (codL ms r l)) := by
  obtain ⟨i0, hi, hz0, hz1, hz2⟩ := info_parts infoInt
  have hst : Owns (w.alloc (.cells #[] 3)) w.heap.size 3 1 icc (.slice (some ⟨w.heap.size, 0, none⟩) 0 0) ([] : List Int) := Owns.start (Ext.refl _)
  cases hB : codB ms r l
  · have hL : codL ms r l = [] := by simp [codL, hB]
    have HB := Lib.hid hB; clear hB
    rw [hL]; clear hL
    cases h1 : prfsB ms
    all_goals cases h2 : inB r 1 999
    all_goals cases h3 : inB l 1 20
    all_goals first
      | (exfalso; have := HB.out; simp [codB, h1, h2, h3] at this; done)
      | (go_enter Try.func24, Try.ntmps24
         go_wp2_with (first
           | (go_at_call 42; refine (spec_l14Good (h.ext (by repeat (first | (with_reducible exact Ext.refl _) | (with_reducible assumption) | with_reducible refine Ext.drew ?_ | with_reducible refine Ext.alloc ?_ _ | with_reducible refine Ext.setCell ?_ (by first | (simp; done) | (simp; omega) | omega) _ | with_reducible refine Ext.trans ?_ (by with_reducible assumption)))) hn).mono ?_; rw [h1]; rintro e w1 ⟨rfl, hx1⟩)
           | (go_at_call 67; refine spec_l14Who.mono ?_; rw [h2]; rintro e w2 ⟨rfl, rfl⟩)
           | (go_at_call 61; refine spec_l14Limit.mono ?_; rw [h3]; rintro e w2 ⟨rfl, rfl⟩))
         go_ret2
         exact ⟨_, _, rfl, (by repeat (first | (with_reducible exact Ext.refl _) | (with_reducible assumption) | with_reducible refine Ext.drew ?_ | with_reducible refine Ext.alloc ?_ _ | with_reducible refine Ext.setCell ?_ (by first | (simp; done) | (simp; omega) | omega) _ | with_reducible refine Ext.trans ?_ (by with_reducible assumption))), (hst.kept hx1).fresh0⟩)
  · have hL : codL ms r l = belU ms r l 69 := by simp [codL, hB]
    rw [hL]; clear hL
    simp only [codB, Bool.and_eq_true] at hB
    obtain ⟨⟨h1, h2⟩, h3⟩ := hB
    have hok := okPrfs_of h1
    go_enter Try.func24, Try.ntmps24
    go_wp2_with (first
      | (go_at_call 42; refine (spec_l14Good (h.ext (by repeat (first | (with_reducible exact Ext.refl _) | (with_reducible assumption) | with_reducible refine Ext.drew ?_ | with_reducible refine Ext.alloc ?_ _ | with_reducible refine Ext.setCell ?_ (by first | (simp; done) | (simp; omega) | omega) _ | with_reducible refine Ext.trans ?_ (by with_reducible assumption)))) hn).mono ?_; rw [h1]; rintro e w1 ⟨rfl, hx1⟩)
      | (go_at_call 67; refine spec_l14Who.mono ?_; rw [h2]; rintro e w2 ⟨rfl, rfl⟩)
      | (go_at_call 61; refine spec_l14Limit.mono ?_; rw [h3]; rintro e w2 ⟨rfl, rfl⟩))
    go_loopw [8, 9] (fun v i wr => ∃ k : Nat, k ≤ 69 ∧ i = .int .i64 (31 + (k : Int)) ∧ Ext w wr ∧ Owns wr w.heap.size 3 1 icc v (belU ms r l k)) (fun _ i _ => 100 - (intOf i).toNat)
    case atStart => exact ⟨0, by omega, by go_num, (by repeat (first | (with_reducible exact Ext.refl _) | (with_reducible assumption) | with_reducible refine Ext.drew ?_ | with_reducible refine Ext.alloc ?_ _ | with_reducible refine Ext.setCell ?_ (by first | (simp; done) | (simp; omega) | omega) _ | with_reducible refine Ext.trans ?_ (by with_reducible assumption))), hst.kept hx1⟩
    case round =>
      clear hx1 h1 h2 h3 hst
      obtain ⟨k, hk, rfl, hx, hown⟩ := hrel
      have hlen := belU_len ms r l k
      by_cases hlt : k < 69
      · cases hb : belB ms r (31 + (k : Int)) l
        · have hnx : belU ms r l (k + 1) = belU ms r l k := by rw [belU, hb]; rfl
          have HN := Lib.hid hnx; clear hnx
          go_wp2_with fail
          refine (spec_l14Believed (h.ext hx) hn hok).mono ?_; rw [hb]; rintro e w2 ⟨rfl, hx2⟩
          go_wp2
          go_roundw
          case rel => exact ⟨k + 1, by omega, by go_num, (by repeat (first | (with_reducible exact Ext.refl _) | (with_reducible assumption) | with_reducible refine Ext.drew ?_ | with_reducible refine Ext.alloc ?_ _ | with_reducible refine Ext.setCell ?_ (by first | (simp; done) | (simp; omega) | omega) _ | with_reducible refine Ext.trans ?_ (by with_reducible assumption))), by rw [HN.out]; exact hown.kept hx2⟩
          case measure => simp [intOf]; omega
        · have hnx : belU ms r l (k + 1) = belU ms r l k ++ [31 + (k : Int)] := by rw [belU, hb]; rfl
          have HN := Lib.hid hnx; clear hnx
          have hrow2 := fun x => row_lit (w := x) (cs := #[.int .i64 (31 + (k : Int))]) (T := 3) (s := 1) (cc := icc) (x := 31 + (k : Int)) (by intro j hj; obtain rfl : j = 0 := (by omega); rfl)
          go_wp2_with fail
          refine (spec_l14Believed (h.ext hx) hn hok).mono ?_; rw [hb]; rintro e w2 ⟨rfl, hx2⟩
          have hown2 := hown.kept hx2
          have hxw := hx.trans hx2
          clear hown hx hx2
          go_wp2_with (at_builtin; refine wpList_append_rows rfl _ _ 48 rfl w 3 i0 _ 1 8 Try.underlying48 hi hz0 hz1 hz2 rfl (by decide) icc icc_one _ (belU ms r l k) [31 + (k : Int)] rfl (hown2.kept ((Ext.refl _).alloc _)) (some ⟨w2.heap.size, 0, none⟩) 1 1 rfl rfl (fun h => by cases h) (hrow2 _) (by simp; omega) (by simp; omega) (hxw.alloc _) ?_; intro v1 w3 ho1 hx3)
          rw [← HN.out] at ho1
          go_wp2
          go_roundw
          case rel => exact ⟨k + 1, by omega, by go_num, (by repeat (first | (with_reducible exact Ext.refl _) | (with_reducible assumption) | with_reducible refine Ext.drew ?_ | with_reducible refine Ext.alloc ?_ _ | with_reducible refine Ext.setCell ?_ (by first | (simp; done) | (simp; omega) | omega) _ | with_reducible refine Ext.trans ?_ (by with_reducible assumption))), ho1⟩
          case measure => simp [intOf]; omega
      · obtain rfl : k = 69 := by omega
        obtain ⟨bo, bc, rfl, hF, _, _, _⟩ := hown.fresh
        go_wp2
        go_ret2
        exact ⟨bo, bc, rfl, (by repeat (first | (with_reducible exact Ext.refl _) | (with_reducible assumption) | with_reducible refine Ext.drew ?_ | with_reducible refine Ext.alloc ?_ _ | with_reducible refine Ext.setCell ?_ (by first | (simp; done) | (simp; omega) | omega) _ | with_reducible refine Ext.trans ?_ (by with_reducible assumption))), hF⟩

end Go.Proofs.Ytfnjoinkfghalaa
